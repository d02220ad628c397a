/- Plain: the machine; a pass leaves what a program returns, in no more steps. -/
import Derived.Test.YtfjbanfibmpalaaP7
set_option linter.unusedVariables false
set_option linter.unusedSimpArgs false
namespace Go.Proofs.Ytfjbanfibmpalaa

/-- What becomes of two numbers, by the operation; false: nothing does. -/
def aluL (i a b : Nat) : Nat × Bool :=
  if i = 0 then ((a + b) % 4294967296, true)
  else if i = 1 then ((a + 4294967296 - b) % 4294967296, true)
  else if i = 2 then (a * b % 4294967296, true)
  else if i = 3 then (if b = 0 then (0, false) else (a / b, true))
  else if i = 4 then (a ||| b, true)
  else if i = 5 then (a &&& b, true)
  else if i = 6 then ((if b < 32 then a * 2 ^ b % 4294967296 else 0), true)
  else if i = 7 then ((if b < 32 then a / 2 ^ b else 0), true)
  else if i = 8 then ((4294967296 - a) % 4294967296, true)
  else if i = 10 then (a ^^^ b, true)
  else (0, false)

def holdsL (i a b : Nat) : Bool := (i == 1 && a == b) || (i == 2 && decide (b < a)) || (i == 3 && decide (b ≤ a)) || (i == 4 && (a &&& b) != 0)

/-- The registers and the scratch words. -/
structure Rg where
  a : Nat
  x : Nat
  mem : List Nat

def otherL (y : Insn) (r : Rg) : Nat := if y.code / 8 % 2 = 1 then r.x else y.k
def loadL (y : Insn) (d : Nat → Nat) (r : Rg) : Nat :=
  if y.code / 32 % 8 = 0 then y.k else if y.code / 32 % 8 = 1 then d y.k else if y.code / 32 % 8 = 3 then r.mem.getD y.k 0 else 64

/-- What it makes of the registers. -/
def effL (y : Insn) (d : Nat → Nat) (r : Rg) : Rg :=
  if y.code % 8 = 0 then { r with a := loadL y d r }
  else if y.code % 8 = 1 then { r with x := loadL y d r }
  else if y.code % 8 = 2 then { r with mem := r.mem.set y.k r.a }
  else if y.code % 8 = 3 then { r with mem := r.mem.set y.k r.x }
  else if y.code % 8 = 4 then { r with a := (aluL (y.code / 16 % 16) r.a (otherL y r)).1 }
  else if y.code % 8 = 7 then (if y.code / 128 % 2 = 1 then { r with a := r.x } else { r with x := r.a })
  else r
/-- What it returns, if it does. -/
def endsL (y : Insn) (r : Rg) : Option Nat :=
  if y.code % 8 = 4 then (if (aluL (y.code / 16 % 16) r.a (otherL y r)).2 then none else some 0)
  else if y.code % 8 = 6 then some (if y.code / 16 % 2 = 1 then r.a else y.k)
  else none
/-- How far it jumps. -/
def offL (y : Insn) (r : Rg) : Nat :=
  if y.code % 8 = 5 then (if y.code / 16 % 16 = 0 then y.k else if holdsL (y.code / 16 % 16) r.a (otherL y r) then y.jt else y.jf) else 0

def outF (l : List Insn) (d : Nat → Nat) : Nat → Nat → Rg → Nat
  | 0, _, _ => 0
  | f + 1, pc, r => match endsL (ins l pc) r with
    | some v => v
    | none => outF l d f (pc + 1 + offL (ins l pc) r) (effL (ins l pc) d r)
def traceF (l : List Insn) (d : Nat → Nat) : Nat → Nat → Rg → List (Nat × Rg)
  | 0, _, _ => []
  | f + 1, pc, r => (pc, r) :: match endsL (ins l pc) r with
    | some v => []
    | none => traceF l d f (pc + 1 + offL (ins l pc) r) (effL (ins l pc) d r)
def mostF (l : List Insn) : Nat → Nat → Nat
  | 0, _ => 0
  | f + 1, i => 1 + ((nexts (ins l i) i).map (mostF l f)).foldl max 0

def rg0 : Rg := ⟨0, 0, List.replicate 16 0⟩
def runL (l : List Insn) (d : Nat → Nat) : Nat := outF l d l.length 0 rg0
def traceL (l : List Insn) (d : Nat → Nat) : List (Nat × Rg) := traceF l d l.length 0 rg0
def mostL (l : List Insn) : Nat := mostF l l.length 0

/-! What the codes are -/
theorem code_facts {c : Nat} (h : 0 ≤ form c) : c < 256 ∧
    (form c = 4 → c % 8 = 5 ∧ c / 16 % 16 = 0) ∧ ((form c = 5 ∨ form c = 6) → c % 8 = 5 ∧ c / 16 % 16 ≠ 0) ∧ (form c ≠ 4 → form c ≠ 5 → form c ≠ 6 → c % 8 ≠ 5) ∧ (c % 8 = 6 ↔ isRet c = true) ∧
    (form c = 0 → c % 8 = 4 → c / 16 % 16 = 8 ∨ c / 8 % 2 = 1) ∧ (form c = 0 → (c % 8 = 0 ∨ c % 8 = 1) → c / 32 % 8 = 4) ∧ (form c = 0 → c % 8 = 6 → c / 16 % 2 = 1) ∧ (form c = 0 → c % 8 ≠ 2 ∧ c % 8 ≠ 3) ∧ (form c = 6 → c / 8 % 2 = 1) := by
  have hc : c < 256 := by
    rcases Nat.lt_or_ge c 256 with h1 | h1
    · exact h1
    · rw [form_big c h1] at h; omega
  refine ⟨hc, ?_⟩
  have : ∀ c : Fin 256, 0 ≤ form c.val →
    (form c.val = 4 → c.val % 8 = 5 ∧ c.val / 16 % 16 = 0) ∧ ((form c.val = 5 ∨ form c.val = 6) → c.val % 8 = 5 ∧ c.val / 16 % 16 ≠ 0) ∧ (form c.val ≠ 4 → form c.val ≠ 5 → form c.val ≠ 6 → c.val % 8 ≠ 5) ∧ (c.val % 8 = 6 ↔ isRet c.val = true) ∧
    (form c.val = 0 → c.val % 8 = 4 → c.val / 16 % 16 = 8 ∨ c.val / 8 % 2 = 1) ∧ (form c.val = 0 → (c.val % 8 = 0 ∨ c.val % 8 = 1) → c.val / 32 % 8 = 4) ∧ (form c.val = 0 → c.val % 8 = 6 → c.val / 16 % 2 = 1) ∧ (form c.val = 0 → c.val % 8 ≠ 2 ∧ c.val % 8 ≠ 3) ∧ (form c.val = 6 → c.val / 8 % 2 = 1) := by decide +kernel
  exact this ⟨c, hc⟩ h

theorem alu_neg (a b b' : Nat) : aluL 8 a b = aluL 8 a b' := by
  have e : ∀ b, aluL 8 a b = ((4294967296 - a) % 4294967296, true) := by intro b; simp [aluL]
  rw [e, e]

theorem ja_facts {y : Insn} (h : isJa y = true) (r : Rg) (d : Nat → Nat) : endsL y r = none ∧ effL y d r = r ∧ offL y r = y.k := by
  obtain ⟨hc, _⟩ := ja_form h
  unfold endsL effL offL
  rw [hc]
  exact ⟨rfl, rfl, rfl⟩
theorem test_facts {y : Insn} (h : isTest y = true) (r : Rg) (d : Nat → Nat) : endsL y r = none ∧ effL y d r = r ∧ (offL y r = if holdsL (y.code / 16 % 16) r.a (otherL y r) then y.jt else y.jf) := by
  have hf := test_form h
  obtain ⟨_, _, h5, _⟩ := code_facts (c := y.code) (by omega)
  have := h5 hf
  unfold endsL effL offL
  rw [this.1, if_neg this.2]
  exact ⟨rfl, rfl, rfl⟩
theorem ret_facts {y : Insn} (h : isRet y.code = true) (r : Rg) : endsL y r = some (if y.code / 16 % 2 = 1 then r.a else y.k) := by
  have : y.code % 8 = 6 := by rcases ret_form h with e | e <;> rw [e]
  unfold endsL
  rw [this]; rfl
theorem else_off {y : Insn} (hf : 0 ≤ form y.code) (hj : isJa y = false) (ht : isTest y = false) (r : Rg) : offL y r = 0 := by
  obtain ⟨_, _, _, h5, _⟩ := code_facts hf
  have h1 : form y.code ≠ 4 := fun e => by have := form4_ja e; simp [isJa] at hj; omega
  have h2 : form y.code ≠ 5 ∧ form y.code ≠ 6 := by simpa [isTest] using ht
  unfold offL
  rw [if_neg (h5 h1 h2.1 h2.2)]

/-- What does not count does not count. -/
theorem same_bare {x y : Insn} (hf : 0 ≤ form x.code) (ht : isTest x = false) (h : bare x = bare y) (r : Rg) (d : Nat → Nat) : endsL x r = endsL y r ∧ effL x d r = effL y d r := by
  have hc : x.code = y.code := by rw [← form_bare x, h, form_bare]
  have h2 : form x.code ≠ 5 ∧ form x.code ≠ 6 := by simpa [isTest] using ht
  obtain ⟨_, _, _, _, _, f4, f01, f6, f23, _⟩ := code_facts hf
  by_cases h0 : form x.code = 0
  · have e1 : x.code % 8 = 4 → aluL (x.code / 16 % 16) r.a (otherL x r) = aluL (x.code / 16 % 16) r.a (otherL y r) := by
      intro h4
      rcases f4 h0 h4 with h8 | h8
      · rw [h8]; exact alu_neg _ _ _
      · unfold otherL; rw [← hc, if_pos h8, if_pos h8]
    have e2 : x.code % 8 = 0 ∨ x.code % 8 = 1 → loadL x d r = loadL y d r := by
      intro h01
      have := f01 h0 h01
      unfold loadL
      rw [← hc, this]
      simp
    constructor
    · unfold endsL
      rw [← hc]
      by_cases h4 : x.code % 8 = 4
      · rw [if_pos h4, if_pos h4, e1 h4]
      · rw [if_neg h4, if_neg h4]
        by_cases h6 : x.code % 8 = 6
        · rw [if_pos h6, if_pos h6, if_pos (f6 h0 h6), if_pos (f6 h0 h6)]
        · rw [if_neg h6, if_neg h6]
    · unfold effL
      rw [← hc]
      by_cases q0 : x.code % 8 = 0
      · rw [if_pos q0, if_pos q0, e2 (.inl q0)]
      rw [if_neg q0, if_neg q0]
      by_cases q1 : x.code % 8 = 1
      · rw [if_pos q1, if_pos q1, e2 (.inr q1)]
      rw [if_neg q1, if_neg q1, if_neg (f23 h0).1, if_neg (f23 h0).1, if_neg (f23 h0).2, if_neg (f23 h0).2]
      by_cases q4 : x.code % 8 = 4
      · rw [if_pos q4, if_pos q4, e1 q4]
      · rw [if_neg q4, if_neg q4]
  · have hk : x.k = y.k := by
      rw [← bare_k h0 h2.2, h, bare_k (by rw [← hc]; exact h0) (by rw [← hc]; exact h2.2)]
    unfold endsL effL loadL otherL
    rw [hc, hk]
    exact ⟨rfl, rfl⟩

section
variable {l : List Insn}
/-- A place that does not return leads on within. -/
theorem Good.step {l : List Insn} (h : Good l) {pc : Nat} (hp : pc < l.length) {r : Rg} (he : endsL (ins l pc) r = none) : pc + 1 + offL (ins l pc) r < l.length := by
  have hf := h.form hp
  by_cases hj : isJa (ins l pc) = true
  · rw [(ja_facts hj r (fun _ => 0)).2.2]; exact (h.ja hp hj).1
  by_cases ht : isTest (ins l pc) = true
  · rw [(test_facts ht r (fun _ => 0)).2.2]
    have := h.test hp ht
    split <;> omega
  rw [else_off hf (by simpa using hj) (by simpa using ht)]
  rcases Nat.lt_or_ge (pc + 1) l.length with h1 | h1
  · omega
  · exfalso
    have hl := h.last
    rw [show l.length - 1 = pc by omega] at hl
    rw [ret_facts hl] at he
    cases he

theorem outF_fuel (h : Good l) (d : Nat → Nat) : ∀ f g pc r, pc < l.length → l.length - pc ≤ f → l.length - pc ≤ g → outF l d f pc r = outF l d g pc r ∧ traceF l d f pc r = traceF l d g pc r
  | 0, g, pc, r, hp, h1, h2 => by omega
  | f + 1, 0, pc, r, hp, h1, h2 => by omega
  | f + 1, g + 1, pc, r, hp, h1, h2 => by
    unfold outF traceF
    cases he : endsL (ins l pc) r with
    | some v => exact ⟨rfl, rfl⟩
    | none =>
      have := h.step hp he
      have ih := outF_fuel h d f g _ (effL (ins l pc) d r) this (by omega) (by omega)
      exact ⟨ih.1, by rw [ih.2]⟩

/-- From a place on: what is returned, in how many steps. -/
def outL (l : List Insn) (d : Nat → Nat) (pc : Nat) (r : Rg) : Nat := outF l d (l.length - pc) pc r
def lenL (l : List Insn) (d : Nat → Nat) (pc : Nat) (r : Rg) : Nat := (traceF l d (l.length - pc) pc r).length

theorem out_end (h : Good l) (d : Nat → Nat) {pc : Nat} (hp : pc < l.length) {r : Rg} {v : Nat} (he : endsL (ins l pc) r = some v) : outL l d pc r = v ∧ lenL l d pc r = 1 := by
  unfold outL lenL
  rw [show l.length - pc = (l.length - pc - 1) + 1 by omega, outF, traceF, he]
  exact ⟨rfl, rfl⟩
theorem out_on (h : Good l) (d : Nat → Nat) {pc : Nat} (hp : pc < l.length) {r : Rg} (he : endsL (ins l pc) r = none) :
    outL l d pc r = outL l d (pc + 1 + offL (ins l pc) r) (effL (ins l pc) d r) ∧ lenL l d pc r = lenL l d (pc + 1 + offL (ins l pc) r) (effL (ins l pc) d r) + 1 := by
  have hs := h.step hp he
  have := outF_fuel h d (l.length - pc - 1) (l.length - (pc + 1 + offL (ins l pc) r)) _ (effL (ins l pc) d r) hs (by omega) (Nat.le_refl _)
  unfold outL lenL
  rw [show l.length - pc = (l.length - pc - 1) + 1 by omega, outF, traceF, he]
  exact ⟨this.1, by rw [← this.2]; rfl⟩

theorem mostF_fuel (h : Good l) : ∀ f g i, i < l.length → l.length - i ≤ f → l.length - i ≤ g → mostF l f i = mostF l g i
  | 0, g, i, hp, h1, h2 => by omega
  | f + 1, 0, i, hp, h1, h2 => by omega
  | f + 1, g + 1, i, hp, h1, h2 => by
    unfold mostF
    have : (nexts (ins l i) i).map (mostF l f) = (nexts (ins l i) i).map (mostF l g) := by
      refine List.map_congr_left (fun k hk => ?_)
      have := h.nexts_lt hp k hk
      exact mostF_fuel h f g k this.2 (by omega) (by omega)
    rw [this]
def mostAt (l : List Insn) (i : Nat) : Nat := mostF l (l.length - i) i

theorem foldl_max : ∀ (m : List Nat) (z : Nat), z ≤ m.foldl max z ∧ (∀ x ∈ m, x ≤ m.foldl max z) ∧ (m.foldl max z = z ∨ m.foldl max z ∈ m)
  | [], z => ⟨Nat.le_refl _, by simp, .inl rfl⟩
  | y :: m, z => by
    obtain ⟨h1, h2, h3⟩ := foldl_max m (max z y)
    simp only [List.foldl_cons]
    refine ⟨by omega, ?_, ?_⟩
    · intro x hx
      rcases List.mem_cons.1 hx with rfl | hx
      · omega
      · exact h2 x hx
    · rcases h3 with h3 | h3
      · rw [h3]
        rcases Nat.le_total z y with h | h
        · rw [Nat.max_eq_right h]; exact .inr (by simp)
        · rw [Nat.max_eq_left h]; exact .inl rfl
      · exact .inr (List.mem_cons_of_mem _ h3)

theorem most_le (h : Good l) {i k : Nat} (hi : i < l.length) (hk : k ∈ nexts (ins l i) i) : mostAt l k + 1 ≤ mostAt l i := by
  have hlt := h.nexts_lt hi k hk
  unfold mostAt
  rw [show l.length - i = (l.length - i - 1) + 1 by omega, mostF, mostF_fuel h (l.length - k) (l.length - i - 1) k hlt.2 (Nat.le_refl _) (by omega)]
  have := (foldl_max ((nexts (ins l i) i).map (mostF l (l.length - i - 1))) 0).2.1 _ (List.mem_map_of_mem hk)
  omega
theorem most_from (h : Good l) {i : Nat} (hi : i < l.length) : mostAt l i = 1 ∨ ∃ k ∈ nexts (ins l i) i, mostAt l i = mostAt l k + 1 := by
  unfold mostAt
  rw [show l.length - i = (l.length - i - 1) + 1 by omega, mostF]
  rcases (foldl_max ((nexts (ins l i) i).map (mostF l (l.length - i - 1))) 0).2.2 with e | e
  · rw [e]; exact .inl rfl
  · obtain ⟨k, hk, e⟩ := List.mem_map.1 e
    right
    refine ⟨k, hk, ?_⟩
    have hlt := h.nexts_lt hi k hk
    rw [← e, mostF_fuel h (l.length - k) (l.length - i - 1) k hlt.2 (Nat.le_refl _) (by omega)]
    omega
theorem most_pos (h : Good l) {i : Nat} (hi : i < l.length) : 1 ≤ mostAt l i := by
  unfold mostAt
  rw [show l.length - i = (l.length - i - 1) + 1 by omega, mostF]
  omega
end

/-- Jumps from a place to a place. -/
inductive Ch (l : List Insn) : Nat → Nat → Nat → Prop
  | refl (i : Nat) : Ch l 0 i i
  | step {k i j : Nat} (h : isJa (ins l i) = true) (t : Ch l k (i + 1 + (ins l i).k) j) : Ch l (k + 1) i j

theorem Ch.lt {l : List Insn} (h : Good l) {k i j : Nat} (c : Ch l k i j) (hi : i < l.length) : j < l.length := by
  induction c with
  | refl i => exact hi
  | step hj t ih => exact ih (h.ja hi hj).1
theorem Ch.out {l : List Insn} (h : Good l) {k i j : Nat} (c : Ch l k i j) (hi : i < l.length) (d : Nat → Nat) (r : Rg) : outL l d i r = outL l d j r ∧ lenL l d i r = lenL l d j r + k := by
  induction c with
  | refl i => exact ⟨rfl, rfl⟩
  | step hj t ih =>
    obtain ⟨f1, f2, f3⟩ := ja_facts hj r d
    have := out_on h d hi f1
    rw [f2, f3] at this
    have ih := ih (h.ja hi hj).1
    exact ⟨this.1.trans ih.1, by omega⟩
theorem Ch.most {l : List Insn} (h : Good l) {k i j : Nat} (c : Ch l k i j) (hi : i < l.length) : mostAt l j + k ≤ mostAt l i := by
  induction c with
  | refl i => exact Nat.le_refl _
  | @step k i j hj t ih =>
    have hk := h.ja hi hj
    have ih := ih hk.1
    have := most_le h hi (k := i + 1 + (ins l i).k) (by rw [nexts_ja hj (by have := h.len; omega)]; simp)
    omega
theorem Ch.toEnd {l : List Insn} (h : Good l) : ∀ n i, l.length - i ≤ n → i < l.length → ∃ k, Ch l k i (endOf l i)
  | 0, i, hn, hi => by omega
  | n + 1, i, hn, hi => by
    by_cases hj : isJa (ins l i) = true
    · have hk := h.ja hi hj
      obtain ⟨k, c⟩ := Ch.toEnd h n _ (by omega) hk.1
      rw [endOf_ja h hi hj]
      exact ⟨k + 1, .step hj c⟩
    · rw [endOf_else hi (by simpa using hj)]; exact ⟨0, .refl i⟩

/-- A place of the new program and its place in the old one. -/
inductive Rel (n l : List Insn) (φ : Nat → Nat) (p : Nat) : Prop
  | ret (k u : Nat) (c : Ch l k (φ p) u) (h1 : isRet (ins n p).code = true) (h2 : bare (ins n p) = bare (ins l u))
  | jump (k : Nat) (h1 : isJa (ins n p) = true) (c : Ch l (k + 1) (φ p) (φ (p + 1 + (ins n p).k)))
  | level (k : Nat) (h1 : isJa (ins n p) = true) (h2 : isTest (ins l (φ p)) = true) (h3 : (ins l (φ p)).jt = (ins l (φ p)).jf) (c : Ch l k (φ p + 1 + (ins l (φ p)).jt) (φ (p + 1 + (ins n p).k)))
  | test (k k' : Nat) (h1 : isTest (ins n p) = true) (h2 : (ins n p).code = (ins l (φ p)).code) (h3 : (ins n p).k = (ins l (φ p)).k ∨ form (ins n p).code = 6)
      (c : Ch l k (φ p + 1 + (ins l (φ p)).jt) (φ (p + 1 + (ins n p).jt))) (c' : Ch l k' (φ p + 1 + (ins l (φ p)).jf) (φ (p + 1 + (ins n p).jf)))
  | other (k : Nat) (h1 : isJa (ins n p) = false) (h2 : isTest (ins n p) = false) (h3 : isRet (ins n p).code = false) (h4 : bare (ins n p) = bare (ins l (φ p))) (c : Ch l k (φ p + 1) (φ (p + 1)))

structure Sim (n l : List Insn) (φ : Nat → Nat) : Prop where
  lt : ∀ p, p < n.length → φ p < l.length
  rel : ∀ p, p < n.length → Rel n l φ p

theorem form_of_bare {x y : Insn} (h : bare x = bare y) : x.code = y.code := by rw [← form_bare x, h, form_bare]

theorem Sim.out {n l : List Insn} {φ : Nat → Nat} (s : Sim n l φ) (hn : Good n) (hl : Good l) (d : Nat → Nat) : ∀ m p r, n.length - p ≤ m → p < n.length → outL n d p r = outL l d (φ p) r ∧ lenL n d p r ≤ lenL l d (φ p) r
  | 0, p, r, hm, hp => by omega
  | m + 1, p, r, hm, hp => by
    have hφ := s.lt p hp
    cases s.rel p hp with
    | ret k u c h1 h2 =>
      have e1 := out_end hn d hp (ret_facts h1 r)
      have hu := c.lt hl hφ
      have hc := c.out hl hφ d r
      have hr : isRet (ins l u).code = true := by rw [← form_of_bare h2]; exact h1
      have e2 := out_end hl d hu (ret_facts hr r)
      have e3 := (same_bare (hn.form hp) (ret_not_test h1) h2 r d).1
      rw [ret_facts h1, ret_facts hr] at e3
      injection e3 with e3
      exact ⟨by rw [e1.1, hc.1, e2.1, e3], by omega⟩
    | jump k h1 c =>
      obtain ⟨f1, f2, f3⟩ := ja_facts h1 r d
      have e1 := out_on hn d hp f1
      have hlt := (hn.ja hp h1).1
      rw [f2, f3] at e1
      have ih := Sim.out s hn hl d m _ r (by omega) hlt
      have hc := c.out hl hφ d r
      exact ⟨by rw [e1.1, ih.1, hc.1], by omega⟩
    | level k h1 h2 h3 c =>
      obtain ⟨f1, f2, f3⟩ := ja_facts h1 r d
      obtain ⟨g1, g2, g3⟩ := test_facts h2 r d
      have e1 := out_on hn d hp f1
      have e2 := out_on hl d hφ g1
      have hlt := (hn.ja hp h1).1
      rw [f2, f3] at e1
      rw [g2, g3, ← h3] at e2
      simp only [ite_self] at e2
      have ih := Sim.out s hn hl d m _ r (by omega) hlt
      have hc := c.out hl (hl.test hφ h2).1 d r
      exact ⟨by rw [e1.1, ih.1, e2.1, hc.1], by omega⟩
    | test k k' h1 h2 h3 c c' =>
      have h1' : isTest (ins l (φ p)) = true := by unfold isTest at h1 ⊢; rw [← h2]; exact h1
      obtain ⟨f1, f2, f3⟩ := test_facts h1 r d
      obtain ⟨g1, g2, g3⟩ := test_facts h1' r d
      have e1 := out_on hn d hp f1
      have e2 := out_on hl d hφ g1
      have ho : otherL (ins n p) r = otherL (ins l (φ p)) r := by
        unfold otherL
        rw [← h2]
        rcases h3 with h3 | h3
        · rw [h3]
        · rw [if_pos ((code_facts (hn.form hp)).2.2.2.2.2.2.2.2.2 h3), if_pos ((code_facts (hn.form hp)).2.2.2.2.2.2.2.2.2 h3)]
      have ht := hn.test hp h1
      have ht' := hl.test hφ h1'
      rw [f2, f3] at e1
      rw [g2, g3, ← h2, ← ho] at e2
      split at e1
      · rename_i hh
        rw [if_pos hh] at e2
        have ih := Sim.out s hn hl d m _ r (by omega) ht.1
        have hc := c.out hl ht'.1 d r
        exact ⟨by rw [e1.1, ih.1, e2.1, hc.1], by omega⟩
      · rename_i hh
        rw [if_neg hh] at e2
        have ih := Sim.out s hn hl d m _ r (by omega) ht.2
        have hc := c'.out hl ht'.2 d r
        exact ⟨by rw [e1.1, ih.1, e2.1, hc.1], by omega⟩
    | other k h1 h2 h3 h4 c =>
      obtain ⟨e3, e4⟩ := same_bare (hn.form hp) h2 h4 r d
      have hcode := form_of_bare h4
      have h1' : isJa (ins l (φ p)) = false := by unfold isJa at h1 ⊢; rw [← hcode]; exact h1
      have h2' : isTest (ins l (φ p)) = false := by unfold isTest at h2 ⊢; rw [← hcode]; exact h2
      cases he : endsL (ins n p) r with
      | some v =>
        have e1 := out_end hn d hp he
        have e2 := out_end hl d hφ (by rw [← e3]; exact he)
        exact ⟨by rw [e1.1, e2.1], by omega⟩
      | none =>
        have e1 := out_on hn d hp he
        have e2 := out_on hl d hφ (r := r) (by rw [← e3]; exact he)
        have hlt := hn.step hp he
        have hlt' := hl.step hφ (r := r) (by rw [← e3]; exact he)
        rw [else_off (hn.form hp) h1 h2] at e1 hlt
        rw [else_off (hl.form hφ) h1' h2', ← e4] at e2
        rw [else_off (hl.form hφ) h1' h2'] at hlt'
        have ih := Sim.out s hn hl d m _ (effL (ins n p) d r) (by omega) hlt
        have hc := c.out hl hlt' d (effL (ins n p) d r)
        exact ⟨by rw [e1.1]; exact ih.1.trans (hc.1.symm.trans e2.1.symm), by have := e1.2; have := e2.2; have := ih.2; have := hc.2; simp only [Nat.add_zero] at *; omega⟩

theorem Sim.most {n l : List Insn} {φ : Nat → Nat} (s : Sim n l φ) (hn : Good n) (hl : Good l) : ∀ m p, n.length - p ≤ m → p < n.length → mostAt n p ≤ mostAt l (φ p)
  | 0, p, hm, hp => by omega
  | m + 1, p, hm, hp => by
    have hφ := s.lt p hp
    rcases most_from hn hp with e | ⟨q, hq, e⟩
    · rw [e]; exact most_pos hl hφ
    rw [e]
    have hlt := hn.nexts_lt hp q hq
    have ih := Sim.most s hn hl m q (by omega) hlt.2
    have hnl := hn.len
    have hll := hl.len
    cases s.rel p hp with
    | ret k u c h1 h2 => rw [nexts_ret h1] at hq; simp at hq
    | jump k h1 c =>
      rw [nexts_ja h1 (by have := (hn.ja hp h1).2; omega)] at hq
      simp at hq
      subst hq
      have := c.most hl hφ
      omega
    | level k h1 h2 h3 c =>
      rw [nexts_ja h1 (by have := (hn.ja hp h1).2; omega)] at hq
      simp at hq
      subst hq
      have := c.most hl (hl.test hφ h2).1
      have := most_le hl hφ ((nexts_test h2 _).2 (.inl rfl))
      omega
    | test k k' h1 h2 h3 c c' =>
      have h1' : isTest (ins l (φ p)) = true := by unfold isTest at h1 ⊢; rw [← h2]; exact h1
      rcases (nexts_test h1 q).1 hq with rfl | rfl
      · have := c.most hl (hl.test hφ h1').1
        have := most_le hl hφ ((nexts_test h1' _).2 (.inl rfl))
        omega
      · have := c'.most hl (hl.test hφ h1').2
        have := most_le hl hφ ((nexts_test h1' _).2 (.inr rfl))
        omega
    | other k h1 h2 h3 h4 c =>
      have hcode := form_of_bare h4
      have h1' : isJa (ins l (φ p)) = false := by unfold isJa at h1 ⊢; rw [← hcode]; exact h1
      have h2' : isTest (ins l (φ p)) = false := by unfold isTest at h2 ⊢; rw [← hcode]; exact h2
      rw [nexts_else (hn.form hp) h1 h2 h3] at hq
      simp at hq
      subst hq
      have hk : φ p + 1 ∈ nexts (ins l (φ p)) (φ p) := by rw [nexts_else (hl.form hφ) h1' h2' (by rw [← hcode]; exact h3)]; simp
      have := c.most hl (hl.nexts_lt hφ _ hk).2
      have := most_le hl hφ hk
      omega

theorem rel_same {n l : List Insn} {p : Nat} (h : ins n p = ins l (id p)) (hn : Good n) (hp : p < n.length) : Rel n l id p := by
  by_cases hj : isJa (ins n p) = true
  · exact .jump 0 hj (.step (by rw [← h]; exact hj) (by rw [h]; exact .refl _))
  by_cases ht : isTest (ins n p) = true
  · exact .test 0 0 ht (by rw [h]) (.inl (by rw [h])) (by rw [h]; exact .refl _) (by rw [h]; exact .refl _)
  by_cases hr : isRet (ins n p).code = true
  · exact .ret 0 p (.refl _) hr (by rw [h]; simp)
  · exact .other 0 (by simpa using hj) (by simpa using ht) (by simpa using hr) (by rw [h]) (.refl _)

theorem give_sim {l : List Insn} (h : Good l) : Sim (giveL l) l id := by
  refine ⟨fun p hp => by rw [giveL_len] at hp; exact hp, fun p hp => ?_⟩
  have hp' := hp
  rw [giveL_len] at hp
  have e := giveL_ins hp
  unfold giveAt at e
  by_cases hc : (isJa (ins l p) && isRet (ins l (endOf l p)).code) = true
  · rw [if_pos hc] at e
    simp at hc
    obtain ⟨k, c⟩ := Ch.toEnd h _ p (Nat.le_refl _) hp
    exact .ret k _ c (by rw [e]; exact hc.2) (by rw [e])
  · rw [if_neg hc] at e
    exact rel_same e (give_good h) hp'

theorem lead_sim {l : List Insn} (h : Good l) : Sim (leadL l) l id := by
  refine ⟨fun p hp => by rw [leadL_len] at hp; exact hp, fun p hp => ?_⟩
  have hp' := hp
  rw [leadL_len] at hp
  have e := leadL_ins hp
  by_cases hj : isJa (ins l p) = true
  · rw [leadAt_ja hj] at e
    have hk := h.ja hp hj
    obtain ⟨k, c⟩ := Ch.toEnd h _ _ (Nat.le_refl _) hk.1
    have hgt := endOf_ja_gt h hp hj
    rw [← endOf_ja h hp hj] at c
    refine .jump k (by rw [e]; exact hj) ?_
    rw [e]
    show Ch l (k + 1) p (p + 1 + (endOf l p - p - 1))
    rw [show p + 1 + (endOf l p - p - 1) = endOf l p by omega]
    exact .step hj c
  by_cases ht : isTest (ins l p) = true
  · rw [leadAt_test ht] at e
    have hk := h.test hp ht
    obtain ⟨k, c⟩ := Ch.toEnd h _ _ (Nat.le_refl _) hk.1
    obtain ⟨k', c'⟩ := Ch.toEnd h _ _ (Nat.le_refl _) hk.2
    have g1 := endOf_ge h hk.1
    have g2 := endOf_ge h hk.2
    refine .test k k' (by rw [e]; exact ht) (by rw [e]; rfl) (.inl (by rw [e]; rfl)) ?_ ?_
    · rw [e]
      show Ch l k _ (p + 1 + lead1 l p (ins l p).jt)
      rw [lead1_eq h p _ hk.1, show p + 1 + (endOf l (p + 1 + (ins l p).jt) - p - 1) = endOf l (p + 1 + (ins l p).jt) by omega]
      exact c
    · rw [e]
      show Ch l k' _ (p + 1 + lead1 l p (ins l p).jf)
      rw [lead1_eq h p _ hk.2, show p + 1 + (endOf l (p + 1 + (ins l p).jf) - p - 1) = endOf l (p + 1 + (ins l p).jf) by omega]
      exact c'
  · rw [leadAt_else (by simpa using hj) (by simpa using ht)] at e
    exact rel_same e (lead_good h) hp'

theorem level_sim {l : List Insn} (h : Good l) : Sim (levelL l) l id := by
  refine ⟨fun p hp => by rw [levelL_len] at hp; exact hp, fun p hp => ?_⟩
  have hp' := hp
  rw [levelL_len] at hp
  have e := levelL_ins hp
  by_cases hc : isTest (ins l p) = true ∧ (ins l p).jt = (ins l p).jf
  · rw [levelAt_ja hc.1 hc.2] at e
    exact .level 0 (by rw [e]; rfl) hc.1 hc.2 (by rw [e]; exact .refl _)
  · rw [levelAt_else hc] at e
    exact rel_same e (level_good h) hp'

/-- The first that stays, from a place on that is reached. -/
theorem stay_chain {l : List Insn} (h : Good l) : ∀ n i, l.length - i ≤ n → i < l.length → R l i = true → ∃ k j, Ch l k i j ∧ stay l j = true ∧ ahead (stay l) j = ahead (stay l) i
  | 0, i, hn, hi, _ => by omega
  | n + 1, i, hn, hi, hr => by
    by_cases hs : stay l i = true
    · exact ⟨0, i, .refl i, hs, rfl⟩
    · have hs' : stay l i = false := by simpa using hs
      rw [stay_eq hi, hr] at hs'
      simp at hs'
      have hk := h.ja hi hs'.2
      rw [hs'.1, Nat.add_zero] at hk
      have hnx : i + 1 ∈ nexts (ins l i) i := by rw [nexts_ja hs'.2 (by omega), hs'.1]; simp
      obtain ⟨k, j, c, h1, h2⟩ := stay_chain h n (i + 1) (by omega) hk.1 (R_next hr hnx (by omega))
      refine ⟨k + 1, j, .step hs'.2 (by rw [hs'.1]; exact c), h1, ?_⟩
      rw [h2, aheadS, if_neg hs]; rfl

def whence (l : List Insn) (p : Nat) : Nat := (stays l).getD p 0
theorem whence_ahead {l : List Insn} {i : Nat} (hs : stay l i = true) : whence l (ahead (stay l) i) = i := by
  unfold whence
  rw [stays_eq, List.getD_eq_getElem?_getD, filt_get (stay l) _ i (stay_R hs).1 hs]
  rfl
theorem to_whence {l : List Insn} (h : Good l) {t : Nat} (ht : t < l.length) (hr : R l t = true) : ∃ k, Ch l k t (whence l (ahead (stay l) t)) := by
  obtain ⟨k, j, c, h1, h2⟩ := stay_chain h _ t (Nat.le_refl _) ht hr
  rw [← h2, whence_ahead h1]
  exact ⟨k, c⟩

theorem leave_sim {l : List Insn} (h : Good l) : Sim (leaveL l) l (whence l) := by
  have hsome : ∀ p, p < (leaveL l).length → ∃ i, i < l.length ∧ stay l i = true ∧ ahead (stay l) i = p := by
    intro p hp
    rw [leaveL_len] at hp
    exact filt_from _ hp
  refine ⟨fun p hp => ?_, fun p hp => ?_⟩
  · obtain ⟨i, hi, hs, rfl⟩ := hsome p hp
    rw [whence_ahead hs]; exact hi
  obtain ⟨i, hi, hs, rfl⟩ := hsome p hp
  have hr := (stay_R hs).2
  have e := leaveL_ins hi hs
  have hw := whence_ahead hs
  by_cases hj : isJa (ins l i) = true
  · have hk := h.ja hi hj
    have hnx : i + 1 + (ins l i).k ∈ nexts (ins l i) i := by rw [nexts_ja hj (by omega)]; simp
    obtain ⟨t1, _, _, t4⟩ := target h hs hnx
    obtain ⟨k, c⟩ := to_whence h hk.1 t4
    have ek : (bare (moved l i)).k = ahead (stay l) (i + 1 + (ins l i).k) - ahead (stay l) i - 1 := by rw [moved_ja hj, bare_ja (by exact hj)]
    refine .jump k (by rw [e, bare_isJa]; unfold isJa; rw [moved_code]; exact hj) ?_
    rw [e, ek, hw, show ahead (stay l) i + 1 + (ahead (stay l) (i + 1 + (ins l i).k) - ahead (stay l) i - 1) = ahead (stay l) (i + 1 + (ins l i).k) by omega]
    exact .step hj c
  by_cases ht : isTest (ins l i) = true
  · have hk := h.test hi ht
    obtain ⟨t1, _, _, t4⟩ := target h hs ((nexts_test ht (i + 1 + (ins l i).jt)).2 (.inl rfl))
    obtain ⟨s1, _, _, s4⟩ := target h hs ((nexts_test ht (i + 1 + (ins l i).jf)).2 (.inr rfl))
    obtain ⟨k, c⟩ := to_whence h hk.1 t4
    obtain ⟨k', c'⟩ := to_whence h hk.2 s4
    have hm : isTest (moved l i) = true := by unfold isTest; rw [moved_code]; exact ht
    have eb := bare_test hm
    have ec : (bare (moved l i)).code = (ins l i).code := by rw [form_bare, moved_code]
    refine .test k k' (by rw [e, bare_isTest]; exact hm) (by rw [e, hw, ec]) ?_ ?_ ?_
    · rw [e, hw, ec]
      by_cases h6 : form (ins l i).code = 6
      · exact .inr h6
      · left
        have hf := test_form ht
        rw [bare_k (by rw [moved_code]; omega) (by rw [moved_code]; exact h6), moved_test ht]
    · rw [e, eb.1, hw, moved_test ht]
      show Ch l k _ (whence l (ahead (stay l) i + 1 + (ahead (stay l) (i + 1 + (ins l i).jt) - ahead (stay l) i - 1)))
      rw [show ahead (stay l) i + 1 + (ahead (stay l) (i + 1 + (ins l i).jt) - ahead (stay l) i - 1) = ahead (stay l) (i + 1 + (ins l i).jt) by omega]
      exact c
    · rw [e, eb.2, hw, moved_test ht]
      show Ch l k' _ (whence l (ahead (stay l) i + 1 + (ahead (stay l) (i + 1 + (ins l i).jf) - ahead (stay l) i - 1)))
      rw [show ahead (stay l) i + 1 + (ahead (stay l) (i + 1 + (ins l i).jf) - ahead (stay l) i - 1) = ahead (stay l) (i + 1 + (ins l i).jf) by omega]
      exact c'
  have hj' : isJa (ins l i) = false := by simpa using hj
  have ht' : isTest (ins l i) = false := by simpa using ht
  rw [moved_else hj' ht'] at e
  by_cases hret : isRet (ins l i).code = true
  · exact .ret 0 i (by rw [hw]; exact .refl _) (by rw [e, form_bare]; exact hret) (by rw [e, bare_bare])
  · have hret' : isRet (ins l i).code = false := by simpa using hret
    have hnx : i + 1 ∈ nexts (ins l i) i := by rw [nexts_else (h.form hi) hj' ht' hret']; simp
    have hlt := h.nexts_lt hi _ hnx
    obtain ⟨t1, _, _, t4⟩ := target h hs hnx
    obtain ⟨k, c⟩ := to_whence h hlt.2 t4
    refine .other k (by rw [e, bare_isJa]; exact hj') (by rw [e, bare_isTest]; exact ht') (by rw [e, form_bare]; exact hret') (by rw [e, bare_bare, hw]) ?_
    rw [hw]
    have : ahead (stay l) (i + 1) = ahead (stay l) i + 1 := by rw [aheadS, if_pos hs]
    rw [← this]
    exact c

/-- One program says what another one says, in no more steps. -/
structure Says (n l : List Insn) : Prop where
  run : ∀ d, runL n d = runL l d
  len : ∀ d, (traceL n d).length ≤ (traceL l d).length
  most : mostL n ≤ mostL l

theorem says_of {n l : List Insn} {φ : Nat → Nat} (s : Sim n l φ) (hn : Good n) (hl : Good l) (k : Nat) (c : Ch l k 0 (φ 0)) : Says n l := by
  have h1 := hn.len
  have h2 := hl.len
  have ho := fun d => s.out hn hl d _ 0 rg0 (Nat.le_refl _) (by omega)
  have hm := s.most hn hl _ 0 (Nat.le_refl _) (by omega)
  have hc := fun d => c.out hl (by omega) d rg0
  have hcm := c.most hl (by omega)
  refine ⟨fun d => ?_, fun d => ?_, ?_⟩
  · have := (ho d).1.trans (hc d).1.symm
    unfold outL at this
    exact this
  · have q1 := (ho d).2
    have q2 := (hc d).2
    have : lenL n d 0 rg0 ≤ lenL l d 0 rg0 := by omega
    unfold lenL at this
    exact this
  · have : mostAt n 0 ≤ mostAt l 0 := by omega
    unfold mostAt at this
    exact this
theorem Says.trans {a b c : List Insn} (h : Says a b) (k : Says b c) : Says a c :=
  ⟨fun d => (h.run d).trans (k.run d), fun d => Nat.le_trans (h.len d) (k.len d), Nat.le_trans h.most k.most⟩
theorem Says.refl (a : List Insn) : Says a a := ⟨fun _ => rfl, fun _ => Nat.le_refl _, Nat.le_refl _⟩

theorem once_says {l : List Insn} (h : Good l) : Says (onceL l) l := by
  have g1 := give_good h
  have g2 := lead_good g1
  have g3 := level_good g2
  have g4 := (leave_good g3).1
  have s1 := says_of (give_sim h) g1 h 0 (.refl _)
  have s2 := says_of (lead_sim g1) g2 g1 0 (.refl _)
  have s3 := says_of (level_sim g2) g3 g2 0 (.refl _)
  obtain ⟨k, c⟩ := to_whence g3 (t := 0) (by have := g3.len; omega) (R_zero _)
  have s4 := says_of (leave_sim g3) g4 g3 k c
  exact ((s4.trans s3).trans s2).trans s1
theorem prune_says {l : List Insn} (h : Good l) : Says (pruneL l) l := by
  refine prune_ind (P := fun l => Says (pruneL l) l) ?_ ?_ _ l h (Nat.le_refl _)
  · intro l h hl; rw [prune_fixed hl]; exact .refl _
  · intro l h _ ih
    rw [← prune_once h]
    exact ih.trans (once_says h)
end Go.Proofs.Ytfjbanfibmpalaa

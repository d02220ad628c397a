/- Plain words of the program's layers 2 and 4 (insn, check): instructions, forms, names; no Go and no memory. -/
namespace Go.Proofs.Ytfjbanfibmpalaa

/-- An instruction: code, Jt, Jf, K. -/
structure Insn where
  code : Nat
  jt : Nat
  jf : Nat
  k : Nat

theorem Insn.ext' {a b : Insn} (h0 : a.code = b.code) (h1 : a.jt = b.jt) (h2 : a.jf = b.jf) (h3 : a.k = b.k) : a = b := by
  cases a; cases b; simp_all

instance : DecidableEq Insn := fun a b =>
  if h : a.code = b.code ∧ a.jt = b.jt ∧ a.jf = b.jf ∧ a.k = b.k then isTrue (Insn.ext' h.1 h.2.1 h.2.2.1 h.2.2.2)
  else isFalse (fun e => h (by subst e; exact ⟨rfl, rfl, rfl, rfl⟩))
instance : Inhabited Insn := ⟨⟨0, 0, 0, 0⟩⟩

structure Insn.Ok (x : Insn) : Prop where
  code : x.code < 65536
  jt : x.jt < 256
  jf : x.jf < 256
  k : x.k < 4294967296

/-- Name and form of a code that has no sides; no name and -1 otherwise. -/
def single (c : Nat) : ByteArray × Int :=
  if c = 0 then (⟨#[108, 100, 46, 105, 109, 109]⟩, 1)
  else if c = 1 then (⟨#[108, 100, 120, 46, 105, 109, 109]⟩, 1)
  else if c = 2 then (⟨#[115, 116]⟩, 3)
  else if c = 3 then (⟨#[115, 116, 120]⟩, 3)
  else if c = 5 then (⟨#[106, 97]⟩, 4)
  else if c = 6 then (⟨#[114, 101, 116, 46, 107]⟩, 1)
  else if c = 7 then (⟨#[116, 97, 120]⟩, 0)
  else if c = 22 then (⟨#[114, 101, 116, 46, 97]⟩, 0)
  else if c = 32 then (⟨#[108, 100, 46, 97, 98, 115]⟩, 2)
  else if c = 96 then (⟨#[108, 100, 46, 109, 101, 109]⟩, 3)
  else if c = 97 then (⟨#[108, 100, 120, 46, 109, 101, 109]⟩, 3)
  else if c = 128 then (⟨#[108, 100, 46, 108, 101, 110]⟩, 0)
  else if c = 129 then (⟨#[108, 100, 120, 46, 108, 101, 110]⟩, 0)
  else if c = 132 then (⟨#[110, 101, 103]⟩, 0)
  else if c = 135 then (⟨#[116, 120, 97]⟩, 0)
  else (⟨#[]⟩, -1)

/-- The names of reckonings by the high half. -/
def reckNames : Array ByteArray := #[⟨#[97, 100, 100]⟩, ⟨#[115, 117, 98]⟩, ⟨#[109, 117, 108]⟩, ⟨#[100, 105, 118]⟩, ⟨#[111, 114]⟩, ⟨#[97, 110, 100]⟩, ⟨#[108, 115, 104]⟩, ⟨#[114, 115, 104]⟩, ⟨#[]⟩, ⟨#[]⟩, ⟨#[120, 111, 114]⟩, ⟨#[]⟩, ⟨#[]⟩, ⟨#[]⟩, ⟨#[]⟩, ⟨#[]⟩]
def testNames : Array ByteArray := #[⟨#[]⟩, ⟨#[106, 101, 113]⟩, ⟨#[106, 103, 116]⟩, ⟨#[106, 103, 101]⟩, ⟨#[106, 115, 101, 116]⟩, ⟨#[]⟩, ⟨#[]⟩, ⟨#[]⟩, ⟨#[]⟩, ⟨#[]⟩, ⟨#[]⟩, ⟨#[]⟩, ⟨#[]⟩, ⟨#[]⟩, ⟨#[]⟩, ⟨#[]⟩]

/-- Is there a reckoning of this high half? -/
def hasReck (h : Nat) : Bool := h ≤ 7 || h == 10
def hasTest (h : Nat) : Bool := 1 ≤ h && h ≤ 4

/-- A code's form; -1: it is none. -/
def form (c : Nat) : Int :=
  if 0 ≤ (single c).2 then (single c).2
  else if 256 ≤ c then -1
  else if c % 16 = 4 then (if hasReck (c / 16) then 1 else -1)
  else if c % 16 = 12 then (if hasReck (c / 16) then 0 else -1)
  else if c % 16 = 5 then (if hasTest (c / 16) then 5 else -1)
  else if c % 16 = 13 then (if hasTest (c / 16) then 6 else -1)
  else -1

/-- The name and the form of a code below 256. -/
def named (c : Nat) : ByteArray × Int :=
  if 0 ≤ (single c).2 then single c
  else if c % 16 = 4 ∧ hasReck (c / 16) then (reckNames.getD (c / 16) default ++ ⟨#[46, 107]⟩, 1)
  else if c % 16 = 12 ∧ hasReck (c / 16) then (reckNames.getD (c / 16) default ++ ⟨#[46, 120]⟩, 0)
  else if c % 16 = 5 ∧ hasTest (c / 16) then (testNames.getD (c / 16) default ++ ⟨#[46, 107]⟩, 5)
  else if c % 16 = 13 ∧ hasTest (c / 16) then (testNames.getD (c / 16) default ++ ⟨#[46, 120]⟩, 6)
  else (⟨#[]⟩, -1)

/-- A code's name; none: the empty one. -/
def nameOf (c : Nat) : ByteArray := if c < 256 then (named c).1 else ⟨#[]⟩

def isRet (c : Nat) : Bool := c == 6 || c == 22

/-- How many stand behind a place. -/
def behind (i n : Nat) : Nat := if i + 1 < n then n - 1 - i else 0

/-- Why an instruction may not stand at a place. -/
def one (x : Insn) (i n : Nat) : Int :=
  if form x.code < 0 then 141
  else if x.code = 32 ∧ (x.k % 4 ≠ 0 ∨ 64 ≤ x.k) then 142
  else if x.code = 52 ∧ x.k = 0 then 143
  else if (x.code = 100 ∨ x.code = 116) ∧ 32 ≤ x.k then 144
  else if form x.code = 3 ∧ 16 ≤ x.k then 145
  else if form x.code = 4 ∧ behind i n ≤ x.k then 146
  else if (form x.code = 5 ∨ form x.code = 6) ∧ behind i n ≤ max x.jt x.jf then 146
  else 0

/-- What comes next (of a place up to 255). -/
def nexts (x : Insn) (i : Nat) : List Nat :=
  if form x.code < 0 ∨ isRet x.code then []
  else if form x.code = 4 then (if x.k ≤ 255 then [i + 1 + x.k] else [])
  else if form x.code = 5 ∨ form x.code = 6 then
    (if x.jt = x.jf then [i + 1 + x.jt] else [i + 1 + min x.jt x.jf, i + 1 + max x.jt x.jf])
  else [i + 1]

/-- The place of the first that may not stand there, and why; (0, 0): there is none. -/
def checkFrom (l : List Insn) (n i : Nat) : Int × Int :=
  match l with
  | [] => (0, 0)
  | x :: r => if one x i n = 0 then checkFrom r n (i + 1) else (i, one x i n)

/-- Where a program may not be a filter, and why. -/
def check (l : List Insn) : Int × Int :=
  if l.length < 1 ∨ 64 < l.length then (0, 140)
  else if (checkFrom l l.length 0).2 ≠ 0 then checkFrom l l.length 0
  else if isRet (l.getD (l.length - 1) default).code then (0, 0)
  else ((l.length : Int) - 1, 147)

/-- An instruction without what does not count. -/
def bare (x : Insn) : Insn :=
  if form x.code < 0 then x
  else if form x.code = 5 then x
  else if form x.code = 6 then { x with k := 0 }
  else if form x.code = 0 then ⟨x.code, 0, 0, 0⟩
  else ⟨x.code, 0, 0, x.k⟩

end Go.Proofs.Ytfjbanfibmpalaa

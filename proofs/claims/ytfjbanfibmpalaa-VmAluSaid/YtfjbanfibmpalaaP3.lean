/- Plain: what the passes over a program make of it. -/
import Derived.Test.YtfjbanfibmpalaaP2
set_option linter.unusedVariables false
set_option linter.unusedSimpArgs false
namespace Go.Proofs.Ytfjbanfibmpalaa

/-- The i-th instruction. -/
def ins (l : List Insn) (i : Nat) : Insn := l.getD i default

def isJa (x : Insn) : Bool := x.code == 5
def isTest (x : Insn) : Bool := form x.code == 5 || form x.code == 6

/-- Where one ends up who stands at i and follows the jumps. -/
def endAux (l : List Insn) : Nat → Nat → Nat
  | 0, i => i
  | f + 1, i => if isJa (ins l i) then endAux l f (i + 1 + (ins l i).k) else i
def endOf (l : List Insn) (i : Nat) : Nat := endAux l (l.length - i) i

def giveAt (l : List Insn) (i : Nat) : Insn := if isJa (ins l i) && isRet (ins l (endOf l i)).code then ins l (endOf l i) else ins l i
def giveL (l : List Insn) : List Insn := (List.range l.length).map (giveAt l)

def lead1 (l : List Insn) (i d : Nat) : Nat := if endOf l (i + 1 + d) - i - 1 ≤ 255 then endOf l (i + 1 + d) - i - 1 else d
def leadAt (l : List Insn) (i : Nat) : Insn :=
  if isJa (ins l i) then { ins l i with k := endOf l i - i - 1 }
  else if isTest (ins l i) then { ins l i with jt := lead1 l i (ins l i).jt, jf := lead1 l i (ins l i).jf } else ins l i
def leadL (l : List Insn) : List Insn := (List.range l.length).map (leadAt l)

def levelAt (l : List Insn) (i : Nat) : Insn := if isTest (ins l i) && (ins l i).jt == (ins l i).jf then ⟨5, 0, 0, (ins l i).jt⟩ else ins l i
def levelL (l : List Insn) : List Insn := (List.range l.length).map (levelAt l)

/-- Does the place stay? -/
def stay (l : List Insn) (i : Nat) : Bool := (reach l).contains i && (decide (0 < (ins l i).k) || !isJa (ins l i))
/-- How many stay ahead of a place. -/
def ahead (f : Nat → Bool) : Nat → Nat
  | 0 => 0
  | i + 1 => ahead f i + if f i then 1 else 0
def moved (l : List Insn) (i : Nat) : Insn :=
  if isJa (ins l i) then { ins l i with k := ahead (stay l) (i + 1 + (ins l i).k) - ahead (stay l) i - 1 }
  else if isTest (ins l i) then { ins l i with jt := ahead (stay l) (i + 1 + (ins l i).jt) - ahead (stay l) i - 1, jf := ahead (stay l) (i + 1 + (ins l i).jf) - ahead (stay l) i - 1 } else ins l i
def stays (l : List Insn) : List Nat := (reach l).filter (fun i => decide (0 < (ins l i).k) || !isJa (ins l i))
def leaveL (l : List Insn) : List Insn := (stays l).map (fun i => bare (moved l i))

def onceL (l : List Insn) : List Insn := leaveL (levelL (leadL (giveL l)))

/-- A program that passes the check, of numbers of their sizes. -/
structure Good (l : List Insn) : Prop where
  ok : ∀ x ∈ l, x.Ok
  checked : (check l).2 = 0

theorem at_get (l : List Insn) (i : Nat) (h : i < l.length) : ins l i = l[i] := by simp [ins, h]
end Go.Proofs.Ytfjbanfibmpalaa

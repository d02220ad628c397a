/- Plain: which places are reached; what is known of a check that is passed. -/
import Derived.Test.YtfjbanfibmpalaaP1
set_option linter.unusedVariables false
set_option linter.unusedSimpArgs false
namespace Go.Proofs.Ytfjbanfibmpalaa

def metAt (l : List Insn) : Nat → Nat → Bool
  | 0 => fun k => k == 0
  | i + 1 => if metAt l i i then fun k => metAt l i k || (nexts (l.getD i default) i).contains k else metAt l i

def outAt (l : List Insn) : Nat → List Nat
  | 0 => []
  | i + 1 => if metAt l i i then outAt l i ++ [i] else outAt l i

def reach (l : List Insn) : List Nat := outAt l l.length

theorem outAt_len (l : List Insn) : ∀ n, (outAt l n).length ≤ n
  | 0 => by simp [outAt]
  | n + 1 => by
    have := outAt_len l n
    unfold outAt
    split
    · simp; omega
    · omega

theorem outAt_lt (l : List Insn) : ∀ n, ∀ i ∈ outAt l n, i < n
  | 0 => by simp [outAt]
  | n + 1 => by
    have ih := outAt_lt l n
    unfold outAt
    split
    · intro i hi
      rcases List.mem_append.1 hi with h | h
      · have := ih i h; omega
      · simp at h; omega
    · intro i hi
      have := ih i hi; omega

theorem reach_lt (l : List Insn) : ∀ i ∈ reach l, i < l.length := outAt_lt l _
theorem reach_len (l : List Insn) : (reach l).length ≤ l.length := outAt_len l _

theorem check_len {l : List Insn} (h : (check l).2 = 0) : 1 ≤ l.length ∧ l.length ≤ 64 := by
  unfold check at h
  split at h
  · simp at h
  · omega
end Go.Proofs.Ytfjbanfibmpalaa

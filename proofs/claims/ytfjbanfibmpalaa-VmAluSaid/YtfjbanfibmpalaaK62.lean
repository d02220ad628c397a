/- Contracts: the machine's runs, told one behind the other. -/
import Derived.Test.YtfjbanfibmpalaaK61
import Derived.Test.YtfjbanfibmpalaaKU
set_option linter.unusedVariables false
set_option linter.unusedSimpArgs false
namespace Go.Proofs.Ytfjbanfibmpalaa
open Go.RowKit Go.Shelf
attribute [local go_sem] Oper.semAt_some

/-- The machines ahead of each step, and what is returned then. -/
def runsF (l : List Insn) (dd : Nat → Nat) : Nat → Nat → Rg → List (Array Value)
  | 0, _, _ => []
  | f + 1, pc, r => #[.agg (vmA pc r), .int .u32 (((endsL (ins l pc) r).getD 0 : Nat) : Int)] :: match endsL (ins l pc) r with
    | some _ => []
    | none => runsF l dd f (pc + 1 + offL (ins l pc) r) (effL (ins l pc) dd r)
def runsL (l : List Insn) (dd : Nat → Nat) : List (Array Value) := runsF l dd l.length 0 rg0

theorem runs_any (A : Option Addr) (cap n : Nat) (d : Dt) (w : World) :
    Calls Try.prog 72 #[.slice A n cap, (Value.agg #[.int .u32 d.nr, .int .u32 d.arch, .int .u64 d.ip, .int .u64 d.a0, .int .u64 d.a1, .int .u64 d.a2, .int .u64 d.a3, .int .u64 d.a4, .int .u64 d.a5])] w fun e w' => e = .returned (.func (.func 122) #[] #[.pointer (some ⟨w.heap.size, 0, none⟩), .pointer (some ⟨w.heap.size + 1, 0, none⟩)]) ∧
      (w.alloc (.cells #[.slice A n cap] 24)).alloc (.cells #[.int .u32 d.nr, .int .u32 d.arch, .int .u64 d.ip, .int .u64 d.a0, .int .u64 d.a1, .int .u64 d.a2, .int .u64 d.a3, .int .u64 d.a4, .int .u64 d.a5] 47) = w' := by
  go_enter Try.func72, Try.ntmps72
  go_wp2
  go_ret
  exact ⟨rfl, rfl⟩

theorem mem_form {c : Nat} (h : 0 ≤ form c) : ((c % 8 = 2 ∨ c % 8 = 3) → form c = 3) ∧ ((c % 8 = 0 ∨ c % 8 = 1) → c / 32 % 8 = 3 → form c = 3) := by
  have hc := (code_facts h).1
  have : ∀ c : Fin 256, 0 ≤ form c.val → ((c.val % 8 = 2 ∨ c.val % 8 = 3) → form c.val = 3) ∧ ((c.val % 8 = 0 ∨ c.val % 8 = 1) → c.val / 32 % 8 = 3 → form c.val = 3) := by decide +kernel
  exact this ⟨c, hc⟩ h
theorem one_mem {x : Insn} {i n : Nat} (h : one x i n = 0) (hf : form x.code = 3) : x.k < 16 := by
  unfold one at h
  by_cases hk : 16 ≤ x.k
  · rw [if_neg (by omega)] at h
    split at h
    · omega
    · split at h
      · omega
      · split at h
        · omega
        · rw [if_pos ⟨hf, hk⟩] at h; omega
  · omega
theorem Good.memOk {l : List Insn} (h : Good l) {i : Nat} (hi : i < l.length) : MemOk (ins l i) := by
  have hf := h.form hi
  have := mem_form hf
  exact ⟨fun a b => one_mem (h.one hi) (this.2 a b), fun a => one_mem (h.one hi) (this.1 a)⟩
end Go.Proofs.Ytfjbanfibmpalaa

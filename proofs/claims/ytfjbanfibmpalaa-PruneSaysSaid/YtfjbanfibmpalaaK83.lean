/- Contracts: vm.Run and vm.Trace of whatever program. -/
import Derived.Test.YtfjbanfibmpalaaK76
set_option linter.unusedVariables false
set_option linter.unusedSimpArgs false
namespace Go.Proofs.Ytfjbanfibmpalaa
open Go.RowKit Go.Shelf

/-- What is said of a program, good or bad. -/
def outX (l : List Insn) (dd : Nat → Nat) : Nat := if (check l).2 = 0 then runL l dd else 0
def trX (l : List Insn) (dd : Nat → Nat) : List (Int × Rg) := if (check l).2 = 0 then trI l dd else []
theorem run_all (A : Option Addr) (cap : Nat) (l : List Insn) (d : Dt) (hd : d.Ok) (w : World) (hl : RdP w A l) :
    Calls Try.prog 37 #[.slice A l.length cap, (Value.agg #[.int .u32 d.nr, .int .u32 d.arch, .int .u64 d.ip, .int .u64 d.a0, .int .u64 d.a1, .int .u64 d.a2, .int .u64 d.a3, .int .u64 d.a4, .int .u64 d.a5])] w fun e w' => e = .returned (.tuple #[.int .u32 (outX l (datL d) : Int), .int .i64 (check l).2]) ∧ Below w.heap.size w w' := by
  by_cases hc : (check l).2 = 0
  · unfold outX; rw [if_pos hc, hc]; exact run_good A cap l d hd w hl ⟨hl.ok, hc⟩
  · unfold outX; rw [if_neg hc]; exact run_bad A cap l d w hl hc
theorem trace_all (A : Option Addr) (cap : Nat) (l : List Insn) (d : Dt) (hd : d.Ok) (w : World) (hl : RdP w A l) :
    Calls Try.prog 38 #[.slice A l.length cap, (Value.agg #[.int .u32 d.nr, .int .u32 d.arch, .int .u64 d.ip, .int .u64 d.a0, .int .u64 d.a1, .int .u64 d.a2, .int .u64 d.a3, .int .u64 d.a4, .int .u64 d.a5])] w fun e w' => ∃ R c, e = .returned (.tuple #[.slice R (trX l (datL d)).length c, .int .i64 (check l).2]) ∧ EV.Rd w' R (trX l (datL d)) ∧ Below w.heap.size w w' := by
  by_cases hc : (check l).2 = 0
  · unfold trX; rw [if_pos hc, hc]; exact trace_good A cap l d hd w hl ⟨hl.ok, hc⟩
  · unfold trX; rw [if_neg hc]
    refine (trace_bad A cap l d w hl hc).mono ?_
    rintro e w' ⟨rfl, hb⟩
    exact ⟨none, 0, rfl, ⟨fun h => absurd rfl h⟩, hb⟩
theorem trX_ok (l : List Insn) (dd : Nat → Nat) (hok : ∀ x ∈ l, x.Ok) (hd : ∀ k, dd k < 4294967296) : ∀ z ∈ trX l dd, z.2.Ok := by
  intro z hz
  unfold trX at hz
  by_cases hc : (check l).2 = 0
  · rw [if_pos hc] at hz
    obtain ⟨y, hy, e⟩ := List.mem_map.1 hz
    have hg : Good l := ⟨hok, hc⟩
    rw [← e]
    exact trace_ok hg hd l.length 0 rg0 (by have := hg.len; omega) rg0_ok y hy
  · rw [if_neg hc] at hz; cases hz
theorem trX_len (l : List Insn) (dd : Nat → Nat) (hok : ∀ x ∈ l, x.Ok) : (trX l dd).length ≤ 64 := by
  unfold trX
  by_cases hc : (check l).2 = 0
  · rw [if_pos hc, ← runs_len]
    have hg : Good l := ⟨hok, hc⟩
    exact Nat.le_trans (runsF_len l dd l.length 0 rg0) hg.len.2
  · rw [if_neg hc]; decide
theorem exec_load_vm {o : Oper} {a : Act} {w : World} (x : Operand) (ho : o.op = .load 50 x) (b j : Nat) (hx : a.eval x = .pointer (some ⟨b, j, none⟩)) (z : Int × Rg) (hz : z.2.Ok) (hc : w.rangeAt b j (EV.enc z)) :
    (execOp a.eval o).run Try.prog w = .ok (.value (.agg (vmA z.1 z.2))) w := by
  unfold execOp
  have hi : (Try.prog.info? 50).map (·.size) = some (EV.enc z).length := by rw [EV.len]; kernel_rfl
  simp only [ho, hx, Instr.loadAt, Instr.sureAddr, Sem.run_bind, Sem.run_pure, Result.andThen_ok, run_loadVar_mid w b j 50 (EV.enc z) _ hc Try.underlying50 rfl hi]
  rw [vmA_enc z.1 z.2 hz]
theorem good_loads {l : List Insn} (hg : Good l) (i : Nat) (hc : (ins l i).code = 32) : (ins l i).k ≤ 60 ∧ (ins l i).k % 4 = 0 := by
  by_cases hi : i < l.length
  · have h := hg.one hi
    unfold one at h
    rw [if_neg (by have := hg.form hi; omega)] at h
    by_cases hk : (ins l i).code = 32 ∧ ((ins l i).k % 4 ≠ 0 ∨ 64 ≤ (ins l i).k)
    · rw [if_pos hk] at h; cases h
    · have : ¬ ((ins l i).k % 4 ≠ 0 ∨ 64 ≤ (ins l i).k) := fun q => hk ⟨hc, q⟩
      omega
  · rw [show ins l i = default from by unfold ins; simp [List.getD_eq_getElem?_getD, List.getElem?_eq_none (Nat.le_of_not_lt hi)]] at hc
    cases hc
theorem trace_lt {l : List Insn} (hg : Good l) {dd : Nat → Nat} : ∀ f pc r, pc < l.length → ∀ z ∈ traceF l dd f pc r, z.1 < l.length
  | 0, pc, r, _, z, h => by cases h
  | f + 1, pc, r, hp, z, h => by
    unfold traceF at h
    rcases List.mem_cons.1 h with rfl | h
    · exact hp
    · cases he : endsL (ins l pc) r with
      | some v => rw [he] at h; cases h
      | none => rw [he] at h; exact trace_lt hg f _ _ (hg.step hp he) z h
end Go.Proofs.Ytfjbanfibmpalaa

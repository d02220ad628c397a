/- Plain: how many stay, counted. Contracts: (prune.program).leave$1; (prune.program).leave. -/
import Derived.Test.YtfjbanfibmpalaaK29
import Derived.Test.YtfjbanfibmpalaaP8
set_option linter.unusedVariables false
set_option linter.unusedSimpArgs false
namespace Go.Proofs.Ytfjbanfibmpalaa
open Go.RowKit Go.Shelf
attribute [local go_sem ↓] Go.wp_at_zero Go.wp_at_succ

set_option maxHeartbeats 400000 in
theorem by_any (l : List Insn) (ag ac T I i d : Nat) (w : World) (hn : i + 1 + d ≤ l.length) (hlen : l.length ≤ 64) (hmono : ahead (stay l) i < ahead (stay l) (i + 1 + d))
    (hT : w.cell? ⟨T, 0, none⟩ = some (.slice (some ⟨ag, 0, none⟩) (l.length + 1) ac)) (hI : w.cell? ⟨I, 0, none⟩ = some (.int .i64 i))
    (h1 : w.cell? ⟨ag, i, none⟩ = some (.int .i64 (ahead (stay l) i : Int))) (h2 : w.cell? ⟨ag, i + 1 + d, none⟩ = some (.int .i64 (ahead (stay l) (i + 1 + d) : Int))) :
    Calls Try.prog 141 #[.int .i64 d, .pointer (some ⟨T, 0, none⟩), .pointer (some ⟨I, 0, none⟩)] w fun e w' => e = .returned (.int .i64 ((ahead (stay l) (i + 1 + d) - ahead (stay l) i - 1 : Nat) : Int)) ∧ ∃ m, w' = w.drewN m := by
  have b1 := ahead_le (stay l) (i + 1 + d)
  generalize ahead (stay l) i = p at *
  generalize ahead (stay l) (i + 1 + d) = q at *
  obtain ⟨r, rfl⟩ : ∃ r, q = p + 1 + r := ⟨q - p - 1, by omega⟩
  have HE := Lib.hid (show p + 1 + r - p - 1 = r by omega)
  have i1 : (0 : Int) ≤ (i : Int) + 1 + d := by omega
  have i2 : (i : Int) + 1 + d < ((l.length + 1 : Nat) : Int) := by omega
  have i3 : ((i : Int) + 1 + d).toNat = i + 1 + d := by omega
  have i4 : (0 : Int) ≤ (i : Int) := by omega
  have i5 : (i : Int) < ((l.length + 1 : Nat) : Int) := by omega
  go_enter Try.func141, Try.ntmps141
  go_wp2
  go_quiet (fail)
  go_wp2
  go_ret
  refine ⟨?_, _, rfl⟩
  rw [HE.out]
  show Ending.returned (Value.int _ _) = _
  congr 2
  omega

/-- How often a place is counted by the first i that stay. -/
def tally (l : List Insn) (i j : Nat) : Nat := ((stays l).take i).countP (fun q => q + 1 == j)
theorem tally_zero (l : List Insn) (j : Nat) : tally l 0 j = 0 := by simp [tally]
theorem tally_succ (l : List Insn) (i j : Nat) (hi : i < (stays l).length) : tally l (i + 1) j = if j = nth (stays l) i + 1 then tally l i j + 1 else tally l i j := by
  have e : nth (stays l) i = (stays l)[i] := by simp [nth, hi]
  unfold tally
  rw [e, List.take_succ_eq_append_getElem hi, List.countP_append]
  by_cases h : j = (stays l)[i] + 1
  · rw [if_pos h]; subst h; simp
  · rw [if_neg h, List.countP_singleton, if_neg]
    · rfl
    · simp; omega
theorem tally_all (l : List Insn) (i : Nat) : tally l (stays l).length (i + 1) = (if stay l i then 1 else 0) ∧ tally l (stays l).length 0 = 0 := by
  unfold tally
  rw [List.take_length]
  constructor
  · have hin : i ∈ stays l ↔ stay l i = true := by
      rw [stays_eq]
      simp
      intro h; exact (stay_R h).1
    have hnd : (stays l).Nodup := by rw [stays_eq]; exact List.nodup_range.filter _
    have e : (stays l).countP (fun q => q + 1 == i + 1) = (stays l).count i := by
      unfold List.count
      refine List.countP_congr (fun q _ => ?_)
      simp
    rw [e]
    by_cases h : stay l i = true
    · rw [if_pos h, hnd.count, if_pos (hin.2 h)]
    · rw [if_neg h, hnd.count, if_neg (fun q => h (hin.1 q))]
  · rw [List.countP_eq_zero]; intro q _; simp
theorem tally_le (l : List Insn) (i j : Nat) : tally l i j ≤ i := by
  unfold tally
  exact Nat.le_trans List.countP_le_length (by rw [List.length_take]; omega)
theorem stays_len (l : List Insn) : (stays l).length ≤ l.length := by
  have : (stays l).length = (leaveL l).length := by unfold leaveL; simp
  rw [this, leaveL_len]; exact ahead_le _ _
theorem stays_nth {l : List Insn} {i : Nat} (h : i < (stays l).length) : stay l (nth (stays l) i) = true ∧ nth (stays l) i < l.length ∧ ahead (stay l) (nth (stays l) i) = i := by
  have e : nth (stays l) i = (stays l)[i] := by simp [nth, h]
  have hm := List.getElem_mem h
  have hs : stay l (stays l)[i] = true := by
    have : (stays l)[i] ∈ (List.range l.length).filter (stay l) := by rw [← stays_eq]; exact hm
    exact (List.mem_filter.1 this).2
  have hlt := (stay_R hs).1
  rw [e]
  refine ⟨hs, hlt, ?_⟩
  have hlen : i < ahead (stay l) l.length := by
    have : (stays l).length = ahead (stay l) l.length := by rw [stays_eq, filt_len]
    omega
  obtain ⟨j, hj, hsj, ha⟩ := filt_from (stay l) hlen
  have hg := filt_get (stay l) l.length j hj hsj
  rw [ha, ← stays_eq, List.getElem?_eq_getElem h] at hg
  injection hg with hg
  rw [hg]; exact ha
end Go.Proofs.Ytfjbanfibmpalaa

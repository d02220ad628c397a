/- Contract: wicketgatelaw05.VmRuns. -/
import Derived.Test.YtfjbanfibmpalaaK77
set_option linter.unusedVariables false
set_option linter.unusedSimpArgs false
namespace Go.Proofs.Ytfjbanfibmpalaa
open Go.RowKit Go.Shelf
attribute [local go_sem] Oper.semAt_some

/-- What is said of a program, good or bad. -/
def outX (l : List Insn) (dd : Nat → Nat) : Nat := if (check l).2 = 0 then runL l dd else 0
def trX (l : List Insn) (dd : Nat → Nat) : List (Int × Rg) := if (check l).2 = 0 then trI l dd else []
theorem run_all (A : Option Addr) (cap : Nat) (l : List Insn) (d : Dt) (hd : d.Ok) (w : World) (hl : RdP w A l) :
    Calls Try.prog 37 #[.slice A l.length cap, (Value.agg #[.int .u32 d.nr, .int .u32 d.arch, .int .u64 d.ip, .int .u64 d.a0, .int .u64 d.a1, .int .u64 d.a2, .int .u64 d.a3, .int .u64 d.a4, .int .u64 d.a5])] w fun e w' => e = .returned (.tuple #[.int .u32 (outX l (datL d) : Int), .int .i64 (check l).2]) ∧ Below w.heap.size w w' := by
  by_cases hc : (check l).2 = 0
  · unfold outX; rw [if_pos hc, hc]; exact run_good A cap l d hd w hl ⟨hl.ok, hc⟩
  · unfold outX; rw [if_neg hc]; exact run_bad A cap l d w hl hc
theorem trace_all (A : Option Addr) (cap : Nat) (l : List Insn) (d : Dt) (hd : d.Ok) (w : World) (hl : RdP w A l) :
    Calls Try.prog 38 #[.slice A l.length cap, (Value.agg #[.int .u32 d.nr, .int .u32 d.arch, .int .u64 d.ip, .int .u64 d.a0, .int .u64 d.a1, .int .u64 d.a2, .int .u64 d.a3, .int .u64 d.a4, .int .u64 d.a5])] w fun e w' => ∃ R c, e = .returned (.tuple #[.slice R (trX l (datL d)).length c, .int .i64 (check l).2]) ∧ EV.Rd w' R (trX l (datL d)) ∧ Below w.heap.size w w' := by
  by_cases hc : (check l).2 = 0
  · unfold trX; rw [if_pos hc, hc]; exact trace_good A cap l d hd w hl ⟨hl.ok, hc⟩
  · unfold trX; rw [if_neg hc]
    refine (trace_bad A cap l d w hl hc).mono ?_
    rintro e w' ⟨rfl, hb⟩
    exact ⟨none, 0, rfl, ⟨fun h => absurd rfl h⟩, hb⟩
theorem rtrace_all (A : Option Addr) (cap : Nat) (l : List Insn) (d : Dt) (hd : d.Ok) (w : World) (hl : RdP w A l) :
    Calls Try.prog 39 #[.slice A l.length cap, (Value.agg #[.int .u32 d.nr, .int .u32 d.arch, .int .u64 d.ip, .int .u64 d.a0, .int .u64 d.a1, .int .u64 d.a2, .int .u64 d.a3, .int .u64 d.a4, .int .u64 d.a5])] w fun e w' => ∃ R c, e = .returned (.tuple #[.slice R (trX l (datL d)).length c, .int .u32 (outX l (datL d) : Int), .int .i64 (check l).2]) ∧ EV.Rd w' R (trX l (datL d)) ∧ Below w.heap.size w w' := by
  by_cases hc : (check l).2 = 0
  · unfold trX outX; rw [if_pos hc, if_pos hc, hc]; exact rtrace_good A cap l d hd w hl ⟨hl.ok, hc⟩
  · unfold trX outX; rw [if_neg hc, if_neg hc]
    refine (rtrace_bad A cap l d w hl hc).mono ?_
    rintro e w' ⟨rfl, hb⟩
    exact ⟨none, 0, rfl, ⟨fun h => absurd rfl h⟩, hb⟩
theorem trX_ok (l : List Insn) (dd : Nat → Nat) (hok : ∀ x ∈ l, x.Ok) (hd : ∀ k, dd k < 4294967296) : ∀ z ∈ trX l dd, z.2.Ok := by
  intro z hz
  unfold trX at hz
  by_cases hc : (check l).2 = 0
  · rw [if_pos hc] at hz
    obtain ⟨y, hy, e⟩ := List.mem_map.1 hz
    have hg : Good l := ⟨hok, hc⟩
    rw [← e]
    exact trace_ok hg hd l.length 0 rg0 (by have := hg.len; omega) rg0_ok y hy
  · rw [if_neg hc] at hz; cases hz
theorem trX_len (l : List Insn) (dd : Nat → Nat) (hok : ∀ x ∈ l, x.Ok) : (trX l dd).length ≤ 64 := by
  unfold trX
  by_cases hc : (check l).2 = 0
  · rw [if_pos hc, ← runs_len]
    have hg : Good l := ⟨hok, hc⟩
    exact Nat.le_trans (runsF_len l dd l.length 0 rg0) hg.len.2
  · rw [if_neg hc]; decide
theorem exec_load_vm {o : Oper} {a : Act} {w : World} (x : Operand) (ho : o.op = .load 50 x) (b j : Nat) (hx : a.eval x = .pointer (some ⟨b, j, none⟩)) (z : Int × Rg) (hz : z.2.Ok) (hc : w.rangeAt b j (EV.enc z)) :
    (execOp a.eval o).run Try.prog w = .ok (.value (.agg (vmA z.1 z.2))) w := by
  unfold execOp
  have hi : (Try.prog.info? 50).map (·.size) = some (EV.enc z).length := by rw [EV.len]; kernel_rfl
  simp only [ho, hx, Instr.loadAt, Instr.sureAddr, Sem.run_bind, Sem.run_pure, Result.andThen_ok, run_loadVar_mid w b j 50 (EV.enc z) _ hc Try.underlying50 rfl hi]
  rw [vmA_enc z.1 z.2 hz]

set_option maxRecDepth 100000 in
set_option maxHeartbeats 2000000 in
theorem vmruns_any (A : Option Addr) (cap : Nat) (l : List Insn) (d : Dt) (hd : d.Ok) (w : World) (hl : RdP w A l) :
    Calls Try.prog 8 #[.slice A l.length cap, (Value.agg #[.int .u32 d.nr, .int .u32 d.arch, .int .u64 d.ip, .int .u64 d.a0, .int .u64 d.a1, .int .u64 d.a2, .int .u64 d.a3, .int .u64 d.a4, .int .u64 d.a5])] w fun e w' => e = .returned (.bool true) ∧ Below w.heap.size w w' := by
  have HWK := Lib.hid (fun W => wakes05_any W)
  have HL := Lib.hid hl
  have HOK := Lib.hid hl.ok
  have HSM := Lib.hid hl.small
  have hsm := hl.small
  by_cases hlen : 300 < l.length
  · have hg : (300 : Int) < (l.length : Int) := by omega
    clear hl hd hlen
    go_enter Try.func8, Try.ntmps8
    go_wp2_with (go_at_call 29; refine (HWK.out _).mono ?_; rintro e w1 ⟨rfl, hb⟩)
    go_ret
    exact ⟨rfl, Below.trans (by (repeat (first | with_reducible exact Below.refl _ _ | with_reducible assumption | ((with_reducible refine Below.setCell ?_ ?hp _); case hp => (first | omega | (simp only [World.size_alloc, World.size_setCell, World.size_drew]; omega) | (simp; done) | (simp; omega))) | ((with_reducible refine Below.alloc ?_ ?hp _); case hp => (first | omega | (simp only [World.size_alloc, World.size_setCell, World.size_drew]; omega) | (simp; done) | (simp; omega))) | with_reducible refine Below.drew ?_ | with_reducible refine below_drewN ?_ _))) (hb.mono (by simp))⟩
  have hg : ¬ (300 : Int) < (l.length : Int) := by omega
  have HRUN := Lib.hid (fun A' c W (h : RdP W A' l) => run_all A' c l d hd W h)
  have HTRC := Lib.hid (fun A' c W (h : RdP W A' l) => trace_all A' c l d hd W h)
  have HRTR := Lib.hid (fun A' c W (h : RdP W A' l) => rtrace_all A' c l d hd W h)
  have HTO := Lib.hid (trX_ok l (datL d) hl.ok (fun k => datL_lt hd k))
  have htl := trX_len l (datL d) hl.ok
  clear hl hd hlen
  generalize outX l (datL d) = x at *
  generalize trX l (datL d) = L at *
  generalize (check l).2 = er at *
  have hwf : ∀ k, Fence.wide.fn k := fun _ => trivial
  have hwd : Fence.wide.depth = none := rfl
  go_enter Try.func8, Try.ntmps8
  go_wp2_with (go_at_call 29; refine (HWK.out _).mono ?_; rintro e w1 ⟨rfl, hb⟩; have HBW := Lib.hid (Below.trans (show Below w.heap.size w _ by (repeat (first | with_reducible exact Below.refl _ _ | with_reducible assumption | ((with_reducible refine Below.setCell ?_ ?hp _); case hp => (first | omega | (simp only [World.size_alloc, World.size_setCell, World.size_drew]; omega) | (simp; done) | (simp; omega))) | ((with_reducible refine Below.alloc ?_ ?hp _); case hp => (first | omega | (simp only [World.size_alloc, World.size_setCell, World.size_drew]; omega) | (simp; done) | (simp; omega))) | with_reducible refine Below.drew ?_ | with_reducible refine below_drewN ?_ _))) (hb.mono (by simp))); have hz1 : w.heap.size < w1.heap.size := (by have := hb.size; simp at this; omega); have HD1 := Lib.hid ((hb.block _ (by simp)).trans (heap_alloc_new w (.cells #[.int .u32 d.nr, .int .u32 d.arch, .int .u64 d.ip, .int .u64 d.a0, .int .u64 d.a1, .int .u64 d.a2, .int .u64 d.a3, .int .u64 d.a4, .int .u64 d.a5] 47))); clear hb)
  have HS := Lib.hid (fun V (h : Below w1.heap.size w1 V) => (show (fun V => V.heap[w.heap.size]? = some (.cells #[.int .u32 d.nr, .int .u32 d.arch, .int .u64 d.ip, .int .u64 d.a0, .int .u64 d.a1, .int .u64 d.a2, .int .u64 d.a3, .int .u64 d.a4, .int .u64 d.a5] 47 (0, 0))) V from (h.block _ (by omega)).trans HD1.out))
  have HCP := Lib.hid (fun W (h : Below w1.heap.size w1 W) => copied5_any A cap l W (HL.out.below (HBW.out.trans (h.mono HBW.out.size)) (Nat.le_refl _)).enc (by omega))
  have HBw1 := Lib.hid (Below.refl w1.heap.size w1)
  have HDWw1 := Lib.hid (HBw1.out.drew)
  refine wp_region_noPanic ?_
  refine (wpIn_wide (n := 0)).1 ?_
  (refine region_at 8 (fun V => V.heap[w.heap.size]? = some (.cells #[.int .u32 d.nr, .int .u32 d.arch, .int .u64 d.ip, .int .u64 d.a0, .int .u64 d.a1, .int .u64 d.a2, .int .u64 d.a3, .int .u64 d.a4, .int .u64 d.a5] 47 (0, 0))) (fun _ => trivial) (by kernel_rfl) (by kernel_rfl) (by kernel_rfl) (by kernel_rfl) (by kernel_rfl) (by kernel_rfl) (fun _ _ _ _ h => h) ?_)
  (refine At.take 0 (v := .slice A l.length cap) rfl (by decide) (by kernel_rfl) (by kernel_rfl) (HS.out _ HDWw1.out) (Or.inl ⟨by rfl, fun V hw => (by go_simp)⟩) ?_; simp only [Act.put, List.setIfInBounds_toArray, List.set_cons_zero, List.set_cons_succ])
  (refine At.take 2 (v := (Value.agg #[.int .u32 d.nr, .int .u32 d.arch, .int .u64 d.ip, .int .u64 d.a0, .int .u64 d.a1, .int .u64 d.a2, .int .u64 d.a3, .int .u64 d.a4, .int .u64 d.a5])) rfl (by decide) (by kernel_rfl) (by kernel_rfl) (HS.out _ HDWw1.out) (Or.inl ⟨by rfl, fun V hw => (by exact exec_load_row 47 (.tmp 3) rfl w.heap.size rfl 47 _ (0, 0) _ hw Try.underlying47 rfl (by kernel_rfl))⟩) ?_; simp only [Act.put, List.setIfInBounds_toArray, List.set_cons_zero, List.set_cons_succ])
  (refine At.force 1 rfl (by decide) (by kernel_rfl) ?_)
  gi_wp2_with (gi_at_call 35; refine (callsIn_wide.2 (HCP.out _ HDWw1.out)).mono ?_; rintro e w2 ⟨Rw2, cw2, rfl, ho, hb⟩; have HRDw2 := Lib.hid (rdp_of_own ho HOK.out HSM.out); have HBw2 := Lib.hid (HDWw1.out.trans (hb.mono HDWw1.out.size)); clear ho hb)
  refine thenS_normal (HS.out _ HBw2.out) (fun _ => ?_)
  (refine At.force 3 rfl (by decide) (by kernel_rfl) ?_)
  gi_wp2_with (gi_at_call 37; refine (callsIn_wide.2 (HRUN.out _ _ _ HRDw2.out)).mono ?_; rintro e w3 ⟨rfl, hb⟩; have HBw3 := Lib.hid (HBw2.out.trans (hb.mono HBw2.out.size)); clear hb)
  refine thenS_normal (HS.out _ HBw3.out) (fun _ => ?_)
  (refine At.take 4 (v := .tuple #[.int .u32 (x : Int), .int .i64 er]) rfl (by decide) (by kernel_rfl) (by kernel_rfl) (HS.out _ HBw3.out) (Or.inl ⟨by rfl, fun V hw => (by go_simp)⟩) ?_; simp only [Act.put, List.setIfInBounds_toArray, List.set_cons_zero, List.set_cons_succ])
  (refine At.take 5 (v := .int .u32 (x : Int)) rfl (by decide) (by kernel_rfl) (by kernel_rfl) (HS.out _ HBw3.out) (Or.inl ⟨by rfl, fun V hw => (by go_simp)⟩) ?_; simp only [Act.put, List.setIfInBounds_toArray, List.set_cons_zero, List.set_cons_succ])
  (refine At.take 6 (v := .int .i64 er) rfl (by decide) (by kernel_rfl) (by kernel_rfl) (HS.out _ HBw3.out) (Or.inl ⟨by rfl, fun V hw => (by go_simp)⟩) ?_; simp only [Act.put, List.setIfInBounds_toArray, List.set_cons_zero, List.set_cons_succ])
  (refine At.force 7 rfl (by decide) (by kernel_rfl) ?_)
  gi_wp2
  refine thenS_normal (HS.out _ HBw3.out) (fun _ => ?_)
  refine At.tail (by kernel_rfl) ?_
  simp only [List.drop_succ_cons, List.drop_zero]
  gi_wp2
  refine NoPanic.normal ?_
  try go_wp2
  have HDWw3 := Lib.hid (HBw3.out.drew)
  refine wp_region_noPanic ?_
  refine (wpIn_wide (n := 0)).1 ?_
  (refine region_at 8 (fun V => V.heap[w.heap.size]? = some (.cells #[.int .u32 d.nr, .int .u32 d.arch, .int .u64 d.ip, .int .u64 d.a0, .int .u64 d.a1, .int .u64 d.a2, .int .u64 d.a3, .int .u64 d.a4, .int .u64 d.a5] 47 (0, 0))) (fun _ => trivial) (by kernel_rfl) (by kernel_rfl) (by kernel_rfl) (by kernel_rfl) (by kernel_rfl) (by kernel_rfl) (fun _ _ _ _ h => h) ?_)
  (refine At.take 0 (v := .slice A l.length cap) rfl (by decide) (by kernel_rfl) (by kernel_rfl) (HS.out _ HDWw3.out) (Or.inl ⟨by rfl, fun V hw => (by go_simp)⟩) ?_; simp only [Act.put, List.setIfInBounds_toArray, List.set_cons_zero, List.set_cons_succ])
  (refine At.take 2 (v := (Value.agg #[.int .u32 d.nr, .int .u32 d.arch, .int .u64 d.ip, .int .u64 d.a0, .int .u64 d.a1, .int .u64 d.a2, .int .u64 d.a3, .int .u64 d.a4, .int .u64 d.a5])) rfl (by decide) (by kernel_rfl) (by kernel_rfl) (HS.out _ HDWw3.out) (Or.inl ⟨by rfl, fun V hw => (by exact exec_load_row 47 (.tmp 3) rfl w.heap.size rfl 47 _ (0, 0) _ hw Try.underlying47 rfl (by kernel_rfl))⟩) ?_; simp only [Act.put, List.setIfInBounds_toArray, List.set_cons_zero, List.set_cons_succ])
  (refine At.force 1 rfl (by decide) (by kernel_rfl) ?_)
  gi_wp2_with (gi_at_call 35; refine (callsIn_wide.2 (HCP.out _ HDWw3.out)).mono ?_; rintro e w4 ⟨Rw4, cw4, rfl, ho, hb⟩; have HRDw4 := Lib.hid (rdp_of_own ho HOK.out HSM.out); have HBw4 := Lib.hid (HDWw3.out.trans (hb.mono HDWw3.out.size)); clear ho hb)
  refine thenS_normal (HS.out _ HBw4.out) (fun _ => ?_)
  (refine At.force 3 rfl (by decide) (by kernel_rfl) ?_)
  gi_wp2_with (gi_at_call 38; refine (callsIn_wide.2 (HTRC.out _ _ _ HRDw4.out)).mono ?_; rintro e w5 ⟨R5, c5, rfl, hrd, hb⟩; have HBw5 := Lib.hid (HBw4.out.trans (hb.mono HBw4.out.size)); have HR5 := Lib.hid hrd; clear hb hrd)
  refine thenS_normal (HS.out _ HBw5.out) (fun _ => ?_)
  (refine At.take 4 (v := .tuple #[.slice R5 L.length c5, .int .i64 er]) rfl (by decide) (by kernel_rfl) (by kernel_rfl) (HS.out _ HBw5.out) (Or.inl ⟨by rfl, fun V hw => (by go_simp)⟩) ?_; simp only [Act.put, List.setIfInBounds_toArray, List.set_cons_zero, List.set_cons_succ])
  (refine At.take 5 (v := .slice R5 L.length c5) rfl (by decide) (by kernel_rfl) (by kernel_rfl) (HS.out _ HBw5.out) (Or.inl ⟨by rfl, fun V hw => (by go_simp)⟩) ?_; simp only [Act.put, List.setIfInBounds_toArray, List.set_cons_zero, List.set_cons_succ])
  (refine At.take 6 (v := .int .i64 er) rfl (by decide) (by kernel_rfl) (by kernel_rfl) (HS.out _ HBw5.out) (Or.inl ⟨by rfl, fun V hw => (by go_simp)⟩) ?_; simp only [Act.put, List.setIfInBounds_toArray, List.set_cons_zero, List.set_cons_succ])
  (refine At.force 7 rfl (by decide) (by kernel_rfl) ?_)
  gi_wp2
  refine thenS_normal (HS.out _ HBw5.out) (fun _ => ?_)
  refine At.tail (by kernel_rfl) ?_
  simp only [List.drop_succ_cons, List.drop_zero]
  gi_wp2
  refine NoPanic.normal ?_
  have HBv5 := Lib.hid (HBW.out.trans (HBw5.out.mono HBW.out.size))
  have hn1 : ((x : Int) != (x : Int)) = false := by simp
  have hn2 : (er != er) = false := by simp
  have hn3 : ((L.length : Int) != (L.length : Int)) = false := by simp
  have HLW := Lib.hid (fun V (h : Below w5.heap.size w5 V) => HL.out.below (HBv5.out.trans (h.mono HBv5.out.size)) (Nat.le_refl _))
  go_wp2_with (first
    | (refine wpList_load_row rfl 47 (.tmp 3) rfl w.heap.size rfl 47 #[.int .u32 d.nr, .int .u32 d.arch, .int .u64 d.ip, .int .u64 d.a0, .int .u64 d.a1, .int .u64 d.a2, .int .u64 d.a3, .int .u64 d.a4, .int .u64 d.a5] (0, 0) _ (HS.out _ HBw5.out) Try.underlying47 rfl (by kernel_rfl) ?_; go_simp)
    | (go_at_call 39; refine (HRTR.out A cap _ (HLW.out _ (Below.refl _ _))).mono ?_; rintro e w6 ⟨R6, c6, rfl, hrd, hb⟩; have HB6 := Lib.hid hb; have HR6 := Lib.hid hrd; have HQ5 := Lib.hid (HR5.out.below hb (Nat.le_refl _)); clear hb hrd))
  have hs5 := HB6.out.size
  have HB7 := Lib.hid (HBv5.out.trans (HB6.out.mono HBv5.out.size))
  go_loopw [61] (fun i wr => ∃ k : Nat, k ≤ L.length ∧ i = .int .i64 k ∧ wr.heap.size = w6.heap.size ∧ wr.os = w6.os ∧ Below w6.heap.size w6 wr) (fun i _ => L.length - (intOf i).toNat)
  case atStart => exact ⟨0, Nat.zero_le _, rfl, rfl, rfl, Below.refl _ _⟩
  case round =>
    obtain ⟨k, hk, rfl, hsz, hos, hb⟩ := hrel
    by_cases hlt : k < L.length
    · have i1 : (0 : Int) ≤ (k : Int) := by omega
      have i2 : (k : Int) < (L.length : Int) := by omega
      have hzk := HTO.out _ (List.getElem_mem hlt)
      obtain ⟨b5, o5, rfl, hb5, ha5⟩ := (HQ5.out.below hb (Nat.le_refl _)).get hlt
      obtain ⟨b6, o6, rfl, hb6, ha6⟩ := (HR6.out.below hb (Nat.le_refl _)).get hlt
      have hr5 : wr.rangeAt b5 (o5 + k * 19) (EV.enc L[k]) := fun j v hv => ha5 k hlt j v hv
      have hr6 : wr.rangeAt b6 (o6 + k * 19) (EV.enc L[k]) := fun j v hv => ha6 k hlt j v hv
      generalize L[k] = z at *
      have hne := neq_vm z.1 z.2 hzk
      have HX := Lib.hid (And.intro hr5 hr6)
      have HZK := Lib.hid hzk
      have HNE := Lib.hid hne
      have HSZ := Lib.hid (And.intro hsz hos)
      have HBR := Lib.hid hb
      clear hr5 hr6 ha5 ha6 hzk hne hsz hos hb hk
      go_wp2
      refine wp_region_noPanic ?_
      refine (wpIn_wide (n := 0)).1 ?_
      (refine region_at 8 (fun V => V.rangeAt b5 (o5 + k * 19) (EV.enc z) ∧ V.rangeAt b6 (o6 + k * 19) (EV.enc z)) (fun _ => trivial) (by kernel_rfl) (by kernel_rfl) (by kernel_rfl) (by kernel_rfl) (by kernel_rfl) (by kernel_rfl) (fun _ _ _ _ h => h) ?_)
      have HDR := Lib.hid (show wr.drew.rangeAt b5 (o5 + k * 19) (EV.enc z) ∧ wr.drew.rangeAt b6 (o6 + k * 19) (EV.enc z) from ⟨(World.rangeAt_drew _ _ _ _).2 HX.out.1, (World.rangeAt_drew _ _ _ _).2 HX.out.2⟩)
      (refine At.take 0 (v := .slice (some ⟨b5, o5, none⟩) L.length c5) rfl (by decide) (by kernel_rfl) (by kernel_rfl) (HDR.out) (Or.inl ⟨by rfl, fun V hw => (by go_simp)⟩) ?_; simp only [Act.put, List.setIfInBounds_toArray, List.set_cons_zero, List.set_cons_succ])
      (refine At.take 1 (v := .int .i64 (k : Int)) rfl (by decide) (by kernel_rfl) (by kernel_rfl) (HDR.out) (Or.inl ⟨by rfl, fun V hw => (by go_simp)⟩) ?_; simp only [Act.put, List.setIfInBounds_toArray, List.set_cons_zero, List.set_cons_succ])
      (refine At.take 2 (v := .pointer (some ⟨b5, o5 + k * 19, none⟩)) rfl (by decide) (by kernel_rfl) (by kernel_rfl) (HDR.out) (Or.inl ⟨by rfl, fun V hw => (by go_simp)⟩) ?_; simp only [Act.put, List.setIfInBounds_toArray, List.set_cons_zero, List.set_cons_succ])
      (refine At.take 3 (v := .agg (vmA z.1 z.2)) rfl (by decide) (by kernel_rfl) (by kernel_rfl) (HDR.out) (Or.inl ⟨by rfl, fun V hw => (by exact exec_load_vm (.tmp 66) rfl b5 (o5 + k * 19) rfl z HZK.out hw.1)⟩) ?_; simp only [Act.put, List.setIfInBounds_toArray, List.set_cons_zero, List.set_cons_succ])
      (refine At.take 4 (v := .slice (some ⟨b6, o6, none⟩) L.length c6) rfl (by decide) (by kernel_rfl) (by kernel_rfl) (HDR.out) (Or.inl ⟨by rfl, fun V hw => (by go_simp)⟩) ?_; simp only [Act.put, List.setIfInBounds_toArray, List.set_cons_zero, List.set_cons_succ])
      (refine At.take 5 (v := .int .i64 (k : Int)) rfl (by decide) (by kernel_rfl) (by kernel_rfl) (HDR.out) (Or.inl ⟨by rfl, fun V hw => (by go_simp)⟩) ?_; simp only [Act.put, List.setIfInBounds_toArray, List.set_cons_zero, List.set_cons_succ])
      (refine At.take 6 (v := .pointer (some ⟨b6, o6 + k * 19, none⟩)) rfl (by decide) (by kernel_rfl) (by kernel_rfl) (HDR.out) (Or.inl ⟨by rfl, fun V hw => (by go_simp)⟩) ?_; simp only [Act.put, List.setIfInBounds_toArray, List.set_cons_zero, List.set_cons_succ])
      (refine At.take 7 (v := .agg (vmA z.1 z.2)) rfl (by decide) (by kernel_rfl) (by kernel_rfl) (HDR.out) (Or.inl ⟨by rfl, fun V hw => (by exact exec_load_vm (.tmp 70) rfl b6 (o6 + k * 19) rfl z HZK.out hw.2)⟩) ?_; simp only [Act.put, List.setIfInBounds_toArray, List.set_cons_zero, List.set_cons_succ])
      refine At.tail (by kernel_rfl) ?_
      simp only [List.drop_succ_cons, List.drop_zero]
      have hne := HNE.out
      gi_wp2
      refine NoPanic.normal ?_
      go_wp2
      refine ⟨⟨k + 1, by omega, by go_num, by simpa using HSZ.out.1, HSZ.out.2, HBR.out.drew⟩, ?_⟩
      simp [intOf]; omega
    · have hk' : k = L.length := by omega
      subst hk'
      go_wp2
      exact ⟨rfl, .bool true, by simp [results, go_sem], rfl, HB7.out.trans (hb.mono HB7.out.size)⟩
end Go.Proofs.Ytfjbanfibmpalaa

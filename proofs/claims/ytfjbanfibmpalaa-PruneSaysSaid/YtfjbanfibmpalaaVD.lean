/- VD -/
import Derived.Test.YtfjbanfibmpalaaK60
import Derived.Test.YtfjbanfibmpalaaKE
import Derived.Test.YtfjbanfibmpalaaKF
import Derived.Deep.RegionHeld3

/- Contracts: the machine's step, whole. -/
set_option linter.unusedVariables false
set_option linter.unusedSimpArgs false
namespace Go.Proofs.Ytfjbanfibmpalaa
open Go.RowKit Go.Shelf

/-- Scratch words that there are. -/
def MemOk (y : Insn) : Prop := (y.code % 8 = 0 ∨ y.code % 8 = 1 → y.code / 32 % 8 = 3 → y.k < 16) ∧ (y.code % 8 = 2 ∨ y.code % 8 = 3 → y.k < 16)

theorem step_any (y : Insn) (hy : y.Ok) (d : Dt) (hd : d.Ok) (pc : Int) (hp1 : 0 ≤ pc) (hp2 : pc ≤ 1000000) (r : Rg) (hr : r.Ok) (hm : MemOk y) (w : World) :
    Calls Try.prog 68 #[(Value.agg #[.int .u16 y.code, .int .u8 y.jt, .int .u8 y.jf, .int .u32 y.k]), (Value.agg #[.int .u32 d.nr, .int .u32 d.arch, .int .u64 d.ip, .int .u64 d.a0, .int .u64 d.a1, .int .u64 d.a2, .int .u64 d.a3, .int .u64 d.a4, .int .u64 d.a5]), .agg (vmA pc r)] w fun e w' => e = .returned (stepV y (datL d) pc r) ∧ Below w.heap.size w w' := by
  have h8 : y.code % 8 < 8 := Nat.mod_lt _ (by decide)
  have hs : y.code / 8 % 2 = 0 ∨ y.code / 8 % 2 = 1 := by omega
  have h16 : y.code / 16 % 2 = 0 ∨ y.code / 16 % 2 = 1 := by omega
  have h128 : y.code / 128 % 2 = 0 ∨ y.code / 128 % 2 = 1 := by omega
  rcases (show y.code % 8 = 0 ∨ y.code % 8 = 1 ∨ y.code % 8 = 2 ∨ y.code % 8 = 3 ∨ y.code % 8 = 4 ∨ y.code % 8 = 5 ∨ y.code % 8 = 6 ∨ y.code % 8 = 7 by omega) with hc | hc | hc | hc | hc | hc | hc | hc
  · exact step_0 y hy d hd pc hp1 hp2 r hr hc (hm.1 (.inl hc)) w
  · exact step_1 y hy d hd pc hp1 hp2 r hr hc (hm.1 (.inr hc)) w
  · exact step_2 y hy d hd pc hp1 hp2 r hr hc (hm.2 (.inl hc)) w
  · exact step_3 y hy d hd pc hp1 hp2 r hr hc (hm.2 (.inr hc)) w
  · rcases hs with hs | hs <;> cases hok : (aluL (y.code / 16 % 16) r.a (otherL y r)).2
    · exact step_400 y hy d hd pc hp1 hp2 r hr hc hs hok w
    · exact step_401 y hy d hd pc hp1 hp2 r hr hc hs hok w
    · exact step_410 y hy d hd pc hp1 hp2 r hr hc hs hok w
    · exact step_411 y hy d hd pc hp1 hp2 r hr hc hs hok w
  · by_cases hj : y.code / 16 % 16 = 0
    · exact step_5j y hy d hd pc hp1 hp2 r hr hc hj w
    · rcases hs with hs | hs <;> cases hh : holdsL (y.code / 16 % 16) r.a (otherL y r)
      · exact step_500 y hy d hd pc hp1 hp2 r hr hc hj hs hh w
      · exact step_501 y hy d hd pc hp1 hp2 r hr hc hj hs hh w
      · exact step_510 y hy d hd pc hp1 hp2 r hr hc hj hs hh w
      · exact step_511 y hy d hd pc hp1 hp2 r hr hc hj hs hh w
  · rcases h16 with hb | hb
    · exact step_6k y hy d hd pc hp1 hp2 r hr hc hb w
    · exact step_6a y hy d hd pc hp1 hp2 r hr hc hb w
  · rcases h128 with hb | hb
    · exact step_70 y hy d hd pc hp1 hp2 r hr hc hb w
    · exact step_71 y hy d hd pc hp1 hp2 r hr hc hb w

theorem effL_ok {y : Insn} (hy : y.Ok) {d : Nat → Nat} (hd : ∀ k, d k < 4294967296) {r : Rg} (hr : r.Ok) : (effL y d r).Ok := by
  unfold effL
  repeat' split
  · exact hr.setA (loadL_lt hy hd hr)
  · exact hr.setX (loadL_lt hy hd hr)
  · exact hr.setM _ hr.a
  · exact hr.setM _ hr.x
  · exact hr.setA (aluL_lt hr.a (otherL_lt hy hr))
  · exact hr.setA hr.x
  · exact hr.setX hr.a
  · exact hr
end Go.Proofs.Ytfjbanfibmpalaa

/- Contracts: the machine's runs, told one behind the other. -/
set_option linter.unusedVariables false
set_option linter.unusedSimpArgs false
namespace Go.Proofs.Ytfjbanfibmpalaa
open Go.RowKit Go.Shelf
attribute [local go_sem] Oper.semAt_some

/-- The machines ahead of each step, and what is returned then. -/
def runsF (l : List Insn) (dd : Nat → Nat) : Nat → Nat → Rg → List (Array Value)
  | 0, _, _ => []
  | f + 1, pc, r => #[.agg (vmA pc r), .int .u32 (((endsL (ins l pc) r).getD 0 : Nat) : Int)] :: match endsL (ins l pc) r with
    | some _ => []
    | none => runsF l dd f (pc + 1 + offL (ins l pc) r) (effL (ins l pc) dd r)
def runsL (l : List Insn) (dd : Nat → Nat) : List (Array Value) := runsF l dd l.length 0 rg0

theorem runs_any (A : Option Addr) (cap n : Nat) (d : Dt) (w : World) :
    Calls Try.prog 72 #[.slice A n cap, (Value.agg #[.int .u32 d.nr, .int .u32 d.arch, .int .u64 d.ip, .int .u64 d.a0, .int .u64 d.a1, .int .u64 d.a2, .int .u64 d.a3, .int .u64 d.a4, .int .u64 d.a5])] w fun e w' => e = .returned (.func (.func 122) #[] #[.pointer (some ⟨w.heap.size, 0, none⟩), .pointer (some ⟨w.heap.size + 1, 0, none⟩)]) ∧
      (w.alloc (.cells #[.slice A n cap] 24)).alloc (.cells #[.int .u32 d.nr, .int .u32 d.arch, .int .u64 d.ip, .int .u64 d.a0, .int .u64 d.a1, .int .u64 d.a2, .int .u64 d.a3, .int .u64 d.a4, .int .u64 d.a5] 47) = w' := by
  go_enter Try.func72, Try.ntmps72
  go_wp2
  go_ret
  exact ⟨rfl, rfl⟩

theorem mem_form {c : Nat} (h : 0 ≤ form c) : ((c % 8 = 2 ∨ c % 8 = 3) → form c = 3) ∧ ((c % 8 = 0 ∨ c % 8 = 1) → c / 32 % 8 = 3 → form c = 3) := by
  have hc := (code_facts h).1
  have : ∀ c : Fin 256, 0 ≤ form c.val → ((c.val % 8 = 2 ∨ c.val % 8 = 3) → form c.val = 3) ∧ ((c.val % 8 = 0 ∨ c.val % 8 = 1) → c.val / 32 % 8 = 3 → form c.val = 3) := by decide +kernel
  exact this ⟨c, hc⟩ h
theorem one_mem {x : Insn} {i n : Nat} (h : one x i n = 0) (hf : form x.code = 3) : x.k < 16 := by
  unfold one at h
  by_cases hk : 16 ≤ x.k
  · rw [if_neg (by omega)] at h
    split at h
    · omega
    · split at h
      · omega
      · split at h
        · omega
        · rw [if_pos ⟨hf, hk⟩] at h; omega
  · omega
theorem Good.memOk {l : List Insn} (h : Good l) {i : Nat} (hi : i < l.length) : MemOk (ins l i) := by
  have hf := h.form hi
  have := mem_form hf
  exact ⟨fun a b => one_mem (h.one hi) (this.2 a b), fun a => one_mem (h.one hi) (this.1 a)⟩
end Go.Proofs.Ytfjbanfibmpalaa

/- Contracts: what the machine's runs tell. -/
set_option linter.unusedVariables false
set_option linter.unusedSimpArgs false
namespace Go.Proofs.Ytfjbanfibmpalaa
open Go.RowKit Go.Shelf
attribute [local go_sem] Oper.semAt_some

theorem enters_runs (args : Array Value) (w : World) : (callFunc 122 args).run Try.prog w = .ok (.enter 122 args) w := enters_of Try.func122 (by kernel_rfl) rfl args w

theorem StepT.row {T : Nat → Prop} (W : World) (g : Nat) (cs : Array Value) (h : T g) : StepT T W (W.setRow g cs) :=
  ⟨rfl, rfl, rfl, by simp, fun k _ hn => setRow_other _ _ _ _ (fun e => by (first | exact hn (e ▸ h) | exact hn (e.symm ▸ h)))⟩
theorem kpq_row {Q : Nat → Prop} (W : World) (g : Nat) (cs : Array Value) (h : ¬ Q g) : KpQ Q W (W.setRow g cs) :=
  ⟨rfl, rfl, rfl, by simp, fun k hk _ => setRow_other _ _ _ _ (fun e => by (first | exact h (e ▸ hk) | exact h (e.symm ▸ hk)))⟩

theorem stepV_form (y : Insn) (hy : y.Ok) (dd : Nat → Nat) (hd : ∀ k, dd k < 4294967296) (pc : Int) (r : Rg) (hr : r.Ok) : ∃ (q : Int) (s : Rg) (v : Nat) (b : Bool),
    stepV y dd pc r = .tuple #[.agg (vmA q s), .int .u32 (v : Int), .bool b] ∧ s.Ok ∧ (endsL y r).getD 0 = v ∧ (b = true → endsL y r = some v) ∧ (b = false → endsL y r = none ∧ q = pc + 1 + offL y r ∧ s = effL y dd r) := by
  cases he : endsL y r with
  | some v => exact ⟨pc, r, v, true, by unfold stepV; rw [he], hr, rfl, fun _ => rfl, (fun h => by cases h)⟩
  | none => exact ⟨_, _, 0, false, by unfold stepV; rw [he]; rfl, effL_ok hy hd hr, rfl, (fun h => by cases h), fun _ => ⟨rfl, rfl, rfl⟩⟩

theorem runsL_at {l : List Insn} {dd : Nat → Nat} {k pc : Nat} {r : Rg} (h : (runsL l dd).drop k = runsF l dd (l.length - k) pc r) (hk : k < l.length) :
    ∃ hlt : k < (runsL l dd).length, (runsL l dd)[k] = #[.agg (vmA pc r), .int .u32 (((endsL (ins l pc) r).getD 0 : Nat) : Int)] ∧
      (∀ v, endsL (ins l pc) r = some v → (runsL l dd).length = k + 1) ∧
      (endsL (ins l pc) r = none → (runsL l dd).drop (k + 1) = runsF l dd (l.length - (k + 1)) (pc + 1 + offL (ins l pc) r) (effL (ins l pc) dd r)) := by
  obtain ⟨m, hm⟩ : ∃ m, l.length - k = m + 1 := ⟨l.length - k - 1, by omega⟩
  rw [hm] at h
  unfold runsF at h
  have hlt : k < (runsL l dd).length := by
    rcases Nat.lt_or_ge k (runsL l dd).length with q | q
    · exact q
    · rw [List.drop_of_length_le q] at h; cases h
  rw [List.drop_eq_getElem_cons hlt] at h
  injection h with h1 h2
  refine ⟨hlt, h1, fun v hv => ?_, fun he => ?_⟩
  · rw [hv] at h2
    have := List.drop_eq_nil_iff.1 h2
    omega
  · rw [he] at h2
    rw [show l.length - (k + 1) = m by omega]
    exact h2

set_option maxRecDepth 100000 in
set_option maxHeartbeats 1000000 in
theorem runs_iter (A : Option Addr) (cap : Nat) (l : List Insn) (d : Dt) (hd : d.Ok) (P1 P2 z0 n0 : Nat) (w0 : World) (hl : RdP w0 A l) (hg : Good l) (hP1 : P1 < n0) (hP2 : P2 < n0) (hz : z0 ≤ n0) (hb0 : ∀ b o, A = some ⟨b, o, none⟩ → b < z0)
    (h1 : w0.heap[P1]? = some (.cells #[.slice A l.length cap] 24 (0, 0))) (h2 : w0.heap[P2]? = some (.cells #[.int .u32 d.nr, .int .u32 d.arch, .int .u64 d.ip, .int .u64 d.a0, .int .u64 d.a1, .int .u64 d.a2, .int .u64 d.a3, .int .u64 d.a4, .int .u64 d.a5] 47 (0, 0))) :
    IterT Try.prog 122 #[.pointer (some ⟨P1, 0, none⟩), .pointer (some ⟨P2, 0, none⟩)] (runsL l (datL d)) (fun k => k < z0 ∨ k = P1 ∨ k = P2) n0 w0 := by
  intro y W P0 J hW hn0 hQ1 hQ2 hJ hY hJ0
  have hlen := hg.len
  obtain ⟨b, o, rfl, hb, _⟩ := hl.get (i := 0) (by omega)
  have hbz := hb0 b o rfl
  have hbn : b < n0 := by omega
  have HG := Lib.hid hg
  have HDd := Lib.hid hd
  have H1 := Lib.hid ((hW.block P1 hP1).trans h1)
  have H2 := Lib.hid ((hW.block P2 hP2).trans h2)
  have HL : Hid (RdP W (some ⟨b, o, none⟩) l) := Lib.hid ⟨hl.small, hl.ok, fun hn => by
    obtain ⟨b', o', e, hlt, hc⟩ := hl.at_ hn
    cases e
    exact ⟨b, o, rfl, by omega, fun i hi => (hc i hi).keep fun o => hW.cell (p := ⟨b, o, none⟩) hbn⟩⟩
  clear hl hg hd hb0 h1 h2
  have HY := Lib.hid hY
  have HQ := Lib.hid (And.intro hQ1 hQ2)
  have HJJ := Lib.hid hJ
  have HJ0 := Lib.hid hJ0
  clear hY hJ hQ1 hQ2 hW hJ0
  have p1 : W.cell? ⟨P1, 0, none⟩ = some (.slice (some ⟨b, o, none⟩) l.length cap) := cell_of_row _ _ _ _ _ _ H1.out
  have hwf : ∀ k, Fence.wide.fn k := fun _ => trivial
  have hwd : Fence.wide.depth = none := rfl
  have z1 : P1 < W.heap.size := by omega
  refine callsIn_of_wp Try.func122 rfl trivial ?_ rfl
  simp only [Try.ntmps122, List.size_toArray, List.length_cons, List.length_nil, Nat.reduceAdd, Nat.reduceSub, Array.replicate_succ, Array.replicate_zero, List.push_toArray, List.append_toArray, List.nil_append, List.cons_append]
  gi_wp2
  obtain ⟨w1, hw1⟩ : ∃ w1, W.alloc (.cells #[.int .i64 0, .int .u32 0, .int .u32 0, .int .u32 0, .int .u32 0, .int .u32 0, .int .u32 0, .int .u32 0, .int .u32 0, .int .u32 0, .int .u32 0, .int .u32 0, .int .u32 0, .int .u32 0, .int .u32 0, .int .u32 0, .int .u32 0, .int .u32 0, .int .u32 0] 50) = w1 := ⟨_, rfl⟩
  rw [hw1]
  have hs1 : w1.heap.size = W.heap.size + 1 := by rw [← hw1]; simp
  have hB1 : Below W.heap.size W w1 := by rw [← hw1]; (repeat (first | with_reducible exact Below.refl _ _ | with_reducible assumption | ((with_reducible refine Below.setCell ?_ ?hp _); case hp => (first | omega | (simp only [World.size_alloc, World.size_setCell, World.size_drew]; omega) | (simp; done) | (simp; omega))) | ((with_reducible refine Below.alloc ?_ ?hp _); case hp => (first | omega | (simp only [World.size_alloc, World.size_setCell, World.size_drew]; omega) | (simp; done) | (simp; omega))) | with_reducible refine Below.drew ?_ | with_reducible refine below_drewN ?_ _))
  have hm1 : w1.heap[W.heap.size]? = some (.cells (vmA 0 rg0) 50 (0, 0)) := by rw [← hw1]; exact heap_alloc_new W _
  clear hw1
  have HB1 := Lib.hid hB1
  have HM1 := Lib.hid hm1
  have HJ1 := Lib.hid (HQ.out.2 (fun k => k = W.heap.size) w1 (HQ.out.1 _ _ HJ0.out hB1) (fun k hk => by subst hk; omega) (by omega))
  clear hB1 hm1
  gi_loopw [5, 6, 7, 10] (fun t5 t6 t7 i wr => ∃ (k pc : Nat) (r : Rg) (T : Nat → Prop), k ≤ l.length ∧ i = .int .i64 k ∧ pc < l.length ∧ r.Ok ∧ k ≤ (runsL l (datL d)).length ∧ (runsL l (datL d)).drop k = runsF l (datL d) (l.length - k) pc r ∧
    wr.heap[W.heap.size]? = some (.cells (vmA pc r) 50 (0, 0)) ∧ T W.heap.size ∧ (∀ k, T k → W.heap.size ≤ k ∧ k < wr.heap.size) ∧ J T k wr ∧ KpQ (fun k => k < z0 ∨ k = P1 ∨ k = P2) w1 wr) (fun _ _ _ i _ => l.length - (intOf i).toNat)
  case atStart => exact ⟨0, 0, rg0, (fun k => k = W.heap.size), by omega, rfl, by omega, rg0_ok, by omega, rfl, HM1.out, rfl, (fun k hk => by subst hk; omega), HJ1.out, KpQ.refl _ _⟩
  case round =>
    obtain ⟨k, pc, r, T, hk, rfl, hpc, hr, hkr, hdrop, hm, hT0, hT, hj, hkp⟩ := hrel
    have HR := Lib.hid hr
    have HM := Lib.hid hm
    have HT := Lib.hid (And.intro hT0 hT)
    have HJK := Lib.hid hj
    have HKP := Lib.hid hkp
    have HDR := Lib.hid hdrop
    have hDw := (Array.getElem?_eq_some_iff.1 hm).1
    have hP1 : wr.heap[P1]? = some (.cells #[.slice (some ⟨b, o, none⟩) l.length cap] 24 (0, 0)) := (hkp.block P1 (.inr (.inl rfl)) (by omega)).trans ((HB1.out.block P1 z1).trans H1.out)
    have hP2 : wr.heap[P2]? = some (.cells #[.int .u32 d.nr, .int .u32 d.arch, .int .u64 d.ip, .int .u64 d.a0, .int .u64 d.a1, .int .u64 d.a2, .int .u64 d.a3, .int .u64 d.a4, .int .u64 d.a5] 47 (0, 0)) := (hkp.block P2 (.inr (.inr rfl)) (by omega)).trans ((HB1.out.block P2 (by omega)).trans H2.out)
    have HP1 := Lib.hid hP1
    have HP2 := Lib.hid hP2
    clear hr hm hT0 hT hj hkp hdrop hP1 hP2 HJ1
    by_cases hlt : k < l.length
    · have hyc : ∀ j (h : j < l.length), IAt wr b (o + j * 4) (l[j]'h) := fun j h => by
        obtain ⟨b', o', e, _, hc⟩ := HL.out.get h
        cases e
        exact (hc j h).keep (fun o => (World.cell?_of_block (w := w1) (HKP.out.block b (.inl hbz) (by omega))).trans (HB1.out.cell (p := ⟨b, o, none⟩) (by show b < W.heap.size; omega)))
      obtain ⟨x0, x1, x2, x3⟩ := hyc pc hpc
      have HST := Lib.hid (fun V => step_any (ins l pc) (HG.out.okAt hpc) d HDd.out (pc : Int) (by omega) (by omega) r HR.out (HG.out.memOk hpc) V)
      have HEQ := Lib.hid (show l[pc] = ins l pc from (at_get l pc hpc).symm)
      have HYO := Lib.hid (HG.out.okAt hpc)
      have HGS := Lib.hid (fun (e : endsL (ins l pc) r = none) => HG.out.step hpc e)
      rw [HEQ.out] at x0 x1 x2 x3
      generalize hyy : ins l pc = y at *
      have i1 : (0 : Int) ≤ (pc : Int) := by omega
      have i2 : (pc : Int) < (l.length : Int) := by omega
      gi_wp2
      have HS := Lib.hid (fun V (h : Below wr.heap.size wr V) => (show V.cell? ⟨P1, 0, none⟩ = some (.slice (some ⟨b, o, none⟩) l.length cap) ∧ V.cell? ⟨W.heap.size, 0, none⟩ = some (.int .i64 pc) ∧ V.cell? ⟨b, o + pc * 4, none⟩ = some (.int .u16 y.code) ∧ V.cell? ⟨b, o + pc * 4 + 1, none⟩ = some (.int .u8 y.jt) ∧ V.cell? ⟨b, o + pc * 4 + 2, none⟩ = some (.int .u8 y.jf) ∧ V.cell? ⟨b, o + pc * 4 + 3, none⟩ = some (.int .u32 y.k) ∧ V.heap[P2]? = some (.cells #[.int .u32 d.nr, .int .u32 d.arch, .int .u64 d.ip, .int .u64 d.a0, .int .u64 d.a1, .int .u64 d.a2, .int .u64 d.a3, .int .u64 d.a4, .int .u64 d.a5] 47 (0, 0)) ∧ V.heap[W.heap.size]? = some (.cells (vmA pc r) 50 (0, 0)) from
        ⟨(h.cell (p := ⟨P1, 0, none⟩) (by show P1 < _; omega)).trans (cell_of_row _ _ _ _ _ _ HP1.out), (cell_of_row _ _ _ _ _ _ ((h.block _ hDw).trans HM.out)).trans (vmA_0 _ _), (h.cell (p := ⟨b, _, none⟩) (by show b < _; omega)).trans x0, (h.cell (p := ⟨b, _, none⟩) (by show b < _; omega)).trans x1, (h.cell (p := ⟨b, _, none⟩) (by show b < _; omega)).trans x2, (h.cell (p := ⟨b, _, none⟩) (by show b < _; omega)).trans x3, (h.block _ (by omega)).trans HP2.out, (h.block _ hDw).trans HM.out⟩))
      have HD := Lib.hid (HS.out wr.drew (by (repeat (first | with_reducible exact Below.refl _ _ | with_reducible assumption | ((with_reducible refine Below.setCell ?_ ?hp _); case hp => (first | omega | (simp only [World.size_alloc, World.size_setCell, World.size_drew]; omega) | (simp; done) | (simp; omega))) | ((with_reducible refine Below.alloc ?_ ?hp _); case hp => (first | omega | (simp only [World.size_alloc, World.size_setCell, World.size_drew]; omega) | (simp; done) | (simp; omega))) | with_reducible refine Below.drew ?_ | with_reducible refine below_drewN ?_ _))))
      refine wpIn_wide.2 ?_
      refine wp_region_noPanic ?_
      refine (wpIn_wide (n := 0)).1 ?_
      (refine region_at 15 (fun V => V.cell? ⟨P1, 0, none⟩ = some (.slice (some ⟨b, o, none⟩) l.length cap) ∧ V.cell? ⟨W.heap.size, 0, none⟩ = some (.int .i64 pc) ∧ V.cell? ⟨b, o + pc * 4, none⟩ = some (.int .u16 y.code) ∧ V.cell? ⟨b, o + pc * 4 + 1, none⟩ = some (.int .u8 y.jt) ∧ V.cell? ⟨b, o + pc * 4 + 2, none⟩ = some (.int .u8 y.jf) ∧ V.cell? ⟨b, o + pc * 4 + 3, none⟩ = some (.int .u32 y.k) ∧ V.heap[P2]? = some (.cells #[.int .u32 d.nr, .int .u32 d.arch, .int .u64 d.ip, .int .u64 d.a0, .int .u64 d.a1, .int .u64 d.a2, .int .u64 d.a3, .int .u64 d.a4, .int .u64 d.a5] 47 (0, 0)) ∧ V.heap[W.heap.size]? = some (.cells (vmA pc r) 50 (0, 0))) (fun _ => trivial) (by kernel_rfl) (by kernel_rfl) (by kernel_rfl) (by kernel_rfl) (by kernel_rfl) (by kernel_rfl) (fun _ _ _ _ h => h) ?_)
      (refine At.take 0 (v := .slice (some ⟨b, o, none⟩) l.length cap) rfl (by decide) (by kernel_rfl) (by kernel_rfl) HD.out (Or.inl ⟨by rfl, fun w hw => (by (repeat (obtain ⟨hw0, hw⟩ := hw)); go_simp; try (simp (disch := omega) only [IntWalk.i64_in, IntWalk.u8_in, IntWalk.u16_in, IntWalk.u32_in, IntWalk.u64_in]); try omega)⟩) ?_; simp only [Act.put, List.setIfInBounds_toArray, List.set_cons_zero, List.set_cons_succ])
      (refine At.take 1 (v := .pointer (some ⟨W.heap.size, 0, none⟩)) rfl (by decide) (by kernel_rfl) (by kernel_rfl) HD.out (Or.inl ⟨by rfl, fun w hw => (by (repeat (obtain ⟨hw0, hw⟩ := hw)); go_simp; try (simp (disch := omega) only [IntWalk.i64_in, IntWalk.u8_in, IntWalk.u16_in, IntWalk.u32_in, IntWalk.u64_in]); try omega)⟩) ?_; simp only [Act.put, List.setIfInBounds_toArray, List.set_cons_zero, List.set_cons_succ])
      (refine At.take 2 (v := .int .i64 pc) rfl (by decide) (by kernel_rfl) (by kernel_rfl) HD.out (Or.inl ⟨by rfl, fun w hw => (by (repeat (obtain ⟨hw0, hw⟩ := hw)); go_simp; try (simp (disch := omega) only [IntWalk.i64_in, IntWalk.u8_in, IntWalk.u16_in, IntWalk.u32_in, IntWalk.u64_in]); try omega)⟩) ?_; simp only [Act.put, List.setIfInBounds_toArray, List.set_cons_zero, List.set_cons_succ])
      (refine At.take 3 (v := .pointer (some ⟨b, o + pc * 4, none⟩)) rfl (by decide) (by kernel_rfl) (by kernel_rfl) HD.out (Or.inl ⟨by rfl, fun w hw => (by (repeat (obtain ⟨hw0, hw⟩ := hw)); go_simp; try (simp (disch := omega) only [IntWalk.i64_in, IntWalk.u8_in, IntWalk.u16_in, IntWalk.u32_in, IntWalk.u64_in]); try omega)⟩) ?_; simp only [Act.put, List.setIfInBounds_toArray, List.set_cons_zero, List.set_cons_succ])
      (refine At.take 4 (v := (Value.agg #[.int .u16 y.code, .int .u8 y.jt, .int .u8 y.jf, .int .u32 y.k])) rfl (by decide) (by kernel_rfl) (by kernel_rfl) HD.out (Or.inl ⟨by rfl, fun w hw => (by (repeat (obtain ⟨hw0, hw⟩ := hw)); go_simp)⟩) ?_; simp only [Act.put, List.setIfInBounds_toArray, List.set_cons_zero, List.set_cons_succ])
      (refine At.take 5 (v := (Value.agg #[.int .u32 d.nr, .int .u32 d.arch, .int .u64 d.ip, .int .u64 d.a0, .int .u64 d.a1, .int .u64 d.a2, .int .u64 d.a3, .int .u64 d.a4, .int .u64 d.a5])) rfl (by decide) (by kernel_rfl) (by kernel_rfl) HD.out (Or.inl ⟨by rfl, fun w hw => (by exact exec_load_row 47 (.tmp 2) rfl P2 rfl 47 _ (0, 0) _ hw.2.2.2.2.2.2.1 Try.underlying47 rfl (by kernel_rfl))⟩) ?_; simp only [Act.put, List.setIfInBounds_toArray, List.set_cons_zero, List.set_cons_succ])
      (refine At.take 6 (v := .agg (vmA pc r)) rfl (by decide) (by kernel_rfl) (by kernel_rfl) HD.out (Or.inl ⟨by rfl, fun w hw => (by exact exec_load_row 50 (.tmp 4) rfl W.heap.size rfl 50 _ (0, 0) _ hw.2.2.2.2.2.2.2 Try.underlying50 rfl (info_vm _ _ HR.out))⟩) ?_; simp only [Act.put, List.setIfInBounds_toArray, List.set_cons_zero, List.set_cons_succ])
      obtain ⟨q, s, v, bb, hsv, hs, hgv, hbt, hbf⟩ := stepV_form y HYO.out (datL d) (fun k => datL_lt HDd.out k) (pc : Int) r HR.out
      have HSV := Lib.hid hsv
      have HSO := Lib.hid hs
      have HEV := Lib.hid (And.intro hgv (And.intro hbt hbf))
      clear hsv hs hgv hbt hbf
      refine At.branch2 7 12 rfl rfl (by decide) (by decide) (by kernel_rfl) ?_ ?_
      · gi_wp2_with (gi_at_call 68; refine (callsIn_wide.2 (HST.out _)).mono ?_; rw [HSV.out]; rintro e w2 ⟨rfl, hb2⟩; have HB2 := Lib.hid (Below.trans (show Below wr.heap.size wr wr.drew by (repeat (first | with_reducible exact Below.refl _ _ | with_reducible assumption | ((with_reducible refine Below.setCell ?_ ?hp _); case hp => (first | omega | (simp only [World.size_alloc, World.size_setCell, World.size_drew]; omega) | (simp; done) | (simp; omega))) | ((with_reducible refine Below.alloc ?_ ?hp _); case hp => (first | omega | (simp only [World.size_alloc, World.size_setCell, World.size_drew]; omega) | (simp; done) | (simp; omega))) | with_reducible refine Below.drew ?_ | with_reducible refine below_drewN ?_ _))) (hb2.mono (by (first | omega | (simp only [World.size_alloc, World.size_setCell, World.size_drew]; omega) | (simp; done) | (simp; omega))))); clear hb2)
        refine thenS_normal (HS.out _ HB2.out) (fun _ => ?_)
        (refine At.take 8 (v := .tuple #[.agg (vmA q s), .int .u32 (v : Int), .bool bb]) rfl (by decide) (by kernel_rfl) (by kernel_rfl) (HS.out _ HB2.out) (Or.inl ⟨by rfl, fun w hw => (by go_simp)⟩) ?_; simp only [Act.put, List.setIfInBounds_toArray, List.set_cons_zero, List.set_cons_succ])
        (refine At.take 9 (v := .agg (vmA q s)) rfl (by decide) (by kernel_rfl) (by kernel_rfl) (HS.out _ HB2.out) (Or.inl ⟨by rfl, fun w hw => (by go_simp)⟩) ?_; simp only [Act.put, List.setIfInBounds_toArray, List.set_cons_zero, List.set_cons_succ])
        (refine At.take 10 (v := .int .u32 (v : Int)) rfl (by decide) (by kernel_rfl) (by kernel_rfl) (HS.out _ HB2.out) (Or.inl ⟨by rfl, fun w hw => (by go_simp)⟩) ?_; simp only [Act.put, List.setIfInBounds_toArray, List.set_cons_zero, List.set_cons_succ])
        (refine At.take 11 (v := .bool bb) rfl (by decide) (by kernel_rfl) (by kernel_rfl) (HS.out _ HB2.out) (Or.inl ⟨by rfl, fun w hw => (by go_simp)⟩) ?_; simp only [Act.put, List.setIfInBounds_toArray, List.set_cons_zero, List.set_cons_succ])
        (refine At.force 12 rfl (by decide) (by kernel_rfl) ?_)
        gi_wp2
        obtain ⟨V0, hV0⟩ : ∃ V0, w2.alloc (.cells #[.int .i64 0, .int .u32 0, .int .u32 0, .int .u32 0, .int .u32 0, .int .u32 0, .int .u32 0, .int .u32 0, .int .u32 0, .int .u32 0, .int .u32 0, .int .u32 0, .int .u32 0, .int .u32 0, .int .u32 0, .int .u32 0, .int .u32 0, .int .u32 0, .int .u32 0] 50) = V0 := ⟨_, rfl⟩
        have HR0 := Lib.hid (show V0.heap[w2.heap.size]? = some (.cells #[.int .i64 0, .int .u32 0, .int .u32 0, .int .u32 0, .int .u32 0, .int .u32 0, .int .u32 0, .int .u32 0, .int .u32 0, .int .u32 0, .int .u32 0, .int .u32 0, .int .u32 0, .int .u32 0, .int .u32 0, .int .u32 0, .int .u32 0, .int .u32 0, .int .u32 0] 50 (0, 0)) by rw [← hV0]; exact heap_alloc_new _ _)
        have HB0 := Lib.hid (show Below wr.heap.size wr V0 by rw [← hV0]; exact HB2.out.alloc HB2.out.size _)
        have hzD : wr.heap.size ≤ w2.heap.size := HB2.out.size
        have hzV : w2.heap.size < V0.heap.size := by rw [← hV0]; simp
        simp only [hV0]
        generalize w2.heap.size = D at *
        clear hV0
        refine thenS_normal (HS.out _ HB0.out) (fun _ => ?_)
        (refine At.force 13 rfl (by decide) (by kernel_rfl) ?_)
        (try simp only [Act.put, List.getElem_toArray, List.getElem_cons_zero, List.getElem_cons_succ, List.setIfInBounds_toArray, List.set_cons_zero, List.set_cons_succ])
        refine wpListIn_store_row rfl 50 (.tmp 5) (.tmp 21) rfl D (vmA q s) rfl rfl 50 _ HR0.out (info_vm _ _ HSO.out) (by rw [vmA_size _ _ HSO.out]; rfl) (vmA_one q s) ?_
        simp only [Act.put, List.getElem_toArray, List.getElem_cons_zero, List.getElem_cons_succ, List.setIfInBounds_toArray, List.set_cons_zero, List.set_cons_succ]
        gi_wp2
        obtain ⟨V, hV⟩ : ∃ V, V0.setRow D (vmA q s) = V := ⟨_, rfl⟩
        have HBV := Lib.hid (show Below wr.heap.size wr V by rw [← hV]; exact below_row HB0.out hzD _)
        have HNV := Lib.hid (show V.heap[D]? = some (.cells (vmA q s) 50 (0, 0)) by rw [← hV]; exact setRow_heap _ _ _ _ _ _ HR0.out)
        have hzW : D < V.heap.size := by rw [← hV]; simpa using hzV
        simp only [hV]
        clear hV
        refine thenS_normal (HS.out _ HBV.out) (fun _ => ?_)
        (refine At.force 14 rfl (by decide) (by kernel_rfl) ?_)
        gi_wp2
        refine thenS_normal (HS.out _ HBV.out) (fun _ => ?_)
        refine At.tail (by kernel_rfl) ?_
        simp only [List.drop_succ_cons, List.drop_zero]
        gi_wp2
        refine NoPanic.normal ?_
        have HMV := Lib.hid ((HBV.out.block _ hDw).trans HM.out)
        have HLK := Lib.hid (runsL_at HDR.out hlt)
        obtain ⟨hlk, hlv, hle, hln⟩ := HLK.out
        have HAT := Lib.hid (And.intro hle hln)
        have hT1 : ∀ k, (T k ∨ k = D) → W.heap.size ≤ k ∧ k < V.heap.size := fun k hk => by
          have := HBV.out.size
          rcases hk with q | q
          · have := HT.out.2 k q; omega
          · omega
        have hJV := HJJ.out T (fun k => T k ∨ k = D) k wr V HJK.out (.of_below HBV.out) (fun k h => .inl h) (fun k h => h.imp id fun q => by omega)
        obtain ⟨fn, tmps, assign, body, hy, hRd⟩ := HY.out (fun k => T k ∨ k = D) k hlk V hJV hT1 (by have := HBV.out.size; omega)
        rw [hlv] at hy
        rw [hyy, HEV.out.1] at hy
        have HRR := Lib.hid hRd
        have HT1 := Lib.hid hT1
        clear hRd hJV hT1 hlv hle hln
        gi_wp2_with (refine wpListIn_load_row rfl 50 (.tmp 4) rfl W.heap.size rfl 50 (vmA pc r) (0, 0) _ HMV.out Try.underlying50 rfl (info_vm _ _ HR.out) ?_; go_simp)
        refine HRR.out.mono ?_
        rintro e B ⟨rfl, hJB, hkq⟩
        have HJB := Lib.hid hJB
        have HKQ := Lib.hid hkq
        have hzB : V.heap.size ≤ B.heap.size := hkq.size
        have HMB := Lib.hid ((hkq.block _ (.inr (.inl HT.out.1)) (by have := HBV.out.size; omega)).trans HMV.out)
        have HNB := Lib.hid ((hkq.block D (.inr (.inr rfl)) hzW).trans HNV.out)
        clear hJB hkq hy
        cases bb with
        | true =>
          have HLE := Lib.hid (HAT.out.1 v (by rw [hyy]; exact HEV.out.2.1 rfl))
          gi_wp2
          refine bodyPost_ret (v := .tuple #[]) (by simp [results, Try.results122, go_sem]) rfl ⟨⟨_, rfl⟩, (fun k => T k ∨ k = D), fun k hk => ?_, by have := HBV.out.size; omega, ?_⟩
          · have := HT1.out k hk; omega
          · rw [HLE.out]; exact HJB.out
        | false =>
          have HFN := Lib.hid (HEV.out.2.2 rfl)
          gi_wp2_with (first
            | (refine wpListIn_load_row rfl 50 (.tmp 5) rfl D rfl 50 (vmA q s) (0, 0) _ HNB.out Try.underlying50 rfl (info_vm _ _ HSO.out) ?_; go_simp)
            | (refine wpListIn_store_row rfl 50 (.tmp 4) (.tmp 32) rfl W.heap.size (vmA q s) rfl rfl 50 _ HMB.out (info_vm _ _ HSO.out) (by rw [vmA_size _ _ HSO.out, vmA_size _ _ HR.out]) (vmA_one q s) ?_; go_simp))
          have hpn : pc + 1 + offL y r < l.length := HGS.out HFN.out.1
          have hfl := HAT.out.2 (by rw [hyy]; exact HFN.out.1)
          rw [hyy] at hfl
          have hq : q = ((pc + 1 + offL y r : Nat) : Int) := by rw [HFN.out.2.1]; omega
          refine ⟨⟨k + 1, pc + 1 + offL y r, s, (fun k => T k ∨ k = D), by omega, by go_num, hpn, HSO.out, by omega, by rw [hfl, ← HFN.out.2.2], ?_, .inl HT.out.1, fun k hk => ?_, ?_, ?_⟩, ?_⟩
          · rw [hq]; exact setRow_heap _ _ _ _ _ _ HMB.out
          · have := HT1.out k hk; simp only [size_setRow]; omega
          · exact HJJ.out _ _ _ _ _ HJB.out (.row _ _ _ (.inl HT.out.1)) (fun _ h => h) (fun _ h => .inl h)
          · refine ((HKP.out.trans (.of_below (HBV.out))).trans (HKQ.out.mono fun k hk => .inl hk)).trans (kpq_row _ _ _ ?_)
            omega
          · simp [intOf]; omega
      · gi_wp2
        obtain ⟨V1, hV1⟩ : ∃ V1, (wr.alloc (.cells #[.int .i64 0, .int .u32 0, .int .u32 0, .int .u32 0, .int .u32 0, .int .u32 0, .int .u32 0, .int .u32 0, .int .u32 0, .int .u32 0, .int .u32 0, .int .u32 0, .int .u32 0, .int .u32 0, .int .u32 0, .int .u32 0, .int .u32 0, .int .u32 0, .int .u32 0] 50)).drew = V1 := ⟨_, rfl⟩
        have HR1 := Lib.hid (show V1.heap[wr.heap.size]? = some (.cells #[.int .i64 0, .int .u32 0, .int .u32 0, .int .u32 0, .int .u32 0, .int .u32 0, .int .u32 0, .int .u32 0, .int .u32 0, .int .u32 0, .int .u32 0, .int .u32 0, .int .u32 0, .int .u32 0, .int .u32 0, .int .u32 0, .int .u32 0, .int .u32 0, .int .u32 0] 50 (0, 0)) by rw [← hV1]; exact heap_alloc_new _ _)
        have HB1' := Lib.hid (show Below wr.heap.size wr V1 by rw [← hV1]; (repeat (first | with_reducible exact Below.refl _ _ | with_reducible assumption | ((with_reducible refine Below.setCell ?_ ?hp _); case hp => (first | omega | (simp only [World.size_alloc, World.size_setCell, World.size_drew]; omega) | (simp; done) | (simp; omega))) | ((with_reducible refine Below.alloc ?_ ?hp _); case hp => (first | omega | (simp only [World.size_alloc, World.size_setCell, World.size_drew]; omega) | (simp; done) | (simp; omega))) | with_reducible refine Below.drew ?_ | with_reducible refine below_drewN ?_ _)))
        have hz1 : wr.heap.size < V1.heap.size := by rw [← hV1]; simp
        simp only [hV1]
        clear hV1
        refine thenS_normal (HS.out _ HB1'.out) (fun _ => ?_)
        (refine At.force 7 rfl (by decide) (by kernel_rfl) ?_)
        gi_wp2_with (gi_at_call 68; refine (callsIn_wide.2 (HST.out _)).mono ?_; rw [HSV.out]; rintro e V0 ⟨rfl, hb2⟩; have HB0 := Lib.hid (HB1'.out.trans (hb2.mono HB1'.out.size)); have hzV : wr.heap.size < V0.heap.size := (by have := hb2.size; omega); have HR0 := Lib.hid ((hb2.block _ hz1).trans HR1.out); clear hb2)
        refine thenS_normal (HS.out _ HB0.out) (fun _ => ?_)
        (refine At.take 8 (v := .tuple #[.agg (vmA q s), .int .u32 (v : Int), .bool bb]) rfl (by decide) (by kernel_rfl) (by kernel_rfl) (HS.out _ HB0.out) (Or.inl ⟨by rfl, fun w hw => (by go_simp)⟩) ?_; simp only [Act.put, List.setIfInBounds_toArray, List.set_cons_zero, List.set_cons_succ])
        (refine At.take 9 (v := .agg (vmA q s)) rfl (by decide) (by kernel_rfl) (by kernel_rfl) (HS.out _ HB0.out) (Or.inl ⟨by rfl, fun w hw => (by go_simp)⟩) ?_; simp only [Act.put, List.setIfInBounds_toArray, List.set_cons_zero, List.set_cons_succ])
        (refine At.take 10 (v := .int .u32 (v : Int)) rfl (by decide) (by kernel_rfl) (by kernel_rfl) (HS.out _ HB0.out) (Or.inl ⟨by rfl, fun w hw => (by go_simp)⟩) ?_; simp only [Act.put, List.setIfInBounds_toArray, List.set_cons_zero, List.set_cons_succ])
        (refine At.take 11 (v := .bool bb) rfl (by decide) (by kernel_rfl) (by kernel_rfl) (HS.out _ HB0.out) (Or.inl ⟨by rfl, fun w hw => (by go_simp)⟩) ?_; simp only [Act.put, List.setIfInBounds_toArray, List.set_cons_zero, List.set_cons_succ])
        obtain ⟨D, hD⟩ : ∃ D, D = wr.heap.size := ⟨_, rfl⟩
        have hzD : wr.heap.size ≤ D := by omega
        rw [← hD] at hzV
        have HR0' := Lib.hid (hD ▸ HR0.out)
        clear HR0
        have HR0 := Lib.hid HR0'.out
        rw [← hD]
        clear hD
        (refine At.force 13 rfl (by decide) (by kernel_rfl) ?_)
        (try simp only [Act.put, List.getElem_toArray, List.getElem_cons_zero, List.getElem_cons_succ, List.setIfInBounds_toArray, List.set_cons_zero, List.set_cons_succ])
        refine wpListIn_store_row rfl 50 (.tmp 5) (.tmp 21) rfl D (vmA q s) rfl rfl 50 _ HR0.out (info_vm _ _ HSO.out) (by rw [vmA_size _ _ HSO.out]; rfl) (vmA_one q s) ?_
        simp only [Act.put, List.getElem_toArray, List.getElem_cons_zero, List.getElem_cons_succ, List.setIfInBounds_toArray, List.set_cons_zero, List.set_cons_succ]
        gi_wp2
        obtain ⟨V, hV⟩ : ∃ V, V0.setRow D (vmA q s) = V := ⟨_, rfl⟩
        have HBV := Lib.hid (show Below wr.heap.size wr V by rw [← hV]; exact below_row HB0.out hzD _)
        have HNV := Lib.hid (show V.heap[D]? = some (.cells (vmA q s) 50 (0, 0)) by rw [← hV]; exact setRow_heap _ _ _ _ _ _ HR0.out)
        have hzW : D < V.heap.size := by rw [← hV]; simpa using hzV
        simp only [hV]
        clear hV
        refine thenS_normal (HS.out _ HBV.out) (fun _ => ?_)
        (refine At.force 14 rfl (by decide) (by kernel_rfl) ?_)
        gi_wp2
        refine thenS_normal (HS.out _ HBV.out) (fun _ => ?_)
        refine At.tail (by kernel_rfl) ?_
        simp only [List.drop_succ_cons, List.drop_zero]
        gi_wp2
        refine NoPanic.normal ?_
        have HMV := Lib.hid ((HBV.out.block _ hDw).trans HM.out)
        have HLK := Lib.hid (runsL_at HDR.out hlt)
        obtain ⟨hlk, hlv, hle, hln⟩ := HLK.out
        have HAT := Lib.hid (And.intro hle hln)
        have hT1 : ∀ k, (T k ∨ k = D) → W.heap.size ≤ k ∧ k < V.heap.size := fun k hk => by
          have := HBV.out.size
          rcases hk with q | q
          · have := HT.out.2 k q; omega
          · omega
        have hJV := HJJ.out T (fun k => T k ∨ k = D) k wr V HJK.out (.of_below HBV.out) (fun k h => .inl h) (fun k h => h.imp id fun q => by omega)
        obtain ⟨fn, tmps, assign, body, hy, hRd⟩ := HY.out (fun k => T k ∨ k = D) k hlk V hJV hT1 (by have := HBV.out.size; omega)
        rw [hlv] at hy
        rw [hyy, HEV.out.1] at hy
        have HRR := Lib.hid hRd
        have HT1 := Lib.hid hT1
        clear hRd hJV hT1 hlv hle hln
        gi_wp2_with (refine wpListIn_load_row rfl 50 (.tmp 4) rfl W.heap.size rfl 50 (vmA pc r) (0, 0) _ HMV.out Try.underlying50 rfl (info_vm _ _ HR.out) ?_; go_simp)
        refine HRR.out.mono ?_
        rintro e B ⟨rfl, hJB, hkq⟩
        have HJB := Lib.hid hJB
        have HKQ := Lib.hid hkq
        have hzB : V.heap.size ≤ B.heap.size := hkq.size
        have HMB := Lib.hid ((hkq.block _ (.inr (.inl HT.out.1)) (by have := HBV.out.size; omega)).trans HMV.out)
        have HNB := Lib.hid ((hkq.block D (.inr (.inr rfl)) hzW).trans HNV.out)
        clear hJB hkq hy
        cases bb with
        | true =>
          have HLE := Lib.hid (HAT.out.1 v (by rw [hyy]; exact HEV.out.2.1 rfl))
          gi_wp2
          refine bodyPost_ret (v := .tuple #[]) (by simp [results, Try.results122, go_sem]) rfl ⟨⟨_, rfl⟩, (fun k => T k ∨ k = D), fun k hk => ?_, by have := HBV.out.size; omega, ?_⟩
          · have := HT1.out k hk; omega
          · rw [HLE.out]; exact HJB.out
        | false =>
          have HFN := Lib.hid (HEV.out.2.2 rfl)
          gi_wp2_with (first
            | (refine wpListIn_load_row rfl 50 (.tmp 5) rfl D rfl 50 (vmA q s) (0, 0) _ HNB.out Try.underlying50 rfl (info_vm _ _ HSO.out) ?_; go_simp)
            | (refine wpListIn_store_row rfl 50 (.tmp 4) (.tmp 32) rfl W.heap.size (vmA q s) rfl rfl 50 _ HMB.out (info_vm _ _ HSO.out) (by rw [vmA_size _ _ HSO.out, vmA_size _ _ HR.out]) (vmA_one q s) ?_; go_simp))
          have hpn : pc + 1 + offL y r < l.length := HGS.out HFN.out.1
          have hfl := HAT.out.2 (by rw [hyy]; exact HFN.out.1)
          rw [hyy] at hfl
          have hq : q = ((pc + 1 + offL y r : Nat) : Int) := by rw [HFN.out.2.1]; omega
          refine ⟨⟨k + 1, pc + 1 + offL y r, s, (fun k => T k ∨ k = D), by omega, by go_num, hpn, HSO.out, by omega, by rw [hfl, ← HFN.out.2.2], ?_, .inl HT.out.1, fun k hk => ?_, ?_, ?_⟩, ?_⟩
          · rw [hq]; exact setRow_heap _ _ _ _ _ _ HMB.out
          · have := HT1.out k hk; simp only [size_setRow]; omega
          · exact HJJ.out _ _ _ _ _ HJB.out (.row _ _ _ (.inl HT.out.1)) (fun _ h => h) (fun _ h => .inl h)
          · refine ((HKP.out.trans (.of_below (HBV.out))).trans (HKQ.out.mono fun k hk => .inl hk)).trans (kpq_row _ _ _ ?_)
            omega
          · simp [intOf]; omega
    · have hk' : k = l.length := by omega
      subst hk'
      have hn : (runsL l (datL d)).length = l.length := by
        have h := HDR.out
        rw [Nat.sub_self] at h
        have := List.drop_eq_nil_iff.1 h
        omega
      gi_wp2
      go_end0
      refine ⟨⟨_, rfl⟩, T, HT.out.2, ?_, ?_⟩
      · have := HB1.out.size; have := HKP.out.size; omega
      · rw [hn]; exact HJK.out
end Go.Proofs.Ytfjbanfibmpalaa

/- Contracts: vm.Step. -/
set_option linter.unusedVariables false
set_option linter.unusedSimpArgs false
namespace Go.Proofs.Ytfjbanfibmpalaa
open Go.RowKit Go.Shelf
attribute [local go_sem] Oper.semAt_some

theorem results_cell4 {P : Program} {fn : Func} {p t u v : Tmp} {ty : TypeId} (h : fn.results = #[.cell p ty, .tmp t, .tmp u, .tmp v]) (tmps : Array Value) (w : World) (g : Nat) (tt : TypeId) (cs : Array Value) (fr : Nat × Nat) (d : TypeDesc)
    (hp : tmps.getD p undef = .pointer (some ⟨g, 0, none⟩)) (hg : w.heap[g]? = some (.cells cs tt fr))
    (hu : P.underlying ty = some d) (hd : (match d with | .struct _ | .array _ _ => true | _ => false) = true) (hi : (P.info? ty).map (·.size) = some cs.size) :
    (results fn tmps).run P w = .ok (.tuple #[.agg cs, tmps.getD t undef, tmps.getD u undef, tmps.getD v undef]) w := by
  have hp' : tmps[p]?.getD undef = .pointer (some ⟨g, 0, none⟩) := by simpa using hp
  simp [results, h, hp', asAddr, run_loadVar_row w g tt ty cs fr d hg hu hd hi]

/-- What a step says. -/
def stepE (y : Insn) (dd : Nat → Nat) (pc : Int) (r : Rg) (e : Ending) : Prop := ∃ (q : Int) (s : Rg) (v : Nat) (b : Bool), stepV y dd pc r = .tuple #[.agg (vmA q s), .int .u32 (v : Int), .bool b] ∧ s.Ok ∧ e = .returned (.tuple #[.agg (vmA q s), .int .u32 (v : Int), .bool b, .int .i64 0])
def stepNo (e : Int) : Value := .tuple #[.agg (vmA 0 rg0), .int .u32 0, .bool false, .int .i64 e]

theorem zeros_info : (Try.prog.info? 50).map (·.size) = some (#[.int .i64 0, .int .u32 0, .int .u32 0, .int .u32 0, .int .u32 0, .int .u32 0, .int .u32 0, .int .u32 0, .int .u32 0, .int .u32 0, .int .u32 0, .int .u32 0, .int .u32 0, .int .u32 0, .int .u32 0, .int .u32 0, .int .u32 0, .int .u32 0, .int .u32 0] : Array Value).size := info_vm 0 rg0 rg0_ok
theorem zeros_one : (#[.int .i64 0, .int .u32 0, .int .u32 0, .int .u32 0, .int .u32 0, .int .u32 0, .int .u32 0, .int .u32 0, .int .u32 0, .int .u32 0, .int .u32 0, .int .u32 0, .int .u32 0, .int .u32 0, .int .u32 0, .int .u32 0, .int .u32 0, .int .u32 0, .int .u32 0] : Array Value).all (·.oneCell') = true := vmA_one 0 rg0

theorem step_rows3 (w : World) (o0 o1 o2 : Obj) : ((w.alloc o0).alloc o1 |>.alloc o2).heap[w.heap.size]? = some o0 ∧ ((w.alloc o0).alloc o1 |>.alloc o2).heap[w.heap.size + 1]? = some o1 ∧ ((w.alloc o0).alloc o1 |>.alloc o2).heap[w.heap.size + 1 + 1]? = some o2 := by
  have h1 := heap_alloc_new (w.alloc o0) o1
  have h2 := heap_alloc_new ((w.alloc o0).alloc o1) o2
  simp only [World.size_alloc] at h1 h2
  exact ⟨(Below.heap_alloc _ _ _ (by simp; omega)).trans ((Below.heap_alloc _ _ _ (by simp)).trans (heap_alloc_new w o0)), (Below.heap_alloc _ _ _ (by simp)).trans h1, h2⟩

set_option maxRecDepth 100000 in
set_option maxHeartbeats 1000000 in
theorem vstep_bad (A : Option Addr) (cap : Nat) (l : List Insn) (d : Dt) (pc : Int) (r : Rg) (w : World) (hl : RdP w A l) (hc : (check l).2 ≠ 0) :
    Calls Try.prog 34 #[.slice A l.length cap, (Value.agg #[.int .u32 d.nr, .int .u32 d.arch, .int .u64 d.ip, .int .u64 d.a0, .int .u64 d.a1, .int .u64 d.a2, .int .u64 d.a3, .int .u64 d.a4, .int .u64 d.a5]), .agg (vmA pc r)] w fun e w' => e = .returned (stepNo (check l).2) ∧ Below w.heap.size w w' := by
  have HC := Lib.hid (fun W (h : Below w.heap.size w W) => check_any A cap l W (hl.below h (Nat.le_refl _)))
  have e1 : ((check l).2 != 0) = true := by simpa using hc
  have H3 := Lib.hid (step_rows3 w (.cells #[.int .u32 d.nr, .int .u32 d.arch, .int .u64 d.ip, .int .u64 d.a0, .int .u64 d.a1, .int .u64 d.a2, .int .u64 d.a3, .int .u64 d.a4, .int .u64 d.a5] 47) (.cells (vmA pc r) 50) (.cells #[.int .i64 0, .int .u32 0, .int .u32 0, .int .u32 0, .int .u32 0, .int .u32 0, .int .u32 0, .int .u32 0, .int .u32 0, .int .u32 0, .int .u32 0, .int .u32 0, .int .u32 0, .int .u32 0, .int .u32 0, .int .u32 0, .int .u32 0, .int .u32 0, .int .u32 0] 50))
  have HZI := Lib.hid zeros_info
  have HZO := Lib.hid zeros_one
  clear hl hc
  generalize (check l).2 = k at *
  generalize (check l).1 = i at *
  go_enter Try.func34, Try.ntmps34
  go_wp2_with (first
    | (go_at_call 27; refine (HC.out _ (by (repeat (first | with_reducible exact Below.refl _ _ | with_reducible assumption | ((with_reducible refine Below.setCell ?_ ?hp _); case hp => (first | omega | (simp only [World.size_alloc, World.size_setCell, World.size_drew]; omega) | (simp; done) | (simp; omega))) | ((with_reducible refine Below.alloc ?_ ?hp _); case hp => (first | omega | (simp only [World.size_alloc, World.size_setCell, World.size_drew]; omega) | (simp; done) | (simp; omega))) | with_reducible refine Below.drew ?_ | with_reducible refine below_drewN ?_ _)))).mono ?_; rintro e w1 ⟨rfl, hb1⟩; have HB1 := Lib.hid (Below.trans (show Below w.heap.size w _ by (repeat (first | with_reducible exact Below.refl _ _ | with_reducible assumption | ((with_reducible refine Below.setCell ?_ ?hp _); case hp => (first | omega | (simp only [World.size_alloc, World.size_setCell, World.size_drew]; omega) | (simp; done) | (simp; omega))) | ((with_reducible refine Below.alloc ?_ ?hp _); case hp => (first | omega | (simp only [World.size_alloc, World.size_setCell, World.size_drew]; omega) | (simp; done) | (simp; omega))) | with_reducible refine Below.drew ?_ | with_reducible refine below_drewN ?_ _))) (hb1.mono (by simp; omega))); have HO1 := Lib.hid ((hb1.block _ (by simp)).trans H3.out.2.2); clear hb1)
    | (refine wpList_store_row rfl 50 (.tmp 6) (.tmp 22) rfl (w.heap.size + 1 + 1) #[.int .i64 0, .int .u32 0, .int .u32 0, .int .u32 0, .int .u32 0, .int .u32 0, .int .u32 0, .int .u32 0, .int .u32 0, .int .u32 0, .int .u32 0, .int .u32 0, .int .u32 0, .int .u32 0, .int .u32 0, .int .u32 0, .int .u32 0, .int .u32 0, .int .u32 0] rfl rfl 50 _ HO1.out HZI.out rfl HZO.out ?_; go_simp))
  exact bodyPost_ret (results_cell4 rfl _ _ (w.heap.size + 1 + 1) 50 #[.int .i64 0, .int .u32 0, .int .u32 0, .int .u32 0, .int .u32 0, .int .u32 0, .int .u32 0, .int .u32 0, .int .u32 0, .int .u32 0, .int .u32 0, .int .u32 0, .int .u32 0, .int .u32 0, .int .u32 0, .int .u32 0, .int .u32 0, .int .u32 0, .int .u32 0] (0, 0) _ rfl (setRow_heap _ _ _ _ _ _ HO1.out) Try.underlying50 rfl HZI.out) rfl ⟨rfl, below_row HB1.out (by omega) _⟩

set_option maxRecDepth 100000 in
set_option maxHeartbeats 1000000 in
theorem vstep_out (A : Option Addr) (cap : Nat) (l : List Insn) (d : Dt) (pc : Int) (hp1 : -9223372036854775808 ≤ pc) (hp2 : pc ≤ 9223372036854775807) (r : Rg) (w : World) (hl : RdP w A l) (hg : Good l) (hp : pc < 0 ∨ (l.length : Int) ≤ pc) :
    Calls Try.prog 34 #[.slice A l.length cap, (Value.agg #[.int .u32 d.nr, .int .u32 d.arch, .int .u64 d.ip, .int .u64 d.a0, .int .u64 d.a1, .int .u64 d.a2, .int .u64 d.a3, .int .u64 d.a4, .int .u64 d.a5]), .agg (vmA pc r)] w fun e w' => e = .returned (stepNo 2) ∧ Below w.heap.size w w' := by
  have HC := Lib.hid (fun W (h : Below w.heap.size w W) => check_any A cap l W (hl.below h (Nat.le_refl _)))
  have HK := Lib.hid hg.checked
  have H3 := Lib.hid (step_rows3 w (.cells #[.int .u32 d.nr, .int .u32 d.arch, .int .u64 d.ip, .int .u64 d.a0, .int .u64 d.a1, .int .u64 d.a2, .int .u64 d.a3, .int .u64 d.a4, .int .u64 d.a5] 47) (.cells (vmA pc r) 50) (.cells #[.int .i64 0, .int .u32 0, .int .u32 0, .int .u32 0, .int .u32 0, .int .u32 0, .int .u32 0, .int .u32 0, .int .u32 0, .int .u32 0, .int .u32 0, .int .u32 0, .int .u32 0, .int .u32 0, .int .u32 0, .int .u32 0, .int .u32 0, .int .u32 0, .int .u32 0] 50))
  have k0 := vmA_0 pc r
  have hsm := hl.small
  have HZI := Lib.hid zeros_info
  have HZO := Lib.hid zeros_one
  have hcase : (pc < 0) ∨ (¬ pc < 0 ∧ (l.length : Int) ≤ pc) := by omega
  clear hl hg hp
  generalize (check l).1 = i at *
  rcases hcase with h1 | ⟨h1, h2⟩
  all_goals
    go_enter Try.func34, Try.ntmps34
    go_wp2_with (first
      | (go_at_call 27; refine (HC.out _ (by (repeat (first | with_reducible exact Below.refl _ _ | with_reducible assumption | ((with_reducible refine Below.setCell ?_ ?hp _); case hp => (first | omega | (simp only [World.size_alloc, World.size_setCell, World.size_drew]; omega) | (simp; done) | (simp; omega))) | ((with_reducible refine Below.alloc ?_ ?hp _); case hp => (first | omega | (simp only [World.size_alloc, World.size_setCell, World.size_drew]; omega) | (simp; done) | (simp; omega))) | with_reducible refine Below.drew ?_ | with_reducible refine below_drewN ?_ _)))).mono ?_; rw [HK.out]; rintro e w1 ⟨rfl, hb1⟩; have HB1 := Lib.hid (Below.trans (show Below w.heap.size w _ by (repeat (first | with_reducible exact Below.refl _ _ | with_reducible assumption | ((with_reducible refine Below.setCell ?_ ?hp _); case hp => (first | omega | (simp only [World.size_alloc, World.size_setCell, World.size_drew]; omega) | (simp; done) | (simp; omega))) | ((with_reducible refine Below.alloc ?_ ?hp _); case hp => (first | omega | (simp only [World.size_alloc, World.size_setCell, World.size_drew]; omega) | (simp; done) | (simp; omega))) | with_reducible refine Below.drew ?_ | with_reducible refine below_drewN ?_ _))) (hb1.mono (by simp; omega))); have HO1 := Lib.hid ((hb1.block _ (by simp)).trans H3.out.2.2); have m0 := (cell_of_row _ _ 0 _ _ _ ((hb1.block _ (by simp)).trans H3.out.2.1)).trans k0; clear hb1)
      | (refine wpList_store_row rfl 50 (.tmp 6) (.tmp 34) rfl (w.heap.size + 1 + 1) #[.int .i64 0, .int .u32 0, .int .u32 0, .int .u32 0, .int .u32 0, .int .u32 0, .int .u32 0, .int .u32 0, .int .u32 0, .int .u32 0, .int .u32 0, .int .u32 0, .int .u32 0, .int .u32 0, .int .u32 0, .int .u32 0, .int .u32 0, .int .u32 0, .int .u32 0] rfl rfl 50 _ HO1.out HZI.out rfl HZO.out ?_; go_simp))
    exact bodyPost_ret (results_cell4 rfl _ _ (w.heap.size + 1 + 1) 50 #[.int .i64 0, .int .u32 0, .int .u32 0, .int .u32 0, .int .u32 0, .int .u32 0, .int .u32 0, .int .u32 0, .int .u32 0, .int .u32 0, .int .u32 0, .int .u32 0, .int .u32 0, .int .u32 0, .int .u32 0, .int .u32 0, .int .u32 0, .int .u32 0, .int .u32 0] (0, 0) _ rfl (setRow_heap _ _ _ _ _ _ HO1.out) Try.underlying50 rfl HZI.out) rfl ⟨rfl, below_row HB1.out (by omega) _⟩

set_option maxRecDepth 100000 in
set_option maxHeartbeats 2000000 in
theorem vstep_good (A : Option Addr) (cap : Nat) (l : List Insn) (d : Dt) (hd : d.Ok) (pc : Nat) (hpc : pc < l.length) (r : Rg) (hr : r.Ok) (w : World) (hl : RdP w A l) (hg : Good l) :
    Calls Try.prog 34 #[.slice A l.length cap, (Value.agg #[.int .u32 d.nr, .int .u32 d.arch, .int .u64 d.ip, .int .u64 d.a0, .int .u64 d.a1, .int .u64 d.a2, .int .u64 d.a3, .int .u64 d.a4, .int .u64 d.a5]), .agg (vmA pc r)] w fun e w' => stepE (ins l pc) (datL d) pc r e ∧ Below w.heap.size w w' := by
  have hlen := hg.len
  obtain ⟨b, o, rfl, hb, _⟩ := hl.get (i := 0) (by omega)
  have HC := Lib.hid (fun W (h : Below w.heap.size w W) => check_any (some ⟨b, o, none⟩) cap l W (hl.below h (Nat.le_refl _)))
  have HL := Lib.hid hl
  have HR := Lib.hid hr
  have HDd := Lib.hid hd
  have HK := Lib.hid hg.checked
  have HG := Lib.hid hg
  have H3 := Lib.hid (step_rows3 w (.cells #[.int .u32 d.nr, .int .u32 d.arch, .int .u64 d.ip, .int .u64 d.a0, .int .u64 d.a1, .int .u64 d.a2, .int .u64 d.a3, .int .u64 d.a4, .int .u64 d.a5] 47) (.cells (vmA pc r) 50) (.cells #[.int .i64 0, .int .u32 0, .int .u32 0, .int .u32 0, .int .u32 0, .int .u32 0, .int .u32 0, .int .u32 0, .int .u32 0, .int .u32 0, .int .u32 0, .int .u32 0, .int .u32 0, .int .u32 0, .int .u32 0, .int .u32 0, .int .u32 0, .int .u32 0, .int .u32 0] 50))
  have k0 := vmA_0 (pc : Int) r
  have i1 : (0 : Int) ≤ (pc : Int) := by omega
  have i2 : (pc : Int) < (l.length : Int) := by omega
  have hwf : ∀ k, Fence.wide.fn k := fun _ => trivial
  have hwd : Fence.wide.depth = none := rfl
  clear hl hr hd hg
  generalize (check l).1 = i at *
  go_enter Try.func34, Try.ntmps34
  go_wp2_with (go_at_call 27; refine (HC.out _ (by (repeat (first | with_reducible exact Below.refl _ _ | with_reducible assumption | ((with_reducible refine Below.setCell ?_ ?hp _); case hp => (first | omega | (simp only [World.size_alloc, World.size_setCell, World.size_drew]; omega) | (simp; done) | (simp; omega))) | ((with_reducible refine Below.alloc ?_ ?hp _); case hp => (first | omega | (simp only [World.size_alloc, World.size_setCell, World.size_drew]; omega) | (simp; done) | (simp; omega))) | with_reducible refine Below.drew ?_ | with_reducible refine below_drewN ?_ _)))).mono ?_; rw [HK.out]; rintro e w1 ⟨rfl, hb1⟩; have HB1 := Lib.hid (Below.trans (show Below w.heap.size w _ by (repeat (first | with_reducible exact Below.refl _ _ | with_reducible assumption | ((with_reducible refine Below.setCell ?_ ?hp _); case hp => (first | omega | (simp only [World.size_alloc, World.size_setCell, World.size_drew]; omega) | (simp; done) | (simp; omega))) | ((with_reducible refine Below.alloc ?_ ?hp _); case hp => (first | omega | (simp only [World.size_alloc, World.size_setCell, World.size_drew]; omega) | (simp; done) | (simp; omega))) | with_reducible refine Below.drew ?_ | with_reducible refine below_drewN ?_ _))) (hb1.mono (by simp; omega))); have hz1 : w.heap.size + 1 + 1 < w1.heap.size := (by have := hb1.size; simp at this; omega); have HO1 := Lib.hid ((hb1.block _ (by simp)).trans H3.out.2.2); have HM1 := Lib.hid ((hb1.block _ (by simp)).trans H3.out.2.1); have HD1 := Lib.hid ((hb1.block _ (by simp; omega)).trans H3.out.1); have m0 := (cell_of_row _ _ 0 _ _ _ HM1.out).trans k0; clear hb1)
  have hO1 : w.heap.size + 1 + 1 < w1.heap.size := hz1
  have hyc : ∀ j (h : j < l.length), IAt w1 b (o + j * 4) (l[j]'h) := fun j h => by
    obtain ⟨b', o', e, _, hc⟩ := HL.out.get h
    cases e
    exact (hc j h).keep (fun o => HB1.out.cell (p := ⟨b, o, none⟩) hb)
  obtain ⟨x0, x1, x2, x3⟩ := hyc pc hpc
  have HEQ := Lib.hid (show l[pc] = ins l pc from (at_get l pc hpc).symm)
  rw [HEQ.out] at x0 x1 x2 x3
  have HST := Lib.hid (fun V => step_any (ins l pc) (HG.out.okAt hpc) d HDd.out (pc : Int) (by omega) (by omega) r HR.out (HG.out.memOk hpc) V)
  have HYO := Lib.hid (HG.out.okAt hpc)
  clear hyc HEQ
  generalize hyy : ins l pc = y at *
  have HYY := Lib.hid hyy
  clear hyy
  have HS := Lib.hid (fun V (h : Below w1.heap.size w1 V) => (show (fun V => V.cell? ⟨w.heap.size + 1, 0, none⟩ = some (.int .i64 pc) ∧ V.cell? ⟨b, o + pc * 4, none⟩ = some (.int .u16 y.code) ∧ V.cell? ⟨b, o + pc * 4 + 1, none⟩ = some (.int .u8 y.jt) ∧ V.cell? ⟨b, o + pc * 4 + 2, none⟩ = some (.int .u8 y.jf) ∧ V.cell? ⟨b, o + pc * 4 + 3, none⟩ = some (.int .u32 y.k) ∧ V.heap[w.heap.size]? = some (.cells #[.int .u32 d.nr, .int .u32 d.arch, .int .u64 d.ip, .int .u64 d.a0, .int .u64 d.a1, .int .u64 d.a2, .int .u64 d.a3, .int .u64 d.a4, .int .u64 d.a5] 47 (0, 0)) ∧ V.heap[w.heap.size + 1]? = some (.cells (vmA pc r) 50 (0, 0))) V from
    ⟨(h.cell (p := ⟨w.heap.size + 1, 0, none⟩) (by show w.heap.size + 1 < _; omega)).trans m0, (h.cell (p := ⟨b, _, none⟩) (by show b < _; omega)).trans x0, (h.cell (p := ⟨b, _, none⟩) (by show b < _; omega)).trans x1, (h.cell (p := ⟨b, _, none⟩) (by show b < _; omega)).trans x2, (h.cell (p := ⟨b, _, none⟩) (by show b < _; omega)).trans x3, (h.block _ (by omega)).trans HD1.out, (h.block _ (by omega)).trans HM1.out⟩))
  have HD := Lib.hid (HS.out w1.drew (by (repeat (first | with_reducible exact Below.refl _ _ | with_reducible assumption | ((with_reducible refine Below.setCell ?_ ?hp _); case hp => (first | omega | (simp only [World.size_alloc, World.size_setCell, World.size_drew]; omega) | (simp; done) | (simp; omega))) | ((with_reducible refine Below.alloc ?_ ?hp _); case hp => (first | omega | (simp only [World.size_alloc, World.size_setCell, World.size_drew]; omega) | (simp; done) | (simp; omega))) | with_reducible refine Below.drew ?_ | with_reducible refine below_drewN ?_ _))))
  refine wp_region_noPanic ?_
  refine (wpIn_wide (n := 0)).1 ?_
  (refine region_at 15 (fun V => V.cell? ⟨w.heap.size + 1, 0, none⟩ = some (.int .i64 pc) ∧ V.cell? ⟨b, o + pc * 4, none⟩ = some (.int .u16 y.code) ∧ V.cell? ⟨b, o + pc * 4 + 1, none⟩ = some (.int .u8 y.jt) ∧ V.cell? ⟨b, o + pc * 4 + 2, none⟩ = some (.int .u8 y.jf) ∧ V.cell? ⟨b, o + pc * 4 + 3, none⟩ = some (.int .u32 y.k) ∧ V.heap[w.heap.size]? = some (.cells #[.int .u32 d.nr, .int .u32 d.arch, .int .u64 d.ip, .int .u64 d.a0, .int .u64 d.a1, .int .u64 d.a2, .int .u64 d.a3, .int .u64 d.a4, .int .u64 d.a5] 47 (0, 0)) ∧ V.heap[w.heap.size + 1]? = some (.cells (vmA pc r) 50 (0, 0))) (fun _ => trivial) (by kernel_rfl) (by kernel_rfl) (by kernel_rfl) (by kernel_rfl) (by kernel_rfl) (by kernel_rfl) (fun _ _ _ _ h => h) ?_)
  (refine At.take 0 (v := .slice (some ⟨b, o, none⟩) l.length cap) rfl (by decide) (by kernel_rfl) (by kernel_rfl) HD.out (Or.inl ⟨by rfl, fun w hw => (by (repeat (obtain ⟨hw0, hw⟩ := hw)); go_simp; try (simp (disch := omega) only [IntWalk.i64_in, IntWalk.u8_in, IntWalk.u16_in, IntWalk.u32_in, IntWalk.u64_in]); try omega)⟩) ?_; simp only [Act.put, List.setIfInBounds_toArray, List.set_cons_zero, List.set_cons_succ])
  (refine At.take 1 (v := .pointer (some ⟨w.heap.size + 1, 0, none⟩)) rfl (by decide) (by kernel_rfl) (by kernel_rfl) HD.out (Or.inl ⟨by rfl, fun w hw => (by (repeat (obtain ⟨hw0, hw⟩ := hw)); go_simp; try (simp (disch := omega) only [IntWalk.i64_in, IntWalk.u8_in, IntWalk.u16_in, IntWalk.u32_in, IntWalk.u64_in]); try omega)⟩) ?_; simp only [Act.put, List.setIfInBounds_toArray, List.set_cons_zero, List.set_cons_succ])
  (refine At.take 2 (v := .int .i64 pc) rfl (by decide) (by kernel_rfl) (by kernel_rfl) HD.out (Or.inl ⟨by rfl, fun w hw => (by (repeat (obtain ⟨hw0, hw⟩ := hw)); go_simp; try (simp (disch := omega) only [IntWalk.i64_in, IntWalk.u8_in, IntWalk.u16_in, IntWalk.u32_in, IntWalk.u64_in]); try omega)⟩) ?_; simp only [Act.put, List.setIfInBounds_toArray, List.set_cons_zero, List.set_cons_succ])
  (refine At.take 3 (v := .pointer (some ⟨b, o + pc * 4, none⟩)) rfl (by decide) (by kernel_rfl) (by kernel_rfl) HD.out (Or.inl ⟨by rfl, fun w hw => (by (repeat (obtain ⟨hw0, hw⟩ := hw)); go_simp; try (simp (disch := omega) only [IntWalk.i64_in, IntWalk.u8_in, IntWalk.u16_in, IntWalk.u32_in, IntWalk.u64_in]); try omega)⟩) ?_; simp only [Act.put, List.setIfInBounds_toArray, List.set_cons_zero, List.set_cons_succ])
  (refine At.take 4 (v := (Value.agg #[.int .u16 y.code, .int .u8 y.jt, .int .u8 y.jf, .int .u32 y.k])) rfl (by decide) (by kernel_rfl) (by kernel_rfl) HD.out (Or.inl ⟨by rfl, fun w hw => (by (repeat (obtain ⟨hw0, hw⟩ := hw)); go_simp)⟩) ?_; simp only [Act.put, List.setIfInBounds_toArray, List.set_cons_zero, List.set_cons_succ])
  (refine At.take 5 (v := (Value.agg #[.int .u32 d.nr, .int .u32 d.arch, .int .u64 d.ip, .int .u64 d.a0, .int .u64 d.a1, .int .u64 d.a2, .int .u64 d.a3, .int .u64 d.a4, .int .u64 d.a5])) rfl (by decide) (by kernel_rfl) (by kernel_rfl) HD.out (Or.inl ⟨by rfl, fun W hw => (by exact exec_load_row 47 (.tmp 4) rfl w.heap.size rfl 47 _ (0, 0) _ hw.2.2.2.2.2.1 Try.underlying47 rfl (by kernel_rfl))⟩) ?_; simp only [Act.put, List.setIfInBounds_toArray, List.set_cons_zero, List.set_cons_succ])
  (refine At.take 6 (v := .agg (vmA pc r)) rfl (by decide) (by kernel_rfl) (by kernel_rfl) HD.out (Or.inl ⟨by rfl, fun W hw => (by exact exec_load_row 50 (.tmp 5) rfl (w.heap.size + 1) rfl 50 _ (0, 0) _ hw.2.2.2.2.2.2 Try.underlying50 rfl (info_vm _ _ HR.out))⟩) ?_; simp only [Act.put, List.setIfInBounds_toArray, List.set_cons_zero, List.set_cons_succ])
  obtain ⟨q, s, v, bb, hsv, hs, hgv, hbt, hbf⟩ := stepV_form y HYO.out (datL d) (fun k => datL_lt HDd.out k) (pc : Int) r HR.out
  have HSV := Lib.hid hsv
  have HSO := Lib.hid hs
  clear hsv hs hgv hbt hbf
  refine At.branch2 7 12 rfl rfl (by decide) (by decide) (by kernel_rfl) ?_ ?_
  · gi_wp2_with (gi_at_call 68; refine (callsIn_wide.2 (HST.out _)).mono ?_; rw [HSV.out]; rintro e w2 ⟨rfl, hb2⟩; have HB2 := Lib.hid (Below.trans (show Below w1.heap.size w1 w1.drew by (repeat (first | with_reducible exact Below.refl _ _ | with_reducible assumption | ((with_reducible refine Below.setCell ?_ ?hp _); case hp => (first | omega | (simp only [World.size_alloc, World.size_setCell, World.size_drew]; omega) | (simp; done) | (simp; omega))) | ((with_reducible refine Below.alloc ?_ ?hp _); case hp => (first | omega | (simp only [World.size_alloc, World.size_setCell, World.size_drew]; omega) | (simp; done) | (simp; omega))) | with_reducible refine Below.drew ?_ | with_reducible refine below_drewN ?_ _))) (hb2.mono (by (first | omega | (simp only [World.size_alloc, World.size_setCell, World.size_drew]; omega) | (simp; done) | (simp; omega))))); clear hb2)
    refine thenS_normal (HS.out _ HB2.out) (fun _ => ?_)
    (refine At.take 8 (v := .tuple #[.agg (vmA q s), .int .u32 (v : Int), .bool bb]) rfl (by decide) (by kernel_rfl) (by kernel_rfl) (HS.out _ HB2.out) (Or.inl ⟨by rfl, fun w hw => (by go_simp)⟩) ?_; simp only [Act.put, List.setIfInBounds_toArray, List.set_cons_zero, List.set_cons_succ])
    (refine At.take 9 (v := .agg (vmA q s)) rfl (by decide) (by kernel_rfl) (by kernel_rfl) (HS.out _ HB2.out) (Or.inl ⟨by rfl, fun w hw => (by go_simp)⟩) ?_; simp only [Act.put, List.setIfInBounds_toArray, List.set_cons_zero, List.set_cons_succ])
    (refine At.take 10 (v := .int .u32 (v : Int)) rfl (by decide) (by kernel_rfl) (by kernel_rfl) (HS.out _ HB2.out) (Or.inl ⟨by rfl, fun w hw => (by go_simp)⟩) ?_; simp only [Act.put, List.setIfInBounds_toArray, List.set_cons_zero, List.set_cons_succ])
    (refine At.take 11 (v := .bool bb) rfl (by decide) (by kernel_rfl) (by kernel_rfl) (HS.out _ HB2.out) (Or.inl ⟨by rfl, fun w hw => (by go_simp)⟩) ?_; simp only [Act.put, List.setIfInBounds_toArray, List.set_cons_zero, List.set_cons_succ])
    (refine At.force 12 rfl (by decide) (by kernel_rfl) ?_)
    gi_wp2
    obtain ⟨V0, hV0⟩ : ∃ V0, w2.alloc (.cells #[.int .i64 0, .int .u32 0, .int .u32 0, .int .u32 0, .int .u32 0, .int .u32 0, .int .u32 0, .int .u32 0, .int .u32 0, .int .u32 0, .int .u32 0, .int .u32 0, .int .u32 0, .int .u32 0, .int .u32 0, .int .u32 0, .int .u32 0, .int .u32 0, .int .u32 0] 50) = V0 := ⟨_, rfl⟩
    have HR0 := Lib.hid (show V0.heap[w2.heap.size]? = some (.cells #[.int .i64 0, .int .u32 0, .int .u32 0, .int .u32 0, .int .u32 0, .int .u32 0, .int .u32 0, .int .u32 0, .int .u32 0, .int .u32 0, .int .u32 0, .int .u32 0, .int .u32 0, .int .u32 0, .int .u32 0, .int .u32 0, .int .u32 0, .int .u32 0, .int .u32 0] 50 (0, 0)) by rw [← hV0]; exact heap_alloc_new _ _)
    have HB0 := Lib.hid (show Below w1.heap.size w1 V0 by rw [← hV0]; exact HB2.out.alloc HB2.out.size _)
    have hzD : w1.heap.size ≤ w2.heap.size := HB2.out.size
    have hzV : w2.heap.size < V0.heap.size := by rw [← hV0]; simp
    simp only [hV0]
    generalize w2.heap.size = D at *
    clear hV0
    refine thenS_normal (HS.out _ HB0.out) (fun _ => ?_)
    (refine At.force 13 rfl (by decide) (by kernel_rfl) ?_)
    (try simp only [Act.put, List.getElem_toArray, List.getElem_cons_zero, List.getElem_cons_succ, List.setIfInBounds_toArray, List.set_cons_zero, List.set_cons_succ])
    refine wpListIn_store_row rfl 50 (.tmp 12) (.tmp 44) rfl D (vmA q s) rfl rfl 50 _ HR0.out (info_vm _ _ HSO.out) (by rw [vmA_size _ _ HSO.out]; rfl) (vmA_one q s) ?_
    simp only [Act.put, List.getElem_toArray, List.getElem_cons_zero, List.getElem_cons_succ, List.setIfInBounds_toArray, List.set_cons_zero, List.set_cons_succ]
    gi_wp2
    obtain ⟨V, hV⟩ : ∃ V, V0.setRow D (vmA q s) = V := ⟨_, rfl⟩
    have HBV := Lib.hid (show Below w1.heap.size w1 V by rw [← hV]; exact below_row HB0.out hzD _)
    have HNV := Lib.hid (show V.heap[D]? = some (.cells (vmA q s) 50 (0, 0)) by rw [← hV]; exact setRow_heap _ _ _ _ _ _ HR0.out)
    have HOV := Lib.hid ((HBV.out.block _ hO1).trans HO1.out)
    simp only [hV]
    clear hV
    refine thenS_normal (HS.out _ HBV.out) (fun _ => ?_)
    (refine At.force 14 rfl (by decide) (by kernel_rfl) ?_)
    gi_wp2
    refine thenS_normal (HS.out _ HBV.out) (fun _ => ?_)
    refine At.tail (by kernel_rfl) ?_
    simp only [List.drop_succ_cons, List.drop_zero]
    gi_wp2
    refine NoPanic.normal ?_
    go_wp2_with (first
      | (refine wpList_load_row rfl 50 (.tmp 12) rfl D rfl 50 (vmA q s) (0, 0) _ HNV.out Try.underlying50 rfl (info_vm _ _ HSO.out) ?_; go_simp)
      | (refine wpList_store_row rfl 50 (.tmp 6) (.tmp 47) rfl (w.heap.size + 1 + 1) (vmA q s) rfl rfl 50 _ HOV.out (info_vm _ _ HSO.out) (by rw [vmA_size _ _ HSO.out]; rfl) (vmA_one _ _) ?_; go_simp))
    refine bodyPost_ret (results_cell4 rfl _ _ (w.heap.size + 1 + 1) 50 (vmA q s) (0, 0) _ rfl (setRow_heap _ _ _ _ _ _ HOV.out) Try.underlying50 rfl (info_vm _ _ HSO.out)) rfl ⟨?_, below_row (HB1.out.trans (HBV.out.mono HB1.out.size)) (by omega) _⟩
    exact ⟨q, s, v, bb, by rw [HYY.out]; exact HSV.out, HSO.out, rfl⟩
  · gi_wp2
    obtain ⟨V1, hV1⟩ : ∃ V1, (w1.alloc (.cells #[.int .i64 0, .int .u32 0, .int .u32 0, .int .u32 0, .int .u32 0, .int .u32 0, .int .u32 0, .int .u32 0, .int .u32 0, .int .u32 0, .int .u32 0, .int .u32 0, .int .u32 0, .int .u32 0, .int .u32 0, .int .u32 0, .int .u32 0, .int .u32 0, .int .u32 0] 50)).drew = V1 := ⟨_, rfl⟩
    have HR1 := Lib.hid (show V1.heap[w1.heap.size]? = some (.cells #[.int .i64 0, .int .u32 0, .int .u32 0, .int .u32 0, .int .u32 0, .int .u32 0, .int .u32 0, .int .u32 0, .int .u32 0, .int .u32 0, .int .u32 0, .int .u32 0, .int .u32 0, .int .u32 0, .int .u32 0, .int .u32 0, .int .u32 0, .int .u32 0, .int .u32 0] 50 (0, 0)) by rw [← hV1]; exact heap_alloc_new _ _)
    have HB1' := Lib.hid (show Below w1.heap.size w1 V1 by rw [← hV1]; (repeat (first | with_reducible exact Below.refl _ _ | with_reducible assumption | ((with_reducible refine Below.setCell ?_ ?hp _); case hp => (first | omega | (simp only [World.size_alloc, World.size_setCell, World.size_drew]; omega) | (simp; done) | (simp; omega))) | ((with_reducible refine Below.alloc ?_ ?hp _); case hp => (first | omega | (simp only [World.size_alloc, World.size_setCell, World.size_drew]; omega) | (simp; done) | (simp; omega))) | with_reducible refine Below.drew ?_ | with_reducible refine below_drewN ?_ _)))
    have hz1' : w1.heap.size < V1.heap.size := by rw [← hV1]; simp
    simp only [hV1]
    clear hV1
    refine thenS_normal (HS.out _ HB1'.out) (fun _ => ?_)
    (refine At.force 7 rfl (by decide) (by kernel_rfl) ?_)
    gi_wp2_with (gi_at_call 68; refine (callsIn_wide.2 (HST.out _)).mono ?_; rw [HSV.out]; rintro e V0 ⟨rfl, hb2⟩; have HB0 := Lib.hid (HB1'.out.trans (hb2.mono HB1'.out.size)); have hzV : w1.heap.size < V0.heap.size := (by have := hb2.size; omega); have HR0 := Lib.hid ((hb2.block _ hz1').trans HR1.out); clear hb2)
    refine thenS_normal (HS.out _ HB0.out) (fun _ => ?_)
    (refine At.take 8 (v := .tuple #[.agg (vmA q s), .int .u32 (v : Int), .bool bb]) rfl (by decide) (by kernel_rfl) (by kernel_rfl) (HS.out _ HB0.out) (Or.inl ⟨by rfl, fun w hw => (by go_simp)⟩) ?_; simp only [Act.put, List.setIfInBounds_toArray, List.set_cons_zero, List.set_cons_succ])
    (refine At.take 9 (v := .agg (vmA q s)) rfl (by decide) (by kernel_rfl) (by kernel_rfl) (HS.out _ HB0.out) (Or.inl ⟨by rfl, fun w hw => (by go_simp)⟩) ?_; simp only [Act.put, List.setIfInBounds_toArray, List.set_cons_zero, List.set_cons_succ])
    (refine At.take 10 (v := .int .u32 (v : Int)) rfl (by decide) (by kernel_rfl) (by kernel_rfl) (HS.out _ HB0.out) (Or.inl ⟨by rfl, fun w hw => (by go_simp)⟩) ?_; simp only [Act.put, List.setIfInBounds_toArray, List.set_cons_zero, List.set_cons_succ])
    (refine At.take 11 (v := .bool bb) rfl (by decide) (by kernel_rfl) (by kernel_rfl) (HS.out _ HB0.out) (Or.inl ⟨by rfl, fun w hw => (by go_simp)⟩) ?_; simp only [Act.put, List.setIfInBounds_toArray, List.set_cons_zero, List.set_cons_succ])
    obtain ⟨D, hD⟩ : ∃ D, D = w1.heap.size := ⟨_, rfl⟩
    have hzD : w1.heap.size ≤ D := by omega
    rw [← hD] at hzV
    have HR0' := Lib.hid (hD ▸ HR0.out)
    clear HR0
    have HR0 := Lib.hid HR0'.out
    rw [← hD]
    clear hD
    (refine At.force 13 rfl (by decide) (by kernel_rfl) ?_)
    (try simp only [Act.put, List.getElem_toArray, List.getElem_cons_zero, List.getElem_cons_succ, List.setIfInBounds_toArray, List.set_cons_zero, List.set_cons_succ])
    refine wpListIn_store_row rfl 50 (.tmp 12) (.tmp 44) rfl D (vmA q s) rfl rfl 50 _ HR0.out (info_vm _ _ HSO.out) (by rw [vmA_size _ _ HSO.out]; rfl) (vmA_one q s) ?_
    simp only [Act.put, List.getElem_toArray, List.getElem_cons_zero, List.getElem_cons_succ, List.setIfInBounds_toArray, List.set_cons_zero, List.set_cons_succ]
    gi_wp2
    obtain ⟨V, hV⟩ : ∃ V, V0.setRow D (vmA q s) = V := ⟨_, rfl⟩
    have HBV := Lib.hid (show Below w1.heap.size w1 V by rw [← hV]; exact below_row HB0.out hzD _)
    have HNV := Lib.hid (show V.heap[D]? = some (.cells (vmA q s) 50 (0, 0)) by rw [← hV]; exact setRow_heap _ _ _ _ _ _ HR0.out)
    have HOV := Lib.hid ((HBV.out.block _ hO1).trans HO1.out)
    simp only [hV]
    clear hV
    refine thenS_normal (HS.out _ HBV.out) (fun _ => ?_)
    (refine At.force 14 rfl (by decide) (by kernel_rfl) ?_)
    gi_wp2
    refine thenS_normal (HS.out _ HBV.out) (fun _ => ?_)
    refine At.tail (by kernel_rfl) ?_
    simp only [List.drop_succ_cons, List.drop_zero]
    gi_wp2
    refine NoPanic.normal ?_
    go_wp2_with (first
      | (refine wpList_load_row rfl 50 (.tmp 12) rfl D rfl 50 (vmA q s) (0, 0) _ HNV.out Try.underlying50 rfl (info_vm _ _ HSO.out) ?_; go_simp)
      | (refine wpList_store_row rfl 50 (.tmp 6) (.tmp 47) rfl (w.heap.size + 1 + 1) (vmA q s) rfl rfl 50 _ HOV.out (info_vm _ _ HSO.out) (by rw [vmA_size _ _ HSO.out]; rfl) (vmA_one _ _) ?_; go_simp))
    refine bodyPost_ret (results_cell4 rfl _ _ (w.heap.size + 1 + 1) 50 (vmA q s) (0, 0) _ rfl (setRow_heap _ _ _ _ _ _ HOV.out) Try.underlying50 rfl (info_vm _ _ HSO.out)) rfl ⟨?_, below_row (HB1.out.trans (HBV.out.mono HB1.out.size)) (by omega) _⟩
    exact ⟨q, s, v, bb, by rw [HYY.out]; exact HSV.out, HSO.out, rfl⟩
end Go.Proofs.Ytfjbanfibmpalaa

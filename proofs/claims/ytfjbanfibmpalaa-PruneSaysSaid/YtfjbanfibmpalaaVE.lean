/- VE -/
import Derived.Test.YtfjbanfibmpalaaVD
import Derived.Deep.RegionHeld3

/- Contracts: vm.Run. -/
set_option linter.unusedVariables false
set_option linter.unusedSimpArgs false
namespace Go.Proofs.Ytfjbanfibmpalaa
open Go.RowKit Go.Shelf
attribute [local go_sem] Oper.semAt_some

set_option maxHeartbeats 400000 in
theorem run_bad (A : Option Addr) (cap : Nat) (l : List Insn) (d : Dt) (w : World) (hl : RdP w A l) (hc : (check l).2 ≠ 0) :
    Calls Try.prog 37 #[.slice A l.length cap, (Value.agg #[.int .u32 d.nr, .int .u32 d.arch, .int .u64 d.ip, .int .u64 d.a0, .int .u64 d.a1, .int .u64 d.a2, .int .u64 d.a3, .int .u64 d.a4, .int .u64 d.a5])] w fun e w' => e = .returned (.tuple #[.int .u32 0, .int .i64 (check l).2]) ∧ Below w.heap.size w w' := by
  have HC := Lib.hid (fun W (h : Below w.heap.size w W) => check_any A cap l W (hl.below h (Nat.le_refl _)))
  have e1 : ((check l).2 != 0) = true := by simpa using hc
  clear hl hc
  generalize (check l).2 = k at *
  generalize (check l).1 = i at *
  go_enter Try.func37, Try.ntmps37
  go_wp2_with (go_at_call 27; refine (HC.out _ (by (repeat (first | with_reducible exact Below.refl _ _ | with_reducible assumption | ((with_reducible refine Below.setCell ?_ ?hp _); case hp => (first | omega | (simp only [World.size_alloc, World.size_setCell, World.size_drew]; omega) | (simp; done) | (simp; omega))) | ((with_reducible refine Below.alloc ?_ ?hp _); case hp => (first | omega | (simp only [World.size_alloc, World.size_setCell, World.size_drew]; omega) | (simp; done) | (simp; omega))) | with_reducible refine Below.drew ?_ | with_reducible refine below_drewN ?_ _)))).mono ?_; rintro e w1 ⟨rfl, hb1⟩)
  go_ret2
  exact ⟨rfl, Below.trans (by (repeat (first | with_reducible exact Below.refl _ _ | with_reducible assumption | ((with_reducible refine Below.setCell ?_ ?hp _); case hp => (first | omega | (simp only [World.size_alloc, World.size_setCell, World.size_drew]; omega) | (simp; done) | (simp; omega))) | ((with_reducible refine Below.alloc ?_ ?hp _); case hp => (first | omega | (simp only [World.size_alloc, World.size_setCell, World.size_drew]; omega) | (simp; done) | (simp; omega))) | with_reducible refine Below.drew ?_ | with_reducible refine below_drewN ?_ _))) (hb1.mono (by simp))⟩

set_option maxHeartbeats 400000 in
theorem trace_bad (A : Option Addr) (cap : Nat) (l : List Insn) (d : Dt) (w : World) (hl : RdP w A l) (hc : (check l).2 ≠ 0) :
    Calls Try.prog 38 #[.slice A l.length cap, (Value.agg #[.int .u32 d.nr, .int .u32 d.arch, .int .u64 d.ip, .int .u64 d.a0, .int .u64 d.a1, .int .u64 d.a2, .int .u64 d.a3, .int .u64 d.a4, .int .u64 d.a5])] w fun e w' => e = .returned (.tuple #[.slice none 0 0, .int .i64 (check l).2]) ∧ Below w.heap.size w w' := by
  have HC := Lib.hid (fun W (h : Below w.heap.size w W) => check_any A cap l W (hl.below h (Nat.le_refl _)))
  have e1 : ((check l).2 != 0) = true := by simpa using hc
  clear hl hc
  generalize (check l).2 = k at *
  generalize (check l).1 = i at *
  go_enter Try.func38, Try.ntmps38
  go_wp2_with (go_at_call 27; refine (HC.out _ (by (repeat (first | with_reducible exact Below.refl _ _ | with_reducible assumption | ((with_reducible refine Below.setCell ?_ ?hp _); case hp => (first | omega | (simp only [World.size_alloc, World.size_setCell, World.size_drew]; omega) | (simp; done) | (simp; omega))) | ((with_reducible refine Below.alloc ?_ ?hp _); case hp => (first | omega | (simp only [World.size_alloc, World.size_setCell, World.size_drew]; omega) | (simp; done) | (simp; omega))) | with_reducible refine Below.drew ?_ | with_reducible refine below_drewN ?_ _)))).mono ?_; rintro e w1 ⟨rfl, hb1⟩)
  go_ret2
  exact ⟨rfl, Below.trans (by (repeat (first | with_reducible exact Below.refl _ _ | with_reducible assumption | ((with_reducible refine Below.setCell ?_ ?hp _); case hp => (first | omega | (simp only [World.size_alloc, World.size_setCell, World.size_drew]; omega) | (simp; done) | (simp; omega))) | ((with_reducible refine Below.alloc ?_ ?hp _); case hp => (first | omega | (simp only [World.size_alloc, World.size_setCell, World.size_drew]; omega) | (simp; done) | (simp; omega))) | with_reducible refine Below.drew ?_ | with_reducible refine below_drewN ?_ _))) (hb1.mono (by simp))⟩

/-- What was returned by the first so many rounds. -/
def lastV (ys : List (Array Value)) : Nat → Value
  | 0 => .int .u32 0
  | i + 1 => (ys.getD i #[]).getD 1 undef

theorem runsF_at (l : List Insn) (dd : Nat → Nat) : ∀ f pc r i (h : i < (runsF l dd f pc r).length), ∃ (q : Int) (s : Rg) (v : Nat), (runsF l dd f pc r)[i] = #[.agg (vmA q s), .int .u32 (v : Int)]
  | 0, _, _, i, h => by simp [runsF] at h
  | f + 1, pc, r, 0, h => ⟨_, _, _, rfl⟩
  | f + 1, pc, r, i + 1, h => by
    have e : (runsF l dd (f + 1) pc r)[i + 1] = ((runsF l dd (f + 1) pc r).drop 1)[i]'(by rw [List.length_drop]; omega) := by rw [List.getElem_drop]; congr 1; omega
    cases he : endsL (ins l pc) r with
    | some v => exfalso; unfold runsF at h; rw [he] at h; simp at h
    | none =>
      have h2 : (runsF l dd (f + 1) pc r).drop 1 = runsF l dd f (pc + 1 + offL (ins l pc) r) (effL (ins l pc) dd r) := by
        conv => lhs; unfold runsF
        rw [he]; rfl
      have hlt : i < (runsF l dd f (pc + 1 + offL (ins l pc) r) (effL (ins l pc) dd r)).length := by rw [← h2, List.length_drop]; omega
      obtain ⟨q, s, v, hv⟩ := runsF_at l dd f _ _ i hlt
      refine ⟨q, s, v, ?_⟩
      rw [e, ← hv]
      simp only [h2]

theorem lastV_all (l : List Insn) (hg : Good l) (dd : Nat → Nat) : ∀ f pc r, pc < l.length → l.length - pc ≤ f → lastV (runsF l dd f pc r) (runsF l dd f pc r).length = .int .u32 (outF l dd f pc r : Int) ∧ 0 < (runsF l dd f pc r).length
  | 0, pc, r, h1, h2 => by omega
  | f + 1, pc, r, h1, h2 => by
    unfold runsF outF
    cases he : endsL (ins l pc) r with
    | some v => exact ⟨rfl, by simp⟩
    | none =>
      obtain ⟨ih, hpos⟩ := lastV_all l hg dd f _ (effL (ins l pc) dd r) (hg.step h1 he) (by omega)
      refine ⟨?_, by simp⟩
      obtain ⟨m, hm⟩ : ∃ m, (runsF l dd f (pc + 1 + offL (ins l pc) r) (effL (ins l pc) dd r)).length = m + 1 := ⟨_, (Nat.succ_pred_eq_of_pos hpos).symm⟩
      rw [hm] at ih
      simp only [List.length_cons, hm]
      rw [← ih]
      rfl
theorem runsL_last {l : List Insn} (hg : Good l) (dd : Nat → Nat) : lastV (runsL l dd) (runsL l dd).length = .int .u32 (runL l dd : Int) :=
  (lastV_all l hg dd l.length 0 rg0 (by have := hg.len; omega) (by omega)).1

theorem runsL_form (l : List Insn) (dd : Nat → Nat) : ∃ f : Nat → Int × Rg × Nat, ∀ i (h : i < (runsL l dd).length), (runsL l dd)[i] = #[.agg (vmA (f i).1 (f i).2.1), .int .u32 ((f i).2.2 : Int)] ∧ lastV (runsL l dd) (i + 1) = .int .u32 ((f i).2.2 : Int) := by
  have hz : ∀ i, ∃ z : Int × Rg × Nat, ∀ (h : i < (runsL l dd).length), (runsL l dd)[i] = #[.agg (vmA z.1 z.2.1), .int .u32 (z.2.2 : Int)] ∧ lastV (runsL l dd) (i + 1) = .int .u32 (z.2.2 : Int) := by
    intro i
    by_cases h : i < (runsL l dd).length
    · obtain ⟨q, s, v, hv⟩ := runsF_at l dd l.length 0 rg0 i h
      have hv' : (runsL l dd)[i] = #[.agg (vmA q s), .int .u32 (v : Int)] := hv
      refine ⟨(q, s, v), fun _ => ⟨hv', ?_⟩⟩
      show ((runsL l dd).getD i #[]).getD 1 undef = _
      rw [List.getD_eq_getElem?_getD, List.getElem?_eq_getElem h, hv']
      rfl
    · exact ⟨(0, rg0, 0), fun q => absurd q h⟩
  exact Classical.axiomOfChoice hz

/-- What stands while it runs. -/
structure RunI (w W0 : World) (N : Nat) (v : Value) (T : Nat → Prop) (W : World) : Prop where
  box : W.heap[N]? = some (.cells #[v] 33 (0, 0))
  below : Below w.heap.size w W
  own : ∀ k, T k → W0.heap.size ≤ k
  size : W0.heap.size ≤ W.heap.size
theorem RunI.step {w W0 : World} {N : Nat} {v : Value} {T T' : Nat → Prop} {A B : World} (h : RunI w W0 N v T A) (hN : N < W0.heap.size) (hw : w.heap.size ≤ W0.heap.size) (hs : StepT T A B) (ht : ∀ k, T' k → T k ∨ (A.heap.size ≤ k ∧ k < B.heap.size)) : RunI w W0 N v T' B :=
  ⟨(hs.block N (Nat.lt_of_lt_of_le hN h.size) (fun q => by have := h.own _ q; omega)).trans h.box,
   ⟨hs.os.trans h.below.os, hs.tape.trans h.below.tape, hs.output.trans h.below.output, Nat.le_trans h.below.size hs.size, fun k hk => (hs.block k (Nat.lt_of_lt_of_le hk h.below.size) (fun q => by have := h.own _ q; omega)).trans (h.below.block k hk)⟩,
   fun k hk => by
    have := h.size
    rcases ht k hk with q | q
    · exact h.own k q
    · omega, Nat.le_trans h.size hs.size⟩

set_option maxRecDepth 100000 in
set_option maxHeartbeats 1000000 in
theorem run_good (A : Option Addr) (cap : Nat) (l : List Insn) (d : Dt) (hd : d.Ok) (w : World) (hl : RdP w A l) (hg : Good l) :
    Calls Try.prog 37 #[.slice A l.length cap, (Value.agg #[.int .u32 d.nr, .int .u32 d.arch, .int .u64 d.ip, .int .u64 d.a0, .int .u64 d.a1, .int .u64 d.a2, .int .u64 d.a3, .int .u64 d.a4, .int .u64 d.a5])] w fun e w' => e = .returned (.tuple #[.int .u32 (runL l (datL d) : Int), .int .i64 0]) ∧ Below w.heap.size w w' := by
  have hlen := hg.len
  have HC := Lib.hid (fun W (h : Below w.heap.size w W) => check_any A cap l W (hl.below h (Nat.le_refl _)))
  have HG := Lib.hid hg
  have HL := Lib.hid hl
  have HK := Lib.hid hg.checked
  have HDd := Lib.hid hd
  obtain ⟨b, o, rfl, hb, _⟩ := hl.get (i := 0) (by omega)
  clear hg hl hd
  refine (callsIn_wide (n := 0)).1 ?_
  refine callsIn_of_wp_marks Try.func37 rfl trivial ?_ rfl
  simp only [Try.ntmps37, List.size_toArray, List.length_cons, List.length_nil, Nat.reduceAdd, Nat.reduceSub, Array.replicate_succ, Array.replicate_zero, List.push_toArray, List.append_toArray, List.nil_append, List.cons_append]
  refine wpIn_wide.2 ?_
  go_wp2_with (first
    | (go_at_call 27; refine (HC.out _ (by (repeat (first | with_reducible exact Below.refl _ _ | with_reducible assumption | ((with_reducible refine Below.setCell ?_ ?hp _); case hp => (first | omega | (simp only [World.size_alloc, World.size_setCell, World.size_drew]; omega) | (simp; done) | (simp; omega))) | ((with_reducible refine Below.alloc ?_ ?hp _); case hp => (first | omega | (simp only [World.size_alloc, World.size_setCell, World.size_drew]; omega) | (simp; done) | (simp; omega))) | with_reducible refine Below.drew ?_ | with_reducible refine below_drewN ?_ _)))).mono ?_; rw [HK.out]; rintro e w1 ⟨rfl, hb1⟩; have h1 : w1.heap[w.heap.size]? = some (.cells #[.int .u32 d.nr, .int .u32 d.arch, .int .u64 d.ip, .int .u64 d.a0, .int .u64 d.a1, .int .u64 d.a2, .int .u64 d.a3, .int .u64 d.a4, .int .u64 d.a5] 47 (0, 0)) := ((hb1.block _ (by simp)).trans (heap_alloc_new w _)); have hz1 : w.heap.size < w1.heap.size := (by have := hb1.size; simp at this; omega); have HB1 := Lib.hid (Below.trans (show Below w.heap.size w _ by (repeat (first | with_reducible exact Below.refl _ _ | with_reducible assumption | ((with_reducible refine Below.setCell ?_ ?hp _); case hp => (first | omega | (simp only [World.size_alloc, World.size_setCell, World.size_drew]; omega) | (simp; done) | (simp; omega))) | ((with_reducible refine Below.alloc ?_ ?hp _); case hp => (first | omega | (simp only [World.size_alloc, World.size_setCell, World.size_drew]; omega) | (simp; done) | (simp; omega))) | with_reducible refine Below.drew ?_ | with_reducible refine below_drewN ?_ _))) (hb1.mono (by simp))); have H1 := Lib.hid h1; clear hb1 h1)
    | (go_at_call 72; refine (runs_any (some ⟨b, o, none⟩) cap l.length d _).mono ?_; rintro e w2 ⟨rfl, hw2⟩; have HW2 := Lib.hid hw2; clear hw2)
    | (refine wpList_load_row rfl 47 (.tmp 3) rfl w.heap.size rfl 47 #[.int .u32 d.nr, .int .u32 d.arch, .int .u64 d.ip, .int .u64 d.a0, .int .u64 d.a1, .int .u64 d.a2, .int .u64 d.a3, .int .u64 d.a4, .int .u64 d.a5] (0, 0) _ ((Below.heap_alloc _ _ _ hz1).trans H1.out) Try.underlying47 rfl (by kernel_rfl) ?_; go_simp))
  have hs2 : w2.heap.size = w1.heap.size + 3 := by rw [← HW2.out]; simp
  have hb2 : Below w1.heap.size w1 w2 := by rw [← HW2.out]; (repeat (first | with_reducible exact Below.refl _ _ | with_reducible assumption | ((with_reducible refine Below.setCell ?_ ?hp _); case hp => (first | omega | (simp only [World.size_alloc, World.size_setCell, World.size_drew]; omega) | (simp; done) | (simp; omega))) | ((with_reducible refine Below.alloc ?_ ?hp _); case hp => (first | omega | (simp only [World.size_alloc, World.size_setCell, World.size_drew]; omega) | (simp; done) | (simp; omega))) | with_reducible refine Below.drew ?_ | with_reducible refine below_drewN ?_ _))
  have hbw2 : Below w.heap.size w w2 := HB1.out.trans (hb2.mono HB1.out.size)
  have hz1 : w.heap.size ≤ w1.heap.size := HB1.out.size
  have p0 : w2.heap[w1.heap.size]? = some (.cells #[.int .u32 0] 33 (0, 0)) := by
    rw [← HW2.out]; exact (Below.heap_alloc _ _ _ (by simp; omega)).trans ((Below.heap_alloc _ _ _ (by simp)).trans (heap_alloc_new w1 _))
  have p1 : w2.heap[w1.heap.size + 1]? = some (.cells #[.slice (some ⟨b, o, none⟩) l.length cap] 24 (0, 0)) := by
    rw [← HW2.out]
    have := heap_alloc_new (w1.alloc (.cells #[.int .u32 0] 33)) (.cells #[.slice (some ⟨b, o, none⟩) l.length cap] 24)
    rw [World.size_alloc] at this
    exact (Below.heap_alloc _ _ _ (by simp)).trans this
  have p2 : w2.heap[w1.heap.size + 2]? = some (.cells #[.int .u32 d.nr, .int .u32 d.arch, .int .u64 d.ip, .int .u64 d.a0, .int .u64 d.a1, .int .u64 d.a2, .int .u64 d.a3, .int .u64 d.a4, .int .u64 d.a5] 47 (0, 0)) := by
    rw [← HW2.out]
    have := heap_alloc_new ((w1.alloc (.cells #[.int .u32 0] 33)).alloc (.cells #[.slice (some ⟨b, o, none⟩) l.length cap] 24)) (.cells #[.int .u32 d.nr, .int .u32 d.arch, .int .u64 d.ip, .int .u64 d.a0, .int .u64 d.a1, .int .u64 d.a2, .int .u64 d.a3, .int .u64 d.a4, .int .u64 d.a5] 47)
    simp only [World.size_alloc] at this
    exact this
  have hit := runs_iter (some ⟨b, o, none⟩) cap l d HDd.out (w1.heap.size + 1) (w1.heap.size + 2) w.heap.size w2.heap.size w2 (HL.out.below hbw2 (Nat.le_refl _)) HG.out (by omega) (by omega) (by omega) (fun b' o' e => by cases e; exact hb) p1 p2
  have HIT := Lib.hid hit
  have HRI := Lib.hid (show RunI w w2 w1.heap.size (.int .u32 0) (fun k => w2.heap.size ≤ k) w2 from ⟨p0, hbw2, fun k h => h, Nat.le_refl _⟩)
  obtain ⟨f, hf⟩ := runsL_form l (datL d)
  have hE := Lib.hid hf
  clear hf
  have HLA := Lib.hid (runsL_last HG.out (datL d))
  clear hit p0 p1 p2 hb2 hbw2 HW2 HC HB1
  generalize hN : w1.heap.size = N at *
  refine (wpIn_wide (n := 1)).1 ?_
  refine rfts_law (m := 0) (gf := 122) (lb := #[.pointer (some ⟨N + 1, 0, none⟩), .pointer (some ⟨N + 1 + 1, 0, none⟩)]) rfl enters_runs HIT.out (Nat.le_refl _) (fun k hk => by omega) (fun i h => by rw [(hE.out i h).1]; rfl)
    (fun W => RunI w w2 N (.int .u32 0) (fun k => w2.heap.size ≤ k) W)
    (fun T i W => RunI w w2 N (lastV (runsL l (datL d)) i) T W)
    ?hI0 ?hI1 ?hI HRI.out ?a1 ?assign ?body ?done
  case hI0 => exact fun A B h hs => h.step (by omega) (by omega) (⟨hs.os, hs.tape, hs.output, hs.size, fun k hk hn => hs.block k (by omega)⟩) (fun k q => .inl q)
  case hI1 => exact fun T A h hT hz => ⟨h.box, h.below, fun k hk => (hT k hk).1, h.size⟩
  case hI => exact fun T T' i A B h hs h1 h2 => h.step (by omega) (by omega) hs h2
  case assign =>
    intro lp i h B K hK
    rw [(hE.out i h).1]
    gi_wp2
    exact hK
  case body =>
    intro lp T i h W hri hT hz
    have hb0 : W.heap[N]? = some (.cells #[lastV (runsL l (datL d)) i] 33 (0, 0)) := hri.box
    have c0 : W.cell? ⟨N, 0, none⟩ = some (lastV (runsL l (datL d)) i) := cell_of_row _ _ _ _ _ _ hb0
    have f0 : W.frozen? ⟨N, 0, none⟩ = false := by simp [World.frozen?, hb0]
    have HRW := Lib.hid hri
    have HB0 := Lib.hid hb0
    have HTT := Lib.hid hT
    have hNz : N < W.heap.size := by omega
    clear hri hb0 hT
    gi_wp2
    refine ⟨(KpQ.refl _ _).setCell (by
      show ¬ ((N < w.heap.size ∨ N = N + 1 ∨ N = N + 2) ∨ T N)
      rintro (q | q)
      · omega
      · have := (HTT.out _ q).1; omega) _, ?_⟩
    show RunI w w2 N (lastV (runsL l (datL d)) (i + 1)) T _
    rw [(hE.out i h).2]
    refine ⟨?_, HRW.out.below.setCell (p := ⟨N, 0, none⟩) (by show w.heap.size ≤ N; omega) _, HRW.out.own, by simpa using HRW.out.size⟩
    exact (heap_setCell_same W N 0 _ _ _ HB0.out).trans (by simp)
  case done =>
    intro T W hz hri hD
    have hb0 := hri.box
    rw [HLA.out] at hb0
    have c0 : W.cell? ⟨N, 0, none⟩ = some (.int .u32 (runL l (datL d) : Int)) := cell_of_row _ _ _ _ _ _ hb0
    have HRW := Lib.hid hri
    have HD := Lib.hid hD
    clear hri hb0 hD
    go_wp2
    refine leaves_marks (base := w.heap.size) [{ target := .collected w2.heap.size, args := #[] }] W ⟨[w2.heap.size], rfl, by simp, fun k hk => by
      have : k = w2.heap.size := by simpa using hk
      subst this
      exact ⟨by omega, HD.out⟩⟩ ?_
    intro W' hcl
    exact ⟨_, results_tmp2 rfl _ _ _, rfl, HRW.out.below.trans (hcl.below.mono (Nat.le_refl _))⟩
end Go.Proofs.Ytfjbanfibmpalaa

/- Contracts: wicketgatelaw05.wakes; VmAlu. -/
set_option linter.unusedVariables false
set_option linter.unusedSimpArgs false
namespace Go.Proofs.Ytfjbanfibmpalaa
open Go.RowKit Go.Shelf

def l05 : List Insn := [⟨32, 0, 0, 0⟩, ⟨21, 0, 1, 7⟩, ⟨6, 0, 0, 1⟩, ⟨6, 0, 0, 2⟩]
theorem ok_low {c a b k : Nat} (h : c < 256 ∧ a < 256 ∧ b < 256 ∧ k < 256) : (⟨c, a, b, k⟩ : Insn).Ok :=
  ⟨by show c < _; omega, by show a < _; omega, by show b < _; omega, by show k < _; omega⟩
theorem l05_good : Good l05 := by
  refine ⟨?_, by decide +kernel⟩
  intro x hx
  simp [l05] at hx
  rcases hx with rfl | rfl | rfl | rfl <;> exact ok_low (by decide)
def dtN (n : Nat) : Dt := ⟨n, 0, 0, 0, 0, 0, 0, 0, 0⟩
theorem dtN_ok {n : Nat} (h : n < 4294967296) : (dtN n).Ok := by
  have z : 0 < 18446744073709551616 := by decide
  exact ⟨h, (by decide : 0 < 4294967296), z, z, z, z, z, z, z⟩
/-- A literal row of instructions. -/
theorem Good.lit5 {l : List Insn} (hg : Good l) {w : World} {cs : Array Value} (hcs : cs = (EI.flat l).toArray) : RdP (w.alloc (.cells cs 36)) (some ⟨w.heap.size, 0, none⟩) l :=
  RdP.of_enc (Enc.Rd.list_at EI w _ l cs hcs _ rfl) (by have := hg.len; omega) hg.ok

theorem run_7 (g : Nat) (W : World) (hl : RdP W (some ⟨g, 0, none⟩) l05) : Calls Try.prog 37 #[.slice (some ⟨g, 0, none⟩) 4 4, .agg #[.int .u32 7, .int .u32 0, .int .u64 0, .int .u64 0, .int .u64 0, .int .u64 0, .int .u64 0, .int .u64 0, .int .u64 0]] W fun e w' =>
    e = .returned (.tuple #[.int .u32 1, .int .i64 0]) ∧ Below W.heap.size W w' := by
  have h := run_good (some ⟨g, 0, none⟩) 4 l05 (dtN 7) (dtN_ok (by decide)) W hl l05_good
  rw [show runL l05 (datL (dtN 7)) = 1 by decide +kernel] at h
  exact h
theorem run_8 (g : Nat) (W : World) (hl : RdP W (some ⟨g, 0, none⟩) l05) : Calls Try.prog 37 #[.slice (some ⟨g, 0, none⟩) 4 4, .agg #[.int .u32 8, .int .u32 0, .int .u64 0, .int .u64 0, .int .u64 0, .int .u64 0, .int .u64 0, .int .u64 0, .int .u64 0]] W fun e w' =>
    e = .returned (.tuple #[.int .u32 2, .int .i64 0]) ∧ Below W.heap.size W w' := by
  have h := run_good (some ⟨g, 0, none⟩) 4 l05 (dtN 8) (dtN_ok (by decide)) W hl l05_good
  rw [show runL l05 (datL (dtN 8)) = 2 by decide +kernel] at h
  exact h

set_option maxRecDepth 100000 in
set_option maxHeartbeats 400000 in
theorem wakes05_any (w : World) : Calls Try.prog 29 #[] w fun e w' => e = .returned (.bool true) ∧ Below w.heap.size w w' := by
  have HL := Lib.hid (l05_good.lit5 (w := w) (cs := #[.int .u16 32, .int .u8 0, .int .u8 0, .int .u32 0, .int .u16 21, .int .u8 0, .int .u8 1, .int .u32 7, .int .u16 6, .int .u8 0, .int .u8 0, .int .u32 1, .int .u16 6, .int .u8 0, .int .u8 0, .int .u32 2]) rfl)
  go_enter Try.func29, Try.ntmps29
  have tok : True := trivial
  go_wp2_with (first
    | (go_at_call 37; have _t := tok; refine (run_7 _ _ HL.out).mono ?_; rintro e w1 ⟨rfl, hb⟩; have HB1 := Lib.hid (Below.trans (show Below w.heap.size w _ by (repeat (first | with_reducible exact Below.refl _ _ | with_reducible assumption | ((with_reducible refine Below.setCell ?_ ?hp _); case hp => (first | omega | (simp only [World.size_alloc, World.size_setCell, World.size_drew]; omega) | (simp; done) | (simp; omega))) | ((with_reducible refine Below.alloc ?_ ?hp _); case hp => (first | omega | (simp only [World.size_alloc, World.size_setCell, World.size_drew]; omega) | (simp; done) | (simp; omega))) | with_reducible refine Below.drew ?_ | with_reducible refine below_drewN ?_ _))) (hb.mono (by simp))); have HL1 := Lib.hid (HL.out.below hb (Nat.le_refl _)); clear hb tok)
    | (go_at_call 37; refine (run_8 _ _ HL1.out).mono ?_; rintro e w2 ⟨rfl, hb⟩; have HB2 := Lib.hid (HB1.out.trans (hb.mono HB1.out.size)); clear hb))
  go_ret
  exact ⟨rfl, HB2.out⟩

set_option maxHeartbeats 400000 in
theorem vmalu_any (c a b : Nat) (hc : c < 65536) (ha : a < 4294967296) (hb : b < 4294967296) (w : World) :
    Calls Try.prog 6 #[.int .u16 c, .int .u32 a, .int .u32 b] w fun e w' => e = .returned (.bool true) ∧ Below w.heap.size w w' := by
  have HW := Lib.hid (wakes05_any w)
  have HA := Lib.hid (fun W => alu_any c a b hc ha hb W)
  have HRA := Lib.hid (fun W => ralu_any c a b hc ha hb W)
  have HH := Lib.hid (fun W => holds_any c a b hc ha hb W)
  have HRH := Lib.hid (fun W => rholds_any c a b hc ha hb W)
  generalize aluL (c / 16 % 16) a b = p at *
  generalize holdsL (c / 16 % 16) a b = q at *
  obtain ⟨p1, p2⟩ := p
  clear hc ha hb
  cases p2 <;> cases q
  all_goals
    go_enter Try.func6, Try.ntmps6
    go_wp2_with (first
      | (go_at_call 29; refine HW.out.mono ?_; rintro e w1 ⟨rfl, hb1⟩; have HB1 := Lib.hid hb1; clear hb1)
      | (go_at_call 30; refine (HA.out _).mono ?_; rintro e w2 ⟨rfl, hb2⟩; have HB2 := Lib.hid (HB1.out.trans (hb2.mono HB1.out.size)); clear hb2)
      | (go_at_call 31; refine (HRA.out _).mono ?_; rintro e w3 ⟨rfl, rfl⟩)
      | (go_at_call 32; refine (HH.out _).mono ?_; rintro e w4 ⟨rfl, rfl⟩)
      | (go_at_call 33; refine (HRH.out _).mono ?_; rintro e w5 ⟨rfl, rfl⟩))
    go_ret
    exact ⟨rfl, HB2.out⟩
end Go.Proofs.Ytfjbanfibmpalaa

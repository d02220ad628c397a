/- Contract: vm.Trace. -/
import Derived.Test.YtfjbanfibmpalaaVE
import Derived.Deep.MidRow
import Derived.Great.BuildSlice
set_option linter.unusedVariables false
set_option linter.unusedSimpArgs false
namespace Go.Proofs.Ytfjbanfibmpalaa
open Go.RowKit Go.Shelf
attribute [local go_sem] Oper.semAt_some

/-- Machines in cells. -/
def encV (z : Int × Rg) : List Value := .int .i64 z.1 :: .int .u32 z.2.a :: .int .u32 z.2.x :: (List.range 16).map fun i => .int .u32 ((z.2.mem.getD i 0 : Nat) : Int)
def EV : Enc (Int × Rg) := ⟨encV, 19, fun x => by simp [encV], fun x u hu => by
  simp only [encV, List.mem_cons, List.mem_map] at hu
  rcases hu with rfl | rfl | rfl | ⟨i, _, rfl⟩ <;> rfl⟩
theorem vmA_enc (pc : Int) (r : Rg) (h : r.Ok) : vmA pc r = (EV.enc (pc, r)).toArray := by
  unfold vmA
  show _ = (encV (pc, r)).toArray
  unfold encV
  congr 4
  refine List.ext_getElem? (fun i => ?_)
  by_cases hi : i < 16
  · have : i < r.mem.length := by rw [h.len]; exact hi
    simp [hi, this]
  · rw [List.getElem?_eq_none (by simp [h.len]; omega), List.getElem?_eq_none (by simp; omega)]
theorem info_vmE : (Try.prog.info? 50).map (fun i => (i.zero, i.size, i.bytes)) = some (some (.agg (vmA 0 rg0)), EV.size, 80) := by kernel_rfl

section
variable {P : Program} {F : Fence} {n : Nat}
/-- A slice literal of one row, the row a term that nobody reckons. -/
theorem wpListIn_build1 {ops : Array Oper} {rest : List Oper} {o : Oper} {a : Act} {w : World} {Q : Exit → Act → World → Prop} (hgd : o.guard = none) (t e : TypeId) (x : Operand) (ho : o.op = .buildSlice t 1 #[(0, x)])
    (cells zc : Array Value) (hx : a.eval x = .agg cells) (b : Nat) (hu : P.underlying t = some (.slice e)) (hi : (P.info? e).map (fun i => (i.zero, i.size, i.bytes)) = some (some (.agg zc), cells.size, b)) (hz : zc.size = cells.size)
    (hpos : 0 < cells.size) (hsmall : cells.size ≤ 16777216)
    (h : wpListIn F n P ops Q rest (a.put o.dst (.slice (some ⟨w.heap.size, 0, none⟩) 1 1)) (w.alloc (.cells cells e))) : wpListIn F n P ops Q (o :: rest) a w := by
  cases hie : P.info? e with
  | none => simp [hie] at hi
  | some ie =>
    simp only [hie, Option.map_some, Option.some.injEq, Prod.mk.injEq] at hi
    refine wpListIn_plain hgd fun K hK => ⟨fun f hf => ?_, ?_⟩
    · simp [Oper.about, ho] at hf
    · rw [Oper.semAt_eq _ _ _ (by intro c hc; rw [ho] at hc; cases hc)]
      have hf : Instr.fill (fun i => some (i * ie.size, ie.size)) ((Array.range (1 * ie.size)).map ((Value.agg zc).cells[· % (Value.agg zc).cells.size]!)) (#[(0, x)].map fun (i, x) => (i, a.eval x)).toList = some cells := by
        have := Great.fill_whole (s := ie.size) (by omega) [.agg cells] ((Array.range (1 * ie.size)).map ((Value.agg zc).cells[· % (Value.agg zc).cells.size]!)) (fun v hv => by simp at hv; subst hv; exact hi.2.1.symm) (by simp)
        simpa [hx, Value.cells] using this
      unfold execOp
      simp only [ho, Sem.run_bind, run_buildSlice w t e 1 _ cells ie (.agg zc) hu hie hi.1 (by omega) (by omega) hf, Result.andThen_ok]
      exact hK _ _ h
end

/-- The machines ahead of each step. -/
def trI (l : List Insn) (dd : Nat → Nat) : List (Int × Rg) := (traceL l dd).map fun z => ((z.1 : Int), z.2)
theorem runs_pairs (l : List Insn) (dd : Nat → Nat) : ∀ f pc r, (runsF l dd f pc r).map (fun a => a.getD 0 undef) = (traceF l dd f pc r).map fun z => Value.agg (vmA z.1 z.2)
  | 0, pc, r => rfl
  | f + 1, pc, r => by
    unfold runsF traceF
    rw [List.map_cons, List.map_cons]
    congr 1
    cases he : endsL (ins l pc) r with
    | some v => rfl
    | none => exact runs_pairs l dd f _ _
theorem trace_ok {l : List Insn} (hg : Good l) {dd : Nat → Nat} (hd : ∀ k, dd k < 4294967296) : ∀ f pc r, pc < l.length → r.Ok → ∀ z ∈ traceF l dd f pc r, z.2.Ok
  | 0, pc, r, _, _, z, h => by cases h
  | f + 1, pc, r, hp, hr, z, h => by
    unfold traceF at h
    rcases List.mem_cons.1 h with rfl | h
    · exact hr
    · cases he : endsL (ins l pc) r with
      | some v => rw [he] at h; cases h
      | none => rw [he] at h; exact trace_ok hg hd f _ _ (hg.step hp he) (effL_ok (hg.okAt hp) hd hr) z h
/-- The i-th machine. -/
def zI (l : List Insn) (dd : Nat → Nat) (i : Nat) : Int × Rg := (trI l dd).getD i (0, rg0)
theorem runs_len (l : List Insn) (dd : Nat → Nat) : (runsL l dd).length = (trI l dd).length := by
  have := congrArg List.length (runs_pairs l dd l.length 0 rg0)
  simpa [trI, runsL, traceL] using this
theorem zI_ok {l : List Insn} (hg : Good l) {dd : Nat → Nat} (hd : ∀ k, dd k < 4294967296) (i : Nat) : (zI l dd i).2.Ok := by
  unfold zI
  rw [List.getD_eq_getElem?_getD]
  rcases Nat.lt_or_ge i (trI l dd).length with h | h
  · rw [List.getElem?_eq_getElem h]
    have hm := List.getElem_mem h
    obtain ⟨z, hz, e⟩ := List.mem_map.1 hm
    show (trI l dd)[i].2.Ok
    rw [← e]
    exact trace_ok hg hd l.length 0 rg0 (by have := hg.len; omega) rg0_ok z hz
  · rw [List.getElem?_eq_none h]; exact rg0_ok
theorem runs_zI (l : List Insn) (dd : Nat → Nat) : ∃ v : Nat → Nat, ∀ i (h : i < (runsL l dd).length), (runsL l dd)[i] = #[.agg (vmA (zI l dd i).1 (zI l dd i).2), .int .u32 (v i : Int)] := by
  obtain ⟨f, hf⟩ := runsL_form l dd
  refine ⟨fun i => (f i).2.2, fun i h => ?_⟩
  have h1 := (hf i h).1
  have hp := runs_pairs l dd l.length 0 rg0
  have h2 : i < (trI l dd).length := by rw [← runs_len]; exact h
  have h3 : ((runsL l dd).map (fun a => a.getD 0 undef))[i]? = ((traceL l dd).map fun z => Value.agg (vmA z.1 z.2))[i]? := congrArg (·[i]?) hp
  have h4 : i < (traceL l dd).length := by simpa [trI] using h2
  rw [List.getElem?_map, List.getElem?_map, List.getElem?_eq_getElem h, List.getElem?_eq_getElem h4, h1] at h3
  have h5 : zI l dd i = (((traceL l dd)[i].1 : Int), (traceL l dd)[i].2) := by
    unfold zI
    rw [List.getD_eq_getElem?_getD, List.getElem?_eq_getElem h2]
    simp [trI]
  rw [h1, h5]
  simp at h3
  simp [h3]
theorem trI_take (l : List Insn) (dd : Nat → Nat) (i : Nat) (h : i < (trI l dd).length) : (trI l dd).take (i + 1) = (trI l dd).take i ++ [zI l dd i] := by
  rw [List.take_succ_eq_append_getElem h]
  unfold zI
  rw [List.getD_eq_getElem?_getD, List.getElem?_eq_getElem h]; rfl

theorem runsF_len (l : List Insn) (dd : Nat → Nat) : ∀ f pc r, (runsF l dd f pc r).length ≤ f
  | 0, _, _ => Nat.le_refl _
  | f + 1, pc, r => by
    unfold runsF
    rw [List.length_cons]
    cases endsL (ins l pc) r with
    | some v => simp
    | none => have := runsF_len l dd f (pc + 1 + offL (ins l pc) r) (effL (ins l pc) dd r); simp; omega

/-- What stands while it is traced. -/
structure TrJ (w W0 : World) (N : Nat) (out : List (Int × Rg)) (T : Nat → Prop) (W : World) : Prop where
  box : ∃ R c, W.heap[N]? = some (.cells #[.slice R out.length c] 58 (0, 0)) ∧ EV.Own 50 W W0.heap.size R c out ∧ ∀ k, (Value.slice R out.length c).ownBlock = some k → ¬ T k
  below : Below w.heap.size w W
  own : ∀ k, T k → W0.heap.size ≤ k
  size : W0.heap.size ≤ W.heap.size
theorem own_step {w w' : World} {base : Nat} {e : TypeId} {A : Option Addr} {c : Nat} {l : List (Int × Rg)} {T : Nat → Prop} (h : EV.Own e w base A c l) (hs : StepT T w w') (hn : ∀ k, (Value.slice A l.length c).ownBlock = some k → ¬ T k) : EV.Own e w' base A c l := by
  refine ⟨h.1, h.2.imp id ?_⟩
  rintro ⟨g, cap, cur, h1, h2, h3, r⟩
  exact ⟨g, cap, cur, h1, h2, (hs.block g (Array.getElem?_eq_some_iff.1 h3).1 (hn g (by rw [h1]; rfl))).trans h3, r⟩
theorem TrJ.step {w W0 : World} {N : Nat} {out : List (Int × Rg)} {T T' : Nat → Prop} {A B : World} (h : TrJ w W0 N out T A) (hN : N < W0.heap.size) (hw : w.heap.size ≤ W0.heap.size) (hs : StepT T A B) (ht : ∀ k, T' k → T k ∨ (A.heap.size ≤ k ∧ k < B.heap.size)) : TrJ w W0 N out T' B := by
  obtain ⟨R, c, h1, h2, h3⟩ := h.box
  refine ⟨⟨R, c, (hs.block N (Nat.lt_of_lt_of_le hN h.size) (fun q => by have := h.own _ q; omega)).trans h1, own_step h2 hs h3, fun k hk q => ?_⟩,
   ⟨hs.os.trans h.below.os, hs.tape.trans h.below.tape, hs.output.trans h.below.output, Nat.le_trans h.below.size hs.size, fun k hk => (hs.block k (Nat.lt_of_lt_of_le hk h.below.size) (fun q => by have := h.own _ q; omega)).trans (h.below.block k hk)⟩,
   fun k hk => by
    have := h.size
    rcases ht k hk with q | q
    · exact h.own k q
    · omega, Nat.le_trans h.size hs.size⟩
  rcases ht k q with q | q
  · exact h3 k hk q
  · have := (World.ownsRow.lt (show A.ownsRow _ _ _ _ _ _ from h2) k hk).2
    omega

set_option maxRecDepth 100000 in
set_option maxHeartbeats 1000000 in
theorem clip_any (A : Option Addr) (n c : Nat) (h : (A = none ∧ n = 0 ∧ c = 0) ∨ ∃ g, A = some ⟨g, 0, none⟩ ∧ n ≤ c) (w : World) :
    Calls Try.prog 73 #[.slice A n c] w fun e w' => ∃ c', e = .returned (.slice A n c') ∧ w' = w := by
  rcases h with ⟨rfl, rfl, rfl⟩ | ⟨g, rfl, hn⟩
  · go_enter Try.func73, Try.ntmps73
    go_wp2
    exact ⟨rfl, _, by simp [results, go_sem], 0, rfl, rfl⟩
  · go_enter Try.func73, Try.ntmps73
    go_wp2
    exact ⟨rfl, _, by simp [results, go_sem], n, rfl, rfl⟩
theorem own_clip {w : World} {base : Nat} {e : TypeId} {A : Option Addr} {c : Nat} {l : List (Int × Rg)} (h : EV.Own e w base A c l) : (A = none ∧ l.length = 0 ∧ c = 0) ∨ ∃ g, A = some ⟨g, 0, none⟩ ∧ l.length ≤ c := by
  rcases h.2 with ⟨h1, h2⟩ | ⟨g, cap, cur, h1, h2, h3, h4, r⟩
  · injection h1 with e1 e2 e3; exact .inl ⟨e1, h2, e3⟩
  · injection h1 with e1 e2 e3; exact .inr ⟨g, e1, by omega⟩

set_option maxRecDepth 100000 in
set_option maxHeartbeats 1000000 in
theorem trace_good (A : Option Addr) (cap : Nat) (l : List Insn) (d : Dt) (hd : d.Ok) (w : World) (hl : RdP w A l) (hg : Good l) :
    Calls Try.prog 38 #[.slice A l.length cap, (Value.agg #[.int .u32 d.nr, .int .u32 d.arch, .int .u64 d.ip, .int .u64 d.a0, .int .u64 d.a1, .int .u64 d.a2, .int .u64 d.a3, .int .u64 d.a4, .int .u64 d.a5])] w fun e w' => ∃ R c, e = .returned (.tuple #[.slice R (trI l (datL d)).length c, .int .i64 0]) ∧ EV.Rd w' R (trI l (datL d)) ∧ Below w.heap.size w w' := by
  have hlen := hg.len
  have HC := Lib.hid (fun W (h : Below w.heap.size w W) => check_any A cap l W (hl.below h (Nat.le_refl _)))
  have HG := Lib.hid hg
  have HL := Lib.hid hl
  have HK := Lib.hid hg.checked
  have HDd := Lib.hid hd
  obtain ⟨b, o, rfl, hb, _⟩ := hl.get (i := 0) (by omega)
  clear hg hl hd
  refine (callsIn_wide (n := 0)).1 ?_
  refine callsIn_of_wp_marks Try.func38 rfl trivial ?_ rfl
  simp only [Try.ntmps38, List.size_toArray, List.length_cons, List.length_nil, Nat.reduceAdd, Nat.reduceSub, Array.replicate_succ, Array.replicate_zero, List.push_toArray, List.append_toArray, List.nil_append, List.cons_append]
  refine wpIn_wide.2 ?_
  go_wp2_with (first
    | (go_at_call 27; refine (HC.out _ (by (repeat (first | with_reducible exact Below.refl _ _ | with_reducible assumption | ((with_reducible refine Below.setCell ?_ ?hp _); case hp => (first | omega | (simp only [World.size_alloc, World.size_setCell, World.size_drew]; omega) | (simp; done) | (simp; omega))) | ((with_reducible refine Below.alloc ?_ ?hp _); case hp => (first | omega | (simp only [World.size_alloc, World.size_setCell, World.size_drew]; omega) | (simp; done) | (simp; omega))) | with_reducible refine Below.drew ?_ | with_reducible refine below_drewN ?_ _)))).mono ?_; rw [HK.out]; rintro e w1 ⟨rfl, hb1⟩; have h1 : w1.heap[w.heap.size]? = some (.cells #[.int .u32 d.nr, .int .u32 d.arch, .int .u64 d.ip, .int .u64 d.a0, .int .u64 d.a1, .int .u64 d.a2, .int .u64 d.a3, .int .u64 d.a4, .int .u64 d.a5] 47 (0, 0)) := ((hb1.block _ (by simp)).trans (heap_alloc_new w _)); have hz1 : w.heap.size < w1.heap.size := (by have := hb1.size; simp at this; omega); have HB1 := Lib.hid (Below.trans (show Below w.heap.size w _ by (repeat (first | with_reducible exact Below.refl _ _ | with_reducible assumption | ((with_reducible refine Below.setCell ?_ ?hp _); case hp => (first | omega | (simp only [World.size_alloc, World.size_setCell, World.size_drew]; omega) | (simp; done) | (simp; omega))) | ((with_reducible refine Below.alloc ?_ ?hp _); case hp => (first | omega | (simp only [World.size_alloc, World.size_setCell, World.size_drew]; omega) | (simp; done) | (simp; omega))) | with_reducible refine Below.drew ?_ | with_reducible refine below_drewN ?_ _))) (hb1.mono (by simp))); have H1 := Lib.hid h1; clear hb1 h1)
    | (go_at_call 72; refine (runs_any (some ⟨b, o, none⟩) cap l.length d _).mono ?_; rintro e w2 ⟨rfl, hw2⟩; have HW2 := Lib.hid hw2; clear hw2)
    | (refine wpList_load_row rfl 47 (.tmp 3) rfl w.heap.size rfl 47 #[.int .u32 d.nr, .int .u32 d.arch, .int .u64 d.ip, .int .u64 d.a0, .int .u64 d.a1, .int .u64 d.a2, .int .u64 d.a3, .int .u64 d.a4, .int .u64 d.a5] (0, 0) _ ((Below.heap_alloc _ _ _ hz1).trans H1.out) Try.underlying47 rfl (by kernel_rfl) ?_; go_simp))
  have hs2 : w2.heap.size = w1.heap.size + 3 := by rw [← HW2.out]; simp
  have hb2 : Below w1.heap.size w1 w2 := by rw [← HW2.out]; (repeat (first | with_reducible exact Below.refl _ _ | with_reducible assumption | ((with_reducible refine Below.setCell ?_ ?hp _); case hp => (first | omega | (simp only [World.size_alloc, World.size_setCell, World.size_drew]; omega) | (simp; done) | (simp; omega))) | ((with_reducible refine Below.alloc ?_ ?hp _); case hp => (first | omega | (simp only [World.size_alloc, World.size_setCell, World.size_drew]; omega) | (simp; done) | (simp; omega))) | with_reducible refine Below.drew ?_ | with_reducible refine below_drewN ?_ _))
  have hbw2 : Below w.heap.size w w2 := HB1.out.trans (hb2.mono HB1.out.size)
  have hz1 : w.heap.size ≤ w1.heap.size := HB1.out.size
  have p0 : w2.heap[w1.heap.size]? = some (.cells #[.slice none 0 0] 58 (0, 0)) := by
    rw [← HW2.out]; exact (Below.heap_alloc _ _ _ (by simp; omega)).trans ((Below.heap_alloc _ _ _ (by simp)).trans (heap_alloc_new w1 _))
  have p1 : w2.heap[w1.heap.size + 1]? = some (.cells #[.slice (some ⟨b, o, none⟩) l.length cap] 24 (0, 0)) := by
    rw [← HW2.out]
    have := heap_alloc_new (w1.alloc (.cells #[.slice none 0 0] 58)) (.cells #[.slice (some ⟨b, o, none⟩) l.length cap] 24)
    rw [World.size_alloc] at this
    exact (Below.heap_alloc _ _ _ (by simp)).trans this
  have p2 : w2.heap[w1.heap.size + 2]? = some (.cells #[.int .u32 d.nr, .int .u32 d.arch, .int .u64 d.ip, .int .u64 d.a0, .int .u64 d.a1, .int .u64 d.a2, .int .u64 d.a3, .int .u64 d.a4, .int .u64 d.a5] 47 (0, 0)) := by
    rw [← HW2.out]
    have := heap_alloc_new ((w1.alloc (.cells #[.slice none 0 0] 58)).alloc (.cells #[.slice (some ⟨b, o, none⟩) l.length cap] 24)) (.cells #[.int .u32 d.nr, .int .u32 d.arch, .int .u64 d.ip, .int .u64 d.a0, .int .u64 d.a1, .int .u64 d.a2, .int .u64 d.a3, .int .u64 d.a4, .int .u64 d.a5] 47)
    simp only [World.size_alloc] at this
    exact this
  have hit := runs_iter (some ⟨b, o, none⟩) cap l d HDd.out (w1.heap.size + 1) (w1.heap.size + 2) w.heap.size w2.heap.size w2 (HL.out.below hbw2 (Nat.le_refl _)) HG.out (by omega) (by omega) (by omega) (fun b' o' e => by cases e; exact hb) p1 p2
  have HIT := Lib.hid hit
  have HRI := Lib.hid (show TrJ w w2 w1.heap.size [] (fun k => w2.heap.size ≤ k) w2 from ⟨⟨none, 0, p0, Enc.Own.nil, fun k hk => by cases hk⟩, hbw2, fun k h => h, Nat.le_refl _⟩)
  obtain ⟨f, hf⟩ := runs_zI l (datL d)
  have hE := Lib.hid hf
  have HZ := Lib.hid (fun i => zI_ok HG.out (fun k => datL_lt HDd.out k) i)
  have HRL := Lib.hid (runs_len l (datL d))
  have HTK := Lib.hid (trI_take l (datL d))
  have HTL := Lib.hid (show (trI l (datL d)).length ≤ 64 by
    have h := runsF_len l (datL d) l.length 0 rg0
    rw [← runs_len]
    exact Nat.le_trans h hlen.2)
  clear hf hit p0 p1 p2 hb2 hbw2 HW2 HC HB1
  generalize hN : w1.heap.size = N at *
  refine (wpIn_wide (n := 1)).1 ?_
  refine rfty_law (m := 0) (gf := 122) (lb := #[.pointer (some ⟨N + 1, 0, none⟩), .pointer (some ⟨N + 1 + 1, 0, none⟩)]) rfl enters_runs HIT.out (Nat.le_refl _) (fun k hk => by omega) (fun i h => by rw [hE.out i h]; rfl)
    (fun W => TrJ w w2 N [] (fun k => w2.heap.size ≤ k) W)
    (fun T i W => TrJ w w2 N ((trI l (datL d)).take i) T W)
    ?hI0 ?hI1 ?hI HRI.out
    (fun T i j W => TrJ w w2 N ((trI l (datL d)).take i) T W ∧ W.heap[j]? = some (.cells (vmA (zI l (datL d) i).1 (zI l (datL d) i).2) 50 (0, 0)) ∧ ¬ T j ∧ w2.heap.size ≤ j) ?hBx ?fr ?assign ?body ?done
  case hI0 => exact fun A B h hs => h.step (by omega) (by omega) (⟨hs.os, hs.tape, hs.output, hs.size, fun k hk hn => hs.block k (by omega)⟩) (fun k q => .inl q)
  case hI1 =>
    intro T A h hT hz
    obtain ⟨R, c, h1, h2, h3⟩ := h.box
    refine ⟨⟨R, c, h1, h2, fun k hk q => h3 k hk (hT k q).1⟩, h.below, fun k hk => (hT k hk).1, h.size⟩
  case hI => exact fun T T' i A B h hs h1 h2 => h.step (by omega) (by omega) hs h2
  case hBx =>
    rintro T i j A B ⟨h1, h2, h3, h4⟩ hs
    exact ⟨h1.step (by omega) (by omega) hs (fun k q => .inl q), (hs.block j (Array.getElem?_eq_some_iff.1 h2).1 h3).trans h2, h3, h4⟩
  case assign =>
    intro lp T i h B RR htj hT hz hRR
    have HTJ := Lib.hid htj
    have HTT := Lib.hid hT
    have HRR := Lib.hid hRR
    have HSO := Lib.hid (HZ.out i)
    rw [hE.out i h]
    clear htj hT hRR
    generalize hj : B.heap.size = j at *
    gi_wp2_with (refine wpListIn_store_row rfl 50 (.tmp 9) (.tmp 21) rfl j (vmA (zI l (datL d) i).1 (zI l (datL d) i).2) rfl rfl 50 #[.int .i64 0, .int .u32 0, .int .u32 0, .int .u32 0, .int .u32 0, .int .u32 0, .int .u32 0, .int .u32 0, .int .u32 0, .int .u32 0, .int .u32 0, .int .u32 0, .int .u32 0, .int .u32 0, .int .u32 0, .int .u32 0, .int .u32 0, .int .u32 0, .int .u32 0] (by rw [← hj]; exact heap_alloc_new B _) (info_vm _ _ HSO.out) (by rw [vmA_size _ _ HSO.out]; rfl) (vmA_one _ _) ?_)
    simp only [Act.put]
    have hbl : Below B.heap.size B ((B.alloc (.cells #[.int .i64 0, .int .u32 0, .int .u32 0, .int .u32 0, .int .u32 0, .int .u32 0, .int .u32 0, .int .u32 0, .int .u32 0, .int .u32 0, .int .u32 0, .int .u32 0, .int .u32 0, .int .u32 0, .int .u32 0, .int .u32 0, .int .u32 0, .int .u32 0, .int .u32 0] 50)).setRow j (vmA (zI l (datL d) i).1 (zI l (datL d) i).2)) := below_row (by (repeat (first | with_reducible exact Below.refl _ _ | with_reducible assumption | ((with_reducible refine Below.setCell ?_ ?hp _); case hp => (first | omega | (simp only [World.size_alloc, World.size_setCell, World.size_drew]; omega) | (simp; done) | (simp; omega))) | ((with_reducible refine Below.alloc ?_ ?hp _); case hp => (first | omega | (simp only [World.size_alloc, World.size_setCell, World.size_drew]; omega) | (simp; done) | (simp; omega))) | with_reducible refine Below.drew ?_ | with_reducible refine below_drewN ?_ _))) (by omega) _
    refine HRR.out j _ (.of_below hbl) ⟨HTJ.out.step (by omega) (by omega) (.of_below hbl) (fun k q => .inl q), ?_, fun q => by have := HTT.out j q; omega, by have := HTJ.out.size; omega⟩
    exact setRow_heap _ _ _ _ _ _ (by rw [← hj]; exact heap_alloc_new B _)
  case body =>
    rintro lp T i h j W ⟨htj, hrow, hnj, hjz⟩ hT hz
    have HTT := Lib.hid hT
    have HSO := Lib.hid (HZ.out i)
    have HROW := Lib.hid hrow
    have hil : i < (trI l (datL d)).length := by rw [← HRL.out]; exact h
    have hnx := HTK.out i hil
    have hle : ((trI l (datL d)).take i).length ≤ 64 := by have := HTL.out; rw [List.length_take]; omega
    have HNX := Lib.hid hnx
    clear hnx
    generalize hout : (trI l (datL d)).take i = out at *
    obtain ⟨R, c, h1, h2, h3⟩ := htj.box
    have HTJ := Lib.hid htj
    have c0 : W.cell? ⟨N, 0, none⟩ = some (.slice R out.length c) := cell_of_row _ _ _ _ _ _ h1
    have HOW := Lib.hid h2
    have HB8 := Lib.hid h1
    have HN3 := Lib.hid h3
    clear htj hT hrow h1 h2 h3
    gi_wp2_with (first
      | (refine wpListIn_load_row rfl 50 (.tmp 9) rfl j rfl 50 (vmA (zI l (datL d) i).1 (zI l (datL d) i).2) (0, 0) _ HROW.out Try.underlying50 rfl (info_vm _ _ HSO.out) ?_; go_simp)
      | (refine wpListIn_build1 rfl 58 50 (.tmp 24) rfl (vmA (zI l (datL d) i).1 (zI l (datL d) i).2) (vmA 0 rg0) rfl 80 Try.underlying58 (by rw [vmA_size _ _ HSO.out]; exact info_vmE) (by rw [vmA_size _ _ HSO.out, vmA_size _ _ rg0_ok]) (by rw [vmA_size _ _ HSO.out]; decide) (by rw [vmA_size _ _ HSO.out]; decide) ?_; go_simp)
      | (gi_at_builtin; refine wpListIn_append_L EV 50 58 rfl (.tmp 23) (.tmp 25) rfl _ 80 Try.underlying58 info_vmE rfl (by decide) _ w2.heap.size R c out rfl (HOW.out.below (B := W.heap.size) (by (repeat (first | with_reducible exact Below.refl _ _ | with_reducible assumption | ((with_reducible refine Below.setCell ?_ ?hp _); case hp => (first | omega | (simp only [World.size_alloc, World.size_setCell, World.size_drew]; omega) | (simp; done) | (simp; omega))) | ((with_reducible refine Below.alloc ?_ ?hp _); case hp => (first | omega | (simp only [World.size_alloc, World.size_setCell, World.size_drew]; omega) | (simp; done) | (simp; omega))) | with_reducible refine Below.drew ?_ | with_reducible refine below_drewN ?_ _))) (Nat.le_refl _)) (some ⟨W.heap.size, 0, none⟩) 1 [zI l (datL d) i] rfl (Enc.Rd.one_at EV W _ _ _ (vmA_enc _ _ HSO.out) _ rfl) (by show out.length + 1 ≤ _; omega) (by decide) (by simp only [World.size_alloc]; omega) ?_; intro A' c' w3 hown3 hg hat; have hb3 : w3.heap[N]? = some (.cells #[.slice R out.length c] 58 (0, 0)) := (HOW.out.below (B := W.heap.size) (show Below W.heap.size W (W.alloc (.cells (vmA (zI l (datL d) i).1 (zI l (datL d) i).2) 50)) by (repeat (first | with_reducible exact Below.refl _ _ | with_reducible assumption | ((with_reducible refine Below.setCell ?_ ?hp _); case hp => (first | omega | (simp only [World.size_alloc, World.size_setCell, World.size_drew]; omega) | (simp; done) | (simp; omega))) | ((with_reducible refine Below.alloc ?_ ?hp _); case hp => (first | omega | (simp only [World.size_alloc, World.size_setCell, World.size_drew]; omega) | (simp; done) | (simp; omega))) | with_reducible refine Below.drew ?_ | with_reducible refine below_drewN ?_ _))) (Nat.le_refl _)).box hg ((Below.heap_alloc W _ _ (by omega)).trans HB8.out) (by omega); have hc3 : w3.cell? ⟨N, 0, none⟩ = some (.slice R out.length c) := cell_of_row w3 N 0 _ _ _ hb3; have hf3 : w3.frozen? ⟨N, 0, none⟩ = false := (by simp [World.frozen?, hb3]); have HG := Lib.hid hg; have HAT := Lib.hid hat; have HO3 := Lib.hid hown3; have HB3 := Lib.hid hb3; clear hg hat hown3 hb3))
    have hsz3 : W.heap.size + 1 ≤ w3.heap.size := by have := HG.out.size; simpa using this
    have hTWN : ∀ k, (k < w.heap.size ∨ k = N + 1 ∨ k = N + 2) → k < w2.heap.size := fun k hk => by omega
    have hNT : ¬ T N := fun q => by have := (HTT.out _ q).1; omega
    have hown : ∀ k, (Value.slice R out.length c).ownBlock = some k → w2.heap.size ≤ k := fun k hk => (World.ownsRow.lt (show W.ownsRow _ _ _ _ _ _ from HOW.out) k hk).1
    have hkp : KpQ (fun k => (k < w.heap.size ∨ k = N + 1 ∨ k = N + 2) ∨ T k) W w3 := ((KpQ.refl _ W).alloc _).grown HG.out (fun k hk q => by
      rcases q with q | q
      · have := hown k hk; have := hTWN k q; omega
      · exact HN3.out k hk q)
    refine ⟨hkp.setCell (p := ⟨N, 0, none⟩) (by
      show ¬ ((N < w.heap.size ∨ N = N + 1 ∨ N = N + 2) ∨ T N)
      rintro (q | q)
      · omega
      · exact hNT q) _, ?_⟩
    show TrJ w w2 N ((trI l (datL d)).take (i + 1)) T _
    rw [HNX.out]
    have hlo := World.ownsRow.lt (show w3.ownsRow _ _ _ _ _ _ from HO3.out)
    refine ⟨⟨A', c', ?_, own_step (T := fun k => k = N) HO3.out ⟨rfl, rfl, rfl, by simp, fun k _ hn => Below.heap_setCell w3 ⟨N, 0, none⟩ _ k hn⟩ (fun k hk e => by have := (hlo k hk).1; omega), fun k hk q => ?_⟩,
      ((HTJ.out.below.alloc HTJ.out.below.size _).grown HG.out (by have := HTJ.out.below.size; simp only [World.size_alloc]; omega) (fun k hk => by have := hown k hk; omega)).setCell (p := ⟨N, 0, none⟩) (by show w.heap.size ≤ N; omega) _, HTJ.out.own, by have := HTJ.out.size; simp; omega⟩
    · exact (heap_setCell_same w3 N 0 _ _ _ HB3.out).trans (by simp)
    · rcases HAT.out with e | e
      · exact HN3.out k (e ▸ hk) q
      · have hk' := hk.symm.trans e
        simp only [World.size_alloc, Option.some.injEq] at hk'
        have := (HTT.out k q).2
        omega
  case done =>
    intro T W hz htj hD
    rw [HRL.out, List.take_length] at htj
    obtain ⟨R, c, h1, h2, h3⟩ := htj.box
    have c0 : W.cell? ⟨N, 0, none⟩ = some (.slice R (trI l (datL d)).length c) := cell_of_row _ _ _ _ _ _ h1
    have HCP := Lib.hid (clip_any R (trI l (datL d)).length c (own_clip h2) W)
    have HTJ := Lib.hid htj
    have HR := Lib.hid h2
    have HD := Lib.hid hD
    clear htj hD h1 h2 h3
    go_wp2_with (go_at_call 73; refine HCP.out.mono ?_; rintro e wx ⟨c2, rfl, hwx⟩; subst wx)
    refine leaves_marks (base := w.heap.size) [{ target := .collected (N + 3), args := #[] }] W ⟨[N + 3], rfl, by simp, fun k hk => by
      have : k = w2.heap.size := by rw [hs2]; simpa using hk
      subst this
      exact ⟨by omega, HD.out⟩⟩ ?_
    intro W' hcl
    exact ⟨_, results_tmp2 rfl _ _ _, R, c2, rfl, Enc.Own.rd (E := EV) (e := 50) (base := w2.heap.size) (c := c) ⟨HR.out.1, HR.out.2.imp id fun ⟨g, cap', cur, e1, e2, e3, r⟩ => ⟨g, cap', cur, e1, e2, hcl.block _ _ e3 (by intro ds h; cases h), r⟩⟩, HTJ.out.below.trans (hcl.below.mono (Nat.le_refl _))⟩
end Go.Proofs.Ytfjbanfibmpalaa

/- Contract: the reference's Trace. -/
import Derived.Test.YtfjbanfibmpalaaK75
import Derived.Test.YtfjbanfibmpalaaK76
set_option linter.unusedVariables false
set_option linter.unusedSimpArgs false
namespace Go.Proofs.Ytfjbanfibmpalaa
open Go.RowKit Go.Shelf

section
variable {P : Program}
/-- A slice literal of one row, the row a term that nobody reckons. -/
theorem wpList_build1 {ops : Array Oper} {rest : List Oper} {o : Oper} {a : Act} {w : World} {Q : Exit → Act → World → Prop} (hgd : o.guard = none) (t e : TypeId) (x : Operand) (ho : o.op = .buildSlice t 1 #[(0, x)])
    (cells zc : Array Value) (hx : a.eval x = .agg cells) (b : Nat) (hu : P.underlying t = some (.slice e)) (hi : (P.info? e).map (fun i => (i.zero, i.size, i.bytes)) = some (some (.agg zc), cells.size, b)) (hz : zc.size = cells.size)
    (hpos : 0 < cells.size) (hsmall : cells.size ≤ 16777216)
    (h : wpList P ops Q rest (a.put o.dst (.slice (some ⟨w.heap.size, 0, none⟩) 1 1)) (w.alloc (.cells cells e))) : wpList P ops Q (o :: rest) a w := by
  cases hie : P.info? e with
  | none => simp [hie] at hi
  | some ie =>
    simp only [hie, Option.map_some, Option.some.injEq, Prod.mk.injEq] at hi
    refine wpList_buildSlice hgd t e 1 _ ho cells ie (.agg zc) hu hie hi.1 (by omega) (by omega) ?_ h
    have := Great.fill_whole (s := ie.size) (by omega) [.agg cells] ((Array.range (1 * ie.size)).map ((Value.agg zc).cells[· % (Value.agg zc).cells.size]!)) (fun v hv => by simp at hv; subst hv; exact hi.2.1.symm) (by simp)
    simpa [hx, Value.cells] using this
end

/-- A machine of the trace. -/
def pI (z : Nat × Rg) : Int × Rg := ((z.1 : Int), z.2)
theorem trI_eq (l : List Insn) (dd : Nat → Nat) : trI l dd = (traceF l dd l.length 0 rg0).map pI := rfl

set_option maxRecDepth 100000 in
set_option maxHeartbeats 1000000 in
theorem rtrace_bad (A : Option Addr) (cap : Nat) (l : List Insn) (d : Dt) (w : World) (hl : RdP w A l) (hg : (check l).2 ≠ 0) :
    Calls Try.prog 39 #[.slice A l.length cap, (Value.agg #[.int .u32 d.nr, .int .u32 d.arch, .int .u64 d.ip, .int .u64 d.a0, .int .u64 d.a1, .int .u64 d.a2, .int .u64 d.a3, .int .u64 d.a4, .int .u64 d.a5])] w fun e w' => e = .returned (.tuple #[.slice none 0 0, .int .u32 0, .int .i64 (check l).2]) ∧ Below w.heap.size w w' := by
  have HC := Lib.hid (fun W (h : Below w.heap.size w W) => rcheck_any A cap l W (hl.below h (Nat.le_refl _)))
  have hne : ((check l).2 == 0) = false := beq_eq_false_iff_ne.2 hg
  generalize check l = c at *
  obtain ⟨c1, c2⟩ := c
  clear hl hg
  go_enter Try.func39, Try.ntmps39
  go_wp2_with (go_at_call 21; refine (HC.out _ (by (repeat (first | with_reducible exact Below.refl _ _ | with_reducible assumption | ((with_reducible refine Below.setCell ?_ ?hp _); case hp => (first | omega | (simp only [World.size_alloc, World.size_setCell, World.size_drew]; omega) | (simp; done) | (simp; omega))) | ((with_reducible refine Below.alloc ?_ ?hp _); case hp => (first | omega | (simp only [World.size_alloc, World.size_setCell, World.size_drew]; omega) | (simp; done) | (simp; omega))) | with_reducible refine Below.drew ?_ | with_reducible refine below_drewN ?_ _)))).mono ?_; rintro e w1 ⟨rfl, hb1⟩; have HB1 := Lib.hid (Below.trans (show Below w.heap.size w _ by (repeat (first | with_reducible exact Below.refl _ _ | with_reducible assumption | ((with_reducible refine Below.setCell ?_ ?hp _); case hp => (first | omega | (simp only [World.size_alloc, World.size_setCell, World.size_drew]; omega) | (simp; done) | (simp; omega))) | ((with_reducible refine Below.alloc ?_ ?hp _); case hp => (first | omega | (simp only [World.size_alloc, World.size_setCell, World.size_drew]; omega) | (simp; done) | (simp; omega))) | with_reducible refine Below.drew ?_ | with_reducible refine below_drewN ?_ _))) (hb1.mono (by simp))); clear hb1)
  exact ⟨rfl, _, by simp [results, go_sem], rfl, HB1.out⟩

set_option maxRecDepth 100000 in
set_option maxHeartbeats 4000000 in
theorem rtrace_good (A : Option Addr) (cap : Nat) (l : List Insn) (d : Dt) (hd : d.Ok) (w : World) (hl : RdP w A l) (hg : Good l) :
    Calls Try.prog 39 #[.slice A l.length cap, (Value.agg #[.int .u32 d.nr, .int .u32 d.arch, .int .u64 d.ip, .int .u64 d.a0, .int .u64 d.a1, .int .u64 d.a2, .int .u64 d.a3, .int .u64 d.a4, .int .u64 d.a5])] w fun e w' => ∃ R c, e = .returned (.tuple #[.slice R (trI l (datL d)).length c, .int .u32 (runL l (datL d) : Int), .int .i64 0]) ∧ EV.Rd w' R (trI l (datL d)) ∧ Below w.heap.size w w' := by
  have hlen := hg.len
  have HC := Lib.hid (fun W (h : Below w.heap.size w W) => rcheck_any A cap l W (hl.below h (Nat.le_refl _)))
  have HG := Lib.hid hg
  have HL := Lib.hid hl
  have HK := Lib.hid hg.checked
  have HDd := Lib.hid hd
  obtain ⟨b, o, rfl, hb, _⟩ := hl.get (i := 0) (by omega)
  have HST := Lib.hid (fun pc (hpc : pc < l.length) r (hr : Rg.Ok r) W (hh : Here b o pc (ins l pc) W) => rstep_any b o cap l.length pc hpc hlen.2 (ins l pc) (hg.okAt hpc) (hg.form hpc) (hg.memOk hpc) d hd r hr W hh)
  clear hg hl hd
  go_enter Try.func39, Try.ntmps39
  go_wp2_with (first
    | (go_at_call 21; refine (HC.out _ (by (repeat (first | with_reducible exact Below.refl _ _ | with_reducible assumption | ((with_reducible refine Below.setCell ?_ ?hp _); case hp => (first | omega | (simp only [World.size_alloc, World.size_setCell, World.size_drew]; omega) | (simp; done) | (simp; omega))) | ((with_reducible refine Below.alloc ?_ ?hp _); case hp => (first | omega | (simp only [World.size_alloc, World.size_setCell, World.size_drew]; omega) | (simp; done) | (simp; omega))) | with_reducible refine Below.drew ?_ | with_reducible refine below_drewN ?_ _)))).mono ?_; rw [HK.out]; rintro e w1 ⟨rfl, hb1⟩; have h1 : w1.heap[w.heap.size]? = some (.cells #[.int .u32 d.nr, .int .u32 d.arch, .int .u64 d.ip, .int .u64 d.a0, .int .u64 d.a1, .int .u64 d.a2, .int .u64 d.a3, .int .u64 d.a4, .int .u64 d.a5] 47 (0, 0)) := ((hb1.block _ (by simp)).trans (heap_alloc_new w _)); have hz1 : w.heap.size < w1.heap.size := (by have := hb1.size; simp at this; omega); have HB1 := Lib.hid (Below.trans (show Below w.heap.size w _ by (repeat (first | with_reducible exact Below.refl _ _ | with_reducible assumption | ((with_reducible refine Below.setCell ?_ ?hp _); case hp => (first | omega | (simp only [World.size_alloc, World.size_setCell, World.size_drew]; omega) | (simp; done) | (simp; omega))) | ((with_reducible refine Below.alloc ?_ ?hp _); case hp => (first | omega | (simp only [World.size_alloc, World.size_setCell, World.size_drew]; omega) | (simp; done) | (simp; omega))) | with_reducible refine Below.drew ?_ | with_reducible refine below_drewN ?_ _))) (hb1.mono (by simp))); have H1 := Lib.hid h1; clear hb1 h1)
    | (refine wpList_store_row rfl 50 (.tmp 10) (.tmp 23) rfl w1.heap.size (vmA 0 rg0) rfl rfl 50 #[.int .i64 0, .int .u32 0, .int .u32 0, .int .u32 0, .int .u32 0, .int .u32 0, .int .u32 0, .int .u32 0, .int .u32 0, .int .u32 0, .int .u32 0, .int .u32 0, .int .u32 0, .int .u32 0, .int .u32 0, .int .u32 0, .int .u32 0, .int .u32 0, .int .u32 0] (heap_alloc_new w1 _) (info_vm _ _ rg0_ok) (by rw [vmA_size _ _ rg0_ok]; rfl) (vmA_one _ _) ?_; go_simp))
  have hs1 := HB1.out.size
  have hd1 : w.heap.size < w1.heap.size := hz1
  obtain ⟨W1, hW1⟩ : ∃ W1, (w1.alloc (.cells #[.int .i64 0, .int .u32 0, .int .u32 0, .int .u32 0, .int .u32 0, .int .u32 0, .int .u32 0, .int .u32 0, .int .u32 0, .int .u32 0, .int .u32 0, .int .u32 0, .int .u32 0, .int .u32 0, .int .u32 0, .int .u32 0, .int .u32 0, .int .u32 0, .int .u32 0] 50)).setRow w1.heap.size (vmA 0 rg0) = W1 := ⟨_, rfl⟩
  have HB2 := Lib.hid (show Below w1.heap.size w1 W1 by rw [← hW1]; exact below_row (by (repeat (first | with_reducible exact Below.refl _ _ | with_reducible assumption | ((with_reducible refine Below.setCell ?_ ?hp _); case hp => (first | omega | (simp only [World.size_alloc, World.size_setCell, World.size_drew]; omega) | (simp; done) | (simp; omega))) | ((with_reducible refine Below.alloc ?_ ?hp _); case hp => (first | omega | (simp only [World.size_alloc, World.size_setCell, World.size_drew]; omega) | (simp; done) | (simp; omega))) | with_reducible refine Below.drew ?_ | with_reducible refine below_drewN ?_ _))) (Nat.le_refl _) _)
  have HM := Lib.hid (show W1.heap[w1.heap.size]? = some (.cells (vmA 0 rg0) 50 (0, 0)) by rw [← hW1]; exact setRow_heap _ _ _ _ _ _ (heap_alloc_new w1 _))
  have hz2 : W1.heap.size = w1.heap.size + 1 := by rw [← hW1]; simp
  simp only [hW1]
  clear hW1
  generalize hMM : w1.heap.size = M at *
  go_loopw [9, 11] (fun v9 i wr => ∃ (k pc : Nat) (r : Rg) (R : Option Addr) (c : Nat) (out : List (Int × Rg)), out.length = k ∧ k ≤ pc ∧ pc < l.length ∧ r.Ok ∧ i = .int .i64 k ∧ v9 = .slice R out.length c ∧ EV.Own 50 wr (M + 1) R c out ∧
    out ++ (traceF l (datL d) (l.length - k) pc r).map pI = trI l (datL d) ∧ outF l (datL d) (l.length - k) pc r = runL l (datL d) ∧ wr.heap[M]? = some (.cells (vmA pc r) 50 (0, 0)) ∧ Below w.heap.size w wr ∧ M < wr.heap.size ∧
    wr.heap[w.heap.size]? = some (.cells #[.int .u32 d.nr, .int .u32 d.arch, .int .u64 d.ip, .int .u64 d.a0, .int .u64 d.a1, .int .u64 d.a2, .int .u64 d.a3, .int .u64 d.a4, .int .u64 d.a5] 47 (0, 0))) (fun _ i _ => l.length - (intOf i).toNat)
  case atStart => exact ⟨0, 0, rg0, none, 0, [], rfl, Nat.le_refl _, by omega, rg0_ok, rfl, rfl, Enc.Own.nil, rfl, rfl, HM.out, HB1.out.trans (HB2.out.mono hs1), by omega, (HB2.out.block _ hd1).trans H1.out⟩
  case round =>
    obtain ⟨_, pc, r, R, c, out, rfl, hkp, hpc, hr, rfl, rfl, hown, htr, hrun, hm, hbl, hmz, hdt⟩ := hrel
    have hlt : out.length < l.length := by omega
    have hs0 := hbl.size
    have hlk : l.length - out.length = (l.length - (out.length + 1)) + 1 := by omega
    have HR := Lib.hid hr
    have HM9 := Lib.hid hm
    have HOW := Lib.hid hown
    have HBL := Lib.hid hbl
    have HYC := Lib.hid (fun W (h : Below w.heap.size w W) => (show Here b o pc (ins l pc) W from by
      obtain ⟨b', o', e, hb', hc⟩ := (HL.out.below h (Nat.le_refl _)).get hpc
      cases e
      obtain ⟨x0, x1, x2, x3⟩ := hc pc hpc
      rw [← at_get l pc hpc] at x0 x1 x2 x3
      exact ⟨hb', x0, x1, x2, x3⟩))
    have HKP := Lib.hid (fun w3 (hg : World.grownBy (wr.alloc (.cells (vmA pc r) 50)) w3 (Value.slice R out.length c).ownBlock) => (show w3.heap[M]? = some (.cells (vmA pc r) 50 (0, 0)) ∧ w3.heap[w.heap.size]? = some (.cells #[.int .u32 d.nr, .int .u32 d.arch, .int .u64 d.ip, .int .u64 d.a0, .int .u64 d.a1, .int .u64 d.a2, .int .u64 d.a3, .int .u64 d.a4, .int .u64 d.a5] 47 (0, 0)) ∧ Below w.heap.size w w3 ∧ Here b o pc (ins l pc) w3 from by
      have hrow : ∀ k, (Value.slice R out.length c).ownBlock = some k → M + 1 ≤ k := fun k hk => (World.ownsRow.lt (show wr.ownsRow _ _ _ _ _ _ from hown) k hk).1
      have hbo : Below w.heap.size w w3 := (hbl.alloc hbl.size _).grown hg (by simp only [World.size_alloc]; omega) (fun k hk => by have := hrow k hk; omega)
      exact ⟨(hg.block M (by simp only [World.size_alloc]; omega) (fun e => by have := hrow M e.symm; omega)).trans ((Below.heap_alloc _ _ _ hmz).trans hm), (hg.block w.heap.size (by simp only [World.size_alloc]; omega) (fun e => by have := hrow _ e.symm; omega)).trans ((Below.heap_alloc _ _ _ (by omega)).trans hdt), hbo, HYC.out _ hbo⟩))
    have HGS := Lib.hid (fun (e : endsL (ins l pc) r = none) => HG.out.step hpc e)
    have hlo : out.length ≤ 64 := by omega
    have HYO := Lib.hid (HG.out.okAt hpc)
    have HF := Lib.hid (show traceF l (datL d) (l.length - out.length) pc r = (pc, r) :: (match endsL (ins l pc) r with
      | some v => []
      | none => traceF l (datL d) (l.length - (out.length + 1)) (pc + 1 + offL (ins l pc) r) (effL (ins l pc) (datL d) r)) by rw [hlk]; rfl)
    have HF2 := Lib.hid (show outF l (datL d) (l.length - out.length) pc r = (match endsL (ins l pc) r with
      | some v => v
      | none => outF l (datL d) (l.length - (out.length + 1)) (pc + 1 + offL (ins l pc) r) (effL (ins l pc) (datL d) r)) by rw [hlk]; rfl)
    have HTR := Lib.hid (And.intro htr hrun)
    clear hr hm hown hbl hdt htr hrun
    obtain ⟨q, s, v, bb, hsv, hs, hgv, hbt, hbf⟩ := stepV_form (ins l pc) HYO.out (datL d) (fun k => datL_lt HDd.out k) (pc : Int) r HR.out
    have HSV := Lib.hid hsv
    have HSO := Lib.hid hs
    have HBT := Lib.hid hbt
    have HBF := Lib.hid hbf
    clear hsv hs hgv hbt hbf
    cases bb with
    | true =>
      go_wp2_with (first
        | (refine wpList_load_row rfl 50 (.tmp 10) rfl M rfl 50 (vmA pc r) (0, 0) _ HM9.out Try.underlying50 rfl (info_vm _ _ HR.out) ?_; go_simp)
        | (refine wpList_load_row rfl 50 (.tmp 10) rfl M rfl 50 (vmA pc r) (0, 0) _ HX3.out.1 Try.underlying50 rfl (info_vm _ _ HR.out) ?_; go_simp)
        | (refine wpList_build1 rfl 58 50 (.tmp 31) rfl (vmA pc r) (vmA 0 rg0) rfl 80 Try.underlying58 (by rw [vmA_size _ _ HR.out]; exact info_vmE) (by rw [vmA_size _ _ HR.out, vmA_size _ _ rg0_ok]) (by rw [vmA_size _ _ HR.out]; decide) (by rw [vmA_size _ _ HR.out]; decide) ?_; go_simp)
        | (at_builtin; refine wpList_append_L EV 50 58 rfl (.tmp 30) (.tmp 32) rfl _ 80 Try.underlying58 info_vmE rfl (by decide) _ (M + 1) R c out rfl (HOW.out.below (B := wr.heap.size) (by (repeat (first | with_reducible exact Below.refl _ _ | with_reducible assumption | ((with_reducible refine Below.setCell ?_ ?hp _); case hp => (first | omega | (simp only [World.size_alloc, World.size_setCell, World.size_drew]; omega) | (simp; done) | (simp; omega))) | ((with_reducible refine Below.alloc ?_ ?hp _); case hp => (first | omega | (simp only [World.size_alloc, World.size_setCell, World.size_drew]; omega) | (simp; done) | (simp; omega))) | with_reducible refine Below.drew ?_ | with_reducible refine below_drewN ?_ _))) (Nat.le_refl _)) (some ⟨wr.heap.size, 0, none⟩) 1 [((pc : Int), r)] rfl (Enc.Rd.one_at EV wr _ _ _ (vmA_enc _ _ HR.out) _ rfl) (by show out.length + 1 ≤ _; omega) (by decide) (by simp only [World.size_alloc]; omega) ?_; intro R3 c3 w3 hown3 hg hat; have HO3 := Lib.hid hown3; have HG3 := Lib.hid hg; have hs3 : wr.heap.size + 1 ≤ w3.heap.size := (by have := hg.size; simpa using this); have HX3 := Lib.hid (HKP.out w3 hg); clear hown3 hg hat)
        | (refine wpList_load_row rfl 47 (.tmp 3) rfl w.heap.size rfl 47 #[.int .u32 d.nr, .int .u32 d.arch, .int .u64 d.ip, .int .u64 d.a0, .int .u64 d.a1, .int .u64 d.a2, .int .u64 d.a3, .int .u64 d.a4, .int .u64 d.a5] (0, 0) _ HX3.out.2.1 Try.underlying47 rfl (by kernel_rfl) ?_; go_simp)
        | (go_at_call 36; refine (HST.out pc hpc r HR.out w3 (HX3.out.2.2.2)).mono ?_; rw [HSV.out]; rintro e w4 ⟨rfl, hb4⟩; have HB4 := Lib.hid hb4; have hs4 : w3.heap.size ≤ w4.heap.size := hb4.size; clear hb4)
        | (refine wpList_store_row rfl 50 (.tmp 12) (.tmp 39) rfl w4.heap.size (vmA q s) rfl rfl 50 #[.int .i64 0, .int .u32 0, .int .u32 0, .int .u32 0, .int .u32 0, .int .u32 0, .int .u32 0, .int .u32 0, .int .u32 0, .int .u32 0, .int .u32 0, .int .u32 0, .int .u32 0, .int .u32 0, .int .u32 0, .int .u32 0, .int .u32 0, .int .u32 0, .int .u32 0] (heap_alloc_new w4 _) (info_vm _ _ HSO.out) (by rw [vmA_size _ _ HSO.out]; rfl) (vmA_one _ _) ?_; go_simp; obtain ⟨V, hV⟩ : ∃ V, (w4.alloc (.cells #[.int .i64 0, .int .u32 0, .int .u32 0, .int .u32 0, .int .u32 0, .int .u32 0, .int .u32 0, .int .u32 0, .int .u32 0, .int .u32 0, .int .u32 0, .int .u32 0, .int .u32 0, .int .u32 0, .int .u32 0, .int .u32 0, .int .u32 0, .int .u32 0, .int .u32 0] 50)).setRow w4.heap.size (vmA q s) = V := ⟨_, rfl⟩; have HVB := Lib.hid (show Below w3.heap.size w3 V by rw [← hV]; exact below_row (HB4.out.alloc HB4.out.size _) hs4 _); have HVN := Lib.hid (show V.heap[w4.heap.size]? = some (.cells (vmA q s) 50 (0, 0)) by rw [← hV]; exact setRow_heap _ _ _ _ _ _ (heap_alloc_new w4 _)); have hsV : V.heap.size = w4.heap.size + 1 := (by rw [← hV]; simp); simp only [hV]; clear hV)
        | (refine wpList_load_row rfl 50 (.tmp 12) rfl w4.heap.size rfl 50 (vmA q s) (0, 0) _ HVN.out Try.underlying50 rfl (info_vm _ _ HSO.out) ?_; go_simp)
        | (refine wpList_store_row rfl 50 (.tmp 10) (.tmp 45) rfl M (vmA q s) rfl rfl 50 (vmA pc r) ((HVB.out.block _ (by omega)).trans HX3.out.1) (info_vm _ _ HSO.out) (by rw [vmA_size _ _ HSO.out, vmA_size _ _ HR.out]) (vmA_one _ _) ?_; go_simp))

      have hend := HBT.out trivial
      have e1 := HTR.out.1
      have e2 := HTR.out.2
      rw [HF.out, hend] at e1
      rw [HF2.out, hend] at e2
      have e3 : out ++ [((pc : Int), r)] = trI l (datL d) := e1
      have e4 : v = runL l (datL d) := e2
      refine ⟨rfl, .tuple #[.slice R3 (out.length + 1) c3, .int .u32 (v : Int), .int .i64 0], by simp [results, go_sem], R3, c3, by rw [← e3, ← e4, List.length_append]; rfl, ?_, HX3.out.2.2.1.trans (HVB.out.mono (by omega))⟩
      rw [← e3]
      exact (HO3.out.below HVB.out (Nat.le_refl _)).rd
    | false =>
      go_wp2_with (first
        | (refine wpList_load_row rfl 50 (.tmp 10) rfl M rfl 50 (vmA pc r) (0, 0) _ HM9.out Try.underlying50 rfl (info_vm _ _ HR.out) ?_; go_simp)
        | (refine wpList_load_row rfl 50 (.tmp 10) rfl M rfl 50 (vmA pc r) (0, 0) _ HX3.out.1 Try.underlying50 rfl (info_vm _ _ HR.out) ?_; go_simp)
        | (refine wpList_build1 rfl 58 50 (.tmp 31) rfl (vmA pc r) (vmA 0 rg0) rfl 80 Try.underlying58 (by rw [vmA_size _ _ HR.out]; exact info_vmE) (by rw [vmA_size _ _ HR.out, vmA_size _ _ rg0_ok]) (by rw [vmA_size _ _ HR.out]; decide) (by rw [vmA_size _ _ HR.out]; decide) ?_; go_simp)
        | (at_builtin; refine wpList_append_L EV 50 58 rfl (.tmp 30) (.tmp 32) rfl _ 80 Try.underlying58 info_vmE rfl (by decide) _ (M + 1) R c out rfl (HOW.out.below (B := wr.heap.size) (by (repeat (first | with_reducible exact Below.refl _ _ | with_reducible assumption | ((with_reducible refine Below.setCell ?_ ?hp _); case hp => (first | omega | (simp only [World.size_alloc, World.size_setCell, World.size_drew]; omega) | (simp; done) | (simp; omega))) | ((with_reducible refine Below.alloc ?_ ?hp _); case hp => (first | omega | (simp only [World.size_alloc, World.size_setCell, World.size_drew]; omega) | (simp; done) | (simp; omega))) | with_reducible refine Below.drew ?_ | with_reducible refine below_drewN ?_ _))) (Nat.le_refl _)) (some ⟨wr.heap.size, 0, none⟩) 1 [((pc : Int), r)] rfl (Enc.Rd.one_at EV wr _ _ _ (vmA_enc _ _ HR.out) _ rfl) (by show out.length + 1 ≤ _; omega) (by decide) (by simp only [World.size_alloc]; omega) ?_; intro R3 c3 w3 hown3 hg hat; have HO3 := Lib.hid hown3; have HG3 := Lib.hid hg; have hs3 : wr.heap.size + 1 ≤ w3.heap.size := (by have := hg.size; simpa using this); have HX3 := Lib.hid (HKP.out w3 hg); clear hown3 hg hat)
        | (refine wpList_load_row rfl 47 (.tmp 3) rfl w.heap.size rfl 47 #[.int .u32 d.nr, .int .u32 d.arch, .int .u64 d.ip, .int .u64 d.a0, .int .u64 d.a1, .int .u64 d.a2, .int .u64 d.a3, .int .u64 d.a4, .int .u64 d.a5] (0, 0) _ HX3.out.2.1 Try.underlying47 rfl (by kernel_rfl) ?_; go_simp)
        | (go_at_call 36; refine (HST.out pc hpc r HR.out w3 (HX3.out.2.2.2)).mono ?_; rw [HSV.out]; rintro e w4 ⟨rfl, hb4⟩; have HB4 := Lib.hid hb4; have hs4 : w3.heap.size ≤ w4.heap.size := hb4.size; clear hb4)
        | (refine wpList_store_row rfl 50 (.tmp 12) (.tmp 39) rfl w4.heap.size (vmA q s) rfl rfl 50 #[.int .i64 0, .int .u32 0, .int .u32 0, .int .u32 0, .int .u32 0, .int .u32 0, .int .u32 0, .int .u32 0, .int .u32 0, .int .u32 0, .int .u32 0, .int .u32 0, .int .u32 0, .int .u32 0, .int .u32 0, .int .u32 0, .int .u32 0, .int .u32 0, .int .u32 0] (heap_alloc_new w4 _) (info_vm _ _ HSO.out) (by rw [vmA_size _ _ HSO.out]; rfl) (vmA_one _ _) ?_; go_simp; obtain ⟨V, hV⟩ : ∃ V, (w4.alloc (.cells #[.int .i64 0, .int .u32 0, .int .u32 0, .int .u32 0, .int .u32 0, .int .u32 0, .int .u32 0, .int .u32 0, .int .u32 0, .int .u32 0, .int .u32 0, .int .u32 0, .int .u32 0, .int .u32 0, .int .u32 0, .int .u32 0, .int .u32 0, .int .u32 0, .int .u32 0] 50)).setRow w4.heap.size (vmA q s) = V := ⟨_, rfl⟩; have HVB := Lib.hid (show Below w3.heap.size w3 V by rw [← hV]; exact below_row (HB4.out.alloc HB4.out.size _) hs4 _); have HVN := Lib.hid (show V.heap[w4.heap.size]? = some (.cells (vmA q s) 50 (0, 0)) by rw [← hV]; exact setRow_heap _ _ _ _ _ _ (heap_alloc_new w4 _)); have hsV : V.heap.size = w4.heap.size + 1 := (by rw [← hV]; simp); simp only [hV]; clear hV)
        | (refine wpList_load_row rfl 50 (.tmp 12) rfl w4.heap.size rfl 50 (vmA q s) (0, 0) _ HVN.out Try.underlying50 rfl (info_vm _ _ HSO.out) ?_; go_simp)
        | (refine wpList_store_row rfl 50 (.tmp 10) (.tmp 45) rfl M (vmA q s) rfl rfl 50 (vmA pc r) ((HVB.out.block _ (by omega)).trans HX3.out.1) (info_vm _ _ HSO.out) (by rw [vmA_size _ _ HSO.out, vmA_size _ _ HR.out]) (vmA_one _ _) ?_; go_simp))

      obtain ⟨hend, hq, hs⟩ := HBF.out trivial
      have e1 := HTR.out.1
      have e2 := HTR.out.2
      rw [HF.out, hend] at e1
      rw [HF2.out, hend] at e2
      have hpn := HGS.out hend
      have hMV : M < V.heap.size := by omega
      have hV := HX3.out
      have hMM' : V.heap[M]? = some (.cells (vmA pc r) 50 (0, 0)) := (HVB.out.block _ (by omega)).trans hV.1
      refine ⟨⟨out.length + 1, pc + 1 + offL (ins l pc) r, s, R3, c3, out ++ [((pc : Int), r)], by simp, by omega, hpn, HSO.out, by go_num, by simp, own_step (T := fun k => k = M) (HO3.out.below HVB.out (Nat.le_refl _)) (StepT.row _ _ _ rfl) (fun k hk e => by have := (World.ownsRow.lt (show w3.ownsRow _ _ _ _ _ _ from HO3.out) k hk).1; omega), ?_, ?_, ?_, below_row (hV.2.2.1.trans (HVB.out.mono (by omega))) (by omega) _, by simpa using hMV, ?_⟩, ?_⟩
      · rw [List.append_assoc, hs]; exact e1
      · rw [hs]; exact e2
      · rw [setRow_heap _ _ _ _ _ _ hMM', hq]; congr 3
      · rw [setRow_other _ _ _ _ (by omega)]; exact (HVB.out.block _ (by omega)).trans hV.2.1
      · simp [intOf]; omega
end Go.Proofs.Ytfjbanfibmpalaa

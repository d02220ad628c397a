/- Contract: (prune.program).leave. -/
import Derived.Test.YtfjbanfibmpalaaPD
import Derived.Test.YtfjbanfibmpalaaKF
set_option linter.unusedVariables false
set_option linter.unusedSimpArgs false
namespace Go.Proofs.Ytfjbanfibmpalaa
open Go.RowKit Go.Shelf
attribute [local go_sem ↓] Go.wp_at_zero Go.wp_at_succ
attribute [local go_sem] Oper.semAt_some

/-- What leave has of its own: its receiver's box, its numbers. -/
structure LI (w : World) (P ag T n : Nat) (A : Option Addr) (cap : Nat) (f : Nat → Nat) (W : World) : Prop where
  own : EN.Own 3 W (P + 1) (some ⟨ag, 0, none⟩) (n + 1) (nums (n + 1) f)
  pbox : W.heap[P]? = some (.cells #[.slice A n cap] 146 (0, 0))
  tbox : W.heap[T]? = some (.cells #[.slice (some ⟨ag, 0, none⟩) (n + 1) (n + 1)] 64 (0, 0))
  below : Below w.heap.size w W
  size : T < W.heap.size
  h1 : P = w.heap.size
  h2 : P < ag
  h3 : ag < T

section
variable {w W W' : World} {P ag T n : Nat} {A : Option Addr} {cap : Nat} {f f' : Nat → Nat}
theorem LI.step {N K : Nat} (h : LI w P ag T n A cap f W) (hs : Step N K W W') (hN : T < N) : LI w P ag T n A cap f W' := by
  have := h.size; have := h.h1; have := h.h2; have := h.h3
  refine ⟨⟨h.own.1, h.own.2.imp id ?_⟩, (hs.block P (by omega) (by omega)).trans h.pbox, (hs.block T (by omega) (by omega)).trans h.tbox, ?_, by have := hs.size; omega, h.h1, h.h2, h.h3⟩
  · rintro ⟨g, cap', cur, e1, e2, e3, r⟩
    have eg : ag = g := by injection e1 with a; injection a with a; injection a
    exact ⟨g, cap', cur, e1, e2, (hs.block g (by omega) (by omega)).trans e3, r⟩
  · exact h.below.trans (hs.below (by omega) h.below.size)
theorem LI.later (h : LI w P ag T n A cap f W) (hb : Below W.heap.size W W') : LI w P ag T n A cap f W' :=
  h.step (N := W.heap.size) (K := W.heap.size) (.of_below hb) h.size
theorem LI.put (h : LI w P ag T n A cap f W) (i : Nat) (hi : i < n + 1) (b : Nat) : LI w P ag T n A cap (fun q => if q = i then b else f q) (W.setCell ⟨ag, i, none⟩ (.int .i64 (b : Int))) := by
  have := h.size; have := h.h1; have := h.h2; have := h.h3
  exact ⟨nums_put h.own i hi b, (Below.heap_setCell _ _ _ _ (by show _ ≠ ag; omega)).trans h.pbox, (Below.heap_setCell _ _ _ _ (by show _ ≠ ag; omega)).trans h.tbox, h.below.setCell (by show _ ≤ ag; omega) _, by simpa using h.size, h.h1, h.h2, h.h3⟩
theorem LI.congr (h : LI w P ag T n A cap f W) (hf : ∀ q, q < n + 1 → f q = f' q) : LI w P ag T n A cap f' W :=
  ⟨by rw [← nums_congr (n + 1) f f' hf]; exact h.own, h.pbox, h.tbox, h.below, h.size, h.h1, h.h2, h.h3⟩
end

/-- The first q that stay, as they are made anew. -/
def movedL (l : List Insn) (q : Nat) : List Insn := ((stays l).take q).map (fun i => bare (moved l i))
theorem movedL_zero (l : List Insn) : movedL l 0 = [] := by simp [movedL]
theorem movedL_all (l : List Insn) : movedL l (stays l).length = leaveL l := by unfold movedL; rw [List.take_length]; rfl
theorem movedL_succ (l : List Insn) (q : Nat) (h : q < (stays l).length) : movedL l (q + 1) = movedL l q ++ [bare (moved l (nth (stays l) q))] := by
  have : nth (stays l) q = (stays l)[q] := by simp [nth, h]
  unfold movedL
  rw [List.take_succ_eq_append_getElem h, List.map_append, this]; rfl
theorem movedL_len (l : List Insn) (q : Nat) : (movedL l q).length ≤ l.length := by
  unfold movedL
  rw [List.length_map, List.length_take]
  have := stays_len l
  omega

/-- What leave has in its last loop. -/
structure LO (w : World) (P ag T O D1 K : Nat) (A : Option Addr) (cap : Nat) (l : List Insn) (q : Nat) (W : World) : Prop where
  li : LI w P ag T l.length A cap (ahead (stay l)) W
  out : ∃ R c, W.heap[O]? = some (.cells #[.slice R (movedL l q).length c] 146 (0, 0)) ∧ EI.Own 36 W K R c (movedL l q)
  mark : W.heap[D1]? = some (.deferred (some []))

theorem LO.step {w W W' : World} {P ag T O D1 K N : Nat} {A : Option Addr} {cap : Nat} {l : List Insn} {q : Nat} (h : LO w P ag T O D1 K A cap l q W) (hs : Step N K W W') (hT : T < N) (hO : O < N) (hD : D1 < N) : LO w P ag T O D1 K A cap l q W' := by
  obtain ⟨R, c, h1, h2⟩ := h.out
  exact ⟨h.li.step hs hT, ⟨R, c, (hs.block O (Array.getElem?_eq_some_iff.1 h1).1 (by omega)).trans h1, h2.step hs (Nat.le_refl _)⟩, (hs.block D1 (Array.getElem?_eq_some_iff.1 h.mark).1 (by omega)).trans h.mark⟩
theorem LO.later {w W W' : World} {P ag T O D1 K : Nat} {A : Option Addr} {cap : Nat} {l : List Insn} {q : Nat} (h : LO w P ag T O D1 K A cap l q W) (hb : Below W.heap.size W W') : LO w P ag T O D1 K A cap l q W' := by
  obtain ⟨R, c, h1, h2⟩ := h.out
  exact ⟨h.li.later hb, ⟨R, c, (hb.block O (Array.getElem?_eq_some_iff.1 h1).1).trans h1, h2.below hb (Nat.le_refl _)⟩, (hb.block D1 (Array.getElem?_eq_some_iff.1 h.mark).1).trans h.mark⟩

theorem by_li {w W : World} {P ag T : Nat} {A : Option Addr} {cap : Nat} {l : List Insn} (h : LI w P ag T l.length A cap (ahead (stay l)) W) (hlen : l.length ≤ 64) (Ib i d : Nat) (hI : W.cell? ⟨Ib, 0, none⟩ = some (.int .i64 i)) (hs : stay l i = true) (hd : i + 1 + d < l.length) (m : Nat) :
    Calls Try.prog 141 #[.int .i64 d, .pointer (some ⟨T, 0, none⟩), .pointer (some ⟨Ib, 0, none⟩)] (W.drewN m) fun e w' => e = .returned (.int .i64 ((ahead (stay l) (i + 1 + d) - ahead (stay l) i - 1 : Nat) : Int)) ∧ ∃ m', w' = W.drewN m' := by
  have hm := ahead_lt hs (show i < i + 1 + d by omega)
  have ht : W.cell? ⟨T, 0, none⟩ = some (.slice (some ⟨ag, 0, none⟩) (l.length + 1) (l.length + 1)) := cell_of_row _ _ _ _ _ _ h.tbox
  have c0 := nums_cell h.own i (by omega)
  have c1 := nums_cell h.own (i + 1 + d) (by omega)
  refine Calls.quiet_of (by_any l ag (l.length + 1) T Ib i d (W.drewN m) (by omega) hlen hm (by simpa using ht) (by simpa using hI) (by simpa using c0) (by simpa using c1))

theorem by_li0 {w W : World} {P ag T : Nat} {A : Option Addr} {cap : Nat} {l : List Insn} (h : LI w P ag T l.length A cap (ahead (stay l)) W) (hlen : l.length ≤ 64) (Ib i d : Nat) (hI : W.cell? ⟨Ib, 0, none⟩ = some (.int .i64 i)) (hs : stay l i = true) (hd : i + 1 + d < l.length) :
    Calls Try.prog 141 #[.int .i64 d, .pointer (some ⟨T, 0, none⟩), .pointer (some ⟨Ib, 0, none⟩)] W fun e w' => e = .returned (.int .i64 ((ahead (stay l) (i + 1 + d) - ahead (stay l) i - 1 : Nat) : Int)) ∧ ∃ m', w' = W.drewN m' := by
  have hm := ahead_lt hs (show i < i + 1 + d by omega)
  have ht : W.cell? ⟨T, 0, none⟩ = some (.slice (some ⟨ag, 0, none⟩) (l.length + 1) (l.length + 1)) := cell_of_row _ _ _ _ _ _ h.tbox
  exact by_any l ag (l.length + 1) T Ib i d W (by omega) hlen hm ht hI (nums_cell h.own i (by omega)) (nums_cell h.own (i + 1 + d) (by omega))

theorem moved_bound {l : List Insn} (i n : Nat) : ahead (stay l) (i + 1 + n) - ahead (stay l) i - 1 ≤ n := by
  have h1 : ∀ n, ahead (stay l) (i + 1 + n) ≤ ahead (stay l) i + 1 + n := by
    intro n
    induction n with
    | zero => rw [Nat.add_zero, ahead]; split <;> omega
    | succ n ih => rw [show i + 1 + (n + 1) = (i + 1 + n) + 1 by omega, ahead]; split <;> omega
  have := h1 n
  omega
theorem moved_ok {l : List Insn} (h : Good l) {i : Nat} (hi : i < l.length) : (moved l i).Ok := by
  have hok := h.okAt hi
  have := hok.code; have h1 := hok.jt; have h2 := hok.jf; have h3 := hok.k
  have b1 := moved_bound (l := l) i (ins l i).jt
  have b2 := moved_bound (l := l) i (ins l i).jf
  have b3 := moved_bound (l := l) i (ins l i).k
  unfold moved
  repeat' split
  · exact ⟨hok.code, hok.jt, hok.jf, by show ahead _ _ - _ - 1 < _; omega⟩
  · exact ⟨hok.code, by show ahead _ _ - _ - 1 < _; omega, by show ahead _ _ - _ - 1 < _; omega, hok.k⟩
  · exact hok

set_option maxRecDepth 100000 in
set_option maxHeartbeats 2000000 in
theorem leave_any (A : Option Addr) (cap : Nat) (l : List Insn) (w : World) (hl : RdP w A l) (hg : Good l) :
    Calls Try.prog 95 #[.slice A l.length cap] w fun e w' => ∃ R c, e = .returned (.slice R (leaveL l).length c) ∧ EI.Own 36 w' w.heap.size R c (leaveL l) ∧ Below w.heap.size w w' := by
  have hlen := hg.len
  have HG := Lib.hid hg
  have HL := Lib.hid hl
  obtain ⟨b, o, rfl, hb, _⟩ := hl.cells (i := 0) (by omega)
  obtain ⟨ib, hib, hz0, hz1, hz2⟩ := info_parts info_int
  have HI := Lib.hid (And.intro hib (And.intro hz0 (And.intro hz1 hz2)))
  clear hg hl hib hz0 hz1 hz2
  refine (callsIn_wide (n := 0)).1 ?_
  refine callsIn_of_wp_marks Try.func95 rfl trivial ?_ rfl
  simp only [Try.ntmps95, List.size_toArray, List.length_cons, List.length_nil, Nat.reduceAdd, Nat.reduceSub, Array.replicate_succ, Array.replicate_zero, List.push_toArray, List.append_toArray, List.nil_append, List.cons_append]
  refine wpIn_wide.2 ?_
  have i0 : ((l.length : Int) + 1) = ((l.length + 1 : Nat) : Int) := by omega
  have HI0 := Lib.hid i0
  clear i0
  go_wp2_with (first
    | (at_make; refine wpList_make_full _ rfl _ _ 64 rfl (w.heap.size + 1) 3 ib (.int .i64 0) 1 Try.underlying64 HI.out.1 HI.out.2.1 HI.out.2.2.1 _ _ _ _ (l.length + 1) rfl rfl HI0.out HI0.out (by rw [HI.out.2.2.2]; omega) (by unfold maxLen; omega) (by simp) ?_; intro w1 hown1 hg1; have hpb : w1.heap[w.heap.size]? = some (.cells #[.slice (some ⟨b, o, none⟩) l.length cap] 146 (0, 0)) := (hg1.block w.heap.size (by simp) (by simp)).trans (heap_alloc_new w _); have hp1 : w1.cell? ⟨w.heap.size, 0, none⟩ = some (.slice (some ⟨b, o, none⟩) l.length cap) := cell_of_row _ _ _ _ _ _ hpb; have hz1 : w.heap.size + 1 < w1.heap.size := (by simpa using (World.ownsRow.lt hown1 _ rfl).2); have hz0 : w.heap.size < w1.heap.size := (by omega); have HPB := Lib.hid hpb; clear hpb; have HG1 := Lib.hid hg1; have ho1 := make_own1 EN (fun n => .int .i64 (n : Int)) (fun _ => rfl) rfl 0 rfl hown1; rw [nums_zero] at ho1; simp only [World.size_alloc] at ho1; have HO1 := Lib.hid ho1; clear ho1 hg1 hown1)
    | (go_at_call 140; refine (stays_any _ cap _ _).mono ?_; rintro e w' ⟨rfl, hw'⟩; have HW := Lib.hid hw'; clear hw'))
  refine (wpIn_wide (n := 1)).1 ?_
  have hs' : w'.heap.size = w1.heap.size + 2 := by rw [← HW.out]; simp
  have hP2 : w'.cell? ⟨w1.heap.size + 1, 0, none⟩ = some (.slice (some ⟨b, o, none⟩) l.length cap) := by rw [← HW.out]; simp [go_sem]
  have hB1 : Below w.heap.size w w1 := ((Below.refl _ w).alloc (Nat.le_refl _) _).grown HG1.out (by simp) (fun k hk => by cases hk)
  have hB2 : Below w1.heap.size w1 w' := by rw [← HW.out]; (repeat (first | with_reducible exact Below.refl _ _ | with_reducible assumption | ((with_reducible refine Below.setCell ?_ ?hp _); case hp => (first | omega | (simp only [World.size_alloc, World.size_setCell, World.size_drew]; omega) | (simp; done) | (simp; omega))) | ((with_reducible refine Below.alloc ?_ ?hp _); case hp => (first | omega | (simp only [World.size_alloc, World.size_setCell, World.size_drew]; omega) | (simp; done) | (simp; omega))) | with_reducible refine Below.drew ?_ | with_reducible refine below_drewN ?_ _))
  have hLI : LI w w.heap.size (w.heap.size + 1) w1.heap.size l.length (some ⟨b, o, none⟩) cap (fun _ => 0) w' := by
    refine ⟨HO1.out.below hB2 (Nat.le_refl _), (hB2.block w.heap.size hz0).trans HPB.out, ?_, hB1.trans (hB2.mono (by omega)), by omega, rfl, by omega, hz1⟩
    rw [← HW.out]; exact (Below.heap_alloc _ _ _ (by simp)).trans (heap_alloc_new w1 _)
  have hit := stays_iter (some ⟨b, o, none⟩) cap l (w1.heap.size + 1) w.heap.size (w1.heap.size + 2) w' (HL.out.below (hB1.trans (hB2.mono (by omega))) (Nat.le_refl _)) HG.out (by omega) (by omega) (fun b' o' e => by cases e; exact hb) hP2
  have HIT := Lib.hid hit
  have HLI := Lib.hid hLI
  clear hit hLI hB1 hB2 hP2 hp1 HW HO1 HPB HG1
  have hlens : (ints (stays l)).length = (stays l).length := by simp [ints]
  have hsl := stays_len l
  generalize hT : w1.heap.size = T at *
  refine rfs_law (m := 0) (gf := 158) (lb := #[.pointer (some ⟨T + 1, 0, none⟩)]) rfl enters_stays HIT.out (by omega) (fun k hk => by omega) (fun i h => by simp [ints])
    (fun W => LI w w.heap.size (w.heap.size + 1) T l.length (some ⟨b, o, none⟩) cap (fun _ => 0) W)
    (fun K i W => LI w w.heap.size (w.heap.size + 1) T l.length (some ⟨b, o, none⟩) cap (tally l i) W)
    ?hI0 ?hI1 ?hI HLI.out ?a1 ?assign ?body ?done
  case hI0 => exact fun A B h hs => h.step (N := w'.heap.size) (K := A.heap.size) ⟨hs.os, hs.tape, hs.output, hs.size, fun k hk hn => hs.block k (by omega)⟩ (by omega)
  case hI1 => exact fun B h hs => h.congr (fun q _ => by rw [tally_zero])
  case hI => exact fun K i A B h hK hs => h.step hs (by omega)
  case assign =>
    intro lp i h B K hK
    have e : (ints (stays l))[i]'h = #[.int .i64 ((nth (stays l) i : Nat) : Int)] := by
      have : i < (stays l).length := by omega
      simp [ints, this, nth]
    rw [e]
    gi_wp2
    exact hK
  case body =>
    rintro lp K i h W hli hK hKW
    have hi : i < (stays l).length := by omega
    obtain ⟨hz1', hz2', hz3'⟩ := stays_nth hi
    have HTS := Lib.hid (fun j => tally_succ l i j hi)
    have htc : W.cell? ⟨T, 0, none⟩ = some (.slice (some ⟨w.heap.size + 1, 0, none⟩) (l.length + 1) (l.length + 1)) := cell_of_row _ _ _ _ _ _ hli.tbox
    have HLW := Lib.hid hli
    have hti := tally_le l i (nth (stays l) i + 1)
    clear hli hz1' hz3'
    generalize hz : nth (stays l) i = z at *
    have hcell := nums_cell HLW.out.own (z + 1) (by omega)
    have hfro := HLW.out.own.frozen (z + 1)
    have i1 : (0 : Int) ≤ (z : Int) + 1 := by omega
    have i2 : (z : Int) + 1 < ((l.length + 1 : Nat) : Int) := by omega
    have i3 : ((z : Int) + 1).toNat = z + 1 := by omega
    have HC := Lib.hid (show ((tally l i (z + 1) : Int) + 1) = ((tally l i (z + 1) + 1 : Nat) : Int) by omega)
    generalize hcn : tally l i (z + 1) = cn at *
    gi_wp2
    rw [HC.out]
    have hTs := HLW.out.size
    refine ⟨(KpS.refl _ _ _ _).setCell (by show ¬ (w.heap.size + 1 < w.heap.size ∨ w.heap.size + 1 = T + 1); omega) (.inl (by show w.heap.size + 1 < _; omega)) _, (HLW.out.put (z + 1) (by omega) (cn + 1)).congr (fun q hq => ?_)⟩
    rw [HTS.out]
    by_cases hqz : q = z + 1
    · subst hqz; rw [if_pos rfl, if_pos rfl, hcn]
    · rw [if_neg hqz, if_neg hqz]
  case done =>
    rintro K W hK hKW hli hD
    rw [hlens] at hli
    have hsW := hli.size
    have htc : W.cell? ⟨T, 0, none⟩ = some (.slice (some ⟨w.heap.size + 1, 0, none⟩) (l.length + 1) (l.length + 1)) := cell_of_row _ _ _ _ _ _ hli.tbox
    have hpc : W.cell? ⟨w.heap.size, 0, none⟩ = some (.slice (some ⟨b, o, none⟩) l.length cap) := cell_of_row _ _ _ _ _ _ hli.pbox
    have HLD := Lib.hid hli
    have HD := Lib.hid hD
    clear hli hD HIT HLI
    go_wp2
    go_loopw [26] (fun i wr => ∃ k : Nat, k ≤ l.length ∧ i = .int .i64 k ∧ LI w w.heap.size (w.heap.size + 1) T l.length (some ⟨b, o, none⟩) cap (fun j => if j ≤ k then ahead (stay l) j else tally l (stays l).length j) wr ∧ KpB w'.heap.size (w'.heap.size + 1) 0 0 W wr) (fun i _ => l.length - (intOf i).toNat)
    case atStart =>
      refine ⟨0, Nat.zero_le _, rfl, HLD.out.congr (fun q _ => ?_), KpB.refl _ _ _ _ _⟩
      by_cases hq : q ≤ 0
      · obtain rfl : q = 0 := by omega
        rw [if_pos hq, (tally_all l 0).2]; rfl
      · rw [if_neg hq]
    case round =>
      obtain ⟨k, hk, rfl, hli, hkp⟩ := hrel
      have HLW := Lib.hid hli
      have HKP := Lib.hid hkp
      have htcw : wr.cell? ⟨T, 0, none⟩ = some (.slice (some ⟨w.heap.size + 1, 0, none⟩) (l.length + 1) (l.length + 1)) := cell_of_row _ _ _ _ _ _ hli.tbox
      have hpcw : wr.cell? ⟨w.heap.size, 0, none⟩ = some (.slice (some ⟨b, o, none⟩) l.length cap) := cell_of_row _ _ _ _ _ _ hli.pbox
      have hTs := hli.size
      have hkps := hkp.size
      clear hli hkp htc hpc
      by_cases hlt : k < l.length
      · have c0 := nums_cell HLW.out.own k (by omega)
        have c1 := nums_cell HLW.out.own (k + 1) (by omega)
        have hf1 := HLW.out.own.frozen (k + 1)
        rw [if_pos (Nat.le_refl _)] at c0
        rw [if_neg (by omega), (tally_all l k).1] at c1
        have hal := ahead_le (stay l) k
        have HS := Lib.hid (aheadS (stay l) k)
        have hs1 : (if stay l k then 1 else 0) ≤ 1 := by split <;> omega
        generalize hap : ahead (stay l) k = p at *
        generalize (if stay l k then 1 else 0) = s at *
        have i1 : (0 : Int) ≤ (k : Int) + 1 := by omega
        have i2 : (k : Int) + 1 < ((l.length + 1 : Nat) : Int) := by omega
        have i3 : ((k : Int) + 1).toNat = k + 1 := by omega
        have i4 : (0 : Int) ≤ (k : Int) := by omega
        have i5 : (k : Int) < ((l.length + 1 : Nat) : Int) := by omega
        have HC := Lib.hid (show ((s : Int) + (p : Int)) = ((p + s : Nat) : Int) by omega)
        go_wp2
        refine region_quiet_tail 10 (by kernel_rfl) (by kernel_rfl) ?_
        simp only [List.take_succ_cons, List.take_zero, List.drop_succ_cons, List.drop_zero]
        repeat (go_big_quiet_step (fail))
        refine wpQuiet_nil ?_
        intro nq
        go_wp2
        rw [HC.out]
        go_roundw
        case rel =>
          refine ⟨k + 1, by omega, by go_num, ((HLW.out.later (below_drewN (Below.refl _ _) nq)).put (k + 1) (by omega) (p + s)).congr (fun q hq => ?_), HKP.out.trans (((KpB.refl _ _ _ _ _).drewN nq).setCell (.inl (by show w.heap.size + 1 < _; omega)) (.inr (Nat.zero_le _)) _)⟩
          by_cases hqk : q = k + 1
          · subst hqk; rw [if_pos rfl, if_pos (Nat.le_refl _), HS.out]
          · rw [if_neg hqk]
            by_cases hq2 : q ≤ k
            · rw [if_pos hq2, if_pos (by omega)]
            · rw [if_neg hq2, if_neg (by omega)]
        case measure => simp [intOf]; omega
      · have hk' : k = l.length := by omega
        subst hk'
        have HLE := Lib.hid (HLW.out.congr (f' := ahead (stay l)) (fun q hq => if_pos (by omega)))
        have HDE := Lib.hid ((HKP.out.block w'.heap.size (.inl ⟨Nat.le_refl _, by omega⟩) (by have := (Array.getElem?_eq_some_iff.1 HD.out).1; omega)).trans HD.out)
        clear HLW HLD HD HKP
        have hPs : w.heap.size < wr.heap.size := by omega
        go_wp2_with (go_at_call 140; refine (stays_any _ cap _ _).mono ?_; rintro e w5 ⟨rfl, hw5⟩; have HW := Lib.hid hw5; clear hw5)
        refine (wpIn_wide (n := 1)).1 ?_
        obtain ⟨O, hO⟩ : ∃ O, wr.heap.size = O := ⟨_, rfl⟩
        rw [hO]
        have hs5 : w5.heap.size = O + 2 := by rw [← HW.out]; simp [hO]
        have hB5 : Below wr.heap.size wr w5 := by rw [← HW.out]; (repeat (first | with_reducible exact Below.refl _ _ | with_reducible assumption | ((with_reducible refine Below.setCell ?_ ?hp _); case hp => (first | omega | (simp only [World.size_alloc, World.size_setCell, World.size_drew]; omega) | (simp; done) | (simp; omega))) | ((with_reducible refine Below.alloc ?_ ?hp _); case hp => (first | omega | (simp only [World.size_alloc, World.size_setCell, World.size_drew]; omega) | (simp; done) | (simp; omega))) | with_reducible refine Below.drew ?_ | with_reducible refine below_drewN ?_ _))
        have hO5 : w5.heap[O]? = some (.cells #[.slice none 0 0] 146 (0, 0)) := by
          rw [← HW.out, ← hO]; exact (Below.heap_alloc _ _ _ (by simp)).trans (heap_alloc_new wr _)
        have hP5 : w5.cell? ⟨O + 1, 0, none⟩ = some (.slice (some ⟨b, o, none⟩) l.length cap) := by rw [← HW.out, ← hO]; simp [go_sem]
        have hD1 := (Array.getElem?_eq_some_iff.1 HDE.out).1
        have HL5 := Lib.hid (HLE.out.later hB5)
        have HD5 := Lib.hid ((hB5.block w'.heap.size hD1).trans HDE.out)
        have hit := stays_iter (some ⟨b, o, none⟩) cap l (O + 1) w.heap.size (O + 2) w5 (HL.out.below HL5.out.below (Nat.le_refl _)) HG.out (by omega) (by omega) (fun b' o' e => by cases e; exact hb) hP5
        have HIT := Lib.hid hit
        have HO5 := Lib.hid hO5
        clear hit hO5 hP5 hB5 HW HLE HDE hpcw htcw
        generalize hDD : w'.heap.size = D1 at *
        rw [hO] at hD1
        refine rfy_law (m := 0) (gf := 158) (lb := #[.pointer (some ⟨O + 1, 0, none⟩)]) rfl enters_stays HIT.out (by omega) (fun k hk => by omega) (fun i h => by simp [ints])
          (fun W => LI w w.heap.size (w.heap.size + 1) T l.length (some ⟨b, o, none⟩) cap (ahead (stay l)) W ∧ W.heap[O]? = some (.cells #[.slice none 0 0] 146 (0, 0)) ∧ W.heap[D1]? = some (.deferred (some [])))
          (fun K i W => LO w w.heap.size (w.heap.size + 1) T O D1 K (some ⟨b, o, none⟩) cap l i W)
          ?hI0 ?hI1 ?hI ⟨HL5.out, HO5.out, HD5.out⟩
          (fun K i Ib W => LO w w.heap.size (w.heap.size + 1) T O D1 K (some ⟨b, o, none⟩) cap l i W ∧ W.heap[Ib]? = some (.cells #[.int .i64 ((nth (stays l) i : Nat) : Int)] 3 (0, 0)) ∧ K ≤ Ib)
          ?hAx ?fr ?assign ?body ?done
        case hI0 =>
          rintro A B ⟨h1, h2, h3⟩ hs
          exact ⟨h1.step (N := w5.heap.size) (K := A.heap.size) ⟨hs.os, hs.tape, hs.output, hs.size, fun k hk hn => hs.block k (by omega)⟩ (by omega), (hs.block O (by omega)).trans h2, (hs.block D1 (by omega)).trans h3⟩
        case hI1 =>
          rintro B ⟨h1, h2, h3⟩ hs
          exact ⟨h1, ⟨none, 0, by rw [movedL_zero]; exact h2, by rw [movedL_zero]; exact Enc.Own.nil⟩, h3⟩
        case hI => exact fun K i A B h hK hs => h.step hs (by omega) (by omega) (by omega)
        case assign =>
          intro lp K i h B RR hlo hK hKB hRR
          have HRR := Lib.hid hRR
          clear hRR
          have e : (ints (stays l))[i]'h = #[.int .i64 ((nth (stays l) i : Nat) : Int)] := by
            have : i < (stays l).length := by omega
            simp [ints, this, nth]
          rw [e]
          have HLO := Lib.hid hlo
          clear hlo
          generalize hIb : B.heap.size = Ib at *
          gi_wp2
          refine HRR.out Ib (B.alloc (.cells #[.int .i64 ((nth (stays l) i : Nat) : Int)] 3)) ((KpS.refl _ _ _ _).alloc _) ⟨HLO.out.later (by (repeat (first | with_reducible exact Below.refl _ _ | with_reducible assumption | ((with_reducible refine Below.setCell ?_ ?hp _); case hp => (first | omega | (simp only [World.size_alloc, World.size_setCell, World.size_drew]; omega) | (simp; done) | (simp; omega))) | ((with_reducible refine Below.alloc ?_ ?hp _); case hp => (first | omega | (simp only [World.size_alloc, World.size_setCell, World.size_drew]; omega) | (simp; done) | (simp; omega))) | with_reducible refine Below.drew ?_ | with_reducible refine below_drewN ?_ _))), ?_, by omega⟩
          rw [← hIb]; exact heap_alloc_new B _
        case hAx =>
          rintro K i Ib B B' ⟨h2, h3, h4⟩ hK hs
          exact ⟨h2.step hs (by omega) (by omega) (by omega), (hs.block Ib (Array.getElem?_eq_some_iff.1 h3).1 (by omega)).trans h3, h4⟩
        case done =>
          rintro K W hK hKW hlo hD
          rw [hlens] at hlo
          obtain ⟨hli, ⟨R, c, hO6, hown⟩, hmk⟩ := hlo
          rw [movedL_all] at hO6 hown
          have hoc : W.cell? ⟨O, 0, none⟩ = some (.slice R (leaveL l).length c) := cell_of_row _ _ _ _ _ _ hO6
          have HM := Lib.hid (show Marks (T + 1) W [{ target := .collected w5.heap.size, args := #[] }, { target := .collected D1, args := #[] }] from
            ⟨[w5.heap.size, D1], rfl, by simp; omega, fun k hk => by
              rcases List.mem_cons.1 hk with rfl | hk
              · exact ⟨by omega, hD⟩
              · have : k = D1 := by simpa using hk
                subst this
                exact ⟨by omega, hmk⟩⟩)
          have HLI := Lib.hid hli
          have HOW := Lib.hid hown
          clear hli hown hD hmk hO6
          go_wp2
          refine leaves_marks (base := T + 1) [{ target := .collected w5.heap.size, args := #[] }, { target := .collected (T + 2), args := #[] }] W (hs' ▸ HM.out) ?_
          intro W' hcl
          refine ⟨_, results_tmp rfl _ _ _, R, c, rfl, ?_, ?_⟩
          · refine ⟨HOW.out.1, HOW.out.2.imp id ?_⟩
            rintro ⟨g, cap', cur, e1, e2, e3, r⟩
            exact ⟨g, cap', cur, e1, by omega, hcl.block _ _ e3 (by intro ds h; cases h), r⟩
          · exact HLI.out.below.trans (hcl.below.mono (by omega))
        case body =>
          rintro lp K i h Ib W ⟨hlo, hIb, hKI⟩ hK hKW
          have hi : i < (stays l).length := by omega
          obtain ⟨hz1, hz2, hz3⟩ := stays_nth hi
          have HMS := Lib.hid (movedL_succ l i hi)
          have hml := movedL_len l i
          have hic : W.cell? ⟨Ib, 0, none⟩ = some (.int .i64 ((nth (stays l) i : Nat) : Int)) := cell_of_row _ _ _ _ _ _ hIb
          have hIW := (Array.getElem?_eq_some_iff.1 hIb).1
          have HLW := Lib.hid (HL.out.below hlo.li.below (Nat.le_refl _))
          have hpcw : W.cell? ⟨w.heap.size, 0, none⟩ = some (.slice (some ⟨b, o, none⟩) l.length cap) := cell_of_row _ _ _ _ _ _ hlo.li.pbox
          have hwf : ∀ k, Fence.wide.fn k := fun _ => trivial
          have hwd : Fence.wide.depth = none := rfl
          have hPW : w.heap.size < W.heap.size := by have := hlo.li.size; omega
          have HLO := Lib.hid hlo
          have HIB := Lib.hid hIb
          clear hlo hIb hz3
          generalize hz : nth (stays l) i = z at *
          clear hz
          have HZ := Lib.hid hz1
          have hm0 := HG.out.okAt hz2
          have HMO := Lib.hid (moved_ok HG.out hz2)
          have HJB := Lib.hid (fun W (h : RdP W (some ⟨b, o, none⟩) l) => jumps_any _ cap l z W h hz2)
          have HTB := Lib.hid (fun W (h : RdP W (some ⟨b, o, none⟩) l) => tests_at _ cap l z W h hz2)
          obtain ⟨b1, o1, hbo, _, hcx⟩ := HLW.out.cells hz2
          cases hbo
          obtain ⟨x0, x1, x2, x3⟩ := hcx
          have q1 := hm0.jt
          have q2 := hm0.jf
          have q3 := hm0.k
          clear hz1 hm0
          have i1 : (0 : Int) ≤ (z : Int) := by omega
          have i2 : (z : Int) < (l.length : Int) := by omega
          by_cases hj : isJa (ins l z) = true
          · have HJ := Lib.hid hj
            have hja := HG.out.ja hz2 hj
            have HMV := Lib.hid (moved_ja hj)
            have hmb := moved_bound (l := l) z (ins l z).k
            clear hj
            generalize hy : ins l z = y at *
            have HY := Lib.hid hy
            clear hy
            have HBY := Lib.hid (fun W (h : LI w w.heap.size (w.heap.size + 1) T l.length (some ⟨b, o, none⟩) cap (ahead (stay l)) W) (hI : W.cell? ⟨Ib, 0, none⟩ = some (.int .i64 z)) => by_li0 h hlen.2 Ib z y.k hI HZ.out hja.1)
            generalize hdd : ahead (stay l) (z + 1 + y.k) - ahead (stay l) z - 1 = dd at *
            clear hdd
            gi_wp2_with (first
              | (gi_at_call 136; refine (callsIn_round (HJB.out _ (HLW.out.below (B := W.heap.size) (by (repeat (first | with_reducible exact Below.refl _ _ | with_reducible assumption | ((with_reducible refine Below.setCell ?_ ?hp _); case hp => (first | omega | (simp only [World.size_alloc, World.size_setCell, World.size_drew]; omega) | (simp; done) | (simp; omega))) | ((with_reducible refine Below.alloc ?_ ?hp _); case hp => (first | omega | (simp only [World.size_alloc, World.size_setCell, World.size_drew]; omega) | (simp; done) | (simp; omega))) | with_reducible refine Below.drew ?_ | with_reducible refine below_drewN ?_ _))) (Nat.le_refl _)))).mono ?_; rw [HJ.out]; rintro e' w' ⟨rfl, rfl⟩)
              | (gi_at_call 141; refine (callsIn_round (HBY.out _ (HLO.out.li.later (by (repeat (first | with_reducible exact Below.refl _ _ | with_reducible assumption | ((with_reducible refine Below.setCell ?_ ?hp _); case hp => (first | omega | (simp only [World.size_alloc, World.size_setCell, World.size_drew]; omega) | (simp; done) | (simp; omega))) | ((with_reducible refine Below.alloc ?_ ?hp _); case hp => (first | omega | (simp only [World.size_alloc, World.size_setCell, World.size_drew]; omega) | (simp; done) | (simp; omega))) | with_reducible refine Below.drew ?_ | with_reducible refine below_drewN ?_ _)))) (by simp [go_sem, hic, hIW]))).mono ?_; rintro e' w' ⟨rfl, m, rfl⟩))
            have HB5 := Lib.hid (show Below W.heap.size W (((W.alloc (.cells #[.int .u16 y.code, .int .u8 y.jt, .int .u8 y.jf, .int .u32 y.k] 36)).drewN m).setCell ⟨W.heap.size, 3, none⟩ (.int .u32 dd)) by (repeat (first | with_reducible exact Below.refl _ _ | with_reducible assumption | ((with_reducible refine Below.setCell ?_ ?hp _); case hp => (first | omega | (simp only [World.size_alloc, World.size_setCell, World.size_drew]; omega) | (simp; done) | (simp; omega))) | ((with_reducible refine Below.alloc ?_ ?hp _); case hp => (first | omega | (simp only [World.size_alloc, World.size_setCell, World.size_drew]; omega) | (simp; done) | (simp; omega))) | with_reducible refine Below.drew ?_ | with_reducible refine below_drewN ?_ _)))
            have m0 : (((W.alloc (.cells #[.int .u16 y.code, .int .u8 y.jt, .int .u8 y.jf, .int .u32 y.k] 36)).drewN m).setCell ⟨W.heap.size, 3, none⟩ (.int .u32 dd)).cell? ⟨W.heap.size, 0, none⟩ = some (.int .u16 y.code) := by simp [go_sem]
            have m1 : (((W.alloc (.cells #[.int .u16 y.code, .int .u8 y.jt, .int .u8 y.jf, .int .u32 y.k] 36)).drewN m).setCell ⟨W.heap.size, 3, none⟩ (.int .u32 dd)).cell? ⟨W.heap.size, 1, none⟩ = some (.int .u8 y.jt) := by simp [go_sem]
            have m2 : (((W.alloc (.cells #[.int .u16 y.code, .int .u8 y.jt, .int .u8 y.jf, .int .u32 y.k] 36)).drewN m).setCell ⟨W.heap.size, 3, none⟩ (.int .u32 dd)).cell? ⟨W.heap.size, 2, none⟩ = some (.int .u8 y.jf) := by simp [go_sem]
            have m3 : (((W.alloc (.cells #[.int .u16 y.code, .int .u8 y.jt, .int .u8 y.jf, .int .u32 y.k] 36)).drewN m).setCell ⟨W.heap.size, 3, none⟩ (.int .u32 dd)).cell? ⟨W.heap.size, 3, none⟩ = some (.int .u32 dd) := by simp [go_sem]
            have z5 : W.heap.size < (((W.alloc (.cells #[.int .u16 y.code, .int .u8 y.jt, .int .u8 y.jf, .int .u32 y.k] 36)).drewN m).setCell ⟨W.heap.size, 3, none⟩ (.int .u32 dd)).heap.size := by simp
            generalize ((W.alloc (.cells #[.int .u16 y.code, .int .u8 y.jt, .int .u8 y.jf, .int .u32 y.k] 36)).drewN m).setCell ⟨W.heap.size, 3, none⟩ (.int .u32 dd) = W5 at *
            have hmo := HMO.out
            have hms := HMS.out
            rw [HMV.out] at hmo hms
            have HMO2 := Lib.hid hmo
            have HMS2 := Lib.hid hms
            clear hmo hms
            obtain ⟨RO, cO, hO5', hown5⟩ := HLO.out.out
            have hOW := (Array.getElem?_eq_some_iff.1 hO5').1
            have oc : W5.cell? ⟨O, 0, none⟩ = some (.slice RO (movedL l i).length cO) := cell_of_row _ _ _ _ _ _ ((HB5.out.block O hOW).trans hO5')
            have hOlt : O < W5.heap.size := by omega
            have HOX := Lib.hid (hown5.below HB5.out (Nat.le_refl _))
            have HOB := Lib.hid hO5'
            clear hown5 hO5' x0 x1 x2 x3 hic hpcw
            have HSO := Lib.hid (show W5.drew.cell? ⟨O, 0, none⟩ = some (.slice RO (movedL l i).length cO) by simpa using oc)
            refine region_at 4 (fun w' => w'.cell? ⟨O, 0, none⟩ = some (.slice RO (movedL l i).length cO)) (fun _ => trivial) (by kernel_rfl) (by kernel_rfl) (by kernel_rfl) (by kernel_rfl) (by kernel_rfl) (by kernel_rfl) (fun _ _ _ _ h => h) ?_
            refine At.take 0 (v := .slice RO (movedL l i).length cO) rfl (by decide) (by kernel_rfl) (by kernel_rfl) HSO.out (Or.inl ⟨by rfl, fun w hw => by go_simp⟩) ?_
            simp only [Act.put, List.setIfInBounds_toArray, List.set_cons_zero, List.set_cons_succ]
            refine At.force 1 rfl (by decide) (by kernel_rfl) ?_
            gi_wp2
            refine thenS_normal HSO.out (fun _ => ?_)
            refine At.force 2 rfl (by decide) (by kernel_rfl) ?_
            gi_wp2_with (gi_at_call 142; refine (callsIn_round (bare_any ⟨y.code, y.jt, y.jf, dd⟩ HMO2.out _)).mono ?_; rintro e w6 ⟨rfl, hb6⟩; have o6 := (hb6.cell (p := ⟨O, 0, none⟩) (by simpa using hOlt)).trans HSO.out; have HB6 := Lib.hid (Below.trans (show Below W5.heap.size W5 W5.drew by (repeat (first | with_reducible exact Below.refl _ _ | with_reducible assumption | ((with_reducible refine Below.setCell ?_ ?hp _); case hp => (first | omega | (simp only [World.size_alloc, World.size_setCell, World.size_drew]; omega) | (simp; done) | (simp; omega))) | ((with_reducible refine Below.alloc ?_ ?hp _); case hp => (first | omega | (simp only [World.size_alloc, World.size_setCell, World.size_drew]; omega) | (simp; done) | (simp; omega))) | with_reducible refine Below.drew ?_ | with_reducible refine below_drewN ?_ _))) (hb6.mono (by simp))); have hz6 : W5.heap.size ≤ w6.heap.size := (by have := hb6.size; simpa using this); clear hb6)
            refine thenS_normal o6 (fun _ => ?_)
            refine At.force 3 rfl (by decide) (by kernel_rfl) ?_
            gi_wp2
            refine thenS_normal (by simp [go_sem, o6, show O < w6.heap.size by omega]) (fun _ => ?_)
            refine At.tail (by kernel_rfl) ?_
            simp only [List.drop_succ_cons, List.drop_zero]
            have HOX6 := Lib.hid (HOX.out.below (HB6.out.alloc hz6 (.cells #[.int .u16 (bare (⟨y.code, y.jt, y.jf, dd⟩ : Insn)).code, .int .u8 (bare (⟨y.code, y.jt, y.jf, dd⟩ : Insn)).jt, .int .u8 (bare (⟨y.code, y.jt, y.jf, dd⟩ : Insn)).jf, .int .u32 (bare (⟨y.code, y.jt, y.jf, dd⟩ : Insn)).k] 36)) (Nat.le_refl _))
            have HBW6 := Lib.hid (HB5.out.trans ((HB6.out.alloc hz6 (.cells #[.int .u16 (bare (⟨y.code, y.jt, y.jf, dd⟩ : Insn)).code, .int .u8 (bare (⟨y.code, y.jt, y.jf, dd⟩ : Insn)).jt, .int .u8 (bare (⟨y.code, y.jt, y.jf, dd⟩ : Insn)).jf, .int .u32 (bare (⟨y.code, y.jt, y.jf, dd⟩ : Insn)).k] 36)).mono HB5.out.size))
            gi_wp2_with (gi_at_builtin; refine wpListIn_append_L EI 36 146 rfl (.tmp 78) (.tmp 81) rfl _ 8 Try.underlying146 info_insn rfl (by decide) _ K RO cO (movedL l i) rfl HOX6.out (some ⟨w6.heap.size, 0, none⟩) 1 [bare (⟨y.code, y.jt, y.jf, dd⟩ : Insn)] rfl (Enc.Rd.one_at EI _ _ _ _ rfl _ rfl) (by show (movedL l i).length + 1 ≤ _; omega) (by decide) (by simp only [World.size_alloc]; omega) ?_; intro R7 c7 w7 hown7 hg7 hat7; have hb7 : w7.heap[O]? = some (.cells #[.slice RO (movedL l i).length cO] 146 (0, 0)) := HOX6.out.box hg7 ((HBW6.out.block O hOW).trans HOB.out) (by omega); have hc7 : w7.cell? ⟨O, 0, none⟩ = some (.slice RO (movedL l i).length cO) := cell_of_row w7 O 0 _ _ _ hb7; have hf7 : w7.frozen? ⟨O, 0, none⟩ = false := (by simp [World.frozen?, hb7]); have HB7 := Lib.hid hb7; have HO7 := Lib.hid hown7; have HW7 := Lib.hid (below_append (HBW6.out.mono hKW) HOX6.out hg7 (by simp only [World.size_alloc]; omega)); clear hb7 hown7 hg7 hat7)
            have hOK : O < K := by omega
            refine ⟨⟨HW7.out.os, HW7.out.tape, HW7.out.output, by simpa using HW7.out.size, fun k hk hkl => (Below.heap_setCell _ _ _ _ (by show k ≠ O; omega)).trans (HW7.out.block k (by omega))⟩, ?_⟩
            have hBO := (HW7.out.mono (show O ≤ K by omega)).setCell (p := ⟨O, 0, none⟩) (Nat.le_refl _) (.slice R7 ((movedL l i).length + 1) c7)
            have hst : Step O W.heap.size W (w7.setCell ⟨O, 0, none⟩ (.slice R7 ((movedL l i).length + 1) c7)) := ⟨hBO.os, hBO.tape, hBO.output, hBO.size, fun k hk hn => hBO.block k (by omega)⟩
            refine ⟨HLO.out.li.step hst (by omega), ⟨R7, c7, ?_, ?_⟩, (hst.block D1 (by omega) (by omega)).trans HLO.out.mark⟩
            · rw [HMS2.out]
              exact (heap_setCell_same w7 O 0 _ _ _ HB7.out).trans (by simp)
            · rw [HMS2.out]
              exact ownsRow_setCell_below HO7.out (a := ⟨O, 0, none⟩) hOK _
          · have HJ := Lib.hid (show isJa (ins l z) = false by simpa using hj)
            clear hj
            by_cases ht : isTest (ins l z) = true
            · have HT := Lib.hid ht
              have hts := HG.out.test hz2 ht
              have HMV := Lib.hid (moved_test ht)
              have hmb1 := moved_bound (l := l) z (ins l z).jt
              have hmb2 := moved_bound (l := l) z (ins l z).jf
              clear ht
              generalize hy : ins l z = y at *
              have HY := Lib.hid hy
              clear hy
              have HBY1 := Lib.hid (fun W (h : LI w w.heap.size (w.heap.size + 1) T l.length (some ⟨b, o, none⟩) cap (ahead (stay l)) W) (hI : W.cell? ⟨Ib, 0, none⟩ = some (.int .i64 z)) => by_li0 h hlen.2 Ib z y.jt hI HZ.out hts.1)
              have HBY2 := Lib.hid (fun W (h : LI w w.heap.size (w.heap.size + 1) T l.length (some ⟨b, o, none⟩) cap (ahead (stay l)) W) (hI : W.cell? ⟨Ib, 0, none⟩ = some (.int .i64 z)) => by_li0 h hlen.2 Ib z y.jf hI HZ.out hts.2)
              generalize hd1 : ahead (stay l) (z + 1 + y.jt) - ahead (stay l) z - 1 = d1 at *
              generalize hd2 : ahead (stay l) (z + 1 + y.jf) - ahead (stay l) z - 1 = d2 at *
              clear hd1 hd2
              gi_wp2_with (first
                | (gi_at_call 136; refine (callsIn_round (HJB.out _ (HLW.out.below (B := W.heap.size) (by (repeat (first | with_reducible exact Below.refl _ _ | with_reducible assumption | ((with_reducible refine Below.setCell ?_ ?hp _); case hp => (first | omega | (simp only [World.size_alloc, World.size_setCell, World.size_drew]; omega) | (simp; done) | (simp; omega))) | ((with_reducible refine Below.alloc ?_ ?hp _); case hp => (first | omega | (simp only [World.size_alloc, World.size_setCell, World.size_drew]; omega) | (simp; done) | (simp; omega))) | with_reducible refine Below.drew ?_ | with_reducible refine below_drewN ?_ _))) (Nat.le_refl _)))).mono ?_; rw [HJ.out]; rintro e' w' ⟨rfl, rfl⟩)
                | (gi_at_call 139; refine (callsIn_round (HTB.out _ (HLW.out.below (B := W.heap.size) (by (repeat (first | with_reducible exact Below.refl _ _ | with_reducible assumption | ((with_reducible refine Below.setCell ?_ ?hp _); case hp => (first | omega | (simp only [World.size_alloc, World.size_setCell, World.size_drew]; omega) | (simp; done) | (simp; omega))) | ((with_reducible refine Below.alloc ?_ ?hp _); case hp => (first | omega | (simp only [World.size_alloc, World.size_setCell, World.size_drew]; omega) | (simp; done) | (simp; omega))) | with_reducible refine Below.drew ?_ | with_reducible refine below_drewN ?_ _))) (Nat.le_refl _)))).mono ?_; rw [HT.out]; rintro e' w3 ⟨rfl, hb3⟩; have HB3 := Lib.hid (Below.trans (show Below W.heap.size W _ by (repeat (first | with_reducible exact Below.refl _ _ | with_reducible assumption | ((with_reducible refine Below.setCell ?_ ?hp _); case hp => (first | omega | (simp only [World.size_alloc, World.size_setCell, World.size_drew]; omega) | (simp; done) | (simp; omega))) | ((with_reducible refine Below.alloc ?_ ?hp _); case hp => (first | omega | (simp only [World.size_alloc, World.size_setCell, World.size_drew]; omega) | (simp; done) | (simp; omega))) | with_reducible refine Below.drew ?_ | with_reducible refine below_drewN ?_ _))) (hb3.mono (by (first | omega | (simp only [World.size_alloc, World.size_setCell, World.size_drew]; omega) | (simp; done) | (simp; omega))))); have e0 := (hb3.cell (p := ⟨W.heap.size, 0, none⟩) (by simp)).trans (show _ = some (Value.int .u16 y.code) by simp [go_sem]); have e1 := (hb3.cell (p := ⟨W.heap.size, 1, none⟩) (by simp)).trans (show _ = some (Value.int .u8 y.jt) by simp [go_sem]); have e2 := (hb3.cell (p := ⟨W.heap.size, 2, none⟩) (by simp)).trans (show _ = some (Value.int .u8 y.jf) by simp [go_sem]); have e3 := (hb3.cell (p := ⟨W.heap.size, 3, none⟩) (by simp)).trans (show _ = some (Value.int .u32 y.k) by simp [go_sem]); have g1 := (hb3.frozen (p := ⟨W.heap.size, 1, none⟩) (by simp)).trans (show _ = false by simp [go_sem]); have g2 := (hb3.frozen (p := ⟨W.heap.size, 2, none⟩) (by simp)).trans (show _ = false by simp [go_sem]); have hz3 : W.heap.size + 1 ≤ w3.heap.size := (by have := hb3.size; simpa using this); clear hb3))
              have HS0 := Lib.hid (show w3.drew.cell? ⟨W.heap.size, 2, none⟩ = some (.int .u8 y.jf) by simpa using e2)
              have HLI3 := Lib.hid (HLO.out.li.later HB3.out)
              have hic3 : w3.cell? ⟨Ib, 0, none⟩ = some (.int .i64 z) := (HB3.out.cell (p := ⟨Ib, 0, none⟩) hIW).trans hic
              (refine region_at 14 (fun w' => w'.cell? ⟨W.heap.size, 2, none⟩ = some (.int .u8 y.jf)) (fun _ => trivial) (by kernel_rfl) (by kernel_rfl) (by kernel_rfl) (by kernel_rfl) (by kernel_rfl) (by kernel_rfl) (fun _ _ _ _ h => h) ?_)
              (refine At.take 0 (v := .func (.func 141) #[] #[.pointer (some ⟨T, 0, none⟩), .pointer (some ⟨Ib, 0, none⟩)]) rfl (by decide) (by kernel_rfl) (by kernel_rfl) HS0.out (Or.inl ⟨by rfl, fun w hw => (by go_simp)⟩) ?_; simp only [Act.put, List.setIfInBounds_toArray, List.set_cons_zero, List.set_cons_succ])
              (refine At.take 1 (v := .pointer (some ⟨W.heap.size, 1, none⟩)) rfl (by decide) (by kernel_rfl) (by kernel_rfl) HS0.out (Or.inl ⟨by rfl, fun w hw => (by go_simp; try (simp (disch := omega) only [IntWalk.i64_in, IntWalk.u8_in, IntWalk.u16_in, IntWalk.u32_in, IntWalk.u64_in]); try omega)⟩) ?_; simp only [Act.put, List.setIfInBounds_toArray, List.set_cons_zero, List.set_cons_succ])
              (refine At.take 6 (v := .func (.func 141) #[] #[.pointer (some ⟨T, 0, none⟩), .pointer (some ⟨Ib, 0, none⟩)]) rfl (by decide) (by kernel_rfl) (by kernel_rfl) HS0.out (Or.inl ⟨by rfl, fun w hw => (by go_simp)⟩) ?_; simp only [Act.put, List.setIfInBounds_toArray, List.set_cons_zero, List.set_cons_succ])
              (refine At.take 7 (v := .pointer (some ⟨W.heap.size, 2, none⟩)) rfl (by decide) (by kernel_rfl) (by kernel_rfl) HS0.out (Or.inl ⟨by rfl, fun w hw => (by go_simp; try (simp (disch := omega) only [IntWalk.i64_in, IntWalk.u8_in, IntWalk.u16_in, IntWalk.u32_in, IntWalk.u64_in]); try omega)⟩) ?_; simp only [Act.put, List.setIfInBounds_toArray, List.set_cons_zero, List.set_cons_succ])
              (refine At.take 8 (v := .int .u8 y.jf) rfl (by decide) (by kernel_rfl) (by kernel_rfl) HS0.out (Or.inl ⟨by rfl, fun w hw => (by go_simp; try (simp (disch := omega) only [IntWalk.i64_in, IntWalk.u8_in, IntWalk.u16_in, IntWalk.u32_in, IntWalk.u64_in]); try omega)⟩) ?_; simp only [Act.put, List.setIfInBounds_toArray, List.set_cons_zero, List.set_cons_succ])
              (refine At.take 9 (v := .int .i64 y.jf) rfl (by decide) (by kernel_rfl) (by kernel_rfl) HS0.out (Or.inl ⟨by rfl, fun w hw => (by go_simp; try (simp (disch := omega) only [IntWalk.i64_in, IntWalk.u8_in, IntWalk.u16_in, IntWalk.u32_in, IntWalk.u64_in]); try omega)⟩) ?_; simp only [Act.put, List.setIfInBounds_toArray, List.set_cons_zero, List.set_cons_succ])
              (refine At.force 2 rfl (by decide) (by kernel_rfl) ?_)
              gi_wp2
              refine thenS_normal HS0.out (fun _ => ?_)
              (refine At.force 3 rfl (by decide) (by kernel_rfl) ?_)
              gi_wp2
              refine thenS_normal HS0.out (fun _ => ?_)
              (refine At.force 4 rfl (by decide) (by kernel_rfl) ?_)
              gi_wp2_with (gi_at_call 141; refine (callsIn_round (HBY1.out _ (HLI3.out.later (by (repeat (first | with_reducible exact Below.refl _ _ | with_reducible assumption | ((with_reducible refine Below.setCell ?_ ?hp _); case hp => (first | omega | (simp only [World.size_alloc, World.size_setCell, World.size_drew]; omega) | (simp; done) | (simp; omega))) | ((with_reducible refine Below.alloc ?_ ?hp _); case hp => (first | omega | (simp only [World.size_alloc, World.size_setCell, World.size_drew]; omega) | (simp; done) | (simp; omega))) | with_reducible refine Below.drew ?_ | with_reducible refine below_drewN ?_ _)))) (by simpa using hic3))).mono ?_; rintro e' w' ⟨rfl, m, rfl⟩)
              have HS1 := Lib.hid (show (w3.drew.drewN m).cell? ⟨W.heap.size, 2, none⟩ = some (.int .u8 y.jf) by simpa using e2)
              refine thenS_normal HS1.out (fun _ => ?_)
              (refine At.take 5 (v := .int .u8 d1) rfl (by decide) (by kernel_rfl) (by kernel_rfl) HS1.out (Or.inl ⟨by rfl, fun w hw => (by go_simp; try (simp (disch := omega) only [IntWalk.i64_in, IntWalk.u8_in, IntWalk.u16_in, IntWalk.u32_in, IntWalk.u64_in]); try omega)⟩) ?_; simp only [Act.put, List.setIfInBounds_toArray, List.set_cons_zero, List.set_cons_succ])
              (refine At.take 12 (v := .pointer (some ⟨W.heap.size, 1, none⟩)) rfl (by decide) (by kernel_rfl) (by kernel_rfl) HS1.out (Or.inl ⟨by rfl, fun w hw => (by go_simp; try (simp (disch := omega) only [IntWalk.i64_in, IntWalk.u8_in, IntWalk.u16_in, IntWalk.u32_in, IntWalk.u64_in]); try omega)⟩) ?_; simp only [Act.put, List.setIfInBounds_toArray, List.set_cons_zero, List.set_cons_succ])
              (refine At.force 10 rfl (by decide) (by kernel_rfl) ?_)
              gi_wp2_with (gi_at_call 141; refine (callsIn_round (HBY2.out _ (HLI3.out.later (by (repeat (first | with_reducible exact Below.refl _ _ | with_reducible assumption | ((with_reducible refine Below.setCell ?_ ?hp _); case hp => (first | omega | (simp only [World.size_alloc, World.size_setCell, World.size_drew]; omega) | (simp; done) | (simp; omega))) | ((with_reducible refine Below.alloc ?_ ?hp _); case hp => (first | omega | (simp only [World.size_alloc, World.size_setCell, World.size_drew]; omega) | (simp; done) | (simp; omega))) | with_reducible refine Below.drew ?_ | with_reducible refine below_drewN ?_ _)))) (by simpa using hic3))).mono ?_; rintro e' w' ⟨rfl, m', rfl⟩)
              have HS2 := Lib.hid (show ((w3.drew.drewN m).drewN m').cell? ⟨W.heap.size, 2, none⟩ = some (.int .u8 y.jf) by simpa using e2)
              refine thenS_normal HS2.out (fun _ => ?_)
              (refine At.take 11 (v := .int .u8 d2) rfl (by decide) (by kernel_rfl) (by kernel_rfl) HS2.out (Or.inl ⟨by rfl, fun w hw => (by go_simp; try (simp (disch := omega) only [IntWalk.i64_in, IntWalk.u8_in, IntWalk.u16_in, IntWalk.u32_in, IntWalk.u64_in]); try omega)⟩) ?_; simp only [Act.put, List.setIfInBounds_toArray, List.set_cons_zero, List.set_cons_succ])
              (refine At.force 13 rfl (by decide) (by kernel_rfl) ?_)
              gi_wp2
              refine thenS_normal (by simpa [go_sem] using e2) (fun _ => ?_)
              refine At.tail (by kernel_rfl) ?_
              simp only [List.drop_succ_cons, List.drop_zero]
              gi_wp2
              have HB5 := Lib.hid (show Below W.heap.size W (((w3.drewN (1 + m + m')).setCell ⟨W.heap.size, 1, none⟩ (.int .u8 d1)).setCell ⟨W.heap.size, 2, none⟩ (.int .u8 d2)) from ((below_drewN HB3.out _).setCell (Nat.le_refl _) _).setCell (Nat.le_refl _) _)
              have m0 : (((w3.drewN (1 + m + m')).setCell ⟨W.heap.size, 1, none⟩ (.int .u8 d1)).setCell ⟨W.heap.size, 2, none⟩ (.int .u8 d2)).cell? ⟨W.heap.size, 0, none⟩ = some (.int .u16 y.code) := by simpa [go_sem] using e0
              have m1 : (((w3.drewN (1 + m + m')).setCell ⟨W.heap.size, 1, none⟩ (.int .u8 d1)).setCell ⟨W.heap.size, 2, none⟩ (.int .u8 d2)).cell? ⟨W.heap.size, 1, none⟩ = some (.int .u8 d1) := by simp [go_sem, e1]
              have m2 : (((w3.drewN (1 + m + m')).setCell ⟨W.heap.size, 1, none⟩ (.int .u8 d1)).setCell ⟨W.heap.size, 2, none⟩ (.int .u8 d2)).cell? ⟨W.heap.size, 2, none⟩ = some (.int .u8 d2) := by simp [go_sem, e2]
              have m3 : (((w3.drewN (1 + m + m')).setCell ⟨W.heap.size, 1, none⟩ (.int .u8 d1)).setCell ⟨W.heap.size, 2, none⟩ (.int .u8 d2)).cell? ⟨W.heap.size, 3, none⟩ = some (.int .u32 y.k) := by simpa [go_sem] using e3
              have z5 : W.heap.size < (((w3.drewN (1 + m + m')).setCell ⟨W.heap.size, 1, none⟩ (.int .u8 d1)).setCell ⟨W.heap.size, 2, none⟩ (.int .u8 d2)).heap.size := by simp; omega
              generalize (((w3.drewN (1 + m + m')).setCell ⟨W.heap.size, 1, none⟩ (.int .u8 d1)).setCell ⟨W.heap.size, 2, none⟩ (.int .u8 d2)) = W5 at *
              clear e0 e1 e2 e3 g1 g2 hic3
              have hmo := HMO.out
              have hms := HMS.out
              rw [HMV.out] at hmo hms
              have HMO2 := Lib.hid hmo
              have HMS2 := Lib.hid hms
              clear hmo hms
              obtain ⟨RO, cO, hO5', hown5⟩ := HLO.out.out
              have hOW := (Array.getElem?_eq_some_iff.1 hO5').1
              have oc : W5.cell? ⟨O, 0, none⟩ = some (.slice RO (movedL l i).length cO) := cell_of_row _ _ _ _ _ _ ((HB5.out.block O hOW).trans hO5')
              have hOlt : O < W5.heap.size := by omega
              have HOX := Lib.hid (hown5.below HB5.out (Nat.le_refl _))
              have HOB := Lib.hid hO5'
              clear hown5 hO5' x0 x1 x2 x3 hic hpcw
              have HSO := Lib.hid (show W5.drew.cell? ⟨O, 0, none⟩ = some (.slice RO (movedL l i).length cO) by simpa using oc)
              refine region_at 4 (fun w' => w'.cell? ⟨O, 0, none⟩ = some (.slice RO (movedL l i).length cO)) (fun _ => trivial) (by kernel_rfl) (by kernel_rfl) (by kernel_rfl) (by kernel_rfl) (by kernel_rfl) (by kernel_rfl) (fun _ _ _ _ h => h) ?_
              refine At.take 0 (v := .slice RO (movedL l i).length cO) rfl (by decide) (by kernel_rfl) (by kernel_rfl) HSO.out (Or.inl ⟨by rfl, fun w hw => by go_simp⟩) ?_
              simp only [Act.put, List.setIfInBounds_toArray, List.set_cons_zero, List.set_cons_succ]
              refine At.force 1 rfl (by decide) (by kernel_rfl) ?_
              gi_wp2
              refine thenS_normal HSO.out (fun _ => ?_)
              refine At.force 2 rfl (by decide) (by kernel_rfl) ?_
              gi_wp2_with (gi_at_call 142; refine (callsIn_round (bare_any ⟨y.code, d1, d2, y.k⟩ HMO2.out _)).mono ?_; rintro e w6 ⟨rfl, hb6⟩; have o6 := (hb6.cell (p := ⟨O, 0, none⟩) (by simpa using hOlt)).trans HSO.out; have HB6 := Lib.hid (Below.trans (show Below W5.heap.size W5 W5.drew by (repeat (first | with_reducible exact Below.refl _ _ | with_reducible assumption | ((with_reducible refine Below.setCell ?_ ?hp _); case hp => (first | omega | (simp only [World.size_alloc, World.size_setCell, World.size_drew]; omega) | (simp; done) | (simp; omega))) | ((with_reducible refine Below.alloc ?_ ?hp _); case hp => (first | omega | (simp only [World.size_alloc, World.size_setCell, World.size_drew]; omega) | (simp; done) | (simp; omega))) | with_reducible refine Below.drew ?_ | with_reducible refine below_drewN ?_ _))) (hb6.mono (by simp))); have hz6 : W5.heap.size ≤ w6.heap.size := (by have := hb6.size; simpa using this); clear hb6)
              refine thenS_normal o6 (fun _ => ?_)
              refine At.force 3 rfl (by decide) (by kernel_rfl) ?_
              gi_wp2
              refine thenS_normal (by simp [go_sem, o6, show O < w6.heap.size by omega]) (fun _ => ?_)
              refine At.tail (by kernel_rfl) ?_
              simp only [List.drop_succ_cons, List.drop_zero]
              have HOX6 := Lib.hid (HOX.out.below (HB6.out.alloc hz6 (.cells #[.int .u16 (bare (⟨y.code, d1, d2, y.k⟩ : Insn)).code, .int .u8 (bare (⟨y.code, d1, d2, y.k⟩ : Insn)).jt, .int .u8 (bare (⟨y.code, d1, d2, y.k⟩ : Insn)).jf, .int .u32 (bare (⟨y.code, d1, d2, y.k⟩ : Insn)).k] 36)) (Nat.le_refl _))
              have HBW6 := Lib.hid (HB5.out.trans ((HB6.out.alloc hz6 (.cells #[.int .u16 (bare (⟨y.code, d1, d2, y.k⟩ : Insn)).code, .int .u8 (bare (⟨y.code, d1, d2, y.k⟩ : Insn)).jt, .int .u8 (bare (⟨y.code, d1, d2, y.k⟩ : Insn)).jf, .int .u32 (bare (⟨y.code, d1, d2, y.k⟩ : Insn)).k] 36)).mono HB5.out.size))
              gi_wp2_with (gi_at_builtin; refine wpListIn_append_L EI 36 146 rfl (.tmp 78) (.tmp 81) rfl _ 8 Try.underlying146 info_insn rfl (by decide) _ K RO cO (movedL l i) rfl HOX6.out (some ⟨w6.heap.size, 0, none⟩) 1 [bare (⟨y.code, d1, d2, y.k⟩ : Insn)] rfl (Enc.Rd.one_at EI _ _ _ _ rfl _ rfl) (by show (movedL l i).length + 1 ≤ _; omega) (by decide) (by simp only [World.size_alloc]; omega) ?_; intro R7 c7 w7 hown7 hg7 hat7; have hb7 : w7.heap[O]? = some (.cells #[.slice RO (movedL l i).length cO] 146 (0, 0)) := HOX6.out.box hg7 ((HBW6.out.block O hOW).trans HOB.out) (by omega); have hc7 : w7.cell? ⟨O, 0, none⟩ = some (.slice RO (movedL l i).length cO) := cell_of_row w7 O 0 _ _ _ hb7; have hf7 : w7.frozen? ⟨O, 0, none⟩ = false := (by simp [World.frozen?, hb7]); have HB7 := Lib.hid hb7; have HO7 := Lib.hid hown7; have HW7 := Lib.hid (below_append (HBW6.out.mono hKW) HOX6.out hg7 (by simp only [World.size_alloc]; omega)); clear hb7 hown7 hg7 hat7)
              have hOK : O < K := by omega
              refine ⟨⟨HW7.out.os, HW7.out.tape, HW7.out.output, by simpa using HW7.out.size, fun k hk hkl => (Below.heap_setCell _ _ _ _ (by show k ≠ O; omega)).trans (HW7.out.block k (by omega))⟩, ?_⟩
              have hBO := (HW7.out.mono (show O ≤ K by omega)).setCell (p := ⟨O, 0, none⟩) (Nat.le_refl _) (.slice R7 ((movedL l i).length + 1) c7)
              have hst : Step O W.heap.size W (w7.setCell ⟨O, 0, none⟩ (.slice R7 ((movedL l i).length + 1) c7)) := ⟨hBO.os, hBO.tape, hBO.output, hBO.size, fun k hk hn => hBO.block k (by omega)⟩
              refine ⟨HLO.out.li.step hst (by omega), ⟨R7, c7, ?_, ?_⟩, (hst.block D1 (by omega) (by omega)).trans HLO.out.mark⟩
              · rw [HMS2.out]
                exact (heap_setCell_same w7 O 0 _ _ _ HB7.out).trans (by simp)
              · rw [HMS2.out]
                exact ownsRow_setCell_below HO7.out (a := ⟨O, 0, none⟩) hOK _
            · have HT := Lib.hid (show isTest (ins l z) = false by simpa using ht)
              clear ht
              have HMV := Lib.hid (moved_else HJ.out HT.out)
              generalize hy : ins l z = y at *
              have HY := Lib.hid hy
              clear hy
              gi_wp2_with (first
                | (gi_at_call 136; refine (callsIn_round (HJB.out _ (HLW.out.below (B := W.heap.size) (by (repeat (first | with_reducible exact Below.refl _ _ | with_reducible assumption | ((with_reducible refine Below.setCell ?_ ?hp _); case hp => (first | omega | (simp only [World.size_alloc, World.size_setCell, World.size_drew]; omega) | (simp; done) | (simp; omega))) | ((with_reducible refine Below.alloc ?_ ?hp _); case hp => (first | omega | (simp only [World.size_alloc, World.size_setCell, World.size_drew]; omega) | (simp; done) | (simp; omega))) | with_reducible refine Below.drew ?_ | with_reducible refine below_drewN ?_ _))) (Nat.le_refl _)))).mono ?_; rw [HJ.out]; rintro e' w' ⟨rfl, rfl⟩)
                | (gi_at_call 139; refine (callsIn_round (HTB.out _ (HLW.out.below (B := W.heap.size) (by (repeat (first | with_reducible exact Below.refl _ _ | with_reducible assumption | ((with_reducible refine Below.setCell ?_ ?hp _); case hp => (first | omega | (simp only [World.size_alloc, World.size_setCell, World.size_drew]; omega) | (simp; done) | (simp; omega))) | ((with_reducible refine Below.alloc ?_ ?hp _); case hp => (first | omega | (simp only [World.size_alloc, World.size_setCell, World.size_drew]; omega) | (simp; done) | (simp; omega))) | with_reducible refine Below.drew ?_ | with_reducible refine below_drewN ?_ _))) (Nat.le_refl _)))).mono ?_; rw [HT.out]; rintro e' W5 ⟨rfl, hb3⟩; have HB5 := Lib.hid (Below.trans (show Below W.heap.size W _ by (repeat (first | with_reducible exact Below.refl _ _ | with_reducible assumption | ((with_reducible refine Below.setCell ?_ ?hp _); case hp => (first | omega | (simp only [World.size_alloc, World.size_setCell, World.size_drew]; omega) | (simp; done) | (simp; omega))) | ((with_reducible refine Below.alloc ?_ ?hp _); case hp => (first | omega | (simp only [World.size_alloc, World.size_setCell, World.size_drew]; omega) | (simp; done) | (simp; omega))) | with_reducible refine Below.drew ?_ | with_reducible refine below_drewN ?_ _))) (hb3.mono (by (first | omega | (simp only [World.size_alloc, World.size_setCell, World.size_drew]; omega) | (simp; done) | (simp; omega))))); have m0 := (hb3.cell (p := ⟨W.heap.size, 0, none⟩) (by simp)).trans (show _ = some (Value.int .u16 y.code) by simp [go_sem]); have m1 := (hb3.cell (p := ⟨W.heap.size, 1, none⟩) (by simp)).trans (show _ = some (Value.int .u8 y.jt) by simp [go_sem]); have m2 := (hb3.cell (p := ⟨W.heap.size, 2, none⟩) (by simp)).trans (show _ = some (Value.int .u8 y.jf) by simp [go_sem]); have m3 := (hb3.cell (p := ⟨W.heap.size, 3, none⟩) (by simp)).trans (show _ = some (Value.int .u32 y.k) by simp [go_sem]); have z5 : W.heap.size < W5.heap.size := (by have := hb3.size; simp at this; omega); clear hb3))
              have hmo := HMO.out
              have hms := HMS.out
              rw [HMV.out] at hmo hms
              have HMO2 := Lib.hid hmo
              have HMS2 := Lib.hid hms
              clear hmo hms
              obtain ⟨RO, cO, hO5', hown5⟩ := HLO.out.out
              have hOW := (Array.getElem?_eq_some_iff.1 hO5').1
              have oc : W5.cell? ⟨O, 0, none⟩ = some (.slice RO (movedL l i).length cO) := cell_of_row _ _ _ _ _ _ ((HB5.out.block O hOW).trans hO5')
              have hOlt : O < W5.heap.size := by omega
              have HOX := Lib.hid (hown5.below HB5.out (Nat.le_refl _))
              have HOB := Lib.hid hO5'
              clear hown5 hO5' x0 x1 x2 x3 hic hpcw
              have HSO := Lib.hid (show W5.drew.cell? ⟨O, 0, none⟩ = some (.slice RO (movedL l i).length cO) by simpa using oc)
              refine region_at 4 (fun w' => w'.cell? ⟨O, 0, none⟩ = some (.slice RO (movedL l i).length cO)) (fun _ => trivial) (by kernel_rfl) (by kernel_rfl) (by kernel_rfl) (by kernel_rfl) (by kernel_rfl) (by kernel_rfl) (fun _ _ _ _ h => h) ?_
              refine At.take 0 (v := .slice RO (movedL l i).length cO) rfl (by decide) (by kernel_rfl) (by kernel_rfl) HSO.out (Or.inl ⟨by rfl, fun w hw => by go_simp⟩) ?_
              simp only [Act.put, List.setIfInBounds_toArray, List.set_cons_zero, List.set_cons_succ]
              refine At.force 1 rfl (by decide) (by kernel_rfl) ?_
              gi_wp2
              refine thenS_normal HSO.out (fun _ => ?_)
              refine At.force 2 rfl (by decide) (by kernel_rfl) ?_
              gi_wp2_with (gi_at_call 142; refine (callsIn_round (bare_any ⟨y.code, y.jt, y.jf, y.k⟩ HMO2.out _)).mono ?_; rintro e w6 ⟨rfl, hb6⟩; have o6 := (hb6.cell (p := ⟨O, 0, none⟩) (by simpa using hOlt)).trans HSO.out; have HB6 := Lib.hid (Below.trans (show Below W5.heap.size W5 W5.drew by (repeat (first | with_reducible exact Below.refl _ _ | with_reducible assumption | ((with_reducible refine Below.setCell ?_ ?hp _); case hp => (first | omega | (simp only [World.size_alloc, World.size_setCell, World.size_drew]; omega) | (simp; done) | (simp; omega))) | ((with_reducible refine Below.alloc ?_ ?hp _); case hp => (first | omega | (simp only [World.size_alloc, World.size_setCell, World.size_drew]; omega) | (simp; done) | (simp; omega))) | with_reducible refine Below.drew ?_ | with_reducible refine below_drewN ?_ _))) (hb6.mono (by simp))); have hz6 : W5.heap.size ≤ w6.heap.size := (by have := hb6.size; simpa using this); clear hb6)
              refine thenS_normal o6 (fun _ => ?_)
              refine At.force 3 rfl (by decide) (by kernel_rfl) ?_
              gi_wp2
              refine thenS_normal (by simp [go_sem, o6, show O < w6.heap.size by omega]) (fun _ => ?_)
              refine At.tail (by kernel_rfl) ?_
              simp only [List.drop_succ_cons, List.drop_zero]
              have HOX6 := Lib.hid (HOX.out.below (HB6.out.alloc hz6 (.cells #[.int .u16 (bare (⟨y.code, y.jt, y.jf, y.k⟩ : Insn)).code, .int .u8 (bare (⟨y.code, y.jt, y.jf, y.k⟩ : Insn)).jt, .int .u8 (bare (⟨y.code, y.jt, y.jf, y.k⟩ : Insn)).jf, .int .u32 (bare (⟨y.code, y.jt, y.jf, y.k⟩ : Insn)).k] 36)) (Nat.le_refl _))
              have HBW6 := Lib.hid (HB5.out.trans ((HB6.out.alloc hz6 (.cells #[.int .u16 (bare (⟨y.code, y.jt, y.jf, y.k⟩ : Insn)).code, .int .u8 (bare (⟨y.code, y.jt, y.jf, y.k⟩ : Insn)).jt, .int .u8 (bare (⟨y.code, y.jt, y.jf, y.k⟩ : Insn)).jf, .int .u32 (bare (⟨y.code, y.jt, y.jf, y.k⟩ : Insn)).k] 36)).mono HB5.out.size))
              gi_wp2_with (gi_at_builtin; refine wpListIn_append_L EI 36 146 rfl (.tmp 78) (.tmp 81) rfl _ 8 Try.underlying146 info_insn rfl (by decide) _ K RO cO (movedL l i) rfl HOX6.out (some ⟨w6.heap.size, 0, none⟩) 1 [bare (⟨y.code, y.jt, y.jf, y.k⟩ : Insn)] rfl (Enc.Rd.one_at EI _ _ _ _ rfl _ rfl) (by show (movedL l i).length + 1 ≤ _; omega) (by decide) (by simp only [World.size_alloc]; omega) ?_; intro R7 c7 w7 hown7 hg7 hat7; have hb7 : w7.heap[O]? = some (.cells #[.slice RO (movedL l i).length cO] 146 (0, 0)) := HOX6.out.box hg7 ((HBW6.out.block O hOW).trans HOB.out) (by omega); have hc7 : w7.cell? ⟨O, 0, none⟩ = some (.slice RO (movedL l i).length cO) := cell_of_row w7 O 0 _ _ _ hb7; have hf7 : w7.frozen? ⟨O, 0, none⟩ = false := (by simp [World.frozen?, hb7]); have HB7 := Lib.hid hb7; have HO7 := Lib.hid hown7; have HW7 := Lib.hid (below_append (HBW6.out.mono hKW) HOX6.out hg7 (by simp only [World.size_alloc]; omega)); clear hb7 hown7 hg7 hat7)
              have hOK : O < K := by omega
              refine ⟨⟨HW7.out.os, HW7.out.tape, HW7.out.output, by simpa using HW7.out.size, fun k hk hkl => (Below.heap_setCell _ _ _ _ (by show k ≠ O; omega)).trans (HW7.out.block k (by omega))⟩, ?_⟩
              have hBO := (HW7.out.mono (show O ≤ K by omega)).setCell (p := ⟨O, 0, none⟩) (Nat.le_refl _) (.slice R7 ((movedL l i).length + 1) c7)
              have hst : Step O W.heap.size W (w7.setCell ⟨O, 0, none⟩ (.slice R7 ((movedL l i).length + 1) c7)) := ⟨hBO.os, hBO.tape, hBO.output, hBO.size, fun k hk hn => hBO.block k (by omega)⟩
              refine ⟨HLO.out.li.step hst (by omega), ⟨R7, c7, ?_, ?_⟩, (hst.block D1 (by omega) (by omega)).trans HLO.out.mark⟩
              · rw [HMS2.out]
                exact (heap_setCell_same w7 O 0 _ _ _ HB7.out).trans (by simp)
              · rw [HMS2.out]
                exact ownsRow_setCell_below HO7.out (a := ⟨O, 0, none⟩) hOK _
end Go.Proofs.Ytfjbanfibmpalaa

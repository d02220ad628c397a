/- Contracts: data.Decode of as many bytes as there are, data.With. -/
import Derived.Test.YtfjbanfibmpalaaVB
import Derived.Test.YtfjbanfibmpalaaP12
set_option linter.unusedVariables false
set_option linter.unusedSimpArgs false
namespace Go.Proofs.Ytfjbanfibmpalaa
open Go.RowKit Go.Shelf

/-- A variable of data that the call made. -/
theorem Rdr.fresh {w w' : World} {B : Nat} {R : Option Addr} {c : Nat} {l : List Nat} {p : Nat} (h : Rdr w B R c l p) (hb : Below w.heap.size w w') : Rdr w' B R c l p := h.below hb h.lt

theorem dOf_ok (l : List Nat) (hl : l.length = 64) (hb : ∀ y ∈ l, y < 256) : (dOf l).Ok := by
  have h4 : ∀ p, p + 4 ≤ 64 → numL ((l.drop p).take 4) < 4294967296 := fun p hp => by
    have := numL_lt ((l.drop p).take 4) (fun y hy => hb y (List.mem_of_mem_drop (List.mem_of_mem_take hy)))
    rw [List.length_take, List.length_drop, Nat.min_eq_left (by omega)] at this
    exact this
  have h8 : ∀ p, p + 8 ≤ 64 → numL ((l.drop p).take 8) < 18446744073709551616 := fun p hp => by
    have := numL_lt ((l.drop p).take 8) (fun y hy => hb y (List.mem_of_mem_drop (List.mem_of_mem_take hy)))
    rw [List.length_take, List.length_drop, Nat.min_eq_left (by omega)] at this
    exact this
  exact ⟨h4 0 (by decide), h4 4 (by decide), h8 8 (by decide), h8 16 (by decide), h8 24 (by decide), h8 32 (by decide), h8 40 (by decide), h8 48 (by decide), h8 56 (by decide)⟩

theorem results_cell2 {P : Program} {fn : Func} {p t : Tmp} {ty : TypeId} (h : fn.results = #[.cell p ty, .tmp t]) (tmps : Array Value) (w : World) (g : Nat) (tt : TypeId) (cs : Array Value) (fr : Nat × Nat) (d : TypeDesc)
    (hp : tmps.getD p undef = .pointer (some ⟨g, 0, none⟩)) (hg : w.heap[g]? = some (.cells cs tt fr))
    (hu : P.underlying ty = some d) (hd : (match d with | .struct _ | .array _ _ => true | _ => false) = true) (hi : (P.info? ty).map (·.size) = some cs.size) :
    (results fn tmps).run P w = .ok (.tuple #[.agg cs, tmps.getD t undef]) w := by
  have hp' : tmps[p]?.getD undef = .pointer (some ⟨g, 0, none⟩) := by simpa using hp
  simp [results, h, hp', asAddr, run_loadVar_row w g tt ty cs fr d hg hu hd hi]
theorem step_below {n B : Nat} {w A C : World} (h : Below n w A) (hs : Step B (B + 1) A C) (hB : n + 1 ≤ B) (hz : n ≤ A.heap.size) : Below n w C :=
  ⟨hs.os.trans h.os, hs.tape.trans h.tape, hs.output.trans h.output, Nat.le_trans h.size hs.size, fun k hk => (hs.block k (by omega) (by omega)).trans (h.block k hk)⟩

set_option maxRecDepth 100000 in
set_option maxHeartbeats 2000000 in
theorem decode_any (A : Option Addr) (c : Nat) (l : List Nat) (w : World) (hl : EY.Rd w A l) (hlen : l.length = 64) (hb : ∀ y ∈ l, y < 256) :
    Calls Try.prog 81 #[.slice A 64 c] w fun e w' => e = .returned (.tuple #[.agg #[.int .u32 ((dOf l).nr : Int), .int .u32 ((dOf l).arch : Int), .int .u64 ((dOf l).ip : Int), .int .u64 ((dOf l).a0 : Int), .int .u64 ((dOf l).a1 : Int), .int .u64 ((dOf l).a2 : Int), .int .u64 ((dOf l).a3 : Int), .int .u64 ((dOf l).a4 : Int), .int .u64 ((dOf l).a5 : Int)], .int .i64 0]) ∧ Below w.heap.size w w' := by
  have HR0 := Lib.hid (fun W (h : Below w.heap.size w W) => read_any A c l W (hl.below h (Nat.le_refl _)) (by omega) (by intro e; rw [e] at hlen; cases hlen))
  have HLN := Lib.hid hlen
  have H4 := Lib.hid (fun B R c p W (h : Rdr W B R c l p) (hp : p + 4 ≤ 64) => u32_any B R c l p W h (by omega) (by omega) hb)
  have H8 := Lib.hid (fun B R c p W (h : Rdr W B R c l p) (hp : p + 8 ≤ 64) => u64_any B R c l p W h (by omega) (by omega) hb)
  have HDO := Lib.hid (dOf_ok l hlen hb)
  have HU0 := Lib.hid (fun B R c W (h : Rdr W B R c l 0) => (show Calls Try.prog 127 #[.pointer (some ⟨B, 0, none⟩)] W fun e w' => e = .returned (.int .u32 ((dOf l).nr : Int)) ∧ Rdr w' B R c l 4 ∧ Step B (B + 1) W w' from H4.out B R c 0 W h (by decide)))
  have HU1 := Lib.hid (fun B R c W (h : Rdr W B R c l 4) => (show Calls Try.prog 127 #[.pointer (some ⟨B, 0, none⟩)] W fun e w' => e = .returned (.int .u32 ((dOf l).arch : Int)) ∧ Rdr w' B R c l 8 ∧ Step B (B + 1) W w' from H4.out B R c 4 W h (by decide)))
  have HU2 := Lib.hid (fun B R c W (h : Rdr W B R c l 8) => (show Calls Try.prog 129 #[.pointer (some ⟨B, 0, none⟩)] W fun e w' => e = .returned (.int .u64 ((dOf l).ip : Int)) ∧ Rdr w' B R c l 16 ∧ Step B (B + 1) W w' from H8.out B R c 8 W h (by decide)))
  have HU3 := Lib.hid (fun B R c W (h : Rdr W B R c l 16) => (show Calls Try.prog 129 #[.pointer (some ⟨B, 0, none⟩)] W fun e w' => e = .returned (.int .u64 ((dOf l).a0 : Int)) ∧ Rdr w' B R c l 24 ∧ Step B (B + 1) W w' from H8.out B R c 16 W h (by decide)))
  have HU4 := Lib.hid (fun B R c W (h : Rdr W B R c l 24) => (show Calls Try.prog 129 #[.pointer (some ⟨B, 0, none⟩)] W fun e w' => e = .returned (.int .u64 ((dOf l).a1 : Int)) ∧ Rdr w' B R c l 32 ∧ Step B (B + 1) W w' from H8.out B R c 24 W h (by decide)))
  have HU5 := Lib.hid (fun B R c W (h : Rdr W B R c l 32) => (show Calls Try.prog 129 #[.pointer (some ⟨B, 0, none⟩)] W fun e w' => e = .returned (.int .u64 ((dOf l).a2 : Int)) ∧ Rdr w' B R c l 40 ∧ Step B (B + 1) W w' from H8.out B R c 32 W h (by decide)))
  have HU6 := Lib.hid (fun B R c W (h : Rdr W B R c l 40) => (show Calls Try.prog 129 #[.pointer (some ⟨B, 0, none⟩)] W fun e w' => e = .returned (.int .u64 ((dOf l).a3 : Int)) ∧ Rdr w' B R c l 48 ∧ Step B (B + 1) W w' from H8.out B R c 40 W h (by decide)))
  have HU7 := Lib.hid (fun B R c W (h : Rdr W B R c l 48) => (show Calls Try.prog 129 #[.pointer (some ⟨B, 0, none⟩)] W fun e w' => e = .returned (.int .u64 ((dOf l).a4 : Int)) ∧ Rdr w' B R c l 56 ∧ Step B (B + 1) W w' from H8.out B R c 48 W h (by decide)))
  have HU8 := Lib.hid (fun B R c W (h : Rdr W B R c l 56) => (show Calls Try.prog 129 #[.pointer (some ⟨B, 0, none⟩)] W fun e w' => e = .returned (.int .u64 ((dOf l).a5 : Int)) ∧ Rdr w' B R c l 64 ∧ Step B (B + 1) W w' from H8.out B R c 56 W h (by decide)))
  clear H4 H8
  generalize dOf l = y at *
  obtain ⟨x0, x1, x2, x3, x4, x5, x6, x7, x8⟩ := y
  rw [← hlen]
  have hl64 : (l.length : Int) = 64 := by omega
  clear hl hlen hb
  go_enter Try.func81, Try.ntmps81
  have tok1 : True := trivial
  have tok2 : True := trivial
  go_wp2_with (first
    | (go_at_call 125; refine (HR0.out _ (by (repeat (first | with_reducible exact Below.refl _ _ | with_reducible assumption | ((with_reducible refine Below.setCell ?_ ?hp _); case hp => (first | omega | (simp only [World.size_alloc, World.size_setCell, World.size_drew]; omega) | (simp; done) | (simp; omega))) | ((with_reducible refine Below.alloc ?_ ?hp _); case hp => (first | omega | (simp only [World.size_alloc, World.size_setCell, World.size_drew]; omega) | (simp; done) | (simp; omega))) | with_reducible refine Below.drew ?_ | with_reducible refine below_drewN ?_ _)))).mono ?_; rintro e w1 ⟨B, R, c', rfl, hB1, hB2, hr, hg, hb⟩; have HRw1 := Lib.hid hr; have HBw1 := Lib.hid (Below.trans (show Below w.heap.size w _ by (repeat (first | with_reducible exact Below.refl _ _ | with_reducible assumption | ((with_reducible refine Below.setCell ?_ ?hp _); case hp => (first | omega | (simp only [World.size_alloc, World.size_setCell, World.size_drew]; omega) | (simp; done) | (simp; omega))) | ((with_reducible refine Below.alloc ?_ ?hp _); case hp => (first | omega | (simp only [World.size_alloc, World.size_setCell, World.size_drew]; omega) | (simp; done) | (simp; omega))) | with_reducible refine Below.drew ?_ | with_reducible refine below_drewN ?_ _))) (hb.mono (by simp))); have HOw1 := Lib.hid ((hb.block _ (by simp)).trans (heap_alloc_new w _)); have hBn : w.heap.size + 1 ≤ B := (by simpa using hB1); have HZw1 := Lib.hid hB2; clear hr hg hb hB1)
    | (go_at_call 127; have _t := tok1; refine (HU0.out B R c' _ HRw1.out).mono ?_; rintro e w2 ⟨rfl, hr, hs⟩; have HRw2 := Lib.hid hr; have HBw2 := Lib.hid (step_below HBw1.out hs hBn (by have := HBw1.out.size; omega)); have HOw2 := Lib.hid ((hs.block _ (by have := hB2; have := HZw1.out; omega) (by omega)).trans HOw1.out); have HZw2 := Lib.hid (Nat.le_trans HZw1.out hs.size); clear hr hs tok1)
    | (go_at_call 127; refine (HU1.out B R c' _ HRw2.out).mono ?_; rintro e w3 ⟨rfl, hr, hs⟩; have HRw3 := Lib.hid hr; have HBw3 := Lib.hid (step_below HBw2.out hs hBn (by have := HBw2.out.size; omega)); have HOw3 := Lib.hid ((hs.block _ (by have := hB2; have := HZw2.out; omega) (by omega)).trans HOw2.out); have HZw3 := Lib.hid (Nat.le_trans HZw2.out hs.size); clear hr hs)
    | (go_at_call 129; have _t := tok2; refine (HU2.out B R c' _ HRw3.out).mono ?_; rintro e w4 ⟨rfl, hr, hs⟩; have HRw4 := Lib.hid hr; have HBw4 := Lib.hid (step_below HBw3.out hs hBn (by have := HBw3.out.size; omega)); have HOw4 := Lib.hid ((hs.block _ (by have := hB2; have := HZw3.out; omega) (by omega)).trans HOw3.out); have HZw4 := Lib.hid (Nat.le_trans HZw3.out hs.size); clear hr hs tok2))
  have HM0 := Lib.hid (heap_alloc_new w4 (.cells #[.int .u32 x0, .int .u32 x1, .int .u64 x2, .int .u64 0, .int .u64 0, .int .u64 0, .int .u64 0, .int .u64 0, .int .u64 0] 47))
  have hMz : B < w4.heap.size := HZw4.out
  generalize hM : w4.heap.size = M at *
  obtain ⟨v0, hv0⟩ : ∃ v0, w4.alloc (.cells #[.int .u32 x0, .int .u32 x1, .int .u64 x2, .int .u64 0, .int .u64 0, .int .u64 0, .int .u64 0, .int .u64 0, .int .u64 0] 47) = v0 := ⟨_, rfl⟩
  have hbv : Below w4.heap.size w4 v0 := by rw [← hv0]; (repeat (first | with_reducible exact Below.refl _ _ | with_reducible assumption | ((with_reducible refine Below.setCell ?_ ?hp _); case hp => (first | omega | (simp only [World.size_alloc, World.size_setCell, World.size_drew]; omega) | (simp; done) | (simp; omega))) | ((with_reducible refine Below.alloc ?_ ?hp _); case hp => (first | omega | (simp only [World.size_alloc, World.size_setCell, World.size_drew]; omega) | (simp; done) | (simp; omega))) | with_reducible refine Below.drew ?_ | with_reducible refine below_drewN ?_ _))
  have HRv0 := Lib.hid (HRw4.out.fresh hbv)
  have HBv0 := Lib.hid (HBw4.out.trans (hbv.mono HBw4.out.size))
  have HOv0 := Lib.hid ((hbv.block _ (by omega)).trans HOw4.out)
  have HZv0 := Lib.hid (show M < v0.heap.size by rw [← hv0]; simp; omega)
  have HMv0 := Lib.hid (show v0.heap[M]? = some (.cells #[.int .u32 x0, .int .u32 x1, .int .u64 x2, .int .u64 0, .int .u64 0, .int .u64 0, .int .u64 0, .int .u64 0, .int .u64 0] 47 (0, 0)) by rw [← hv0, ← hM]; exact heap_alloc_new w4 _)
  rw [hv0]
  clear hv0 hbv HM0
  refine wp_loop_rounds 7 ?_
  rw [rounds_succ]
  go_wp2_with (go_at_call 129; refine (HU3.out B R c' _ HRv0.out).mono ?_; rintro e u0 ⟨rfl, hr, hs⟩; have HRu0 := Lib.hid hr; have HBu0 := Lib.hid (step_below HBv0.out hs hBn (by have := HBv0.out.size; omega)); have HOu0 := Lib.hid ((hs.block _ (by have := HZv0.out; omega) (by omega)).trans HOv0.out); have HZu0 := Lib.hid (Nat.le_trans HZv0.out hs.size); have HMu0 := Lib.hid ((hs.block M HZv0.out (by omega)).trans HMv0.out); have cM : u0.cell? ⟨M, 3, none⟩ = some (.int .u64 0) := cell_of_row _ _ _ _ _ _ HMu0.out; have fM : u0.frozen? ⟨M, 3, none⟩ = false := (by simp [World.frozen?, HMu0.out]); have hMu : M < u0.heap.size := Nat.lt_of_lt_of_le HZv0.out hs.size; clear hr hs)
  obtain ⟨v1, hv1⟩ : ∃ v, u0.setCell ⟨M, 3, none⟩ (.int .u64 (x3 : Int)) = v := ⟨_, rfl⟩
  have HMv1 := Lib.hid (show v1.heap[M]? = some (.cells #[.int .u32 x0, .int .u32 x1, .int .u64 x2, .int .u64 x3, .int .u64 0, .int .u64 0, .int .u64 0, .int .u64 0, .int .u64 0] 47 (0, 0)) by rw [← hv1]; exact heap_setCell_same u0 M 3 _ _ _ HMu0.out)
  have HRv1 := Lib.hid (show Rdr v1 B R c' l 24 by rw [← hv1]; exact HRu0.out.set_other (q := ⟨M, 3, none⟩) (by show M ≠ B; omega) (fun g e => by obtain ⟨g', e', hlt, _⟩ := HRu0.out.row; rw [e'] at e; have e2 : g' = g := (by cases e; rfl); show M ≠ g; omega) _)
  have HBv1 := Lib.hid (show Below w.heap.size w v1 by rw [← hv1]; exact HBu0.out.setCell (p := ⟨M, 3, none⟩) (by show w.heap.size ≤ M; omega) _)
  have HOv1 := Lib.hid (show v1.heap[w.heap.size]? = some (.cells #[.int .u32 0, .int .u32 0, .int .u64 0, .int .u64 0, .int .u64 0, .int .u64 0, .int .u64 0, .int .u64 0, .int .u64 0] 47 (0, 0)) by rw [← hv1]; exact (Below.heap_setCell _ _ _ _ (by show w.heap.size ≠ M; omega)).trans HOu0.out)
  have HZv1 := Lib.hid (show M < v1.heap.size by rw [← hv1]; simpa using hMu)
  rw [hv1]
  clear hv1 cM fM hMu HMu0 HRu0 HBu0 HOu0 HZu0
  rw [rounds_succ]
  go_wp2_with (go_at_call 129; refine (HU4.out B R c' _ HRv1.out).mono ?_; rintro e u1 ⟨rfl, hr, hs⟩; have HRu1 := Lib.hid hr; have HBu1 := Lib.hid (step_below HBv1.out hs hBn (by have := HBv1.out.size; omega)); have HOu1 := Lib.hid ((hs.block _ (by have := HZv1.out; omega) (by omega)).trans HOv1.out); have HZu1 := Lib.hid (Nat.le_trans HZv1.out hs.size); have HMu1 := Lib.hid ((hs.block M HZv1.out (by omega)).trans HMv1.out); have cM : u1.cell? ⟨M, 4, none⟩ = some (.int .u64 0) := cell_of_row _ _ _ _ _ _ HMu1.out; have fM : u1.frozen? ⟨M, 4, none⟩ = false := (by simp [World.frozen?, HMu1.out]); have hMu : M < u1.heap.size := Nat.lt_of_lt_of_le HZv1.out hs.size; clear hr hs)
  obtain ⟨v2, hv2⟩ : ∃ v, u1.setCell ⟨M, 4, none⟩ (.int .u64 (x4 : Int)) = v := ⟨_, rfl⟩
  have HMv2 := Lib.hid (show v2.heap[M]? = some (.cells #[.int .u32 x0, .int .u32 x1, .int .u64 x2, .int .u64 x3, .int .u64 x4, .int .u64 0, .int .u64 0, .int .u64 0, .int .u64 0] 47 (0, 0)) by rw [← hv2]; exact heap_setCell_same u1 M 4 _ _ _ HMu1.out)
  have HRv2 := Lib.hid (show Rdr v2 B R c' l 32 by rw [← hv2]; exact HRu1.out.set_other (q := ⟨M, 4, none⟩) (by show M ≠ B; omega) (fun g e => by obtain ⟨g', e', hlt, _⟩ := HRu1.out.row; rw [e'] at e; have e2 : g' = g := (by cases e; rfl); show M ≠ g; omega) _)
  have HBv2 := Lib.hid (show Below w.heap.size w v2 by rw [← hv2]; exact HBu1.out.setCell (p := ⟨M, 4, none⟩) (by show w.heap.size ≤ M; omega) _)
  have HOv2 := Lib.hid (show v2.heap[w.heap.size]? = some (.cells #[.int .u32 0, .int .u32 0, .int .u64 0, .int .u64 0, .int .u64 0, .int .u64 0, .int .u64 0, .int .u64 0, .int .u64 0] 47 (0, 0)) by rw [← hv2]; exact (Below.heap_setCell _ _ _ _ (by show w.heap.size ≠ M; omega)).trans HOu1.out)
  have HZv2 := Lib.hid (show M < v2.heap.size by rw [← hv2]; simpa using hMu)
  rw [hv2]
  clear hv2 cM fM hMu HMu1 HRu1 HBu1 HOu1 HZu1
  rw [rounds_succ]
  go_wp2_with (go_at_call 129; refine (HU5.out B R c' _ HRv2.out).mono ?_; rintro e u2 ⟨rfl, hr, hs⟩; have HRu2 := Lib.hid hr; have HBu2 := Lib.hid (step_below HBv2.out hs hBn (by have := HBv2.out.size; omega)); have HOu2 := Lib.hid ((hs.block _ (by have := HZv2.out; omega) (by omega)).trans HOv2.out); have HZu2 := Lib.hid (Nat.le_trans HZv2.out hs.size); have HMu2 := Lib.hid ((hs.block M HZv2.out (by omega)).trans HMv2.out); have cM : u2.cell? ⟨M, 5, none⟩ = some (.int .u64 0) := cell_of_row _ _ _ _ _ _ HMu2.out; have fM : u2.frozen? ⟨M, 5, none⟩ = false := (by simp [World.frozen?, HMu2.out]); have hMu : M < u2.heap.size := Nat.lt_of_lt_of_le HZv2.out hs.size; clear hr hs)
  obtain ⟨v3, hv3⟩ : ∃ v, u2.setCell ⟨M, 5, none⟩ (.int .u64 (x5 : Int)) = v := ⟨_, rfl⟩
  have HMv3 := Lib.hid (show v3.heap[M]? = some (.cells #[.int .u32 x0, .int .u32 x1, .int .u64 x2, .int .u64 x3, .int .u64 x4, .int .u64 x5, .int .u64 0, .int .u64 0, .int .u64 0] 47 (0, 0)) by rw [← hv3]; exact heap_setCell_same u2 M 5 _ _ _ HMu2.out)
  have HRv3 := Lib.hid (show Rdr v3 B R c' l 40 by rw [← hv3]; exact HRu2.out.set_other (q := ⟨M, 5, none⟩) (by show M ≠ B; omega) (fun g e => by obtain ⟨g', e', hlt, _⟩ := HRu2.out.row; rw [e'] at e; have e2 : g' = g := (by cases e; rfl); show M ≠ g; omega) _)
  have HBv3 := Lib.hid (show Below w.heap.size w v3 by rw [← hv3]; exact HBu2.out.setCell (p := ⟨M, 5, none⟩) (by show w.heap.size ≤ M; omega) _)
  have HOv3 := Lib.hid (show v3.heap[w.heap.size]? = some (.cells #[.int .u32 0, .int .u32 0, .int .u64 0, .int .u64 0, .int .u64 0, .int .u64 0, .int .u64 0, .int .u64 0, .int .u64 0] 47 (0, 0)) by rw [← hv3]; exact (Below.heap_setCell _ _ _ _ (by show w.heap.size ≠ M; omega)).trans HOu2.out)
  have HZv3 := Lib.hid (show M < v3.heap.size by rw [← hv3]; simpa using hMu)
  rw [hv3]
  clear hv3 cM fM hMu HMu2 HRu2 HBu2 HOu2 HZu2
  rw [rounds_succ]
  go_wp2_with (go_at_call 129; refine (HU6.out B R c' _ HRv3.out).mono ?_; rintro e u3 ⟨rfl, hr, hs⟩; have HRu3 := Lib.hid hr; have HBu3 := Lib.hid (step_below HBv3.out hs hBn (by have := HBv3.out.size; omega)); have HOu3 := Lib.hid ((hs.block _ (by have := HZv3.out; omega) (by omega)).trans HOv3.out); have HZu3 := Lib.hid (Nat.le_trans HZv3.out hs.size); have HMu3 := Lib.hid ((hs.block M HZv3.out (by omega)).trans HMv3.out); have cM : u3.cell? ⟨M, 6, none⟩ = some (.int .u64 0) := cell_of_row _ _ _ _ _ _ HMu3.out; have fM : u3.frozen? ⟨M, 6, none⟩ = false := (by simp [World.frozen?, HMu3.out]); have hMu : M < u3.heap.size := Nat.lt_of_lt_of_le HZv3.out hs.size; clear hr hs)
  obtain ⟨v4, hv4⟩ : ∃ v, u3.setCell ⟨M, 6, none⟩ (.int .u64 (x6 : Int)) = v := ⟨_, rfl⟩
  have HMv4 := Lib.hid (show v4.heap[M]? = some (.cells #[.int .u32 x0, .int .u32 x1, .int .u64 x2, .int .u64 x3, .int .u64 x4, .int .u64 x5, .int .u64 x6, .int .u64 0, .int .u64 0] 47 (0, 0)) by rw [← hv4]; exact heap_setCell_same u3 M 6 _ _ _ HMu3.out)
  have HRv4 := Lib.hid (show Rdr v4 B R c' l 48 by rw [← hv4]; exact HRu3.out.set_other (q := ⟨M, 6, none⟩) (by show M ≠ B; omega) (fun g e => by obtain ⟨g', e', hlt, _⟩ := HRu3.out.row; rw [e'] at e; have e2 : g' = g := (by cases e; rfl); show M ≠ g; omega) _)
  have HBv4 := Lib.hid (show Below w.heap.size w v4 by rw [← hv4]; exact HBu3.out.setCell (p := ⟨M, 6, none⟩) (by show w.heap.size ≤ M; omega) _)
  have HOv4 := Lib.hid (show v4.heap[w.heap.size]? = some (.cells #[.int .u32 0, .int .u32 0, .int .u64 0, .int .u64 0, .int .u64 0, .int .u64 0, .int .u64 0, .int .u64 0, .int .u64 0] 47 (0, 0)) by rw [← hv4]; exact (Below.heap_setCell _ _ _ _ (by show w.heap.size ≠ M; omega)).trans HOu3.out)
  have HZv4 := Lib.hid (show M < v4.heap.size by rw [← hv4]; simpa using hMu)
  rw [hv4]
  clear hv4 cM fM hMu HMu3 HRu3 HBu3 HOu3 HZu3
  rw [rounds_succ]
  go_wp2_with (go_at_call 129; refine (HU7.out B R c' _ HRv4.out).mono ?_; rintro e u4 ⟨rfl, hr, hs⟩; have HRu4 := Lib.hid hr; have HBu4 := Lib.hid (step_below HBv4.out hs hBn (by have := HBv4.out.size; omega)); have HOu4 := Lib.hid ((hs.block _ (by have := HZv4.out; omega) (by omega)).trans HOv4.out); have HZu4 := Lib.hid (Nat.le_trans HZv4.out hs.size); have HMu4 := Lib.hid ((hs.block M HZv4.out (by omega)).trans HMv4.out); have cM : u4.cell? ⟨M, 7, none⟩ = some (.int .u64 0) := cell_of_row _ _ _ _ _ _ HMu4.out; have fM : u4.frozen? ⟨M, 7, none⟩ = false := (by simp [World.frozen?, HMu4.out]); have hMu : M < u4.heap.size := Nat.lt_of_lt_of_le HZv4.out hs.size; clear hr hs)
  obtain ⟨v5, hv5⟩ : ∃ v, u4.setCell ⟨M, 7, none⟩ (.int .u64 (x7 : Int)) = v := ⟨_, rfl⟩
  have HMv5 := Lib.hid (show v5.heap[M]? = some (.cells #[.int .u32 x0, .int .u32 x1, .int .u64 x2, .int .u64 x3, .int .u64 x4, .int .u64 x5, .int .u64 x6, .int .u64 x7, .int .u64 0] 47 (0, 0)) by rw [← hv5]; exact heap_setCell_same u4 M 7 _ _ _ HMu4.out)
  have HRv5 := Lib.hid (show Rdr v5 B R c' l 56 by rw [← hv5]; exact HRu4.out.set_other (q := ⟨M, 7, none⟩) (by show M ≠ B; omega) (fun g e => by obtain ⟨g', e', hlt, _⟩ := HRu4.out.row; rw [e'] at e; have e2 : g' = g := (by cases e; rfl); show M ≠ g; omega) _)
  have HBv5 := Lib.hid (show Below w.heap.size w v5 by rw [← hv5]; exact HBu4.out.setCell (p := ⟨M, 7, none⟩) (by show w.heap.size ≤ M; omega) _)
  have HOv5 := Lib.hid (show v5.heap[w.heap.size]? = some (.cells #[.int .u32 0, .int .u32 0, .int .u64 0, .int .u64 0, .int .u64 0, .int .u64 0, .int .u64 0, .int .u64 0, .int .u64 0] 47 (0, 0)) by rw [← hv5]; exact (Below.heap_setCell _ _ _ _ (by show w.heap.size ≠ M; omega)).trans HOu4.out)
  have HZv5 := Lib.hid (show M < v5.heap.size by rw [← hv5]; simpa using hMu)
  rw [hv5]
  clear hv5 cM fM hMu HMu4 HRu4 HBu4 HOu4 HZu4
  rw [rounds_succ]
  go_wp2_with (go_at_call 129; refine (HU8.out B R c' _ HRv5.out).mono ?_; rintro e u5 ⟨rfl, hr, hs⟩; have HRu5 := Lib.hid hr; have HBu5 := Lib.hid (step_below HBv5.out hs hBn (by have := HBv5.out.size; omega)); have HOu5 := Lib.hid ((hs.block _ (by have := HZv5.out; omega) (by omega)).trans HOv5.out); have HZu5 := Lib.hid (Nat.le_trans HZv5.out hs.size); have HMu5 := Lib.hid ((hs.block M HZv5.out (by omega)).trans HMv5.out); have cM : u5.cell? ⟨M, 8, none⟩ = some (.int .u64 0) := cell_of_row _ _ _ _ _ _ HMu5.out; have fM : u5.frozen? ⟨M, 8, none⟩ = false := (by simp [World.frozen?, HMu5.out]); have hMu : M < u5.heap.size := Nat.lt_of_lt_of_le HZv5.out hs.size; clear hr hs)
  obtain ⟨v6, hv6⟩ : ∃ v, u5.setCell ⟨M, 8, none⟩ (.int .u64 (x8 : Int)) = v := ⟨_, rfl⟩
  have HMv6 := Lib.hid (show v6.heap[M]? = some (.cells #[.int .u32 x0, .int .u32 x1, .int .u64 x2, .int .u64 x3, .int .u64 x4, .int .u64 x5, .int .u64 x6, .int .u64 x7, .int .u64 x8] 47 (0, 0)) by rw [← hv6]; exact heap_setCell_same u5 M 8 _ _ _ HMu5.out)
  have HRv6 := Lib.hid (show Rdr v6 B R c' l 64 by rw [← hv6]; exact HRu5.out.set_other (q := ⟨M, 8, none⟩) (by show M ≠ B; omega) (fun g e => by obtain ⟨g', e', hlt, _⟩ := HRu5.out.row; rw [e'] at e; have e2 : g' = g := (by cases e; rfl); show M ≠ g; omega) _)
  have HBv6 := Lib.hid (show Below w.heap.size w v6 by rw [← hv6]; exact HBu5.out.setCell (p := ⟨M, 8, none⟩) (by show w.heap.size ≤ M; omega) _)
  have HOv6 := Lib.hid (show v6.heap[w.heap.size]? = some (.cells #[.int .u32 0, .int .u32 0, .int .u64 0, .int .u64 0, .int .u64 0, .int .u64 0, .int .u64 0, .int .u64 0, .int .u64 0] 47 (0, 0)) by rw [← hv6]; exact (Below.heap_setCell _ _ _ _ (by show w.heap.size ≠ M; omega)).trans HOu5.out)
  have HZv6 := Lib.hid (show M < v6.heap.size by rw [← hv6]; simpa using hMu)
  rw [hv6]
  clear hv6 cM fM hMu HMu5 HRu5 HBu5 HOu5 HZu5
  have HONE := Lib.hid (show (#[.int .u32 x0, .int .u32 x1, .int .u64 x2, .int .u64 x3, .int .u64 x4, .int .u64 x5, .int .u64 x6, .int .u64 x7, .int .u64 x8] : Array Value).all (·.oneCell') = true by simp [Value.oneCell'])
  have HIX := Lib.hid (show (Try.prog.info? 47).map (·.size) = some (#[.int .u32 x0, .int .u32 x1, .int .u64 x2, .int .u64 x3, .int .u64 x4, .int .u64 x5, .int .u64 x6, .int .u64 x7, .int .u64 x8] : Array Value).size by kernel_rfl)
  rw [rounds_succ]
  go_wp2_with (first
    | (refine wpList_load_row rfl 47 (.tmp 7) rfl M rfl 47 #[.int .u32 x0, .int .u32 x1, .int .u64 x2, .int .u64 x3, .int .u64 x4, .int .u64 x5, .int .u64 x6, .int .u64 x7, .int .u64 x8] (0, 0) _ HMv6.out Try.underlying47 rfl (by kernel_rfl) ?_; go_simp)
    | (refine wpList_store_row rfl 47 (.tmp 2) (.tmp 41) rfl w.heap.size #[.int .u32 x0, .int .u32 x1, .int .u64 x2, .int .u64 x3, .int .u64 x4, .int .u64 x5, .int .u64 x6, .int .u64 x7, .int .u64 x8] rfl rfl 47 _ HOv6.out HIX.out rfl HONE.out ?_; go_simp))
  exact bodyPost_ret (results_cell2 rfl _ _ w.heap.size 47 #[.int .u32 x0, .int .u32 x1, .int .u64 x2, .int .u64 x3, .int .u64 x4, .int .u64 x5, .int .u64 x6, .int .u64 x7, .int .u64 x8] (0, 0) _ rfl (setRow_heap _ _ _ _ _ _ HOv6.out) Try.underlying47 rfl HIX.out) rfl ⟨rfl, below_row HBv6.out (Nat.le_refl _) _⟩
end Go.Proofs.Ytfjbanfibmpalaa

/- Contracts: numbers read; the words of data; the word at an offset. -/
import Derived.Test.YtfjbanfibmpalaaK52
set_option linter.unusedVariables false
set_option linter.unusedSimpArgs false
namespace Go.Proofs.Ytfjbanfibmpalaa
open Go.RowKit Go.Shelf

set_option maxHeartbeats 400000 in
theorem number_any (B : Nat) (R : Option Addr) (c : Nat) (l : List Nat) (p n : Nat) (w : World) (h : Rdr w B R c l p) (hp : p + n ≤ l.length) (hl : l.length ≤ 1000) (hb : ∀ y ∈ l, y < 256) (hn : n ≤ 8) :
    Calls Try.prog 151 #[.pointer (some ⟨B, 0, none⟩), .int .i64 n] w fun e w' => e = .returned (.int .u64 ((numL ((l.drop p).take n) : Nat) : Int)) ∧ Rdr w' B R c l (p + n) ∧ Step B (B + 1) w w' := by
  have hB := h.lt
  have HC := Lib.hid (fun W (hW : Rdr W B R c l p) (hX : W.heap[w.heap.size]? = some (.cells #[.int .u64 0] 44 (0, 0))) => look_any B R c l p n w.heap.size W hW hp hl hb hn hX hB)
  have HR := Lib.hid h
  generalize numL ((l.drop p).take n) = x at *
  clear h hp hl hb hn
  go_enter Try.func151, Try.ntmps151
  go_wp2_with (go_at_call 161; refine (HC.out _ (HR.out.below (N := w.heap.size) (by (repeat (first | with_reducible exact Below.refl _ _ | with_reducible assumption | ((with_reducible refine Below.setCell ?_ ?hp _); case hp => (first | omega | (simp only [World.size_alloc, World.size_setCell, World.size_drew]; omega) | (simp; done) | (simp; omega))) | ((with_reducible refine Below.alloc ?_ ?hp _); case hp => (first | omega | (simp only [World.size_alloc, World.size_setCell, World.size_drew]; omega) | (simp; done) | (simp; omega))) | with_reducible refine Below.drew ?_ | with_reducible refine below_drewN ?_ _))) hB) (heap_alloc_new w _)).mono ?_; rintro e w1 ⟨⟨v, rfl⟩, hr1, hx1, ho1, ht1, hp1, hs1, hk1⟩; have HR1 := Lib.hid hr1; have HX1 := Lib.hid hx1; have cx : w1.cell? ⟨w.heap.size, 0, none⟩ = some (.int .u64 x) := cell_of_row _ _ _ _ _ _ hx1; have HS1 := Lib.hid (show Step B (B + 1) w w1 from ⟨ho1, ht1, hp1, by (have := hs1; simp only [World.size_alloc] at this; omega), fun k hk hn => (hk1 k (by simp only [World.size_alloc]; omega) (by omega) (by omega)).trans (Below.heap_alloc w _ k hk)⟩); have hz : w.heap.size < w1.heap.size := (by have := hs1; simp only [World.size_alloc] at this; omega); clear hr1 hx1 ho1 ht1 hp1 hs1 hk1)
  go_ret
  exact ⟨rfl, HR1.out, HS1.out⟩

set_option maxRecDepth 100000 in
set_option maxHeartbeats 400000 in
theorem u32_any (B : Nat) (R : Option Addr) (c : Nat) (l : List Nat) (p : Nat) (w : World) (h : Rdr w B R c l p) (hp : p + 4 ≤ l.length) (hl : l.length ≤ 1000) (hb : ∀ y ∈ l, y < 256) :
    Calls Try.prog 127 #[.pointer (some ⟨B, 0, none⟩)] w fun e w' => e = .returned (.int .u32 ((numL ((l.drop p).take 4) : Nat) : Int)) ∧ Rdr w' B R c l (p + 4) ∧ Step B (B + 1) w w' := by
  have HC := Lib.hid (number_any B R c l p 4 w h hp hl hb (by omega))
  have hx : numL ((l.drop p).take 4) < 4294967296 := by
    have := numL_lt ((l.drop p).take 4) (fun y hy => hb y (List.mem_of_mem_drop (List.mem_of_mem_take hy)))
    rw [List.length_take, List.length_drop, Nat.min_eq_left (by omega)] at this
    exact this
  generalize numL ((l.drop p).take 4) = x at *
  have e1 : 0 ≤ (x : Int) := by omega
  have e2 : (x : Int) ≤ 4294967295 := by omega
  clear h hp hl hb hx
  go_enter Try.func127, Try.ntmps127
  go_wp2_with (go_at_call 151; refine HC.out.mono ?_; rintro e w1 ⟨rfl, hr1, hs1⟩)
  go_ret
  exact ⟨rfl, hr1, hs1⟩

set_option maxHeartbeats 400000 in
theorem u64_any (B : Nat) (R : Option Addr) (c : Nat) (l : List Nat) (p : Nat) (w : World) (h : Rdr w B R c l p) (hp : p + 8 ≤ l.length) (hl : l.length ≤ 1000) (hb : ∀ y ∈ l, y < 256) :
    Calls Try.prog 129 #[.pointer (some ⟨B, 0, none⟩)] w fun e w' => e = .returned (.int .u64 ((numL ((l.drop p).take 8) : Nat) : Int)) ∧ Rdr w' B R c l (p + 8) ∧ Step B (B + 1) w w' := by
  have HC := Lib.hid (number_any B R c l p 8 w h hp hl hb (by omega))
  generalize numL ((l.drop p).take 8) = x at *
  clear h hp hl hb
  go_enter Try.func129, Try.ntmps129
  go_wp2_with (go_at_call 151; refine HC.out.mono ?_; rintro e w1 ⟨rfl, hr1, hs1⟩)
  go_ret
  exact ⟨rfl, hr1, hs1⟩

/-- Sixteen words, the first k of them laid. -/
def wordsTo (d : Dt) (k : Nat) : Array Value := ((List.range 16).map fun i => Value.int .u32 ((if i < k then (wordsD d).getD i 0 else 0 : Nat) : Int)).toArray

theorem wordsTo_zero (d : Dt) : wordsTo d 0 = #[.int .u32 0, .int .u32 0, .int .u32 0, .int .u32 0, .int .u32 0, .int .u32 0, .int .u32 0, .int .u32 0, .int .u32 0, .int .u32 0, .int .u32 0, .int .u32 0, .int .u32 0, .int .u32 0, .int .u32 0, .int .u32 0] := by
  simp [wordsTo, List.range, List.range.loop]
theorem wordsTo_size (d : Dt) (k : Nat) : (wordsTo d k).size = 16 := by simp [wordsTo]
theorem wordsTo_set (d : Dt) (k : Nat) (hk : k < 16) : (wordsTo d k).setIfInBounds k (.int .u32 (((wordsD d).getD k 0 : Nat) : Int)) = wordsTo d (k + 1) := by
  refine Array.ext (by simp [wordsTo]) ?_
  intro i h1 h2
  rw [Array.getElem_setIfInBounds (by simpa using h1)]
  simp only [wordsTo, List.getElem_toArray, List.getElem_map, List.getElem_range]
  by_cases hi : k = i
  · subst hi; simp
  · rw [if_neg hi]
    have : i < k + 1 ↔ i < k := by omega
    simp only [this]

theorem below_row {B g : Nat} {w0 w : World} (hb : Below B w0 w) (hBg : B ≤ g) (cs : Array Value) : Below B w0 (w.setRow g cs) :=
  ⟨hb.os, hb.tape, hb.output, by simpa using hb.size, fun k hk => (setRow_other w g k cs (by omega)).trans (hb.block k hk)⟩

/-- An element of an array by value. -/
theorem run_index_arr {P : Program} (w : World) (t e : TypeId) (n : Nat) (cs : Array Value) (i : Nat) (v : Value) (z : Value) (h : P.underlying t = some (.array n e)) (hi : i < n) (he : (P.info? e).map (fun i => i.size) = some 1) (hagg : ∀ w, (isAgg e).run P w = .ok false w) (hv : cs[i]? = some v) :
    (Instr.index t (.agg cs) (.int .i64 i)).run P w = .ok v w := by
  cases hq : P.info? e with
  | none => simp [hq] at he
  | some inf =>
    have hs : inf.size = 1 := by simpa [hq] using he
    have h1 : (0 : Int) ≤ i := by omega
    have h2 : (i : Int) < n := by omega
    simp [Instr.index, run_underlying h, asIntOf, h1, h2, hi, sizeOf, typeInfo, hq, hs, part, hagg, hv, go_sem]

/-- The words as a value. -/
def wordsV (d : Dt) : Value := .agg (wordsTo d 16)

set_option maxRecDepth 100000 in
set_option maxHeartbeats 1000000 in
theorem words_any (d : Dt) (hd : d.Ok) (w : World) :
    Calls Try.prog 79 #[(Value.agg #[.int .u32 d.nr, .int .u32 d.arch, .int .u64 d.ip, .int .u64 d.a0, .int .u64 d.a1, .int .u64 d.a2, .int .u64 d.a3, .int .u64 d.a4, .int .u64 d.a5])] w fun e w' => e = .returned (wordsV d) ∧ Below w.heap.size w w' := by
  have HE := Lib.hid (fun W => encode_any d hd W)
  have HD := Lib.hid hd
  have HR := Lib.hid (fun A c W (h : EY.Rd W A (encL d)) => read_any A c (encL d) W h (by rw [encL_len]; decide) (fun e => by have := encL_len d; rw [e] at this; cases this))
  have HZ := Lib.hid (wordsTo_zero d)
  have HU := Lib.hid (fun B R c k W (h : Rdr W B R c (encL d) (4 * k)) (hk : k < 16) => u32_any B R c (encL d) (4 * k) W h (by rw [encL_len]; omega) (by rw [encL_len]; decide) (encL_lt d))
  have HL := Lib.hid (encL_len d)
  clear hd
  rw [HL.out] at HR
  go_enter Try.func79, Try.ntmps79
  go_wp2_with (first
    | (go_at_call 126; refine (HE.out _).mono ?_; rintro e w1 ⟨R1, c1, rfl, ho, hb⟩; have HO1 := Lib.hid ho; have hb1 := hb; have HB1 := Lib.hid hb; clear ho hb)
    | (go_at_call 125; refine (HR.out R1 c1 _ HO1.out.rd).mono ?_; rintro e w2 ⟨B, R2, c2, rfl, hB1, hB2, hr, hg2, hb⟩; have HG2 := Lib.hid hg2; clear hg2; have HR2 := Lib.hid hr; have HB2 := Lib.hid hb; clear hr hb))
  have hB3 : w.heap.size + 3 ≤ B := by have := HB1.out.size; simp at this; omega
  have hd1 : w2.heap[w.heap.size + 1]? = some (.cells #[.int .u32 0, .int .u32 0, .int .u32 0, .int .u32 0, .int .u32 0, .int .u32 0, .int .u32 0, .int .u32 0, .int .u32 0, .int .u32 0, .int .u32 0, .int .u32 0, .int .u32 0, .int .u32 0, .int .u32 0, .int .u32 0] 48 (0, 0)) := by
    rw [HB2.out.block _ (by have := HB1.out.size; simp at this; omega), HB1.out.block _ (by simp), Below.heap_alloc _ _ _ (by simp)]
    have := heap_alloc_new (w.alloc (.cells #[.int .u32 d.nr, .int .u32 d.arch, .int .u64 d.ip, .int .u64 d.a0, .int .u64 d.a1, .int .u64 d.a2, .int .u64 d.a3, .int .u64 d.a4, .int .u64 d.a5] 47)) (.cells #[.int .u32 0, .int .u32 0, .int .u32 0, .int .u32 0, .int .u32 0, .int .u32 0, .int .u32 0, .int .u32 0, .int .u32 0, .int .u32 0, .int .u32 0, .int .u32 0, .int .u32 0, .int .u32 0, .int .u32 0, .int .u32 0] 48)
    simpa using this
  have hd2 : w2.heap[w.heap.size + 2]? = some (.cells (wordsTo d 0) 48 (0, 0)) := by
    rw [HB2.out.block _ (by have := HB1.out.size; simp at this; omega), HB1.out.block _ (by simp), HZ.out]
    have := heap_alloc_new ((w.alloc (.cells #[.int .u32 d.nr, .int .u32 d.arch, .int .u64 d.ip, .int .u64 d.a0, .int .u64 d.a1, .int .u64 d.a2, .int .u64 d.a3, .int .u64 d.a4, .int .u64 d.a5] 47)).alloc (.cells #[.int .u32 0, .int .u32 0, .int .u32 0, .int .u32 0, .int .u32 0, .int .u32 0, .int .u32 0, .int .u32 0, .int .u32 0, .int .u32 0, .int .u32 0, .int .u32 0, .int .u32 0, .int .u32 0, .int .u32 0, .int .u32 0] 48)) (.cells #[.int .u32 0, .int .u32 0, .int .u32 0, .int .u32 0, .int .u32 0, .int .u32 0, .int .u32 0, .int .u32 0, .int .u32 0, .int .u32 0, .int .u32 0, .int .u32 0, .int .u32 0, .int .u32 0, .int .u32 0, .int .u32 0] 48)
    simpa using this
  have hbw : Below w.heap.size w w2 := ((((Below.refl _ w).alloc (Nat.le_refl _) _).alloc (by simp) _).alloc (by simp; omega) _).trans ((HB1.out.trans (HB2.out.mono HB1.out.size)).mono (by simp; omega))
  have HD1 := Lib.hid hd1
  have HD2 := Lib.hid hd2
  have HBW := Lib.hid hbw
  have HG3 := Lib.hid (fun g e => show w.heap.size + 2 ≠ g by have := HG2.out g e; have := HB1.out.size; simp at this; omega)
  clear hd1 hd2 hbw hb1 HB1 HB2 HG2
  go_loopw [5, 9] (fun t5 i wr => ∃ k : Nat, k ≤ 16 ∧ i = .int .i64 k ∧ wr.heap[w.heap.size + 1]? = some (.cells #[.int .u32 0, .int .u32 0, .int .u32 0, .int .u32 0, .int .u32 0, .int .u32 0, .int .u32 0, .int .u32 0, .int .u32 0, .int .u32 0, .int .u32 0, .int .u32 0, .int .u32 0, .int .u32 0, .int .u32 0, .int .u32 0] 48 (0, 0)) ∧ wr.heap[w.heap.size + 2]? = some (.cells (wordsTo d k) 48 (0, 0)) ∧ Rdr wr B R2 c2 (encL d) (4 * k) ∧ Below w.heap.size w wr) (fun _ i _ => 16 - (intOf i).toNat)
  case atStart => exact ⟨0, by omega, rfl, HD1.out, HD2.out, HR2.out, HBW.out⟩
  case round =>
    obtain ⟨k, hk, rfl, h1, h2, hr, hb⟩ := hrel
    have H1 := Lib.hid h1
    have H2 := Lib.hid h2
    have HRR := Lib.hid hr
    have HBB := Lib.hid hb
    have hBl := hr.lt
    clear h1 h2 hr hb
    by_cases hlt : k < 16
    · have HUK := Lib.hid (HU.out B R2 c2 k wr HRR.out hlt)
      rw [show numL (((encL d).drop (4 * k)).take 4) = (wordsD d).getD k 0 by rw [chunk_enc d k hlt]; exact numL_word (by
        rw [List.getD_eq_getElem?_getD, List.getElem?_eq_getElem (by rw [wordsD_len]; exact hlt)]; exact wordsD_lt HD.out _ (List.getElem_mem _))] at HUK
      have HST := Lib.hid (wordsTo_set d k hlt)
      generalize (wordsD d).getD k 0 = y at *
      go_wp2_with (go_at_call 127; refine HUK.out.mono ?_; rintro e w3 ⟨rfl, hr, hs⟩; have HR3 := Lib.hid hr; have HS3 := Lib.hid hs; have hx3 : w3.heap[w.heap.size + 2]? = some (.cells (wordsTo d k) 48 (0, 0)) := (hs.block _ (by omega) (by omega)).trans H2.out; have HX3 := Lib.hid hx3; have hf3 : w3.frozen? ⟨w.heap.size + 2, k, none⟩ = false := (by simp [World.frozen?, hx3]); have hz3 := hs.size; obtain ⟨v3, hc3⟩ : ∃ v, w3.cell? ⟨w.heap.size + 2, k, none⟩ = some v := ⟨_, (cell_of_row w3 _ k _ _ _ hx3).trans (Array.getElem?_eq_getElem (by rw [wordsTo_size]; exact hlt))⟩; clear hr hs hx3)
      go_roundw
      case rel =>
        refine ⟨k + 1, by omega, by go_num, ?_, ?_, ?_, ?_⟩
        · exact (Below.heap_setCell _ _ _ _ (by show w.heap.size + 1 ≠ w.heap.size + 1 + 1; omega)).trans ((HS3.out.block _ (by omega) (by omega)).trans H1.out)
        · rw [← HST.out]
          exact heap_setCell_same w3 (w.heap.size + 2) k _ _ _ HX3.out
        · exact HR3.out.set_other (by show w.heap.size + 1 + 1 ≠ B; omega) (fun g e => HG3.out g e) _
        · exact (HBB.out.trans (HS3.out.below (by omega) (by omega))).setCell (by show w.heap.size ≤ w.heap.size + 1 + 1; omega) _
      case measure => simp [intOf]; omega
    · have hk' : k = 16 := by omega
      subst hk'
      have hs1 := wordsTo_size d 16
      have hu : wordsTo d 16 = ((List.range 16).map fun i => Value.int .u32 ((if i < 16 then (wordsD d).getD i 0 else 0 : Nat) : Int)).toArray := rfl
      have hone : (wordsTo d 16).all (·.oneCell') = true := by
        rw [hu, List.all_toArray, List.all_eq_true]
        intro v hv
        obtain ⟨i, _, rfl⟩ := List.mem_map.1 hv
        rfl
      have HONE := Lib.hid hone
      have hi : (Try.prog.info? 48).map (·.size) = some (wordsTo d 16).size := by rw [hs1]; kernel_rfl
      have HI := Lib.hid hi
      clear hu hone hs1 hi
      go_wp2_with (first
        | (refine wpList_load_row rfl 48 (.tmp 3) rfl (w.heap.size + 2) rfl 48 (wordsTo d 16) (0, 0) _ H2.out Try.underlying48 rfl HI.out ?_; go_simp)
        | (refine wpList_store_row rfl 48 (.tmp 2) (.tmp 17) rfl (w.heap.size + 1) (wordsTo d 16) rfl rfl 48 _ H1.out HI.out (by rw [wordsTo_size]; rfl) HONE.out ?_; go_simp))
      exact bodyPost_ret (results_cell_row rfl _ _ (w.heap.size + 1) 48 (wordsTo d 16) (0, 0) _ rfl (setRow_heap _ _ _ _ _ _ H1.out) Try.underlying48 rfl HI.out) rfl ⟨rfl, below_row HBB.out (by omega) _⟩

set_option maxHeartbeats 400000 in
theorem place_good (k : Nat) (w : World) (hk : placeOk k = true) :
    Calls Try.prog 78 #[.int .u32 k] w fun e w' => e = .returned (.tuple #[.int .i64 ((k / 4 : Nat) : Int), .int .i64 0]) ∧ w = w' := by
  have hk' : k % 4 = 0 ∧ k ≤ 60 := by simpa [placeOk] using hk
  obtain ⟨j, rfl⟩ : ∃ j, k = 4 * j := ⟨k / 4, by omega⟩
  have t1 : ((4 * j : Nat) : Int) % 4 = 0 := by omega
  have t2 : ¬ (60 < ((4 * j : Nat) : Int)) := by omega
  have t3 : ((4 * j : Nat) : Int) / 4 = j := by omega
  have t4 : 4 * j / 4 = j := by omega
  have t5 : 0 ≤ (j : Int) := by omega
  rw [t4]
  have hj : j ≤ 15 := by omega
  clear hk' hk t4
  go_enter Try.func78, Try.ntmps78
  go_wp2
  go_ret2
  exact ⟨rfl, rfl⟩

set_option maxHeartbeats 400000 in
theorem place_bad (k : Nat) (w : World) (hk : placeOk k = false) :
    Calls Try.prog 78 #[.int .u32 k] w fun e w' => e = .returned (.tuple #[.int .i64 0, .int .i64 2]) ∧ w = w' := by
  have hk' : k % 4 ≠ 0 ∨ 60 < k := by
    have : ¬ (k % 4 = 0 ∧ k ≤ 60) := by simpa [placeOk] using hk
    omega
  clear hk
  go_enter Try.func78, Try.ntmps78
  go_wp2
  all_goals
    go_ret2
    exact ⟨rfl, rfl⟩

theorem isAgg_u32 (w : World) : (isAgg 33).run Try.prog w = .ok false w := by
  unfold isAgg
  rw [Sem.run_bind, run_underlying Try.underlying33 w]
  rfl

theorem words_at (d : Dt) (j : Nat) (hj : j < 16) (w : World) : (Instr.index 48 (wordsV d) (.int .i64 j)).run Try.prog w = .ok (.int .u32 (((wordsD d).getD j 0 : Nat) : Int)) w :=
  run_index_arr w _ 33 16 _ j _ undef Try.underlying48 hj (by kernel_rfl) isAgg_u32 (by simp [wordsTo, hj])

set_option maxHeartbeats 400000 in
theorem word_good (d : Dt) (hd : d.Ok) (k : Nat) (w : World) (hk : placeOk k = true) :
    Calls Try.prog 43 #[(Value.agg #[.int .u32 d.nr, .int .u32 d.arch, .int .u64 d.ip, .int .u64 d.a0, .int .u64 d.a1, .int .u64 d.a2, .int .u64 d.a3, .int .u64 d.a4, .int .u64 d.a5]), .int .u32 k] w fun e w' => e = .returned (.tuple #[.int .u32 ((wordD d k : Nat) : Int), .int .i64 0]) ∧ Below w.heap.size w w' := by
  have HP := Lib.hid (fun W => place_good k W hk)
  have HW := Lib.hid (fun W => words_any d hd W)
  have hk' : k % 4 = 0 ∧ k ≤ 60 := by simpa [placeOk] using hk
  have HI := words_at d (k / 4) (by omega)
  have HD := Lib.hid (show (wordsD d).getD (k / 4) 0 = wordD d k from rfl)
  rw [HD.out] at HI
  generalize wordD d k = y at *
  generalize k / 4 = j at *
  generalize wordsV d = v at *
  clear hd hk hk' HD
  go_enter Try.func43, Try.ntmps43
  go_wp2_with (first
    | (go_at_call 78; refine (HP.out _).mono ?_; rintro e w1 ⟨rfl, rfl⟩)
    | (go_at_call 79; refine (HW.out _).mono ?_; rintro e w2 ⟨rfl, hb⟩; have HB2 := Lib.hid hb; clear hb))
  go_ret2
  exact ⟨rfl, Below.trans (by (repeat (first | with_reducible exact Below.refl _ _ | with_reducible assumption | ((with_reducible refine Below.setCell ?_ ?hp _); case hp => (first | omega | (simp only [World.size_alloc, World.size_setCell, World.size_drew]; omega) | (simp; done) | (simp; omega))) | ((with_reducible refine Below.alloc ?_ ?hp _); case hp => (first | omega | (simp only [World.size_alloc, World.size_setCell, World.size_drew]; omega) | (simp; done) | (simp; omega))) | with_reducible refine Below.drew ?_ | with_reducible refine below_drewN ?_ _))) (HB2.out.mono (by simp))⟩

set_option maxHeartbeats 400000 in
theorem word_bad (d : Dt) (k : Nat) (w : World) (hk : placeOk k = false) :
    Calls Try.prog 43 #[(Value.agg #[.int .u32 d.nr, .int .u32 d.arch, .int .u64 d.ip, .int .u64 d.a0, .int .u64 d.a1, .int .u64 d.a2, .int .u64 d.a3, .int .u64 d.a4, .int .u64 d.a5]), .int .u32 k] w fun e w' => e = .returned (.tuple #[.int .u32 0, .int .i64 2]) ∧ Below w.heap.size w w' := by
  have HP := Lib.hid (fun W => place_bad k W hk)
  clear hk
  go_enter Try.func43, Try.ntmps43
  go_wp2_with (go_at_call 78; refine (HP.out _).mono ?_; rintro e w1 ⟨rfl, rfl⟩)
  go_ret2
  exact ⟨rfl, by (repeat (first | with_reducible exact Below.refl _ _ | with_reducible assumption | ((with_reducible refine Below.setCell ?_ ?hp _); case hp => (first | omega | (simp only [World.size_alloc, World.size_setCell, World.size_drew]; omega) | (simp; done) | (simp; omega))) | ((with_reducible refine Below.alloc ?_ ?hp _); case hp => (first | omega | (simp only [World.size_alloc, World.size_setCell, World.size_drew]; omega) | (simp; done) | (simp; omega))) | with_reducible refine Below.drew ?_ | with_reducible refine below_drewN ?_ _))⟩
end Go.Proofs.Ytfjbanfibmpalaa

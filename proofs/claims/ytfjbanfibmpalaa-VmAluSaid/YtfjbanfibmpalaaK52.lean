/- Contracts: a reader of bytes. -/
import Derived.Test.YtfjbanfibmpalaaK51
import Derived.Deep.QuietTactic
set_option linter.unusedVariables false
set_option linter.unusedSimpArgs false
namespace Go.Proofs.Ytfjbanfibmpalaa
open Go.RowKit Go.Shelf

/-- A reader at a place of bytes. -/
structure Rdr (w : World) (B : Nat) (R : Option Addr) (c : Nat) (l : List Nat) (p : Nat) : Prop where
  box : w.heap[B]? = some (.cells #[.slice R l.length c, .int .i64 p, .int .i64 0] 187 (0, 0))
  row : ∃ g, R = some ⟨g, 0, none⟩ ∧ g < B ∧ EY.at_ w g 0 l

set_option maxHeartbeats 400000 in
theorem read_any (A : Option Addr) (c : Nat) (l : List Nat) (w : World) (hl : EY.Rd w A l) (hlen : l.length ≤ 1000) (hne : l ≠ []) :
    Calls Try.prog 125 #[.slice A l.length c] w fun e w' => ∃ B R c', e = .returned (.pointer (some ⟨B, 0, none⟩)) ∧ w.heap.size ≤ B ∧ B < w'.heap.size ∧ Rdr w' B R c' l 0 ∧ (∀ g, R = some ⟨g, 0, none⟩ → w.heap.size ≤ g) ∧ Below w.heap.size w w' := by
  have HC := Lib.hid (cloneb_any A c l w hl (by omega))
  clear hl
  go_enter Try.func125, Try.ntmps125
  go_wp2_with (go_at_call 149; refine HC.out.mono ?_; rintro e w1 ⟨R, c1, rfl, ho, hb1⟩; have HO1 := Lib.hid ho; have HB1 := Lib.hid hb1; clear ho hb1)
  go_ret
  obtain ⟨g, rfl, h1, h2⟩ := HO1.out.form hne
  refine ⟨w1.heap.size, some ⟨g, 0, none⟩, c1, rfl, HB1.out.size, by simp, ⟨heap_alloc_new w1 _, g, rfl, h2, HO1.out.at_.keep (fun o => ?_)⟩, fun g' e => by cases e; exact h1, HB1.out.alloc HB1.out.size _⟩
  exact (Below.alloc (Below.refl _ w1) (Nat.le_refl _) _).cell (p := ⟨g, o, none⟩) h2

theorem Rdr.c0 {w : World} {B : Nat} {R : Option Addr} {c : Nat} {l : List Nat} {p : Nat} (h : Rdr w B R c l p) : w.cell? ⟨B, 0, none⟩ = some (.slice R l.length c) := cell_of_row _ _ _ _ _ _ h.box
theorem Rdr.c1 {w : World} {B : Nat} {R : Option Addr} {c : Nat} {l : List Nat} {p : Nat} (h : Rdr w B R c l p) : w.cell? ⟨B, 1, none⟩ = some (.int .i64 p) := cell_of_row _ _ _ _ _ _ h.box
theorem Rdr.c2 {w : World} {B : Nat} {R : Option Addr} {c : Nat} {l : List Nat} {p : Nat} (h : Rdr w B R c l p) : w.cell? ⟨B, 2, none⟩ = some (.int .i64 0) := cell_of_row _ _ _ _ _ _ h.box
theorem Rdr.fz {w : World} {B : Nat} {R : Option Addr} {c : Nat} {l : List Nat} {p : Nat} (h : Rdr w B R c l p) (o : Nat) : w.frozen? ⟨B, o, none⟩ = false := by simp [World.frozen?, h.box]
theorem Rdr.lt {w : World} {B : Nat} {R : Option Addr} {c : Nat} {l : List Nat} {p : Nat} (h : Rdr w B R c l p) : B < w.heap.size := (Array.getElem?_eq_some_iff.1 h.box).1

set_option maxHeartbeats 400000 in
theorem err_any (B : Nat) (R : Option Addr) (c : Nat) (l : List Nat) (p : Nat) (w : World) (h : Rdr w B R c l p) :
    Calls Try.prog 171 #[.pointer (some ⟨B, 0, none⟩)] w fun e w' => e = .returned (.int .i64 0) ∧ w = w' := by
  have h2 := h.c2
  have h3 := h.lt
  clear h
  go_enter Try.func171, Try.ntmps171
  go_wp2
  go_ret
  exact ⟨rfl, rfl⟩

set_option maxRecDepth 100000 in
set_option maxHeartbeats 400000 in
theorem left_any (B : Nat) (R : Option Addr) (c : Nat) (l : List Nat) (p : Nat) (w : World) (h : Rdr w B R c l p) (hp : p ≤ l.length) (hl : l.length ≤ 1000) :
    Calls Try.prog 172 #[.pointer (some ⟨B, 0, none⟩)] w fun e w' => e = .returned (.int .i64 ((l.length - p : Nat) : Int)) ∧ ∃ m, w.drewN m = w' := by
  have h0 := h.c0
  have h1 := h.c1
  have h3 := h.lt
  clear h
  obtain ⟨d, hd⟩ : ∃ d, l.length = p + d := ⟨l.length - p, by omega⟩
  rw [hd] at h0 hl ⊢
  rw [Nat.add_sub_cancel_left]
  clear hd hp
  go_enter Try.func172, Try.ntmps172
  go_wp2_with fail
  go_quiet (fail)
  go_wp2
  go_ret
  refine ⟨?_, _, rfl⟩
  show Ending.returned (Value.int _ _) = _
  congr 2; omega

set_option maxRecDepth 100000 in
set_option maxHeartbeats 400000 in
theorem number1_any (X x b i : Nat) (w : World) (hX : w.heap[X]? = some (.cells #[.int .u64 x] 44 (0, 0))) (hi : i < 8) (hx : x < 256 ^ i) (hb : b < 256) :
    Calls Try.prog 162 #[.int .i64 i, .int .u8 b, .pointer (some ⟨X, 0, none⟩)] w fun e w' => (∃ v, e = .returned v) ∧ (w.setCell ⟨X, 0, none⟩ (.int .u64 ((x + b * 256 ^ i : Nat) : Int))).drew = w' := by
  have h0 : w.cell? ⟨X, 0, none⟩ = some (.int .u64 x) := cell_of_row _ _ _ _ _ _ hX
  have h1 := (Array.getElem?_eq_some_iff.1 hX).1
  have h2 : w.frozen? ⟨X, 0, none⟩ = false := by simp [World.frozen?, hX]
  clear hX
  go_enter Try.func162, Try.ntmps162
  have hwf : ∀ k, Fence.wide.fn k := fun _ => trivial
  have hwd : Fence.wide.depth = none := rfl
  have hp : 256 ^ i * 256 ≤ 18446744073709551616 := by
    have : 256 ^ (i + 1) ≤ 256 ^ 8 := Nat.pow_le_pow_right (by decide) (by omega)
    rw [Nat.pow_succ] at this; omega
  have hs : b * 256 ^ i < 18446744073709551616 := by
    have : b * 256 ^ i ≤ 255 * 256 ^ i := Nat.mul_le_mul_right _ (by omega)
    omega
  have hsum : x + b * 256 ^ i < 18446744073709551616 := by
    have : b * 256 ^ i ≤ 255 * 256 ^ i := Nat.mul_le_mul_right _ (by omega)
    omega
  have e8 : ((2 : Int) ^ (8 * (i : Int)).toNat) = ((256 ^ i : Nat) : Int) := by
    rw [show (8 * (i : Int)).toNat = 8 * i by omega, Int.pow_mul, Int.natCast_pow]; rfl
  have hsh : IntKind.u64.wrap ((b : Int) * 2 ^ (8 * (i : Int)).toNat) = ((b * 256 ^ i : Nat) : Int) := by
    rw [e8, ← Int.natCast_mul]
    exact IntWalk.u64_in _ (by omega)
  clear e8
  have HSH := Lib.hid hsh
  clear hsh
  generalize b * 256 ^ i = z at *
  have HD := Lib.hid (show w.drew.cell? ⟨X, 0, none⟩ = some (.int .u64 x) by simpa using h0)
  refine wp_region_noPanic ?_
  refine (wpIn_wide (n := 0)).1 ?_
  (refine region_at 7 (fun W => W.cell? ⟨X, 0, none⟩ = some (.int .u64 x)) (fun _ => trivial) (by kernel_rfl) (by kernel_rfl) (by kernel_rfl) (by kernel_rfl) (by kernel_rfl) (by kernel_rfl) (fun _ _ _ _ h => h) ?_)
  (refine At.take 0 (v := .int .u64 x) rfl (by decide) (by kernel_rfl) (by kernel_rfl) HD.out (Or.inl ⟨by rfl, fun w hw => (by go_simp; try (simp (disch := omega) only [IntWalk.i64_in, IntWalk.u8_in, IntWalk.u16_in, IntWalk.u32_in, IntWalk.u64_in]); try omega)⟩) ?_; simp only [Act.put, List.setIfInBounds_toArray, List.set_cons_zero, List.set_cons_succ])
  (refine At.take 1 (v := .int .u8 b) rfl (by decide) (by kernel_rfl) (by kernel_rfl) HD.out (Or.inl ⟨by rfl, fun w hw => (by go_simp; try (simp (disch := omega) only [IntWalk.i64_in, IntWalk.u8_in, IntWalk.u16_in, IntWalk.u32_in, IntWalk.u64_in]); try omega)⟩) ?_; simp only [Act.put, List.setIfInBounds_toArray, List.set_cons_zero, List.set_cons_succ])
  (refine At.take 2 (v := .int .u64 b) rfl (by decide) (by kernel_rfl) (by kernel_rfl) HD.out (Or.inl ⟨by rfl, fun w hw => (by go_simp; try (simp (disch := omega) only [IntWalk.i64_in, IntWalk.u8_in, IntWalk.u16_in, IntWalk.u32_in, IntWalk.u64_in]); try omega)⟩) ?_; simp only [Act.put, List.setIfInBounds_toArray, List.set_cons_zero, List.set_cons_succ])
  (refine At.take 3 (v := .int .i64 i) rfl (by decide) (by kernel_rfl) (by kernel_rfl) HD.out (Or.inl ⟨by rfl, fun w hw => (by go_simp; try (simp (disch := omega) only [IntWalk.i64_in, IntWalk.u8_in, IntWalk.u16_in, IntWalk.u32_in, IntWalk.u64_in]); try omega)⟩) ?_; simp only [Act.put, List.setIfInBounds_toArray, List.set_cons_zero, List.set_cons_succ])
  (refine At.take 4 (v := .int .i64 (8 * (i : Int))) rfl (by decide) (by kernel_rfl) (by kernel_rfl) HD.out (Or.inl ⟨by rfl, fun w hw => (by go_simp; try (simp (disch := omega) only [IntWalk.i64_in, IntWalk.u8_in, IntWalk.u16_in, IntWalk.u32_in, IntWalk.u64_in]); try omega)⟩) ?_; simp only [Act.put, List.setIfInBounds_toArray, List.set_cons_zero, List.set_cons_succ])
  (refine At.take 5 (v := .int .u64 z) rfl (by decide) (by kernel_rfl) (by kernel_rfl) HD.out (Or.inl ⟨by rfl, fun w hw => (by go_simp; exact HSH.out)⟩) ?_; simp only [Act.put, List.setIfInBounds_toArray, List.set_cons_zero, List.set_cons_succ])
  (refine At.take 6 (v := .int .u64 ((x : Int) + z)) rfl (by decide) (by kernel_rfl) (by kernel_rfl) HD.out (Or.inl ⟨by rfl, fun w hw => (by go_simp; try (simp (disch := omega) only [IntWalk.i64_in, IntWalk.u8_in, IntWalk.u16_in, IntWalk.u32_in, IntWalk.u64_in]); try omega)⟩) ?_; simp only [Act.put, List.setIfInBounds_toArray, List.set_cons_zero, List.set_cons_succ])
  refine At.tail (by kernel_rfl) ?_
  simp only [List.drop_succ_cons, List.drop_zero]
  gi_wp2
  refine NoPanic.normal ?_
  exact bodyPost_end (v := .tuple #[]) (results_none rfl _ _ _) rfl ⟨⟨_, rfl⟩, rfl⟩

theorem Rdr.step {N K : Nat} {w w' : World} {B : Nat} {R : Option Addr} {c : Nat} {l : List Nat} {p : Nat} (h : Rdr w B R c l p) (hs : Step N K w w') (hN : B < N) : Rdr w' B R c l p := by
  obtain ⟨g, e, hg, ha⟩ := h.row
  have hB := h.lt
  refine ⟨(hs.block _ hB (by omega)).trans h.box, g, e, hg, ha.keep (fun o => ?_)⟩
  have := hs.block g (by omega) (by omega)
  simp [World.cell?, this]
theorem Rdr.below {N : Nat} {w w' : World} {B : Nat} {R : Option Addr} {c : Nat} {l : List Nat} {p : Nat} (h : Rdr w B R c l p) (hs : Below N w w') (hN : B < N) : Rdr w' B R c l p :=
  h.step (N := N) (K := w.heap.size) ⟨hs.os, hs.tape, hs.output, hs.size, fun k hk hn => hs.block k (by omega)⟩ hN
theorem Rdr.byte {w : World} {B g : Nat} {c : Nat} {l : List Nat} {p : Nat} (h : Rdr w B (some ⟨g, 0, none⟩) c l p) (k : Nat) (hk : k < l.length) : w.cell? ⟨g, k, none⟩ = some (.int .u8 ((l.getD k 0 : Nat) : Int)) := by
  obtain ⟨g', e, hg, ha⟩ := h.row
  cases e
  have := ha k hk 0 _ rfl
  simpa [EY, hk] using this
theorem Rdr.put {w : World} {B : Nat} {R : Option Addr} {c : Nat} {l : List Nat} {p : Nat} (h : Rdr w B R c l p) (q : Nat) : Rdr (w.setCell ⟨B, 1, none⟩ (.int .i64 q)) B R c l q := by
  obtain ⟨g, e, hg, ha⟩ := h.row
  refine ⟨?_, g, e, hg, ha.keep (fun o => World.cell?_setCell_other _ _ _ _ (by intro e; injection e with e1; omega))⟩
  exact (heap_setCell_same w B 1 _ _ _ h.box).trans (by simp)

theorem Rdr.set_other {w : World} {B : Nat} {R : Option Addr} {c : Nat} {l : List Nat} {p : Nat} (h : Rdr w B R c l p) {q : Addr} (h1 : q.block ≠ B) (h2 : ∀ g, R = some ⟨g, 0, none⟩ → q.block ≠ g) (v : Value) : Rdr (w.setCell q v) B R c l p := by
  obtain ⟨g, e, hg, ha⟩ := h.row
  refine ⟨(Below.heap_setCell _ _ _ _ (fun e => h1 e.symm)).trans h.box, g, e, hg, ha.keep (fun o => World.cell?_setCell_other _ _ _ _ (by intro e2; exact h2 g e (by have := congrArg Addr.block e2; simpa [eq_comm] using this)))⟩

theorem numL_take (l : List Nat) (p k : Nat) (h : p + k < l.length) : numL ((l.drop p).take (k + 1)) = numL ((l.drop p).take k) + l.getD (p + k) 0 * 256 ^ k := by
  have e : min k (l.drop p).length = k := Nat.min_eq_left (by rw [List.length_drop]; omega)
  rw [List.take_succ_eq_append_getElem (by rw [List.length_drop]; omega), numL_snoc, List.length_take, e]
  simp [h]

set_option maxRecDepth 100000 in
set_option maxHeartbeats 1000000 in
theorem look_any (B : Nat) (R : Option Addr) (c : Nat) (l : List Nat) (p n X : Nat) (w : World) (h : Rdr w B R c l p) (hp : p + n ≤ l.length) (hl : l.length ≤ 1000) (hb : ∀ y ∈ l, y < 256) (hn : n ≤ 8) (hX : w.heap[X]? = some (.cells #[.int .u64 0] 44 (0, 0))) (hBX : B < X) :
    Calls Try.prog 161 #[.pointer (some ⟨B, 0, none⟩), .int .i64 n, .func (.func 162) #[] #[.pointer (some ⟨X, 0, none⟩)]] w fun e w' => (∃ v, e = .returned v) ∧ Rdr w' B R c l (p + n) ∧
      w'.heap[X]? = some (.cells #[.int .u64 ((numL ((l.drop p).take n) : Nat) : Int)] 44 (0, 0)) ∧ w'.os = w.os ∧ w'.tape = w.tape ∧ w'.output = w.output ∧ w.heap.size ≤ w'.heap.size ∧ ∀ k, k < w.heap.size → k ≠ B → k ≠ X → w'.heap[k]? = w.heap[k]? := by
  obtain ⟨g, rfl, hg, _⟩ := h.row
  have HE := Lib.hid (err_any B _ c l p w h)
  have HL := Lib.hid (left_any B _ c l p w h (by omega) hl)
  have HR := Lib.hid h
  have HX := Lib.hid hX
  have hXl := (Array.getElem?_eq_some_iff.1 hX).1
  have HBY := Lib.hid hb
  obtain ⟨d, hd⟩ : ∃ d, l.length - p = d := ⟨_, rfl⟩
  have HLE := Lib.hid hd
  rw [hd] at HL
  have t1 : ¬ ((d : Int) < n) := by omega
  have t2 : ¬ ((n : Int) < 0) := by omega
  have t3 : ¬ d < n := by omega
  have t4 : decide (d < n) = false := decide_eq_false t3
  clear h hX hb hd
  go_enter Try.func161, Try.ntmps161
  go_wp2_with (first
    | (go_at_call 171; refine HE.out.mono ?_; rintro e w1 ⟨rfl, rfl⟩)
    | (go_at_call 172; refine HL.out.mono ?_; rintro e w1 ⟨rfl, m, rfl⟩))
  obtain ⟨w0, hw0⟩ : ∃ w0, w.drewN m = w0 := ⟨_, rfl⟩
  rw [hw0]
  have HS0 := Lib.hid (show Step X (X + 1) w w0 by rw [← hw0]; exact ⟨rfl, rfl, rfl, Nat.le_refl _, fun _ _ _ => rfl⟩)
  have HX0 := Lib.hid (show w0.heap[X]? = some (.cells #[.int .u64 0] 44 (0, 0)) by rw [← hw0]; exact HX.out)
  clear hw0
  go_loopw [6, 23] (fun t6 i wr => ∃ k : Nat, k ≤ n ∧ i = .int .i64 k ∧ wr.heap[X]? = some (.cells #[.int .u64 ((numL ((l.drop p).take k) : Nat) : Int)] 44 (0, 0)) ∧ Step X (X + 1) w wr) (fun _ i _ => n - (intOf i).toNat)
  case atStart => exact ⟨0, by omega, rfl, by simpa [numL] using HX0.out, HS0.out⟩
  case round =>
    obtain ⟨k, hk, rfl, hx, hst⟩ := hrel
    have HR1 := Lib.hid (HR.out.step hst hBX)
    have HXk := Lib.hid hx
    have HSk := Lib.hid hst
    have hXr := (Array.getElem?_eq_some_iff.1 hx).1
    clear hx hst
    by_cases hlt : k < n
    · have HNX := Lib.hid (numL_take l p k (by omega))
      have hnl : numL ((l.drop p).take k) < 256 ^ k := by
        have := numL_lt ((l.drop p).take k) (fun y hy => HBY.out y (List.mem_of_mem_drop (List.mem_of_mem_take hy)))
        rw [List.length_take, List.length_drop, Nat.min_eq_left (by omega)] at this
        exact this
      have hbk : l.getD (p + k) 0 < 256 := by
        have : p + k < l.length := by omega
        rw [List.getD_eq_getElem?_getD, List.getElem?_eq_getElem this]; exact HBY.out _ (List.getElem_mem this)
      have HCB := Lib.hid (HR1.out.byte (p + k) (by omega))
      generalize l.getD (p + k) 0 = b at *
      generalize numL ((l.drop p).take k) = x at *
      have HNUM := Lib.hid (fun W (hW : W.heap[X]? = some (.cells #[.int .u64 x] 44 (0, 0))) => number1_any X x b k W hW (by omega) hnl hbk)
      have HD := Lib.hid (show wr.drew.cell? ⟨B, 0, none⟩ = some (.slice (some ⟨g, 0, none⟩) l.length c) ∧ wr.drew.cell? ⟨B, 1, none⟩ = some (.int .i64 p) ∧ wr.drew.cell? ⟨g, p + k, none⟩ = some (.int .u8 b) from ⟨by simpa using HR1.out.c0, by simpa using HR1.out.c1, by simpa using HCB.out⟩)
      have s1 : (p : Int) + k < l.length := by omega
      have s2 : 0 ≤ (p : Int) + k := by omega
      have s3 : ((p : Int) + k).toNat = p + k := by omega
      have hwf : ∀ k, Fence.wide.fn k := fun _ => trivial
      have hwd : Fence.wide.depth = none := rfl
      have hBs : B < wr.heap.size := HR1.out.lt
      have hgs : g < wr.heap.size := by omega
      go_wp2
      refine wp_region_noPanic ?_
      refine (wpIn_wide (n := 0)).1 ?_
      (refine region_at 16 (fun W => W.cell? ⟨B, 0, none⟩ = some (.slice (some ⟨g, 0, none⟩) l.length c) ∧ W.cell? ⟨B, 1, none⟩ = some (.int .i64 p) ∧ W.cell? ⟨g, p + k, none⟩ = some (.int .u8 b)) (fun _ => trivial) (by kernel_rfl) (by kernel_rfl) (by kernel_rfl) (by kernel_rfl) (by kernel_rfl) (by kernel_rfl) (fun _ _ _ _ h => h) ?_)
      (refine At.take 0 (v := .func (.func 162) #[] #[.pointer (some ⟨X, 0, none⟩)]) rfl (by decide) (by kernel_rfl) (by kernel_rfl) HD.out (Or.inl ⟨by rfl, fun w hw => (by go_simp)⟩) ?_; simp only [Act.put, List.setIfInBounds_toArray, List.set_cons_zero, List.set_cons_succ])
      (refine At.take 1 (v := .int .i64 k) rfl (by decide) (by kernel_rfl) (by kernel_rfl) HD.out (Or.inl ⟨by rfl, fun w hw => (by (repeat (obtain ⟨hw0, hw⟩ := hw)); go_simp; try (simp (disch := omega) only [IntWalk.i64_in, IntWalk.u8_in, IntWalk.u16_in, IntWalk.u32_in, IntWalk.u64_in]); try omega)⟩) ?_; simp only [Act.put, List.setIfInBounds_toArray, List.set_cons_zero, List.set_cons_succ])
      (refine At.take 2 (v := .pointer (some ⟨B, 0, none⟩)) rfl (by decide) (by kernel_rfl) (by kernel_rfl) HD.out (Or.inl ⟨by rfl, fun w hw => (by (repeat (obtain ⟨hw0, hw⟩ := hw)); go_simp; try (simp (disch := omega) only [IntWalk.i64_in, IntWalk.u8_in, IntWalk.u16_in, IntWalk.u32_in, IntWalk.u64_in]); try omega)⟩) ?_; simp only [Act.put, List.setIfInBounds_toArray, List.set_cons_zero, List.set_cons_succ])
      (refine At.take 3 (v := .pointer (some ⟨B, 0, none⟩)) rfl (by decide) (by kernel_rfl) (by kernel_rfl) HD.out (Or.inl ⟨by rfl, fun w hw => (by (repeat (obtain ⟨hw0, hw⟩ := hw)); go_simp; try (simp (disch := omega) only [IntWalk.i64_in, IntWalk.u8_in, IntWalk.u16_in, IntWalk.u32_in, IntWalk.u64_in]); try omega)⟩) ?_; simp only [Act.put, List.setIfInBounds_toArray, List.set_cons_zero, List.set_cons_succ])
      (refine At.take 4 (v := .pointer (some ⟨B, 0, none⟩)) rfl (by decide) (by kernel_rfl) (by kernel_rfl) HD.out (Or.inl ⟨by rfl, fun w hw => (by (repeat (obtain ⟨hw0, hw⟩ := hw)); go_simp; try (simp (disch := omega) only [IntWalk.i64_in, IntWalk.u8_in, IntWalk.u16_in, IntWalk.u32_in, IntWalk.u64_in]); try omega)⟩) ?_; simp only [Act.put, List.setIfInBounds_toArray, List.set_cons_zero, List.set_cons_succ])
      (refine At.take 5 (v := .pointer (some ⟨B, 0, none⟩)) rfl (by decide) (by kernel_rfl) (by kernel_rfl) HD.out (Or.inl ⟨by rfl, fun w hw => (by (repeat (obtain ⟨hw0, hw⟩ := hw)); go_simp; try (simp (disch := omega) only [IntWalk.i64_in, IntWalk.u8_in, IntWalk.u16_in, IntWalk.u32_in, IntWalk.u64_in]); try omega)⟩) ?_; simp only [Act.put, List.setIfInBounds_toArray, List.set_cons_zero, List.set_cons_succ])
      (refine At.take 6 (v := .slice (some ⟨g, 0, none⟩) l.length c) rfl (by decide) (by kernel_rfl) (by kernel_rfl) HD.out (Or.inl ⟨by rfl, fun w hw => (by (repeat (obtain ⟨hw0, hw⟩ := hw)); go_simp; try (simp (disch := omega) only [IntWalk.i64_in, IntWalk.u8_in, IntWalk.u16_in, IntWalk.u32_in, IntWalk.u64_in]); try omega)⟩) ?_; simp only [Act.put, List.setIfInBounds_toArray, List.set_cons_zero, List.set_cons_succ])
      (refine At.take 7 (v := .pointer (some ⟨B, 0, none⟩)) rfl (by decide) (by kernel_rfl) (by kernel_rfl) HD.out (Or.inl ⟨by rfl, fun w hw => (by (repeat (obtain ⟨hw0, hw⟩ := hw)); go_simp; try (simp (disch := omega) only [IntWalk.i64_in, IntWalk.u8_in, IntWalk.u16_in, IntWalk.u32_in, IntWalk.u64_in]); try omega)⟩) ?_; simp only [Act.put, List.setIfInBounds_toArray, List.set_cons_zero, List.set_cons_succ])
      (refine At.take 8 (v := .pointer (some ⟨B, 0, none⟩)) rfl (by decide) (by kernel_rfl) (by kernel_rfl) HD.out (Or.inl ⟨by rfl, fun w hw => (by (repeat (obtain ⟨hw0, hw⟩ := hw)); go_simp; try (simp (disch := omega) only [IntWalk.i64_in, IntWalk.u8_in, IntWalk.u16_in, IntWalk.u32_in, IntWalk.u64_in]); try omega)⟩) ?_; simp only [Act.put, List.setIfInBounds_toArray, List.set_cons_zero, List.set_cons_succ])
      (refine At.take 9 (v := .pointer (some ⟨B, 0, none⟩)) rfl (by decide) (by kernel_rfl) (by kernel_rfl) HD.out (Or.inl ⟨by rfl, fun w hw => (by (repeat (obtain ⟨hw0, hw⟩ := hw)); go_simp; try (simp (disch := omega) only [IntWalk.i64_in, IntWalk.u8_in, IntWalk.u16_in, IntWalk.u32_in, IntWalk.u64_in]); try omega)⟩) ?_; simp only [Act.put, List.setIfInBounds_toArray, List.set_cons_zero, List.set_cons_succ])
      (refine At.take 10 (v := .pointer (some ⟨B, 1, none⟩)) rfl (by decide) (by kernel_rfl) (by kernel_rfl) HD.out (Or.inl ⟨by rfl, fun w hw => (by (repeat (obtain ⟨hw0, hw⟩ := hw)); go_simp; try (simp (disch := omega) only [IntWalk.i64_in, IntWalk.u8_in, IntWalk.u16_in, IntWalk.u32_in, IntWalk.u64_in]); try omega)⟩) ?_; simp only [Act.put, List.setIfInBounds_toArray, List.set_cons_zero, List.set_cons_succ])
      (refine At.take 11 (v := .int .i64 p) rfl (by decide) (by kernel_rfl) (by kernel_rfl) HD.out (Or.inl ⟨by rfl, fun w hw => (by (repeat (obtain ⟨hw0, hw⟩ := hw)); go_simp; try (simp (disch := omega) only [IntWalk.i64_in, IntWalk.u8_in, IntWalk.u16_in, IntWalk.u32_in, IntWalk.u64_in]); try omega)⟩) ?_; simp only [Act.put, List.setIfInBounds_toArray, List.set_cons_zero, List.set_cons_succ])
      (refine At.take 12 (v := .int .i64 k) rfl (by decide) (by kernel_rfl) (by kernel_rfl) HD.out (Or.inl ⟨by rfl, fun w hw => (by (repeat (obtain ⟨hw0, hw⟩ := hw)); go_simp; try (simp (disch := omega) only [IntWalk.i64_in, IntWalk.u8_in, IntWalk.u16_in, IntWalk.u32_in, IntWalk.u64_in]); try omega)⟩) ?_; simp only [Act.put, List.setIfInBounds_toArray, List.set_cons_zero, List.set_cons_succ])
      (refine At.take 13 (v := .int .i64 ((p : Int) + k)) rfl (by decide) (by kernel_rfl) (by kernel_rfl) HD.out (Or.inl ⟨by rfl, fun w hw => (by (repeat (obtain ⟨hw0, hw⟩ := hw)); go_simp; try (simp (disch := omega) only [IntWalk.i64_in, IntWalk.u8_in, IntWalk.u16_in, IntWalk.u32_in, IntWalk.u64_in]); try omega)⟩) ?_; simp only [Act.put, List.setIfInBounds_toArray, List.set_cons_zero, List.set_cons_succ])
      (refine At.take 14 (v := .pointer (some ⟨g, p + k, none⟩)) rfl (by decide) (by kernel_rfl) (by kernel_rfl) HD.out (Or.inl ⟨by rfl, fun w hw => (by (repeat (obtain ⟨hw0, hw⟩ := hw)); go_simp; try (simp (disch := omega) only [IntWalk.i64_in, IntWalk.u8_in, IntWalk.u16_in, IntWalk.u32_in, IntWalk.u64_in]); try omega)⟩) ?_; simp only [Act.put, List.setIfInBounds_toArray, List.set_cons_zero, List.set_cons_succ])
      (refine At.take 15 (v := .int .u8 b) rfl (by decide) (by kernel_rfl) (by kernel_rfl) HD.out (Or.inl ⟨by rfl, fun w hw => (by (repeat (obtain ⟨hw0, hw⟩ := hw)); go_simp; try (simp (disch := omega) only [IntWalk.i64_in, IntWalk.u8_in, IntWalk.u16_in, IntWalk.u32_in, IntWalk.u64_in]); try omega)⟩) ?_; simp only [Act.put, List.setIfInBounds_toArray, List.set_cons_zero, List.set_cons_succ])
      refine At.tail (by kernel_rfl) ?_
      simp only [List.drop_succ_cons, List.drop_zero]
      gi_wp2_with (gi_at_call 162; refine (callsIn_wide.2 (HNUM.out wr.drew HXk.out)).mono ?_; rintro e' w' ⟨⟨v, rfl⟩, rfl⟩)
      refine NoPanic.normal ?_
      go_wp2
      go_roundw
      case rel =>
        refine ⟨k + 1, by omega, by go_num, ?_, ?_⟩
        · rw [HNX.out]
          exact (heap_setCell_same _ X 0 _ _ _ HXk.out).trans (by simp)
        · exact HSk.out.trans ⟨rfl, rfl, rfl, by simp, fun q hq hn => Below.heap_setCell _ _ _ _ (by show q ≠ X; omega)⟩
      case measure => simp [intOf]; omega
    · have hk' : k = n := by omega
      subst hk'
      have c0 := HR1.out.c0
      have c1 := HR1.out.c1
      have hBs : B < wr.heap.size := HR1.out.lt
      have fz := HR1.out.fz 1
      go_wp2
      refine bodyPost_end (v := .tuple #[]) (results_none rfl _ _ _) rfl ⟨⟨_, rfl⟩, ?_⟩
      refine ⟨HR1.out.put (p + k), ?_, HSk.out.os, HSk.out.tape, HSk.out.output, by simpa using HSk.out.size, fun q h1 h2 h3 => ?_⟩
      · exact (Below.heap_setCell _ _ _ _ (by show X ≠ B; omega)).trans HXk.out
      · exact (Below.heap_setCell _ _ _ _ h2).trans (HSk.out.block q h1 (by omega))
end Go.Proofs.Ytfjbanfibmpalaa

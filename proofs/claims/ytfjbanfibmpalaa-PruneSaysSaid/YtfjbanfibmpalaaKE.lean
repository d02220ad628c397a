/- KE -/
import Derived.Test.YtfjbanfibmpalaaKD

/- Words: a range over a function, the iterator reading a set of blocks that the body leaves alone; numbers in a row of one's own. -/
set_option linter.unusedVariables false
set_option linter.unusedSimpArgs false
namespace Go.Proofs.Ytfjbanfibmpalaa
open Go.RowKit Go.Shelf

/-- What is of S, or lies from N to K, is as it was. -/
structure KpS (S : Nat → Prop) (N K : Nat) (A B : World) : Prop where
  os : B.os = A.os
  tape : B.tape = A.tape
  output : B.output = A.output
  size : A.heap.size ≤ B.heap.size
  block : ∀ k, (S k ∨ (N ≤ k ∧ k < K)) → k < A.heap.size → B.heap[k]? = A.heap[k]?

section
variable {S : Nat → Prop} {N K : Nat} {A B C : World}
theorem KpS.refl (S : Nat → Prop) (N K : Nat) (A : World) : KpS S N K A A := ⟨rfl, rfl, rfl, Nat.le_refl _, fun _ _ _ => rfl⟩
theorem KpS.trans (h : KpS S N K A B) (k : KpS S N K B C) : KpS S N K A C :=
  ⟨k.os.trans h.os, k.tape.trans h.tape, k.output.trans h.output, Nat.le_trans h.size k.size, fun i hi hl => (k.block i hi (Nat.lt_of_lt_of_le hl h.size)).trans (h.block i hi hl)⟩
theorem KpS.mono {M : Nat} (h : KpS S N K A B) (hN : N ≤ M) : KpS S M K A B :=
  ⟨h.os, h.tape, h.output, h.size, fun k hk hl => h.block k (hk.imp id fun q => ⟨by omega, q.2⟩) hl⟩
theorem KpS.alloc (h : KpS S N K A B) (o : Obj) : KpS S N K A (B.alloc o) :=
  h.trans ⟨rfl, rfl, rfl, by simp, fun k _ hl => Below.heap_alloc B o k hl⟩
theorem KpS.drew (h : KpS S N K A B) : KpS S N K A B.drew := ⟨h.os, h.tape, h.output, h.size, h.block⟩
theorem KpS.drewN (h : KpS S N K A B) (m : Nat) : KpS S N K A (B.drewN m) := ⟨h.os, h.tape, h.output, h.size, h.block⟩
theorem KpS.setCell (h : KpS S N K A B) {p : Addr} (h0 : ¬ S p.block) (hN : p.block < N ∨ K ≤ p.block) (u : Value) : KpS S N K A (B.setCell p u) :=
  ⟨h.os, h.tape, h.output, by simpa using h.size, fun k hk hl => (Below.heap_setCell B p u k (fun e => by subst e; rcases hk with q | q; exact h0 q; omega)).trans (h.block k hk hl)⟩
theorem KpS.of_below (h : Below A.heap.size A B) : KpS S N K A B := ⟨h.os, h.tape, h.output, h.size, fun k _ hl => h.block k hl⟩
theorem KpS.then_below (h : KpS S N K A B) (h2 : Below B.heap.size B C) : KpS S N K A C := h.trans (.of_below h2)
theorem KpS.grown {row : Option Nat} (h : KpS S N K A B) (hg : B.grownBy C row) (hr : ∀ k, row = some k → ¬ S k ∧ (k < N ∨ K ≤ k)) : KpS S N K A C :=
  ⟨hg.os.trans h.os, hg.tape.trans h.tape, hg.output.trans h.output, Nat.le_trans h.size hg.size, fun k hk hl => (hg.block k (Nat.lt_of_lt_of_le hl h.size) (fun e => by have := hr k e.symm; rcases hk with q | q; exact this.1 q; omega)).trans (h.block k hk hl)⟩
end

theorem kps_put {S : Nat → Prop} {N K : Nat} (W : World) (l : Nat) (o : Obj) (h0 : ¬ S l) (hl : l < N) : KpS S N K W (W.putObj l o) :=
  ⟨rfl, rfl, rfl, by simp, fun k hk _ => World.putObj_heap_other (fun e => by rcases hk with q | q; (first | exact h0 (e ▸ q) | exact h0 (e.symm ▸ q)); omega)⟩

/-- An iterator's value: it yields just these, one behind the other, where every round goes on. What it keeps for itself it has laid ahead of the first round. -/
def IterS (P : Program) (gf : Nat) (lb : Array Value) (ys : List (Array Value)) (S : Nat → Prop) (n0 : Nat) (w0 : World) : Prop :=
  ∀ (l : Nat) (W : World) (P0 : World → Prop) (J : Nat → Nat → World → Prop), Below n0 w0 W → n0 ≤ W.heap.size →
    (∀ A B, P0 A → Below W.heap.size A B → P0 B) → (∀ A, P0 A → W.heap.size ≤ A.heap.size → J A.heap.size 0 A) →
    (∀ K i A B, J K i A → Step W.heap.size K A B → J K i B) →
    (∀ K i (h : i < ys.length) A, J K i A → W.heap.size ≤ K → K ≤ A.heap.size → YieldAt Fence.wide 0 P l (ys[i]'h) A fun e B =>
      e = .returned (.bool true) ∧ J K (i + 1) B ∧ KpS S W.heap.size K A B) →
    P0 W → CallsIn Fence.wide 0 P gf (#[.func (.yield l) #[] #[]] ++ lb) W fun e B => (∃ v, e = .returned v) ∧ ∃ K, W.heap.size ≤ K ∧ K ≤ B.heap.size ∧ J K ys.length B

theorem IterS.later {P : Program} {gf : Nat} {lb : Array Value} {ys : List (Array Value)} {S : Nat → Prop} {n0 : Nat} {w0 w1 : World} (h : IterS P gf lb ys S n0 w0) (hb : Below n0 w0 w1) : IterS P gf lb ys S n0 w1 :=
  fun l W P0 J hW => h l W P0 J (hb.trans hW)

/-- How a round may end. -/
def rpostS (S : Nat → Prop) (M K : Nat) (I : Nat → Nat → World → Prop) (i : Nat) (W : World) : Exit → Act → World → Prop
  | .normal, _, W' => KpS S M K W W' ∧ I K (i + 1) W'
  | _, _, _ => False

theorem rfs_law {P : Program} {n m : Nat} {g : Operand} {ps : Array Tmp} {assign body : Code} {Q : Exit → Act → World → Prop} {a : Act} {w : World}
    {gf : Nat} {lb : Array Value} (hg : a.eval g = .func (.func gf) #[] lb) (eg : ∀ args w, (callFunc gf args).run P w = .ok (.enter gf args) w)
    {ys : List (Array Value)} {S : Nat → Prop} {n0 : Nat} (hit : IterS P gf lb ys S n0 w) (hn0 : n0 ≤ w.heap.size) (hS : ∀ k, S k → k < n0) (hps : ∀ i (h : i < ys.length), (ys[i]'h).size = ps.size)
    (I0 : World → Prop) (I : Nat → Nat → World → Prop) (hI0 : ∀ A B, I0 A → Below w.heap.size A B → I0 B) (hI1 : ∀ A, I0 A → w.heap.size + 2 ≤ A.heap.size → I A.heap.size 0 A)
    (hI : ∀ K i A B, I K i A → w.heap.size + 2 ≤ K → Step (w.heap.size + 1) K A B → I K i B)
    (h0 : I0 w) (a₁ : Nat → Act)
    (hassign : ∀ (l i : Nat) (h : i < ys.length) (W : World) (K : Act → World → Prop), K (a₁ i) W →
      assign.wpIn (Fence.wide.inRound l) m P (Exit.then K (fun _ _ _ => False)) { tmps := (ps.zip (ys[i]'h)).foldl (fun t (p, v) => t.setIfInBounds p v) a.tmps, defers := [] } W)
    (hbody : ∀ (l K i : Nat) (h : i < ys.length) (W : World), I K i W → w.heap.size + 2 ≤ K → K ≤ W.heap.size → body.wpIn (Fence.wide.inRound l) m P (rpostS S w.heap.size K I i W) (a₁ i) W)
    (hdone : ∀ (K : Nat) (W : World), w.heap.size + 2 ≤ K → K ≤ W.heap.size → I K ys.length W → W.heap[w.heap.size]? = some (.deferred (some [])) → Q .normal { a with defers := { target := .collected w.heap.size, args := #[] } :: a.defers } W) :
    (Code.rangeFunc g ps assign body).wpIn Fence.wide n P Q a w := by
  refine wpIn_rangeFunc ?_
  intro fn hfn
  obtain ⟨rec, hrec⟩ : ∃ rec : LoopState → Option Code → Loop, rec = fun st pe => { state := st, pending := pe, fn, tmps := a.tmps, params := ps, assign, body, defers := w.heap.size } := ⟨_, rfl⟩
  obtain ⟨W1, hW1⟩ : ∃ W1, (w.alloc (.deferred (some []))).alloc (.loop (rec .ready none)) = W1 := ⟨_, rfl⟩
  have hs1 : W1.heap.size = w.heap.size + 2 := by rw [← hW1]; simp
  have hL1 : W1.heap[w.heap.size + 1]? = some (.loop (rec .ready none)) := by
    rw [← hW1]; have := World.alloc_heap_new (w.alloc (.deferred (some []))) (.loop (rec .ready none)); rwa [World.size_alloc] at this
  have hK1 : W1.heap[w.heap.size]? = some (.deferred (some [])) := by
    rw [← hW1]; exact (Below.heap_alloc _ _ _ (by simp)).trans (World.alloc_heap_new w _)
  have hB1 : Below w.heap.size w W1 := by rw [← hW1]; exact ((Below.refl _ w).alloc (Nat.le_refl _) _).alloc (by simp) _
  have hI1' : I0 W1 := hI0 _ _ h0 hB1
  refine ⟨w.heap.size + 1, [{ target := .collected w.heap.size, args := #[] }], W1, { target := .fn (.func gf) lb, args := #[.func (.yield (w.heap.size + 1)) #[] #[]] }, W1, gf,
    #[.func (.yield (w.heap.size + 1)) #[] #[]] ++ lb, W1, ?_, ?_, ?_, ?_, (fun h => by cases h), ?_⟩
  · rw [← hW1, hrec]; exact run_enterLoop_outer _ _ _ _ _
  · simp only [resolve, hg]
    simp [go_sem]
  · intro f' _; trivial
  · simp [invoke, go_sem, eg]
  · have keep : ∀ {A B : World} {k K : Nat} {o : Obj}, Step W1.heap.size K A B → k < w.heap.size + 2 → A.heap[k]? = some o → B.heap[k]? = some o := fun hb hk h => (hb.block _ (Array.getElem?_eq_some_iff.1 h).1 (by omega)).trans h
    have keep0 : ∀ {A B : World} {k : Nat} {o : Obj}, Below W1.heap.size A B → k < w.heap.size + 2 → A.heap[k]? = some o → B.heap[k]? = some o := fun hb hk h => (hb.block _ (by omega)).trans h
    have hcall := hit (w.heap.size + 1) W1
      (fun W => I0 W ∧ W.heap[w.heap.size + 1]? = some (.loop (rec .ready none)) ∧ W.heap[w.heap.size]? = some (.deferred (some [])))
      (fun K i W => I K i W ∧ W.heap[w.heap.size + 1]? = some (.loop (rec .ready none)) ∧ W.heap[w.heap.size]? = some (.deferred (some [])) ∧ w.heap.size + 2 ≤ K)
      (hB1.mono hn0) (by omega)
      (fun A B h hb => ⟨hI0 _ _ h.1 (hb.mono (by omega)), keep0 hb (by omega) h.2.1, keep0 hb (by omega) h.2.2⟩)
      (fun A h hs => ⟨hI1 _ h.1 (by omega), h.2.1, h.2.2, by omega⟩)
      (fun K i A B h hb => ⟨hI _ _ _ _ h.1 h.2.2.2 (hb.wider (by omega)), keep hb (by omega) h.2.1, keep hb (by omega) h.2.2.1, h.2.2.2⟩)
      ?_ ⟨hI1', hL1, hK1⟩
    · refine (show CallsIn Fence.wide (n - 1) P gf _ W1 _ from ⟨trivial, fun cs hr => hcall.2 cs (room_wide _)⟩).mono ?_
      rintro e W2 ⟨⟨v, rfl⟩, K, hKl, hKu, hi, hl, hk, hK2⟩
      exact ⟨none, _, by have := run_endLoop (P := P) hl (by rw [hrec]; simp); rw [hrec] at this; exact this,
        hdone K _ (by omega) (by simpa using hKu) (hI _ _ _ _ hi hK2 (.put _ _ _ (by omega) (by omega))) ((World.putObj_heap_other (by omega)).trans hk)⟩
    · rintro K i hlt W ⟨hi, hl, hk, hK2⟩ hKl hKu
      have hlW : w.heap.size + 1 < W.heap.size := (Array.getElem?_eq_some_iff.1 hl).1
      have hy := run_yield (P := P) (args := ys[i]) hl (by rw [hrec]; exact hps i hlt)
      rw [hrec] at hy
      refine ⟨fn, _, assign, body, hy, ?_⟩
      have hR : RoundIn Fence.wide m P (w.heap.size + 1) fn ((ps.zip (ys[i]'hlt)).foldl (fun t (p, v) => t.setIfInBounds p v) a.tmps) assign body W (fun e B =>
          e = .returned (.bool true) ∧ (I K (i + 1) B ∧ B.heap[w.heap.size + 1]? = some (.loop (rec .ready none)) ∧ B.heap[w.heap.size]? = some (.deferred (some [])) ∧ w.heap.size + 2 ≤ K) ∧ KpS S W1.heap.size K W B) := by
        refine roundIn_of_wpIn hfn (hassign _ i hlt W _ ?_)
        refine ⟨_, run_beginRound hl (by rw [hrec]), ?_⟩
        have hl2 : (W.putObj (w.heap.size + 1) (.loop { rec .ready none with state := .busy })).heap[w.heap.size + 1]? = some (.loop { rec .ready none with state := .busy }) := World.putObj_heap_same hlW
        have hk2 : (W.putObj (w.heap.size + 1) (.loop { rec .ready none with state := .busy })).heap[w.heap.size]? = some (.deferred (some [])) := (World.putObj_heap_other (by omega)).trans hk
        have hkp2 : KpS S W1.heap.size K W (W.putObj (w.heap.size + 1) (.loop { rec .ready none with state := .busy })) := kps_put _ _ _ (fun q => by have := hS _ q; omega) (by omega)
        have hlW2 : w.heap.size + 1 < (W.putObj (w.heap.size + 1) (.loop { rec .ready none with state := .busy })).heap.size := by simpa using hlW
        refine wpIn_mono (hbody _ K i hlt _ (hI _ _ _ _ hi hK2 (.put _ _ _ (by omega) (by omega))) (by omega) (by simpa using hKu)) ?_
        rintro e a3 W3 hp
        cases e with
        | normal =>
          obtain ⟨hk3, hi3⟩ := hp
          have hl3 := (hk3.block (w.heap.size + 1) (.inr (by omega)) hlW2).trans hl2
          have hr := run_endRound (P := P) none hl3
          rw [hrec] at hr
          have hd3 : W3.heap[w.heap.size]? = some (.deferred (some [])) := (hk3.block w.heap.size (.inr ⟨Nat.le_refl _, by omega⟩) (Nat.lt_of_lt_of_le (Nat.lt_succ_self _) (Nat.le_of_lt hlW2))).trans hk2
          have hw3 : w.heap.size + 1 < W3.heap.size := (Array.getElem?_eq_some_iff.1 hl3).1
          refine ⟨_, _, hr, rfl, ⟨hI _ _ _ _ hi3 hK2 (.put _ _ _ (by omega) (by omega)), ?_, ?_, hK2⟩, (hkp2.trans (hk3.mono (by omega))).trans (kps_put _ _ _ (fun q => by have := hS _ q; omega) (by omega))⟩
          · rw [hrec]
            exact World.putObj_heap_same hw3
          · rw [World.putObj_heap_other (by omega)]
            exact hd3
        | ret => exact hp.elim
        | exit id => exact hp.elim
        | goto t => exact hp.elim
        | panic ch => exact hp.elim
        | outgrown => exact hp.elim
      exact ⟨hR.1, fun c cs hr => hR.2 c cs (room_wide _)⟩

theorem rfx_law {P : Program} {n m : Nat} {g : Operand} {ps : Array Tmp} {assign body : Code} {Q : Exit → Act → World → Prop} {a : Act} {w : World}
    {gf : Nat} {lb : Array Value} (hg : a.eval g = .func (.func gf) #[] lb) (eg : ∀ args w, (callFunc gf args).run P w = .ok (.enter gf args) w)
    {ys : List (Array Value)} {S : Nat → Prop} {n0 : Nat} (hit : IterS P gf lb ys S n0 w) (hn0 : n0 ≤ w.heap.size) (hS : ∀ k, S k → k < n0) (hps : ∀ i (h : i < ys.length), (ys[i]'h).size = ps.size)
    (I0 : World → Prop) (I : Nat → Nat → World → Prop) (hI0 : ∀ A B, I0 A → Below w.heap.size A B → I0 B) (hI1 : ∀ A, I0 A → w.heap.size + 2 ≤ A.heap.size → I A.heap.size 0 A)
    (hI : ∀ K i A B, I K i A → w.heap.size + 2 ≤ K → Step (w.heap.size + 1) K A B → I K i B)
    (h0 : I0 w) (Ax : Nat → Nat → Act → World → Prop) (hAx : ∀ K i a A B, Ax K i a A → w.heap.size + 2 ≤ K → Step (w.heap.size + 1) K A B → Ax K i a B)
    (hassign : ∀ (l K i : Nat) (h : i < ys.length) (W : World), I K i W → w.heap.size + 2 ≤ K → K ≤ W.heap.size →
      assign.wpIn (Fence.wide.inRound l) m P (Exit.then (fun a' W' => KpS S w.heap.size K W W' ∧ Ax K i a' W') (fun _ _ _ => False)) { tmps := (ps.zip (ys[i]'h)).foldl (fun t (p, v) => t.setIfInBounds p v) a.tmps, defers := [] } W)
    (hbody : ∀ (l K i : Nat) (h : i < ys.length) (a' : Act) (W : World), Ax K i a' W → w.heap.size + 2 ≤ K → K ≤ W.heap.size → body.wpIn (Fence.wide.inRound l) m P (rpostS S w.heap.size K I i W) a' W)
    (hdone : ∀ (K : Nat) (W : World), w.heap.size + 2 ≤ K → K ≤ W.heap.size → I K ys.length W → W.heap[w.heap.size]? = some (.deferred (some [])) → Q .normal { a with defers := { target := .collected w.heap.size, args := #[] } :: a.defers } W) :
    (Code.rangeFunc g ps assign body).wpIn Fence.wide n P Q a w := by
  refine wpIn_rangeFunc ?_
  intro fn hfn
  obtain ⟨rec, hrec⟩ : ∃ rec : LoopState → Option Code → Loop, rec = fun st pe => { state := st, pending := pe, fn, tmps := a.tmps, params := ps, assign, body, defers := w.heap.size } := ⟨_, rfl⟩
  obtain ⟨W1, hW1⟩ : ∃ W1, (w.alloc (.deferred (some []))).alloc (.loop (rec .ready none)) = W1 := ⟨_, rfl⟩
  have hs1 : W1.heap.size = w.heap.size + 2 := by rw [← hW1]; simp
  have hL1 : W1.heap[w.heap.size + 1]? = some (.loop (rec .ready none)) := by
    rw [← hW1]; have := World.alloc_heap_new (w.alloc (.deferred (some []))) (.loop (rec .ready none)); rwa [World.size_alloc] at this
  have hK1 : W1.heap[w.heap.size]? = some (.deferred (some [])) := by
    rw [← hW1]; exact (Below.heap_alloc _ _ _ (by simp)).trans (World.alloc_heap_new w _)
  have hB1 : Below w.heap.size w W1 := by rw [← hW1]; exact ((Below.refl _ w).alloc (Nat.le_refl _) _).alloc (by simp) _
  have hI1' : I0 W1 := hI0 _ _ h0 hB1
  refine ⟨w.heap.size + 1, [{ target := .collected w.heap.size, args := #[] }], W1, { target := .fn (.func gf) lb, args := #[.func (.yield (w.heap.size + 1)) #[] #[]] }, W1, gf,
    #[.func (.yield (w.heap.size + 1)) #[] #[]] ++ lb, W1, ?_, ?_, ?_, ?_, (fun h => by cases h), ?_⟩
  · rw [← hW1, hrec]; exact run_enterLoop_outer _ _ _ _ _
  · simp only [resolve, hg]
    simp [go_sem]
  · intro f' _; trivial
  · simp [invoke, go_sem, eg]
  · have keep : ∀ {A B : World} {k K : Nat} {o : Obj}, Step W1.heap.size K A B → k < w.heap.size + 2 → A.heap[k]? = some o → B.heap[k]? = some o := fun hb hk h => (hb.block _ (Array.getElem?_eq_some_iff.1 h).1 (by omega)).trans h
    have keep0 : ∀ {A B : World} {k : Nat} {o : Obj}, Below W1.heap.size A B → k < w.heap.size + 2 → A.heap[k]? = some o → B.heap[k]? = some o := fun hb hk h => (hb.block _ (by omega)).trans h
    have hcall := hit (w.heap.size + 1) W1
      (fun W => I0 W ∧ W.heap[w.heap.size + 1]? = some (.loop (rec .ready none)) ∧ W.heap[w.heap.size]? = some (.deferred (some [])))
      (fun K i W => I K i W ∧ W.heap[w.heap.size + 1]? = some (.loop (rec .ready none)) ∧ W.heap[w.heap.size]? = some (.deferred (some [])) ∧ w.heap.size + 2 ≤ K)
      (hB1.mono hn0) (by omega)
      (fun A B h hb => ⟨hI0 _ _ h.1 (hb.mono (by omega)), keep0 hb (by omega) h.2.1, keep0 hb (by omega) h.2.2⟩)
      (fun A h hs => ⟨hI1 _ h.1 (by omega), h.2.1, h.2.2, by omega⟩)
      (fun K i A B h hb => ⟨hI _ _ _ _ h.1 h.2.2.2 (hb.wider (by omega)), keep hb (by omega) h.2.1, keep hb (by omega) h.2.2.1, h.2.2.2⟩)
      ?_ ⟨hI1', hL1, hK1⟩
    · refine (show CallsIn Fence.wide (n - 1) P gf _ W1 _ from ⟨trivial, fun cs hr => hcall.2 cs (room_wide _)⟩).mono ?_
      rintro e W2 ⟨⟨v, rfl⟩, K, hKl, hKu, hi, hl, hk, hK2⟩
      exact ⟨none, _, by have := run_endLoop (P := P) hl (by rw [hrec]; simp); rw [hrec] at this; exact this,
        hdone K _ (by omega) (by simpa using hKu) (hI _ _ _ _ hi hK2 (.put _ _ _ (by omega) (by omega))) ((World.putObj_heap_other (by omega)).trans hk)⟩
    · rintro K i hlt W ⟨hi, hl, hk, hK2⟩ hKl hKu
      have hlW : w.heap.size + 1 < W.heap.size := (Array.getElem?_eq_some_iff.1 hl).1
      have hy := run_yield (P := P) (args := ys[i]) hl (by rw [hrec]; exact hps i hlt)
      rw [hrec] at hy
      refine ⟨fn, _, assign, body, hy, ?_⟩
      have hR : RoundIn Fence.wide m P (w.heap.size + 1) fn ((ps.zip (ys[i]'hlt)).foldl (fun t (p, v) => t.setIfInBounds p v) a.tmps) assign body W (fun e B =>
          e = .returned (.bool true) ∧ (I K (i + 1) B ∧ B.heap[w.heap.size + 1]? = some (.loop (rec .ready none)) ∧ B.heap[w.heap.size]? = some (.deferred (some [])) ∧ w.heap.size + 2 ≤ K) ∧ KpS S W1.heap.size K W B) := by
        refine roundIn_of_wpIn hfn (wpIn_mono (hassign _ K i hlt W hi hK2 (by omega)) ?_)
        rintro e aA Wa hpA
        cases e with
        | normal =>
          obtain ⟨hkA, hax⟩ := hpA
          have hlA := (hkA.block (w.heap.size + 1) (.inr (by omega)) hlW).trans hl
          have hdA := (hkA.block w.heap.size (.inr ⟨Nat.le_refl _, by omega⟩) (by omega)).trans hk
          have hKa : K ≤ Wa.heap.size := Nat.le_trans hKu hkA.size
          refine ⟨_, run_beginRound hlA (by rw [hrec]), ?_⟩
          have hlWa : w.heap.size + 1 < Wa.heap.size := (Array.getElem?_eq_some_iff.1 hlA).1
          have hl2 : (Wa.putObj (w.heap.size + 1) (.loop { rec .ready none with state := .busy })).heap[w.heap.size + 1]? = some (.loop { rec .ready none with state := .busy }) := World.putObj_heap_same hlWa
          have hk2 : (Wa.putObj (w.heap.size + 1) (.loop { rec .ready none with state := .busy })).heap[w.heap.size]? = some (.deferred (some [])) := (World.putObj_heap_other (by omega)).trans hdA
          have hkp2 : KpS S W1.heap.size K W (Wa.putObj (w.heap.size + 1) (.loop { rec .ready none with state := .busy })) := (hkA.mono (by omega)).trans (kps_put _ _ _ (fun q => by have := hS _ q; omega) (by omega))
          have hlW2 : w.heap.size + 1 < (Wa.putObj (w.heap.size + 1) (.loop { rec .ready none with state := .busy })).heap.size := by simpa using hlWa
          refine wpIn_mono (hbody _ K i hlt _ _ (hAx _ _ _ _ _ hax hK2 (.put _ _ _ (by omega) (by omega))) (by omega) (by simpa using hKa)) ?_
          rintro e a3 W3 hp
          cases e with
          | normal =>
            obtain ⟨hk3, hi3⟩ := hp
            have hl3 := (hk3.block (w.heap.size + 1) (.inr (by omega)) hlW2).trans hl2
            have hr := run_endRound (P := P) none hl3
            rw [hrec] at hr
            have hd3 : W3.heap[w.heap.size]? = some (.deferred (some [])) := (hk3.block w.heap.size (.inr ⟨Nat.le_refl _, by omega⟩) (Nat.lt_of_lt_of_le (Nat.lt_succ_self _) (Nat.le_of_lt hlW2))).trans hk2
            have hw3 : w.heap.size + 1 < W3.heap.size := (Array.getElem?_eq_some_iff.1 hl3).1
            refine ⟨_, _, hr, rfl, ⟨hI _ _ _ _ hi3 hK2 (.put _ _ _ (by omega) (by omega)), ?_, ?_, hK2⟩, (hkp2.trans (hk3.mono (by omega))).trans (kps_put _ _ _ (fun q => by have := hS _ q; omega) (by omega))⟩
            · rw [hrec]
              exact World.putObj_heap_same hw3
            · rw [World.putObj_heap_other (by omega)]
              exact hd3
          | ret => exact hp.elim
          | exit id => exact hp.elim
          | goto t => exact hp.elim
          | panic ch => exact hp.elim
          | outgrown => exact hp.elim
        | ret => exact hpA.elim
        | exit id => exact hpA.elim
        | goto t => exact hpA.elim
        | panic ch => exact hpA.elim
        | outgrown => exact hpA.elim
      exact ⟨hR.1, fun c cs hr => hR.2 c cs (room_wide _)⟩

/-- The same; what assigning leaves: a frame with one address of its own. -/
theorem rfy_law {P : Program} {n m : Nat} {g : Operand} {ps : Array Tmp} {assign body : Code} {Q : Exit → Act → World → Prop} {a : Act} {w : World}
    {gf : Nat} {lb : Array Value} (hg : a.eval g = .func (.func gf) #[] lb) (eg : ∀ args w, (callFunc gf args).run P w = .ok (.enter gf args) w)
    {ys : List (Array Value)} {S : Nat → Prop} {n0 : Nat} (hit : IterS P gf lb ys S n0 w) (hn0 : n0 ≤ w.heap.size) (hS : ∀ k, S k → k < n0) (hps : ∀ i (h : i < ys.length), (ys[i]'h).size = ps.size)
    (I0 : World → Prop) (I : Nat → Nat → World → Prop) (hI0 : ∀ A B, I0 A → Below w.heap.size A B → I0 B) (hI1 : ∀ A, I0 A → w.heap.size + 2 ≤ A.heap.size → I A.heap.size 0 A)
    (hI : ∀ K i A B, I K i A → w.heap.size + 2 ≤ K → Step (w.heap.size + 1) K A B → I K i B)
    (h0 : I0 w) (Bx : Nat → Nat → Nat → World → Prop) (hBx : ∀ K i j A B, Bx K i j A → w.heap.size + 2 ≤ K → Step (w.heap.size + 1) K A B → Bx K i j B) (fr : Nat → Nat → Act)
    (hassign : ∀ (l K i : Nat) (h : i < ys.length) (W : World) (R : Act → World → Prop), I K i W → w.heap.size + 2 ≤ K → K ≤ W.heap.size → (∀ j W', KpS S w.heap.size K W W' → Bx K i j W' → R (fr i j) W') →
      assign.wpIn (Fence.wide.inRound l) m P (Exit.then R (fun _ _ _ => False)) { tmps := (ps.zip (ys[i]'h)).foldl (fun t (p, v) => t.setIfInBounds p v) a.tmps, defers := [] } W)
    (hbody : ∀ (l K i : Nat) (h : i < ys.length) (j : Nat) (W : World), Bx K i j W → w.heap.size + 2 ≤ K → K ≤ W.heap.size → body.wpIn (Fence.wide.inRound l) m P (rpostS S w.heap.size K I i W) (fr i j) W)
    (hdone : ∀ (K : Nat) (W : World), w.heap.size + 2 ≤ K → K ≤ W.heap.size → I K ys.length W → W.heap[w.heap.size]? = some (.deferred (some [])) → Q .normal { a with defers := { target := .collected w.heap.size, args := #[] } :: a.defers } W) :
    (Code.rangeFunc g ps assign body).wpIn Fence.wide n P Q a w :=
  rfx_law (m := m) hg eg hit hn0 hS hps I0 I hI0 hI1 hI h0 (fun K i a' W => ∃ j, a' = fr i j ∧ Bx K i j W) (fun K i a' A B ⟨j, h1, h2⟩ hK hs => ⟨j, h1, hBx K i j A B h2 hK hs⟩)
    (fun l K i h W hi hK hKW => hassign l K i h W _ hi hK hKW (fun j W' h1 h2 => ⟨h1, j, rfl, h2⟩))
    (fun l K i h a' W ⟨j, h1, h2⟩ hK hKW => by subst h1; exact hbody l K i h j W h2 hK hKW) hdone

theorem callsIn_round {P : Program} {f : FuncId} {args : Array Value} {w : World} {R : Ending → World → Prop} {l n : Nat} (h : Calls P f args w R) : CallsIn (Fence.wide.inRound l) n P f args w R := (callsIn_wide (n := n)).2 h

/-- make([]T, n) within a fence. -/
theorem wpListIn_make_full {F : Fence} {nF : Nat} {P : Program} (w : World) {ops : Array Oper} {rest : List Oper} {o : Oper} {a : Act} {Q : Exit → Act → World → Prop}
    (hg : o.guard = none) (l c : Operand) (t : TypeId) (hop : o.op = Op.makeSlice t l c)
    (base : Nat) (e : TypeId) (i : TypeInfo) (z : Value) (size : Nat) (h1 : P.underlying t = some (.slice e)) (h2 : P.info? e = some i) (h3 : i.zero = some z) (h4 : i.size = size)
    (kl kc : IntKind) (L C : Int) (n : Nat) (hl : a.eval l = .int kl L) (hc : a.eval c = .int kc C) (hL : L = (n : Int)) (hC : C = (n : Int)) (b2 : i.bytes * n ≤ 281474976710656) (b3 : n ≤ maxLen) (b4 : base ≤ w.heap.size)
    (hK : ∀ w', w'.ownsRow base e size (.slice (some ⟨w.heap.size, 0, none⟩) n n) n (madeCells z.cells (n * size)).toList → w.grownBy w' none → wpListIn F nF P ops Q rest (a.put o.dst (.slice (some ⟨w.heap.size, 0, none⟩) n n)) w') :
    wpListIn F nF P ops Q (o :: rest) a w := by
  refine wpListIn_plain hg fun K hK' => ?_
  obtain ⟨w', hrun, r1, r2⟩ := run_make_full (P := P) w base t e i z size h1 h2 h3 h4 kl kc n b2 b3 b4
  subst hL
  subst hC
  unfold Oper.wpIn
  refine ⟨?_, ?_⟩
  · simp [Oper.about, hop]
  · rw [Oper.semAt_plain F _ _ (by rw [hop]; intro c hc'; cases hc')]
    simp [execOp, hop, hl, hc, hrun, Result.andThen]
    exact hK' _ _ (hK w' r1 r2)

/-- A number for each place. -/
def nums (n : Nat) (f : Nat → Nat) : List Nat := (List.range n).map f
theorem nums_len (n : Nat) (f : Nat → Nat) : (nums n f).length = n := by simp [nums]
theorem nums_get (n : Nat) (f : Nat → Nat) (i : Nat) (hi : i < (nums n f).length) : (nums n f)[i] = f i := by simp [nums]
theorem nums_set (n : Nat) (f : Nat → Nat) (i b : Nat) : (nums n f).set i b = nums n (fun q => if q = i then b else f q) := by
  refine List.ext_getElem (by simp [nums]) ?_
  intro j h1 h2
  rw [List.getElem_set]
  simp only [nums, List.getElem_map, List.getElem_range]
  by_cases h : i = j
  · simp [h]
  · rw [if_neg h, if_neg (fun e => h e.symm)]
theorem nums_congr (n : Nat) (f g : Nat → Nat) (h : ∀ q, q < n → f q = g q) : nums n f = nums n g :=
  List.map_congr_left (fun q hq => h q (List.mem_range.1 hq))
theorem nums_zero (n : Nat) : List.replicate n 0 = nums n (fun _ => 0) := by
  refine List.ext_getElem (by simp [nums]) ?_
  intro i h1 h2
  simp [nums]
theorem nums_put {w : World} {base n g c : Nat} {f : Nat → Nat} (h : EN.Own 3 w base (some ⟨g, 0, none⟩) c (nums n f)) (i : Nat) (hi : i < n) (b : Nat) :
    EN.Own 3 (w.setCell ⟨g, i, none⟩ (.int .i64 (b : Int))) base (some ⟨g, 0, none⟩) c (nums n (fun q => if q = i then b else f q)) := by
  rw [← nums_set]
  exact h.set i (by rw [nums_len]; exact hi) 0 (by decide) b (.int .i64 (b : Int)) rfl i (by show i = i * 1 + 0; omega)
theorem nums_cell {w : World} {base n g c : Nat} {f : Nat → Nat} (h : EN.Own 3 w base (some ⟨g, 0, none⟩) c (nums n f)) (i : Nat) (hi : i < n) : w.cell? ⟨g, i, none⟩ = some (.int .i64 (f i : Int)) := by
  have hi' : i < (nums n f).length := by rw [nums_len]; exact hi
  have := h.at_ i hi' 0 (.int .i64 (f i : Int)) (by rw [nums_get]; rfl)
  simpa [EN] using this
end Go.Proofs.Ytfjbanfibmpalaa

/- Words: a range over a function, the iterator laying blocks of its own in every round. -/
set_option linter.unusedVariables false
set_option linter.unusedSimpArgs false
namespace Go.Proofs.Ytfjbanfibmpalaa
open Go.RowKit Go.Shelf

/-- What is of Q is as it was. -/
structure KpQ (Q : Nat → Prop) (A B : World) : Prop where
  os : B.os = A.os
  tape : B.tape = A.tape
  output : B.output = A.output
  size : A.heap.size ≤ B.heap.size
  block : ∀ k, Q k → k < A.heap.size → B.heap[k]? = A.heap[k]?
/-- Nothing has turned but what is of T. -/
structure StepT (T : Nat → Prop) (A B : World) : Prop where
  os : B.os = A.os
  tape : B.tape = A.tape
  output : B.output = A.output
  size : A.heap.size ≤ B.heap.size
  block : ∀ k, k < A.heap.size → ¬ T k → B.heap[k]? = A.heap[k]?

section
variable {Q T : Nat → Prop} {A B C : World}
theorem KpQ.refl (Q : Nat → Prop) (A : World) : KpQ Q A A := ⟨rfl, rfl, rfl, Nat.le_refl _, fun _ _ _ => rfl⟩
theorem KpQ.trans (h : KpQ Q A B) (k : KpQ Q B C) : KpQ Q A C :=
  ⟨k.os.trans h.os, k.tape.trans h.tape, k.output.trans h.output, Nat.le_trans h.size k.size, fun i hi hl => (k.block i hi (Nat.lt_of_lt_of_le hl h.size)).trans (h.block i hi hl)⟩
theorem KpQ.mono {Q' : Nat → Prop} (h : KpQ Q A B) (hq : ∀ k, Q' k → Q k) : KpQ Q' A B := ⟨h.os, h.tape, h.output, h.size, fun k hk hl => h.block k (hq k hk) hl⟩
theorem KpQ.of_below (h : Below A.heap.size A B) : KpQ Q A B := ⟨h.os, h.tape, h.output, h.size, fun k _ hl => h.block k hl⟩
theorem KpQ.setCell (h : KpQ Q A B) {p : Addr} (h0 : ¬ Q p.block) (u : Value) : KpQ Q A (B.setCell p u) :=
  ⟨h.os, h.tape, h.output, by simpa using h.size, fun k hk hl => (Below.heap_setCell B p u k (fun e => by subst e; exact h0 hk)).trans (h.block k hk hl)⟩
theorem KpQ.alloc (h : KpQ Q A B) (o : Obj) : KpQ Q A (B.alloc o) :=
  h.trans ⟨rfl, rfl, rfl, by simp, fun k _ hl => Below.heap_alloc B o k hl⟩
theorem KpQ.grown {row : Option Nat} (h : KpQ Q A B) (hg : B.grownBy C row) (hr : ∀ k, row = some k → ¬ Q k) : KpQ Q A C :=
  ⟨hg.os.trans h.os, hg.tape.trans h.tape, hg.output.trans h.output, Nat.le_trans h.size hg.size, fun k hk hl => (hg.block k (Nat.lt_of_lt_of_le hl h.size) (fun e => hr k e.symm hk)).trans (h.block k hk hl)⟩
theorem StepT.refl (T : Nat → Prop) (A : World) : StepT T A A := ⟨rfl, rfl, rfl, Nat.le_refl _, fun _ _ _ => rfl⟩
theorem StepT.of_below (h : Below A.heap.size A B) : StepT T A B := ⟨h.os, h.tape, h.output, h.size, fun k hk _ => h.block k hk⟩
theorem StepT.mono {T' : Nat → Prop} (h : StepT T A B) (ht : ∀ k, T k → T' k) : StepT T' A B := ⟨h.os, h.tape, h.output, h.size, fun k hk hn => h.block k hk (fun q => hn (ht k q))⟩
theorem StepT.trans (h : StepT T A B) (k : StepT T B C) : StepT T A C :=
  ⟨k.os.trans h.os, k.tape.trans h.tape, k.output.trans h.output, Nat.le_trans h.size k.size, fun i hi hn => (k.block i (Nat.lt_of_lt_of_le hi h.size) hn).trans (h.block i hi hn)⟩
theorem StepT.put (W : World) (l : Nat) (o : Obj) (h : T l) : StepT T W (W.putObj l o) :=
  ⟨rfl, rfl, rfl, by simp, fun k _ hn => World.putObj_heap_other (fun e => by (first | exact hn (e ▸ h) | exact hn (e.symm ▸ h)))⟩
theorem kpq_put (W : World) (l : Nat) (o : Obj) (h : ¬ Q l) : KpQ Q W (W.putObj l o) :=
  ⟨rfl, rfl, rfl, by simp, fun k hk _ => World.putObj_heap_other (fun e => by (first | exact h (e ▸ hk) | exact h (e.symm ▸ hk)))⟩
end

/-- An iterator's value, with a growing set of blocks of its own. -/
def IterT (P : Program) (gf : Nat) (lb : Array Value) (ys : List (Array Value)) (S : Nat → Prop) (n0 : Nat) (w0 : World) : Prop :=
  ∀ (l : Nat) (W : World) (P0 : World → Prop) (J : (Nat → Prop) → Nat → World → Prop), Below n0 w0 W → n0 ≤ W.heap.size →
    (∀ A B, P0 A → Below W.heap.size A B → P0 B) → (∀ T A, P0 A → (∀ k, T k → W.heap.size ≤ k ∧ k < A.heap.size) → W.heap.size ≤ A.heap.size → J T 0 A) →
    (∀ T T' i A B, J T i A → StepT T A B → (∀ k, T k → T' k) → (∀ k, T' k → T k ∨ (A.heap.size ≤ k ∧ k < B.heap.size)) → J T' i B) →
    (∀ T i (h : i < ys.length) A, J T i A → (∀ k, T k → W.heap.size ≤ k ∧ k < A.heap.size) → W.heap.size ≤ A.heap.size → YieldAt Fence.wide 0 P l (ys[i]'h) A fun e B =>
      e = .returned (.bool true) ∧ J T (i + 1) B ∧ KpQ (fun k => S k ∨ T k) A B) →
    P0 W → CallsIn Fence.wide 0 P gf (#[.func (.yield l) #[] #[]] ++ lb) W fun e B => (∃ v, e = .returned v) ∧ ∃ T, (∀ k, T k → W.heap.size ≤ k ∧ k < B.heap.size) ∧ W.heap.size ≤ B.heap.size ∧ J T ys.length B

theorem IterT.later {P : Program} {gf : Nat} {lb : Array Value} {ys : List (Array Value)} {S : Nat → Prop} {n0 : Nat} {w0 w1 : World} (h : IterT P gf lb ys S n0 w0) (hb : Below n0 w0 w1) : IterT P gf lb ys S n0 w1 :=
  fun l W P0 J hW => h l W P0 J (hb.trans hW)

/-- How a round may end. -/
def rpostT (Q : Nat → Prop) (I : Nat → World → Prop) (i : Nat) (W : World) : Exit → Act → World → Prop
  | .normal, _, W' => KpQ Q W W' ∧ I (i + 1) W'
  | _, _, _ => False

theorem rft_law {P : Program} {n m : Nat} {g : Operand} {ps : Array Tmp} {assign body : Code} {Q : Exit → Act → World → Prop} {a : Act} {w : World}
    {gf : Nat} {lb : Array Value} (hg : a.eval g = .func (.func gf) #[] lb) (eg : ∀ args w, (callFunc gf args).run P w = .ok (.enter gf args) w)
    {ys : List (Array Value)} {S : Nat → Prop} {n0 : Nat} (hit : IterT P gf lb ys S n0 w) (hn0 : n0 ≤ w.heap.size) (hS : ∀ k, S k → k < n0) (hps : ∀ i (h : i < ys.length), (ys[i]'h).size = ps.size)
    (I0 : World → Prop) (I : (Nat → Prop) → Nat → World → Prop) (hI0 : ∀ A B, I0 A → Below w.heap.size A B → I0 B)
    (hI1 : ∀ T A, I0 A → (∀ k, T k → w.heap.size ≤ k ∧ k < A.heap.size) → w.heap.size + 2 ≤ A.heap.size → I T 0 A)
    (hI : ∀ T T' i A B, I T i A → StepT T A B → (∀ k, T k → T' k) → (∀ k, T' k → T k ∨ (A.heap.size ≤ k ∧ k < B.heap.size)) → I T' i B)
    (h0 : I0 w) (Ax : (Nat → Prop) → Nat → Act → World → Prop) (hAx : ∀ T i a A B, Ax T i a A → StepT T A B → Ax T i a B)
    (hassign : ∀ (l : Nat) (T : Nat → Prop) (i : Nat) (h : i < ys.length) (W : World), I T i W → (∀ k, T k → w.heap.size ≤ k ∧ k < W.heap.size) → w.heap.size + 2 ≤ W.heap.size →
      assign.wpIn (Fence.wide.inRound l) m P (Exit.then (fun a' W' => KpQ (fun k => S k ∨ T k) W W' ∧ Ax T i a' W') (fun _ _ _ => False)) { tmps := (ps.zip (ys[i]'h)).foldl (fun t (p, v) => t.setIfInBounds p v) a.tmps, defers := [] } W)
    (hbody : ∀ (l : Nat) (T : Nat → Prop) (i : Nat) (h : i < ys.length) (a' : Act) (W : World), Ax T i a' W → (∀ k, T k → w.heap.size ≤ k ∧ k < W.heap.size) → w.heap.size + 2 ≤ W.heap.size →
      body.wpIn (Fence.wide.inRound l) m P (rpostT (fun k => S k ∨ T k) (I T) i W) a' W)
    (hdone : ∀ (T : Nat → Prop) (W : World), w.heap.size + 2 ≤ W.heap.size → I T ys.length W → W.heap[w.heap.size]? = some (.deferred (some [])) → Q .normal { a with defers := { target := .collected w.heap.size, args := #[] } :: a.defers } W) :
    (Code.rangeFunc g ps assign body).wpIn Fence.wide n P Q a w := by
  refine wpIn_rangeFunc ?_
  intro fn hfn
  obtain ⟨rec, hrec⟩ : ∃ rec : LoopState → Option Code → Loop, rec = fun st pe => { state := st, pending := pe, fn, tmps := a.tmps, params := ps, assign, body, defers := w.heap.size } := ⟨_, rfl⟩
  obtain ⟨W1, hW1⟩ : ∃ W1, (w.alloc (.deferred (some []))).alloc (.loop (rec .ready none)) = W1 := ⟨_, rfl⟩
  have hs1 : W1.heap.size = w.heap.size + 2 := by rw [← hW1]; simp
  have hL1 : W1.heap[w.heap.size + 1]? = some (.loop (rec .ready none)) := by
    rw [← hW1]; have := World.alloc_heap_new (w.alloc (.deferred (some []))) (.loop (rec .ready none)); rwa [World.size_alloc] at this
  have hK1 : W1.heap[w.heap.size]? = some (.deferred (some [])) := by
    rw [← hW1]; exact (Below.heap_alloc _ _ _ (by simp)).trans (World.alloc_heap_new w _)
  have hB1 : Below w.heap.size w W1 := by rw [← hW1]; exact ((Below.refl _ w).alloc (Nat.le_refl _) _).alloc (by simp) _
  have hI1' : I0 W1 := hI0 _ _ h0 hB1
  refine ⟨w.heap.size + 1, [{ target := .collected w.heap.size, args := #[] }], W1, { target := .fn (.func gf) lb, args := #[.func (.yield (w.heap.size + 1)) #[] #[]] }, W1, gf,
    #[.func (.yield (w.heap.size + 1)) #[] #[]] ++ lb, W1, ?_, ?_, ?_, ?_, (fun h => by cases h), ?_⟩
  · rw [← hW1, hrec]; exact run_enterLoop_outer _ _ _ _ _
  · simp only [resolve, hg]
    simp [go_sem]
  · intro f' _; trivial
  · simp [invoke, go_sem, eg]
  · obtain ⟨U, hU⟩ : ∃ U : (Nat → Prop) → Nat → Prop, U = fun T k => T k ∨ k = w.heap.size ∨ k = w.heap.size + 1 := ⟨_, rfl⟩
    have hUm : ∀ T k, T k → U T k := fun T k h => by rw [hU]; exact .inl h
    have hU0 : ∀ T, U T w.heap.size := fun T => by rw [hU]; exact .inr (.inl rfl)
    have hU1 : ∀ T, U T (w.heap.size + 1) := fun T => by rw [hU]; exact .inr (.inr rfl)
    have hUb : ∀ T (A : World), (∀ k, T k → W1.heap.size ≤ k ∧ k < A.heap.size) → w.heap.size + 2 ≤ A.heap.size → ∀ k, U T k → w.heap.size ≤ k ∧ k < A.heap.size := fun T A h hs k hk => by
      rw [hU] at hk
      rcases hk with q | q | q
      · have := h k q; omega
      · omega
      · omega
    have keep : ∀ {A B : World} {T : Nat → Prop} {k : Nat} {o : Obj}, StepT T A B → (∀ k, T k → W1.heap.size ≤ k ∧ k < A.heap.size) → k < w.heap.size + 2 → A.heap[k]? = some o → B.heap[k]? = some o :=
      fun hb hT hk h => (hb.block _ (Array.getElem?_eq_some_iff.1 h).1 (fun q => by have := hT _ q; omega)).trans h
    have keep0 : ∀ {A B : World} {k : Nat} {o : Obj}, Below W1.heap.size A B → k < w.heap.size + 2 → A.heap[k]? = some o → B.heap[k]? = some o := fun hb hk h => (hb.block _ (by omega)).trans h
    have hcall := hit (w.heap.size + 1) W1
      (fun W => I0 W ∧ W.heap[w.heap.size + 1]? = some (.loop (rec .ready none)) ∧ W.heap[w.heap.size]? = some (.deferred (some [])))
      (fun T i W => I (U T) i W ∧ W.heap[w.heap.size + 1]? = some (.loop (rec .ready none)) ∧ W.heap[w.heap.size]? = some (.deferred (some [])) ∧ (∀ k, T k → W1.heap.size ≤ k ∧ k < W.heap.size))
      (hB1.mono hn0) (by omega)
      (fun A B h hb => ⟨hI0 _ _ h.1 (hb.mono (by omega)), keep0 hb (by omega) h.2.1, keep0 hb (by omega) h.2.2⟩)
      (fun T A h hT hs => ⟨hI1 _ _ h.1 (hUb T A hT (by omega)) (by omega), h.2.1, h.2.2, hT⟩)
      (fun T T' i A B h hb h1 h2 => ⟨hI _ _ _ _ _ h.1 (hb.mono (hUm T)) (fun k hk => by rw [hU] at hk ⊢; exact hk.imp (h1 k) id) (fun k hk => by
          rw [hU] at hk ⊢
          rcases hk with q | q
          · exact (h2 k q).imp .inl id
          · exact .inl (.inr q)), keep hb h.2.2.2 (by omega) h.2.1, keep hb h.2.2.2 (by omega) h.2.2.1, fun k hk => by
          have hsz := hb.size
          rcases h2 k hk with q | q
          · have := h.2.2.2 k q; omega
          · have := (Array.getElem?_eq_some_iff.1 h.2.1).1; omega⟩)
      ?_ ⟨hI1', hL1, hK1⟩
    · refine (show CallsIn Fence.wide (n - 1) P gf _ W1 _ from ⟨trivial, fun cs hr => hcall.2 cs (room_wide _)⟩).mono ?_
      rintro e W2 ⟨⟨v, rfl⟩, T, hT, hsz, hi, hl, hk, _⟩
      exact ⟨none, _, by have := run_endLoop (P := P) hl (by rw [hrec]; simp); rw [hrec] at this; exact this,
        hdone (U T) _ (by simp; omega) (hI _ _ _ _ _ hi (.put _ _ _ (hU1 T)) (fun _ h => h) (fun _ h => .inl h)) ((World.putObj_heap_other (by omega)).trans hk)⟩
    · rintro T i hlt W ⟨hi, hl, hk, hT0⟩ hT hsW
      have hlW : w.heap.size + 1 < W.heap.size := (Array.getElem?_eq_some_iff.1 hl).1
      have hTW := hUb T W hT (by omega)
      have hy := run_yield (P := P) (args := ys[i]) hl (by rw [hrec]; exact hps i hlt)
      rw [hrec] at hy
      refine ⟨fn, _, assign, body, hy, ?_⟩
      have hnl : ¬ (S (w.heap.size + 1) ∨ T (w.heap.size + 1)) := by
        rintro (q | q)
        · have := hS _ q; omega
        · have := hT _ q; omega
      have hQ : ∀ k, (S k ∨ T k) → (S k ∨ U T k) := fun k hk => hk.imp id (hUm T k)
      have hR : RoundIn Fence.wide m P (w.heap.size + 1) fn ((ps.zip (ys[i]'hlt)).foldl (fun t (p, v) => t.setIfInBounds p v) a.tmps) assign body W (fun e B =>
          e = .returned (.bool true) ∧ (I (U T) (i + 1) B ∧ B.heap[w.heap.size + 1]? = some (.loop (rec .ready none)) ∧ B.heap[w.heap.size]? = some (.deferred (some [])) ∧ (∀ k, T k → W1.heap.size ≤ k ∧ k < B.heap.size)) ∧ KpQ (fun k => S k ∨ T k) W B) := by
        refine roundIn_of_wpIn hfn (wpIn_mono (hassign _ (U T) i hlt W hi hTW (by omega)) ?_)
        rintro e aA Wa hpA
        cases e with
        | normal =>
          obtain ⟨hkA, hax⟩ := hpA
          have hlA := (hkA.block (w.heap.size + 1) (.inr (hU1 T)) hlW).trans hl
          have hdA := (hkA.block w.heap.size (.inr (hU0 T)) (by omega)).trans hk
          refine ⟨_, run_beginRound hlA (by rw [hrec]), ?_⟩
          have hlWa : w.heap.size + 1 < Wa.heap.size := (Array.getElem?_eq_some_iff.1 hlA).1
          have hl2 : (Wa.putObj (w.heap.size + 1) (.loop { rec .ready none with state := .busy })).heap[w.heap.size + 1]? = some (.loop { rec .ready none with state := .busy }) := World.putObj_heap_same hlWa
          have hk2 : (Wa.putObj (w.heap.size + 1) (.loop { rec .ready none with state := .busy })).heap[w.heap.size]? = some (.deferred (some [])) := (World.putObj_heap_other (by omega)).trans hdA
          have hkp2 : KpQ (fun k => S k ∨ T k) W (Wa.putObj (w.heap.size + 1) (.loop { rec .ready none with state := .busy })) := (hkA.mono hQ).trans (kpq_put _ _ _ hnl)
          have hlW2 : w.heap.size + 1 < (Wa.putObj (w.heap.size + 1) (.loop { rec .ready none with state := .busy })).heap.size := by simpa using hlWa
          have hsa := hkA.size
          refine wpIn_mono (hbody _ (U T) i hlt _ _ (hAx _ _ _ _ _ hax (.put _ _ _ (hU1 T))) (fun k hk => by have := hTW k hk; simp; omega) (by simp; omega)) ?_
          rintro e a3 W3 hp
          cases e with
          | normal =>
            obtain ⟨hk3, hi3⟩ := hp
            have hl3 := (hk3.block (w.heap.size + 1) (.inr (hU1 T)) hlW2).trans hl2
            have hr := run_endRound (P := P) none hl3
            rw [hrec] at hr
            have hd3 : W3.heap[w.heap.size]? = some (.deferred (some [])) := (hk3.block w.heap.size (.inr (hU0 T)) (Nat.lt_of_lt_of_le (Nat.lt_succ_self _) (Nat.le_of_lt hlW2))).trans hk2
            have hw3 : w.heap.size + 1 < W3.heap.size := (Array.getElem?_eq_some_iff.1 hl3).1
            have hs3 := hk3.size
            have hs5 : W.heap.size ≤ W3.heap.size := Nat.le_trans hsa (Nat.le_trans (Nat.le_of_eq (by simp)) hs3)
            refine ⟨_, _, hr, rfl, ⟨hI _ _ _ _ _ hi3 (.put _ _ _ (hU1 T)) (fun _ h => h) (fun _ h => .inl h), ?_, ?_, fun k hk => by have := hT k hk; simp; omega⟩, (hkp2.trans (hk3.mono hQ)).trans (kpq_put _ _ _ hnl)⟩
            · rw [hrec]
              exact World.putObj_heap_same hw3
            · rw [World.putObj_heap_other (by omega)]
              exact hd3
          | ret => exact hp.elim
          | exit id => exact hp.elim
          | goto t => exact hp.elim
          | panic ch => exact hp.elim
          | outgrown => exact hp.elim
        | ret => exact hpA.elim
        | exit id => exact hpA.elim
        | goto t => exact hpA.elim
        | panic ch => exact hpA.elim
        | outgrown => exact hpA.elim
      exact ⟨hR.1, fun c cs hr => hR.2 c cs (room_wide _)⟩
/-- The same; assigning leaves the world alone. -/
theorem rfts_law {P : Program} {n m : Nat} {g : Operand} {ps : Array Tmp} {assign body : Code} {Q : Exit → Act → World → Prop} {a : Act} {w : World}
    {gf : Nat} {lb : Array Value} (hg : a.eval g = .func (.func gf) #[] lb) (eg : ∀ args w, (callFunc gf args).run P w = .ok (.enter gf args) w)
    {ys : List (Array Value)} {S : Nat → Prop} {n0 : Nat} (hit : IterT P gf lb ys S n0 w) (hn0 : n0 ≤ w.heap.size) (hS : ∀ k, S k → k < n0) (hps : ∀ i (h : i < ys.length), (ys[i]'h).size = ps.size)
    (I0 : World → Prop) (I : (Nat → Prop) → Nat → World → Prop) (hI0 : ∀ A B, I0 A → Below w.heap.size A B → I0 B)
    (hI1 : ∀ T A, I0 A → (∀ k, T k → w.heap.size ≤ k ∧ k < A.heap.size) → w.heap.size + 2 ≤ A.heap.size → I T 0 A)
    (hI : ∀ T T' i A B, I T i A → StepT T A B → (∀ k, T k → T' k) → (∀ k, T' k → T k ∨ (A.heap.size ≤ k ∧ k < B.heap.size)) → I T' i B)
    (h0 : I0 w) (a₁ : Nat → Act)
    (hassign : ∀ (l i : Nat) (h : i < ys.length) (W : World) (K : Act → World → Prop), K (a₁ i) W →
      assign.wpIn (Fence.wide.inRound l) m P (Exit.then K (fun _ _ _ => False)) { tmps := (ps.zip (ys[i]'h)).foldl (fun t (p, v) => t.setIfInBounds p v) a.tmps, defers := [] } W)
    (hbody : ∀ (l : Nat) (T : Nat → Prop) (i : Nat) (h : i < ys.length) (W : World), I T i W → (∀ k, T k → w.heap.size ≤ k ∧ k < W.heap.size) → w.heap.size + 2 ≤ W.heap.size →
      body.wpIn (Fence.wide.inRound l) m P (rpostT (fun k => S k ∨ T k) (I T) i W) (a₁ i) W)
    (hdone : ∀ (T : Nat → Prop) (W : World), w.heap.size + 2 ≤ W.heap.size → I T ys.length W → W.heap[w.heap.size]? = some (.deferred (some [])) → Q .normal { a with defers := { target := .collected w.heap.size, args := #[] } :: a.defers } W) :
    (Code.rangeFunc g ps assign body).wpIn Fence.wide n P Q a w :=
  rft_law (m := m) hg eg hit hn0 hS hps I0 I hI0 hI1 hI h0 (fun T i a' W => a' = a₁ i ∧ I T i W) (fun T i a' A B ⟨h1, h2⟩ hs => ⟨h1, hI T T i A B h2 hs (fun _ q => q) (fun _ q => .inl q)⟩)
    (fun l T i h W hi hT hz => hassign l i h W _ ⟨.refl _ _, rfl, hi⟩)
    (fun l T i h a' W ⟨h1, h2⟩ hT hz => by subst h1; exact hbody l T i h W h2 hT hz) hdone

/-- The same; what assigning leaves: a frame with one address of its own. -/
theorem rfty_law {P : Program} {n m : Nat} {g : Operand} {ps : Array Tmp} {assign body : Code} {Q : Exit → Act → World → Prop} {a : Act} {w : World}
    {gf : Nat} {lb : Array Value} (hg : a.eval g = .func (.func gf) #[] lb) (eg : ∀ args w, (callFunc gf args).run P w = .ok (.enter gf args) w)
    {ys : List (Array Value)} {S : Nat → Prop} {n0 : Nat} (hit : IterT P gf lb ys S n0 w) (hn0 : n0 ≤ w.heap.size) (hS : ∀ k, S k → k < n0) (hps : ∀ i (h : i < ys.length), (ys[i]'h).size = ps.size)
    (I0 : World → Prop) (I : (Nat → Prop) → Nat → World → Prop) (hI0 : ∀ A B, I0 A → Below w.heap.size A B → I0 B)
    (hI1 : ∀ T A, I0 A → (∀ k, T k → w.heap.size ≤ k ∧ k < A.heap.size) → w.heap.size + 2 ≤ A.heap.size → I T 0 A)
    (hI : ∀ T T' i A B, I T i A → StepT T A B → (∀ k, T k → T' k) → (∀ k, T' k → T k ∨ (A.heap.size ≤ k ∧ k < B.heap.size)) → I T' i B)
    (h0 : I0 w) (Bx : (Nat → Prop) → Nat → Nat → World → Prop) (hBx : ∀ T i j A B, Bx T i j A → StepT T A B → Bx T i j B) (fr : Nat → Nat → Act)
    (hassign : ∀ (l : Nat) (T : Nat → Prop) (i : Nat) (h : i < ys.length) (W : World) (R : Act → World → Prop), I T i W → (∀ k, T k → w.heap.size ≤ k ∧ k < W.heap.size) → w.heap.size + 2 ≤ W.heap.size →
      (∀ j W', KpQ (fun k => S k ∨ T k) W W' → Bx T i j W' → R (fr i j) W') →
      assign.wpIn (Fence.wide.inRound l) m P (Exit.then R (fun _ _ _ => False)) { tmps := (ps.zip (ys[i]'h)).foldl (fun t (p, v) => t.setIfInBounds p v) a.tmps, defers := [] } W)
    (hbody : ∀ (l : Nat) (T : Nat → Prop) (i : Nat) (h : i < ys.length) (j : Nat) (W : World), Bx T i j W → (∀ k, T k → w.heap.size ≤ k ∧ k < W.heap.size) → w.heap.size + 2 ≤ W.heap.size →
      body.wpIn (Fence.wide.inRound l) m P (rpostT (fun k => S k ∨ T k) (I T) i W) (fr i j) W)
    (hdone : ∀ (T : Nat → Prop) (W : World), w.heap.size + 2 ≤ W.heap.size → I T ys.length W → W.heap[w.heap.size]? = some (.deferred (some [])) → Q .normal { a with defers := { target := .collected w.heap.size, args := #[] } :: a.defers } W) :
    (Code.rangeFunc g ps assign body).wpIn Fence.wide n P Q a w :=
  rft_law (m := m) hg eg hit hn0 hS hps I0 I hI0 hI1 hI h0 (fun T i a' W => ∃ j, a' = fr i j ∧ Bx T i j W) (fun T i a' A B ⟨j, h1, h2⟩ hs => ⟨j, h1, hBx T i j A B h2 hs⟩)
    (fun l T i h W hi hT hz => hassign l T i h W _ hi hT hz (fun j W' h1 h2 => ⟨h1, j, rfl, h2⟩))
    (fun l T i h a' W ⟨j, h1, h2⟩ hT hz => by subst h1; exact hbody l T i h j W h2 hT hz) hdone
end Go.Proofs.Ytfjbanfibmpalaa

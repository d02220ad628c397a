/- Words: a range over a function, the iterator writing nothing that was there when the loop began; the body writing the caller's own blocks alone. -/
import Derived.RangeFuncNested
import Derived.RangeFuncBound
import Derived.RangeFuncCalls
import Derived.RangeFuncLeaves
import Derived.Shelf.Abstract
import Derived.Shelf.RegionOpen
import Derived.OwnWalkIn
import Derived.TacticsInMore
import Derived.LoopNIn
import Derived.LoopIn
import Derived.Test.YtfjbanfibmpalaaK9
set_option linter.unusedVariables false
set_option linter.unusedSimpArgs false
namespace Go.Proofs.Ytfjbanfibmpalaa
open Go.RowKit Go.Shelf

/-- What lies from m0 to n0, or from N to K, is as it was. -/
structure KpB (m0 n0 N K : Nat) (A B : World) : Prop where
  os : B.os = A.os
  tape : B.tape = A.tape
  output : B.output = A.output
  size : A.heap.size ≤ B.heap.size
  block : ∀ k, ((m0 ≤ k ∧ k < n0) ∨ (N ≤ k ∧ k < K)) → k < A.heap.size → B.heap[k]? = A.heap[k]?

section
variable {m0 n0 N K : Nat} {A B C : World}
theorem KpB.refl (m0 n0 N K : Nat) (A : World) : KpB m0 n0 N K A A := ⟨rfl, rfl, rfl, Nat.le_refl _, fun _ _ _ => rfl⟩
theorem KpB.trans (h : KpB m0 n0 N K A B) (k : KpB m0 n0 N K B C) : KpB m0 n0 N K A C :=
  ⟨k.os.trans h.os, k.tape.trans h.tape, k.output.trans h.output, Nat.le_trans h.size k.size, fun i hi hl => (k.block i hi (Nat.lt_of_lt_of_le hl h.size)).trans (h.block i hi hl)⟩
theorem KpB.mono {n1 M : Nat} (h : KpB m0 n0 N K A B) (h0 : n1 ≤ n0) (hN : N ≤ M) : KpB m0 n1 M K A B :=
  ⟨h.os, h.tape, h.output, h.size, fun k hk hl => h.block k (by omega) hl⟩
theorem KpB.alloc (h : KpB m0 n0 N K A B) (o : Obj) : KpB m0 n0 N K A (B.alloc o) :=
  h.trans ⟨rfl, rfl, rfl, by simp, fun k _ hl => Below.heap_alloc B o k hl⟩
theorem KpB.drew (h : KpB m0 n0 N K A B) : KpB m0 n0 N K A B.drew := ⟨h.os, h.tape, h.output, h.size, h.block⟩
theorem KpB.drewN (h : KpB m0 n0 N K A B) (m : Nat) : KpB m0 n0 N K A (B.drewN m) := ⟨h.os, h.tape, h.output, h.size, h.block⟩
theorem KpB.setCell (h : KpB m0 n0 N K A B) {p : Addr} (h0 : p.block < m0 ∨ n0 ≤ p.block) (hN : p.block < N ∨ K ≤ p.block) (u : Value) : KpB m0 n0 N K A (B.setCell p u) :=
  ⟨h.os, h.tape, h.output, by simpa using h.size, fun k hk hl => (Below.heap_setCell B p u k (by omega)).trans (h.block k hk hl)⟩
theorem KpB.of_below (h : Below A.heap.size A B) : KpB m0 n0 N K A B := ⟨h.os, h.tape, h.output, h.size, fun k _ hl => h.block k hl⟩
theorem KpB.then_below (h : KpB m0 n0 N K A B) (h2 : Below B.heap.size B C) : KpB m0 n0 N K A C := h.trans (.of_below h2)
theorem KpB.grown {row : Option Nat} (h : KpB m0 n0 N K A B) (hg : B.grownBy C row) (hr : ∀ k, row = some k → (k < m0 ∨ n0 ≤ k) ∧ (k < N ∨ K ≤ k)) : KpB m0 n0 N K A C :=
  ⟨hg.os.trans h.os, hg.tape.trans h.tape, hg.output.trans h.output, Nat.le_trans h.size hg.size, fun k hk hl => (hg.block k (Nat.lt_of_lt_of_le hl h.size) (fun e => by have := hr k e.symm; omega)).trans (h.block k hk hl)⟩
end

theorem below_put {B : Nat} (W : World) (l : Nat) (o : Obj) (hl : B ≤ l) : Below B W (W.putObj l o) :=
  ⟨rfl, rfl, rfl, by simp, fun k hk => World.putObj_heap_other (by omega)⟩
theorem kp_put {m0 n0 N K : Nat} (W : World) (l : Nat) (o : Obj) (h0 : n0 ≤ l) (hl : l < N) : KpB m0 n0 N K W (W.putObj l o) :=
  ⟨rfl, rfl, rfl, by simp, fun k hk _ => World.putObj_heap_other (by omega)⟩

/-- A step of an iterator that owns what lies from N to K: nothing else that was there has turned. -/
structure Step (N K : Nat) (A B : World) : Prop where
  os : B.os = A.os
  tape : B.tape = A.tape
  output : B.output = A.output
  size : A.heap.size ≤ B.heap.size
  block : ∀ k, k < A.heap.size → ¬ (N ≤ k ∧ k < K) → B.heap[k]? = A.heap[k]?

section
variable {N K : Nat} {A B C : World}
theorem Step.refl (N K : Nat) (A : World) : Step N K A A := ⟨rfl, rfl, rfl, Nat.le_refl _, fun _ _ _ => rfl⟩
theorem Step.of_below (h : Below A.heap.size A B) : Step N K A B := ⟨h.os, h.tape, h.output, h.size, fun k hk _ => h.block k hk⟩
theorem Step.trans (h : Step N K A B) (k : Step N K B C) : Step N K A C :=
  ⟨k.os.trans h.os, k.tape.trans h.tape, k.output.trans h.output, Nat.le_trans h.size k.size, fun i hi hn => (k.block i (Nat.lt_of_lt_of_le hi h.size) hn).trans (h.block i hi hn)⟩
theorem Step.setCell (h : Step N K A B) {p : Addr} (h1 : N ≤ p.block) (h2 : p.block < K ∨ A.heap.size ≤ p.block) (u : Value) : Step N K A (B.setCell p u) :=
  ⟨h.os, h.tape, h.output, by simpa using h.size, fun k hk hl => (Below.heap_setCell B p u k (by omega)).trans (h.block k hk hl)⟩
theorem Step.wider {M : Nat} (h : Step N K A B) (h1 : M ≤ N) : Step M K A B :=
  ⟨h.os, h.tape, h.output, h.size, fun k hk hn => h.block k hk (by omega)⟩
theorem Step.below {B0 : Nat} (h : Step N K A B) (h1 : B0 ≤ N) (h2 : B0 ≤ A.heap.size) : Below B0 A B := ⟨h.os, h.tape, h.output, h.size, fun k hk => h.block k (by omega) (by omega)⟩
theorem Step.put (W : World) (l : Nat) (o : Obj) (h1 : N ≤ l) (h2 : l < K) : Step N K W (W.putObj l o) :=
  ⟨rfl, rfl, rfl, by simp, fun k _ hn => World.putObj_heap_other (by omega)⟩
end

/-- An iterator's value: it yields just these, one behind the other, where every round goes on. What it keeps for itself it has laid ahead of the first round. -/
def Iter (P : Program) (gf : Nat) (lb : Array Value) (ys : List (Array Value)) (m0 n0 : Nat) (w0 : World) : Prop :=
  ∀ (l : Nat) (W : World) (P0 : World → Prop) (J : Nat → Nat → World → Prop), Below n0 w0 W → n0 ≤ W.heap.size →
    (∀ A B, P0 A → Below W.heap.size A B → P0 B) → (∀ A, P0 A → W.heap.size ≤ A.heap.size → J A.heap.size 0 A) →
    (∀ K i A B, J K i A → Step W.heap.size K A B → J K i B) →
    (∀ K i (h : i < ys.length) A, J K i A → W.heap.size ≤ K → K ≤ A.heap.size → YieldAt Fence.wide 0 P l (ys[i]'h) A fun e B =>
      e = .returned (.bool true) ∧ J K (i + 1) B ∧ KpB m0 n0 W.heap.size K A B) →
    P0 W → CallsIn Fence.wide 0 P gf (#[.func (.yield l) #[] #[]] ++ lb) W fun e B => (∃ v, e = .returned v) ∧ ∃ K, W.heap.size ≤ K ∧ K ≤ B.heap.size ∧ J K ys.length B

theorem Iter.later {P : Program} {gf : Nat} {lb : Array Value} {ys : List (Array Value)} {m0 n0 : Nat} {w0 w1 : World} (h : Iter P gf lb ys m0 n0 w0) (hb : Below n0 w0 w1) : Iter P gf lb ys m0 n0 w1 :=
  fun l W P0 J hW => h l W P0 J (hb.trans hW)

/-- How a round may end. -/
def rpost (m0 n0 M K : Nat) (I : Nat → Nat → World → Prop) (i : Nat) (W : World) : Exit → Act → World → Prop
  | .normal, _, W' => KpB m0 n0 M K W W' ∧ I K (i + 1) W'
  | _, _, _ => False

theorem rf_law {P : Program} {n m : Nat} {g : Operand} {ps : Array Tmp} {assign body : Code} {Q : Exit → Act → World → Prop} {a : Act} {w : World}
    {gf : Nat} {lb : Array Value} (hg : a.eval g = .func (.func gf) #[] lb) (eg : ∀ args w, (callFunc gf args).run P w = .ok (.enter gf args) w)
    {ys : List (Array Value)} {m0 n0 : Nat} (hit : Iter P gf lb ys m0 n0 w) (hn0 : n0 ≤ w.heap.size) (hps : ∀ i (h : i < ys.length), (ys[i]'h).size = ps.size)
    (I0 : World → Prop) (I : Nat → Nat → World → Prop) (hI0 : ∀ A B, I0 A → Below w.heap.size A B → I0 B) (hI1 : ∀ A, I0 A → w.heap.size + 2 ≤ A.heap.size → I A.heap.size 0 A)
    (hI : ∀ K i A B, I K i A → w.heap.size + 2 ≤ K → Step (w.heap.size + 1) K A B → I K i B)
    (h0 : I0 w) (a₁ : Nat → Act)
    (hassign : ∀ (l i : Nat) (h : i < ys.length) (W : World) (K : Act → World → Prop), K (a₁ i) W →
      assign.wpIn (Fence.wide.inRound l) m P (Exit.then K (fun _ _ _ => False)) { tmps := (ps.zip (ys[i]'h)).foldl (fun t (p, v) => t.setIfInBounds p v) a.tmps, defers := [] } W)
    (hbody : ∀ (l K i : Nat) (h : i < ys.length) (W : World), I K i W → w.heap.size + 2 ≤ K → K ≤ W.heap.size → body.wpIn (Fence.wide.inRound l) m P (rpost m0 n0 w.heap.size K I i W) (a₁ i) W)
    (hdone : ∀ (K : Nat) (W : World), w.heap.size + 2 ≤ K → K ≤ W.heap.size → I K ys.length W → W.heap[w.heap.size]? = some (.deferred (some [])) → Q .normal { a with defers := { target := .collected w.heap.size, args := #[] } :: a.defers } W) :
    (Code.rangeFunc g ps assign body).wpIn Fence.wide n P Q a w := by
  refine wpIn_rangeFunc ?_
  intro fn hfn
  obtain ⟨rec, hrec⟩ : ∃ rec : LoopState → Option Code → Loop, rec = fun st pe => { state := st, pending := pe, fn, tmps := a.tmps, params := ps, assign, body, defers := w.heap.size } := ⟨_, rfl⟩
  obtain ⟨W1, hW1⟩ : ∃ W1, (w.alloc (.deferred (some []))).alloc (.loop (rec .ready none)) = W1 := ⟨_, rfl⟩
  have hs1 : W1.heap.size = w.heap.size + 2 := by rw [← hW1]; simp
  have hL1 : W1.heap[w.heap.size + 1]? = some (.loop (rec .ready none)) := by
    rw [← hW1]; have := World.alloc_heap_new (w.alloc (.deferred (some []))) (.loop (rec .ready none)); rwa [World.size_alloc] at this
  have hK1 : W1.heap[w.heap.size]? = some (.deferred (some [])) := by
    rw [← hW1]; exact (Below.heap_alloc _ _ _ (by simp)).trans (World.alloc_heap_new w _)
  have hB1 : Below w.heap.size w W1 := by rw [← hW1]; exact ((Below.refl _ w).alloc (Nat.le_refl _) _).alloc (by simp) _
  have hI1' : I0 W1 := hI0 _ _ h0 hB1
  refine ⟨w.heap.size + 1, [{ target := .collected w.heap.size, args := #[] }], W1, { target := .fn (.func gf) lb, args := #[.func (.yield (w.heap.size + 1)) #[] #[]] }, W1, gf,
    #[.func (.yield (w.heap.size + 1)) #[] #[]] ++ lb, W1, ?_, ?_, ?_, ?_, (fun h => by cases h), ?_⟩
  · rw [← hW1, hrec]; exact run_enterLoop_outer _ _ _ _ _
  · simp only [resolve, hg]
    simp [go_sem]
  · intro f' _; trivial
  · simp [invoke, go_sem, eg]
  · have keep : ∀ {A B : World} {k K : Nat} {o : Obj}, Step W1.heap.size K A B → k < w.heap.size + 2 → A.heap[k]? = some o → B.heap[k]? = some o := fun hb hk h => (hb.block _ (Array.getElem?_eq_some_iff.1 h).1 (by omega)).trans h
    have keep0 : ∀ {A B : World} {k : Nat} {o : Obj}, Below W1.heap.size A B → k < w.heap.size + 2 → A.heap[k]? = some o → B.heap[k]? = some o := fun hb hk h => (hb.block _ (by omega)).trans h
    have hcall := hit (w.heap.size + 1) W1
      (fun W => I0 W ∧ W.heap[w.heap.size + 1]? = some (.loop (rec .ready none)) ∧ W.heap[w.heap.size]? = some (.deferred (some [])))
      (fun K i W => I K i W ∧ W.heap[w.heap.size + 1]? = some (.loop (rec .ready none)) ∧ W.heap[w.heap.size]? = some (.deferred (some [])) ∧ w.heap.size + 2 ≤ K)
      (hB1.mono hn0) (by omega)
      (fun A B h hb => ⟨hI0 _ _ h.1 (hb.mono (by omega)), keep0 hb (by omega) h.2.1, keep0 hb (by omega) h.2.2⟩)
      (fun A h hs => ⟨hI1 _ h.1 (by omega), h.2.1, h.2.2, by omega⟩)
      (fun K i A B h hb => ⟨hI _ _ _ _ h.1 h.2.2.2 (hb.wider (by omega)), keep hb (by omega) h.2.1, keep hb (by omega) h.2.2.1, h.2.2.2⟩)
      ?_ ⟨hI1', hL1, hK1⟩
    · refine (show CallsIn Fence.wide (n - 1) P gf _ W1 _ from ⟨trivial, fun cs hr => hcall.2 cs (room_wide _)⟩).mono ?_
      rintro e W2 ⟨⟨v, rfl⟩, K, hKl, hKu, hi, hl, hk, hK2⟩
      exact ⟨none, _, by have := run_endLoop (P := P) hl (by rw [hrec]; simp); rw [hrec] at this; exact this,
        hdone K _ (by omega) (by simpa using hKu) (hI _ _ _ _ hi hK2 (.put _ _ _ (by omega) (by omega))) ((World.putObj_heap_other (by omega)).trans hk)⟩
    · rintro K i hlt W ⟨hi, hl, hk, hK2⟩ hKl hKu
      have hlW : w.heap.size + 1 < W.heap.size := (Array.getElem?_eq_some_iff.1 hl).1
      have hy := run_yield (P := P) (args := ys[i]) hl (by rw [hrec]; exact hps i hlt)
      rw [hrec] at hy
      refine ⟨fn, _, assign, body, hy, ?_⟩
      have hR : RoundIn Fence.wide m P (w.heap.size + 1) fn ((ps.zip (ys[i]'hlt)).foldl (fun t (p, v) => t.setIfInBounds p v) a.tmps) assign body W (fun e B =>
          e = .returned (.bool true) ∧ (I K (i + 1) B ∧ B.heap[w.heap.size + 1]? = some (.loop (rec .ready none)) ∧ B.heap[w.heap.size]? = some (.deferred (some [])) ∧ w.heap.size + 2 ≤ K) ∧ KpB m0 n0 W1.heap.size K W B) := by
        refine roundIn_of_wpIn hfn (hassign _ i hlt W _ ?_)
        refine ⟨_, run_beginRound hl (by rw [hrec]), ?_⟩
        have hl2 : (W.putObj (w.heap.size + 1) (.loop { rec .ready none with state := .busy })).heap[w.heap.size + 1]? = some (.loop { rec .ready none with state := .busy }) := World.putObj_heap_same hlW
        have hk2 : (W.putObj (w.heap.size + 1) (.loop { rec .ready none with state := .busy })).heap[w.heap.size]? = some (.deferred (some [])) := (World.putObj_heap_other (by omega)).trans hk
        have hkp2 : KpB m0 n0 W1.heap.size K W (W.putObj (w.heap.size + 1) (.loop { rec .ready none with state := .busy })) := kp_put _ _ _ (by omega) (by omega)
        have hlW2 : w.heap.size + 1 < (W.putObj (w.heap.size + 1) (.loop { rec .ready none with state := .busy })).heap.size := by simpa using hlW
        refine wpIn_mono (hbody _ K i hlt _ (hI _ _ _ _ hi hK2 (.put _ _ _ (by omega) (by omega))) (by omega) (by simpa using hKu)) ?_
        rintro e a3 W3 hp
        cases e with
        | normal =>
          obtain ⟨hk3, hi3⟩ := hp
          have hl3 := (hk3.block (w.heap.size + 1) (.inr (by omega)) hlW2).trans hl2
          have hr := run_endRound (P := P) none hl3
          rw [hrec] at hr
          have hd3 : W3.heap[w.heap.size]? = some (.deferred (some [])) := (hk3.block w.heap.size (.inr ⟨Nat.le_refl _, by omega⟩) (Nat.lt_of_lt_of_le (Nat.lt_succ_self _) (Nat.le_of_lt hlW2))).trans hk2
          have hw3 : w.heap.size + 1 < W3.heap.size := (Array.getElem?_eq_some_iff.1 hl3).1
          refine ⟨_, _, hr, rfl, ⟨hI _ _ _ _ hi3 hK2 (.put _ _ _ (by omega) (by omega)), ?_, ?_, hK2⟩, (hkp2.trans (hk3.mono (Nat.le_refl _) (by omega))).trans (kp_put _ _ _ (by omega) (by omega))⟩
          · rw [hrec]
            exact World.putObj_heap_same hw3
          · rw [World.putObj_heap_other (by omega)]
            exact hd3
        | ret => exact hp.elim
        | exit id => exact hp.elim
        | goto t => exact hp.elim
        | panic ch => exact hp.elim
        | outgrown => exact hp.elim
      exact ⟨hR.1, fun c cs hr => hR.2 c cs (room_wide _)⟩

theorem Enc.Own.step {α : Type} {E : Enc α} {e : TypeId} {W W' : World} {base : Nat} {A : Option Addr} {c : Nat} {l : List α} {N K : Nat} (h : E.Own e W base A c l) (hs : Step N K W W') (hb : K ≤ base) : E.Own e W' base A c l := by
  refine ⟨h.1, h.2.imp id ?_⟩
  rintro ⟨g, cap, cur, h1, h2, h3, r⟩
  exact ⟨g, cap, cur, h1, h2, (hs.block g (Array.getElem?_eq_some_iff.1 h3).1 (by omega)).trans h3, r⟩

/-- A variable of one's own behind an append to a row of one's own. -/
theorem Enc.Own.box {α : Type} {E : Enc α} {e : TypeId} {W W' : World} {base : Nat} {A : Option Addr} {c : Nat} {l : List α} (h : E.Own e W base A c l) (hg : W.grownBy W' (Value.slice A l.length c).ownBlock)
    {b : Nat} {o : Obj} (hb : W.heap[b]? = some o) (hlt : b < base) : W'.heap[b]? = some o :=
  (hg.block b (Array.getElem?_eq_some_iff.1 hb).1 (fun e' => by have := (World.ownsRow.lt h _ e'.symm).1; omega)).trans hb

/-- append(s, x...) within a fence. -/
theorem wpListIn_append_L {α : Type} {F : Fence} {n : Nat} {P : Program} (E : Enc α) (e t : TypeId) {ops : Array Oper} {rest : List Oper} {o : Oper} {a : Act} {Q : Exit → Act → World → Prop} (hgd : o.guard = none) (s x : Operand)
    (hop : o.op = .call { callee := .builtin .append, args := #[s, x], argTypes := #[t, t] })
    (z : Value) (bytes : Nat) (ht : P.underlying t = some (.slice e)) (hinf : (P.info? e).map (fun i => (i.zero, i.size, i.bytes)) = some (some z, E.size, bytes)) (hzs : z.cells.size = E.size) (hsz : 0 < E.size)
    (w : World) (base : Nat) (A : Option Addr) (c : Nat) (l : List α) (hs : a.eval s = .slice A l.length c) (hown : E.Own e w base A c l) (B : Option Addr) (d : Nat) (m : List α) (hx : a.eval x = .slice B m.length d) (hr : E.Rd w B m)
    (hb1 : (l.length + m.length) ≤ 1099511627776) (hb2 : bytes ≤ 128) (hbase : base ≤ w.heap.size)
    (h : ∀ A' c' w', E.Own e w' base A' c' (l ++ m) → w.grownBy w' (Value.slice A l.length c).ownBlock →
      ((Value.slice A' (l ++ m).length c').ownBlock = (Value.slice A l.length c).ownBlock ∨ (Value.slice A' (l ++ m).length c').ownBlock = some w.heap.size) → wpListIn F n P ops Q rest (a.put o.dst (.slice A' (l ++ m).length c')) w') :
    wpListIn F n P ops Q (o :: rest) a w := by
  obtain ⟨A', c', w', hrun, h2, h3, h4⟩ := run_append_L (P := P) E e t o.type z bytes ht hinf hzs hsz w base A c l hown B d m hr hb1 hb2 hbase
  refine wpListIn_plain hgd fun K hK' => ?_
  unfold Oper.wpIn
  refine ⟨?_, ?_⟩
  · simp [Oper.about, hop, resolve, Target.leads, Sem.run_pure]
  · rw [Oper.semAt_plain F _ _ (by rw [hop]; intro c hc'; cases hc')]
    simp only [execOp, hop, resolve, invoke, builtin, Sem.run_bind, Sem.run_pure, Result.andThen_ok, List.map_toArray, List.map_cons, List.map_nil, hs, hx, hrun]
    exact hK' _ _ (h A' c' w' h2 h3 h4)

theorem Enc.Rd.one_new {α : Type} (E : Enc α) (w : World) (e : TypeId) (x : α) (cs : Array Value) (hcs : cs = (E.enc x).toArray) : E.Rd (w.alloc (.cells cs e)) (some ⟨w.heap.size, 0, none⟩) [x] :=
  ⟨fun _ => ⟨w.heap.size, 0, rfl, by simp, fun i hi r u hu => by
    have : i = 0 := by simpa using hi
    subst this
    rw [Nat.zero_add, Nat.zero_mul, Nat.zero_add, cell_of_row _ _ _ cs e (0, 0) (heap_alloc_new w _), hcs]
    simpa using hu⟩⟩

end Go.Proofs.Ytfjbanfibmpalaa

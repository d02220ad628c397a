/- Words: a set of whole numbers as a map[int]bool that the call made itself. -/
import Derived.Maps.OwnIn
import Derived.Test.YtfjbanfibmpalaaK14
import Derived.Test.YtfjbanfibmpalaaK10
import Derived.Test.YtfjbanfibmpalaaK7
import Derived.Test.YtfjbanfibmpalaaK8
set_option linter.unusedVariables false
set_option linter.unusedSimpArgs false
namespace Go.Proofs.Ytfjbanfibmpalaa
open Go.RowKit Go.Shelf Go.Maps
attribute [local go_sem] Oper.semAt_some

/-- Block b is a map of at most n entries that tells f of the numbers. -/
def Met (w : World) (b n : Nat) (f : Nat → Bool) : Prop :=
  ∃ D : DataW Unit, w.ownsMap Try.prog 3 (plainElem Try.prog 4) b n D ∧ IsMap D ∧ ∀ i : Nat, i ≤ 1000000 → D.atKey (.int .i64 (i : Int)) (.lit (.bool false)) = .lit (.bool (f i))

theorem klaw : Keyed Try.prog 3 := int_keyed Try.underlying3
theorem wf_nat (i : Nat) (h : i ≤ 1000000) : (Lit.int .i64 (i : Int)).wf = true := by
  have h1 : IntKind.i64.min = -9223372036854775808 := by decide
  have h2 : IntKind.i64.max = 9223372036854775807 := by decide
  simp [Lit.wf, IntKind.wrap, IntKind.bits, IntKind.signed, h1, h2]
  omega
theorem plainElem_bool_inv {P : Program} {e : TypeId} (he : P.underlying e = some .bool) {v : Value} {z : DataW Unit × List MemPlace} (h : plainElem P e v = some z) : ∃ a, v = .bool a ∧ z = (.lit (.bool a), []) := by
  unfold plainElem at h
  rw [he] at h
  cases v <;> simp at h
  exact ⟨_, rfl, h.symm⟩
theorem key_int (i : Nat) (h : i ≤ 1000000) : keyOf Try.prog 3 (.int .i64 (i : Int)) = some (.int .i64 (i : Int)) := keyOf_int_mk Try.underlying3 (wf_nat i h)
theorem zero_bool (w : World) : (zeroValue 4).run Try.prog w = .ok (.bool false) w := by kernel_rfl

theorem Met.made (w : World) : Met (w.alloc (.map #[] 0)) w.heap.size 0 (fun _ => false) :=
  ⟨.map [], World.ownsMap_made w _ _ _, ⟨_, rfl⟩, fun i _ => rfl⟩

theorem Met.kept {w w' : World} {b n : Nat} {f : Nat → Bool} (h : Met w b n f) (hb : w'.heap[b]? = w.heap[b]?) : Met w' b n f := by
  obtain ⟨D, ⟨es, clock, h1, r⟩, h2⟩ := h
  exact ⟨D, ⟨es, clock, hb.trans h1, r⟩, h2⟩

theorem Met.lt {w : World} {b n : Nat} {f : Nat → Bool} (h : Met w b n f) : b < w.heap.size := by
  obtain ⟨D, h1, h2⟩ := h; exact h1.lt

theorem Met.mono {w : World} {b n m : Nat} {f : Nat → Bool} (h : Met w b n f) (hm : n ≤ m) : Met w b m f := by
  obtain ⟨D, h1, h2⟩ := h; exact ⟨D, h1.mono hm, h2⟩

theorem Met.look {w : World} {b n : Nat} {f : Nat → Bool} (h : Met w b n f) (i : Nat) (hi : i ≤ 1000000) :
    (Instr.lookup 111 (.map (some b)) (.int .i64 (i : Int)) false).run Try.prog w = .ok (.bool (f i)) w := by
  obtain ⟨D, h1, h2, h3⟩ := h
  obtain ⟨v, ps, hr, hv⟩ := h1.lookup klaw Try.underlying111 (zero_bool w) (plainElem_bool Try.underlying4 false) (key_int i hi)
  rw [h3 i hi] at hv
  rw [hr]
  obtain ⟨a, rfl, ha⟩ := plainElem_bool_inv Try.underlying4 hv
  have : f i = a := (by simpa using ha : _ ∧ _).1
  rw [this]

theorem Met.put {w : World} {b n : Nat} {f : Nat → Bool} (h : Met w b n f) (hn : n < 1000000) (i : Nat) (hi : i ≤ 1000000) :
    ∃ w', (Instr.mapUpdate 111 (.map (some b)) (.int .i64 (i : Int)) (.bool true)).run Try.prog w = .ok () w' ∧ Met w' b (n + 1) (fun k => f k || k == i) ∧ w.grownBy w' (some b) := by
  obtain ⟨D, h1, h2, h3⟩ := h
  obtain ⟨w', hr, ho, hg⟩ := h1.update klaw Try.underlying111 (by unfold maxLen; omega) (key_int i hi) (plainElem_bool (H := Unit) Try.underlying4 true)
  refine ⟨w', hr, ⟨_, ho, ?_, ?_⟩, hg⟩
  · obtain ⟨es, rfl⟩ := h2
    exact ⟨_, rfl⟩
  · intro k hk
    by_cases he : k = i
    · subst he
      rw [atKey_put_same h2 (by trivial)]
      simp
    · rw [atKey_put_other (by intro h; injection h with _ h; omega), h3 k hk]
      simp [he]

section
variable {F : Fence} {nF : Nat} {w : World} {ops : Array Oper} {rest : List Oper} {o : Oper} {a : Act} {Q : Exit → Act → World → Prop}

theorem wpListIn_met_put (hg : o.guard = none) (m x v : Operand) (hop : o.op = Op.mapUpdate 111 m x v ∨ o.op = Op.insert 111 m x v) (b n : Nat) (f : Nat → Bool) (i : Nat)
    (hm : a.eval m = .map (some b)) (hx : a.eval x = .int .i64 (i : Int)) (hv : a.eval v = .bool true) (h : Met w b n f) (hn : n < 1000000) (hi : i ≤ 1000000)
    (hK : ∀ w', Met w' b (n + 1) (fun k => f k || k == i) → w.grownBy w' (some b) → wpListIn F nF Try.prog ops Q rest (a.put o.dst undef) w') :
    wpListIn F nF Try.prog ops Q (o :: rest) a w := by
  obtain ⟨w', hr, h1, h2⟩ := h.put hn i hi
  refine wpListIn_plain hg fun K' hK' => ?_
  unfold Oper.wpIn
  rcases hop with hop | hop
  all_goals
    refine ⟨by simp [Oper.about, hop], ?_⟩
    rw [Oper.semAt_plain F _ _ (by rw [hop]; intro c hc'; cases hc')]
    simp [execOp, hop, hm, hx, hv, hr, Result.andThen]
    exact hK' _ _ (hK w' h1 h2)

theorem wpListIn_met_look (hg : o.guard = none) (m x : Operand) (hop : o.op = Op.lookup 111 m x false) (b n : Nat) (f : Nat → Bool) (i : Nat)
    (hm : a.eval m = .map (some b)) (hx : a.eval x = .int .i64 (i : Int)) (h : Met w b n f) (hi : i ≤ 1000000)
    (hK : wpListIn F nF Try.prog ops Q rest (a.put o.dst (.bool (f i))) w) :
    wpListIn F nF Try.prog ops Q (o :: rest) a w := by
  have hr := h.look i hi
  refine wpListIn_plain hg fun K' hK' => ?_
  unfold Oper.wpIn
  refine ⟨by simp [Oper.about, hop], ?_⟩
  rw [Oper.semAt_plain F _ _ (by rw [hop]; intro c hc'; cases hc')]
  simp [execOp, hop, hm, hx, hr, Result.andThen]
  exact hK' _ _ hK
end

/-! Leaving a function that has run ranges over functions -/
def Marks (base : Nat) (W : World) (ds : List Deferred) : Prop :=
  ∃ Ks : List Nat, ds = Ks.map (fun K => { target := .collected K, args := #[] }) ∧ Ks.Nodup ∧ ∀ K ∈ Ks, base ≤ K ∧ W.heap[K]? = some (.deferred (some []))

/-- What was no mark is as it was. -/
structure Closed (base : Nat) (A B : World) : Prop where
  below : Below base A B
  same : B.heap.size = A.heap.size
  block : ∀ (k : Nat) (o : Obj), A.heap[k]? = some o → (∀ ds, o ≠ Obj.deferred ds) → B.heap[k]? = some o

theorem Marks.nil (base : Nat) (W : World) : Marks base W [] := ⟨[], rfl, List.nodup_nil, by simp⟩

theorem Marks.kept {base : Nat} {W W' : World} {ds : List Deferred} (h : Marks base W ds) (hk : ∀ k, base ≤ k → W.heap[k]? = some (.deferred (some [])) → W'.heap[k]? = some (.deferred (some []))) : Marks base W' ds := by
  obtain ⟨Ks, h1, h2, h3⟩ := h
  exact ⟨Ks, h1, h2, fun K hK => ⟨(h3 K hK).1, hk K (h3 K hK).1 (h3 K hK).2⟩⟩

theorem Marks.cons {base : Nat} {W W' : World} {ds : List Deferred} (h : Marks base W ds) (hk : ∀ k, base ≤ k → W.heap[k]? = some (.deferred (some [])) → W'.heap[k]? = some (.deferred (some []))) (K : Nat) (hK : W.heap.size ≤ K) (hb : base ≤ K) (hn : W'.heap[K]? = some (.deferred (some []))) : Marks base W' ({ target := .collected K, args := #[] } :: ds) := by
  obtain ⟨Ks, h1, h2, h3⟩ := h
  refine ⟨K :: Ks, by rw [h1]; rfl, List.nodup_cons.2 ⟨fun hm => ?_, h2⟩, ?_⟩
  · have := (Array.getElem?_eq_some_iff.1 (h3 K hm).2).1
    omega
  · intro k hk'
    rcases List.mem_cons.1 hk' with rfl | hk'
    · exact ⟨hb, hn⟩
    · exact ⟨(h3 k hk').1, hk k (h3 k hk').1 (h3 k hk').2⟩

theorem leaves_marks {F : Fence} {n : Nat} {P : Program} {fn : Func} {tmps : Array Value} {R : Ending → World → Prop} {base : Nat} : ∀ (ds : List Deferred) (W : World), Marks base W ds →
    (∀ W', Closed base W W' → LeavesIn F n P fn tmps R [] .returning W') → LeavesInM F n P fn tmps R ds .returning W
  | [], W, _, h => h W ⟨Below.refl _ _, rfl, fun _ _ h _ => h⟩
  | d :: ds, W, hm, h => by
    obtain ⟨Ks, h1, h2, h3⟩ := hm
    cases Ks with
    | nil => simp at h1
    | cons K Ks =>
      simp only [List.map_cons, List.cons.injEq] at h1
      obtain ⟨rfl, rfl⟩ := h1
      obtain ⟨hK, hn⟩ := List.nodup_cons.1 h2
      have hKb := h3 K (by simp)
      refine ⟨by simp, .inl ⟨K, _, rfl, run_takeDeferred hKb.2, ?_⟩⟩
      refine leaves_marks _ _ ⟨Ks, rfl, hn, fun k hk => ⟨(h3 k (by simp [hk])).1, (World.putObj_heap_other (by rintro rfl; exact hK hk)).trans (h3 k (by simp [hk])).2⟩⟩ ?_
      intro W' hc
      refine h W' ⟨(below_put _ _ _ hKb.1).trans hc.below, hc.same.trans (by simp), fun k o ho hno => hc.block k o ?_ hno⟩
      rw [← ho]
      refine World.putObj_heap_other ?_
      rintro rfl
      rw [hKb.2] at ho
      injection ho with ho
      exact hno _ ho.symm
end Go.Proofs.Ytfjbanfibmpalaa

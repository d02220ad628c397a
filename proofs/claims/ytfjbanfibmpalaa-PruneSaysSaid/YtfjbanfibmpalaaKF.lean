/- KF -/
import Derived.StillTail
import Derived.Deep.Quiet
import Derived.OrdersIn
import Derived.TacticsIn
import Derived.OrdersHeld

/- Words: a region that draws its order: first what reads and calls quietly, in whatever order; then a forced tail (stores). -/
set_option linter.unusedVariables false
set_option linter.unusedSimpArgs false
namespace Go.Proofs.Ytfjbanfibmpalaa
open Go

section
variable {P : Program} {ops : Array Oper} {md : Region.Mode} {C : World → Prop}

/-- Whatever order is picked for the first n; L behind it. -/
def headAny (P : Program) (md : Region.Mode) (ops : Array Oper) (C : World → Prop) (n : Nat) (L : Array Bool → Act → Prop) : Nat → Array Bool → Act → Prop
  | 0, ls, a => L ls a
  | f + 1, ls, a => Region.ready md ops ls ≠ [] ∧ ∀ i ∈ Region.ready md ops ls, i < n ∧ qOp P ops C i (headAny P md ops C n L f (ls.setIfInBounds i true)) a

theorem any_of_head {n g : Nat} {L : Array Bool → Act → Prop} {Q : Exit → Act → World → Prop} (hL : ∀ ls a w, C w → L ls a → wpAny P md ops Q g ls a w) :
    ∀ (f : Nat) (ls : Array Bool) (a : Act) (w : World), C w → headAny P md ops C n L f ls a → wpAny P md ops Q (f + g) ls a w
  | 0, ls, a, w, hw, h => by rw [Nat.zero_add]; exact hL _ _ _ hw h
  | f + 1, ls, a, w, hw, h => by
    rw [show f + 1 + g = (f + g) + 1 by omega]
    exact ⟨fun h0 => absurd h0 h.1, fun i hi => wpOp_of_qOp hw (fun a' w' hw' h' => any_of_head hL f _ a' w' hw' h') (h.2 i hi).2⟩

theorem head_first {n i : Nat} {oi : Oper} {v : Value} {L : Array Bool → Act → Prop} (hi : ops[i]? = some oi) (hsel : ∀ (j : Nat) (o : Oper) cs b, ops[j]? = some o → o.op ≠ .select cs b)
    (hs : Region.sinkB md ops n = true) (hc : Region.chainB md ops n = true) (hn : n < ops.size) (hin : i < n) (hdone : ∀ ls a, L ls a → ∀ j ∈ Region.ready md ops ls, n ≤ j) :
    ∀ (f : Nat) (ls : Array Bool) (a : Act), HeadInv md ops n ls →
      (∀ j oj, ops[j]? = some oj → j ≠ i → ls.getD j true = false → (∀ e ∈ oj.after, Region.binds md e = true → e.on ≠ i) → oi.apart ops oj = true) →
      i ∈ Region.ready md ops ls → YieldsIn P ops C oi v a →
      headAny P md ops C n L f (ls.setIfInBounds i true) (a.put oi.dst v) → headAny P md ops C n L (f + 1) ls a := by
  intro f
  induction f with
  | zero =>
    intro ls a inv _ hr hy H
    have hun := (mem_ready.1 hr).1
    refine ⟨fun h => (by rw [h] at hr; cases hr), fun j hj => ?_⟩
    have hjn : j < n := by
      rcases Nat.lt_or_ge j n with h | h
      · exact h
      · exact absurd hj (tail_waits hs hc hn inv _ i rfl hin hun j h)
    refine ⟨hjn, ?_⟩
    by_cases hji : j = i
    · subst hji; exact hy.qOp hi H
    · have := hdone _ _ H j (ready_mono hj hji)
      omega
  | succ f ih =>
    intro ls a inv hfree hr hy H
    have hun := (mem_ready.1 hr).1
    refine ⟨fun h => (by rw [h] at hr; cases hr), fun j hj => ?_⟩
    have hjn : j < n := by
      rcases Nat.lt_or_ge j n with h | h
      · exact h
      · exact absurd hj (tail_waits hs hc hn inv _ i rfl hin hun j h)
    refine ⟨hjn, ?_⟩
    by_cases hji : j = i
    · subst hji; exact hy.qOp hi H
    · have h1 := (H.2 j (ready_mono hj hji)).2
      obtain ⟨hjun, oj, hoj, hall⟩ := mem_ready.1 hj
      have hnot : ∀ e ∈ oj.after, Region.binds md e = true → e.on ≠ i := fun e he hb heq => by
        have h1 := hall e he hb
        rw [heq, getD_both hun] at h1
        cases h1
      have h2 := qOp_put hoj (hfree j oj hoj hji hjun hnot) (fun cs b => hsel i oi cs b hi) (fun cs b => hsel j oj cs b hoj) hy h1
      have hfree' : ∀ k ok, ops[k]? = some ok → k ≠ i → (ls.setIfInBounds j true).getD k true = false →
          (∀ e ∈ ok.after, Region.binds md e = true → e.on ≠ i) → oi.apart ops ok = true := fun k ok hk hki hun hno => by
        refine hfree k ok hk hki ?_ hno
        by_cases hjk : j = k
        · subst hjk; exact hjun
        · rw [getD_set_ne true hjk] at hun; exact hun
      refine qOp_mono (fun a' h3 => ih (ls.setIfInBounds j true) a' (inv.set hj hjn) hfree' (ready_mono hr (Ne.symm hji)) h3.1 ?_) h2
      rw [Array.setIfInBounds_comm _ _ hji]
      exact h3.2

theorem head_lex {n g : Nat} {Lq : Act → Prop} (hsel : Region.noSelect ops = true) (hs : Region.sinkB md ops n = true) (hc : Region.chainB md ops n = true) (hn : n < ops.size) :
    ∀ (l : List Oper) (k : Nat) (ls : Array Bool) (a : Act), (∀ j, j < l.length → l[j]? = ops[k + j]?) → k + l.length = n → HeadInv md ops n ls →
    Region.lexHead md ops g l.length k ls = true → wpQuiet P ops C Lq l a →
    headAny P md ops C n (fun ls' a' => Region.seqB md ops g n ls' = true ∧ Lq a') l.length ls a
  | [], k, ls, a, _, hk, _, hB, h => by
    have : k = n := by simpa using hk
    subst this
    exact ⟨by simpa [Region.lexHead] using hB, h⟩
  | o :: l, k, ls, a, hl, hk, inv, hB, h => by
    have h0 : ops[k]? = some o := by simpa using (hl 0 (by simp)).symm
    simp only [List.length_cons, Region.lexHead, Bool.and_eq_true] at hB
    obtain ⟨⟨hr, hf⟩, hB'⟩ := hB
    have hkn : k < n := by simp only [List.length_cons] at hk; omega
    have hr' : k ∈ Region.ready md ops ls := by simpa using hr
    have hst : qOp P ops C k (wpQuiet P ops C Lq l) a := by unfold qOp; simp only [h0]; exact h
    obtain ⟨v, hy, hK⟩ := yieldsIn_of_qOp h0 hst
    exact head_first h0 (Region.noSelect_spec hsel) hs hc hn hkn (fun ls' a' hL => seqB_ready hL.1) l.length ls a inv (Region.free_spec h0 hf) hr' hy
      (head_lex hsel hs hc hn l (k + 1) _ _ (fun j hj => by have := hl (j + 1) (by simp; omega); simpa [Nat.add_assoc, Nat.add_comm 1 j] using this) (by simp only [List.length_cons] at hk; omega) (inv.set hr' hkn) hB' hK)

/-- First quietly, in the order of the text; then the tail, from whatever world of the class. -/
theorem region_quiet_tail {id : Nat} {Q : Exit → Act → World → Prop} {a : Act} {w : World} {l : List Oper} (n : Nat) (hm : P.follows .mixedOrders = true) (hB : Region.lexTailB .any l.toArray n = true)
    (h : wpQuiet P l.toArray (fun w' => ∃ m, w' = w.drewN m) (fun a' => ∀ m, wpList P l.toArray Q (l.drop n) a' (w.drewN m)) (l.take n) a) : (Code.region id l.toArray true).wp P Q a w := by
  simp only [Region.lexTailB, Bool.and_eq_true, decide_eq_true_eq] at hB
  obtain ⟨⟨⟨⟨hsel, hn⟩, hs⟩, hc⟩, hlex⟩ := hB
  have hn' : n < l.length := by simpa using hn
  have htl : (l.take n).length = n := by simp; omega
  have hdl : (l.drop n).length = l.toArray.size - n := by simp
  have inv0 : HeadInv .any l.toArray n (Array.replicate l.toArray.size false) :=
    ⟨by simp, fun j oj _ hl => (by rw [getD_replicate_false] at hl; cases hl), fun t _ ht => getD_in (by simpa using ht) (getD_replicate_false _ _)⟩
  have H := head_lex (C := fun w' => ∃ m, w' = w.drewN m) (md := .any) (g := l.toArray.size - n) hsel hs hc hn (l.take n) 0 _ a (fun j hj => by
    have hj' : j < n := by rw [htl] at hj; exact hj
    simp [hj']) (by simpa using htl) inv0 (by rw [htl]; exact hlex) h
  refine wp_region_any hm ?_
  have := any_of_head (C := fun w' => ∃ m, w' = w.drewN m) (Q := Q) (g := l.toArray.size - n) (fun ls a' w' hw hL => by
    obtain ⟨m, rfl⟩ := hw
    have := wpAny_of_seq (md := .any) (Q' := Q) (l.drop n) n ls a' (w.drewN m) (fun j => by simp [List.getElem?_drop]) (by rw [hdl]; exact hL.1) (hL.2 m)
    rwa [hdl] at this) _ _ _ _ ⟨1, rfl⟩ H
  rw [htl, show n + (l.toArray.size - n) = l.toArray.size by omega] at this
  exact this

/-! Within a round of a range over a function -/
theorem opIn_of_qOp {l0 n i : Nat} {a : Act} {K : Act → Prop} {K' : Act → World → Prop} {Q' : Exit → Act → World → Prop} {w : World} (hd : ∀ o, ops[i]? = some o → ∀ c, o.op ≠ .defer c)
    (hw : C w) (h : ∀ a w', C w' → K a → K' a w') (hh : qOp P ops C i K a) : wpOpIn (Fence.wide.inRound l0) n P ops Q' i K' a w := by
  unfold qOp at hh
  unfold wpOpIn
  split
  · rename_i ho; simp only [ho] at hh; exact h _ _ hw hh
  · rename_i o ho
    simp only [ho] at hh
    split
    · rename_i hwt
      simp only [hwt, if_true] at hh
      obtain ⟨v, h1, h2⟩ := hh
      have h3 := h1 w hw
      unfold Oper.quietAt at h3
      refine ⟨fun f _ => trivial, ?_⟩
      rw [Oper.semAt_eq _ _ _ (hd o ho)]
      generalize (execOp a.eval o).run P w = r at *
      cases r with
      | ok nx w' =>
        cases nx <;> simp only [Oper.quietUpon] at h3
        case value u =>
          obtain ⟨e1, e2⟩ := h3
          rw [e1, e2, Oper.uponIn_value]
          exact h _ _ hw h2
        case skip =>
          obtain ⟨e1, e2⟩ := h3
          rw [e1, Oper.uponIn_skip, ← e2]
          exact h _ _ hw h2
        case enter f args =>
          obtain ⟨e1, hc⟩ := h3
          rw [e1, Oper.uponIn_enter]
          refine ⟨fun h => (by cases h), ?_⟩
          have hc' := (callsIn_wide (n := n - 1)).2 hc
          exact CallsIn.mono (F := Fence.wide.inRound l0) hc' fun e w'' ⟨he, hw''⟩ => by subst he; exact h _ _ hw'' h2
      | halt x w' => simp only [Oper.quietUpon] at h3
    · rename_i hwt
      simp only [hwt] at hh
      exact ⟨fun f _ => trivial, h _ _ hw hh⟩

theorem anyIn_of_head {l0 nF n g : Nat} {L : Array Bool → Act → Prop} {Q : Exit → Act → World → Prop} (hd : ∀ (i : Nat) o, ops[i]? = some o → ∀ c, o.op ≠ .defer c)
    (hL : ∀ ls a w, C w → L ls a → wpAnyIn (Fence.wide.inRound l0) nF P md ops Q g ls a w) :
    ∀ (f : Nat) (ls : Array Bool) (a : Act) (w : World), C w → headAny P md ops C n L f ls a → wpAnyIn (Fence.wide.inRound l0) nF P md ops Q (f + g) ls a w
  | 0, ls, a, w, hw, h => by rw [Nat.zero_add]; exact hL _ _ _ hw h
  | f + 1, ls, a, w, hw, h => by
    rw [show f + 1 + g = (f + g) + 1 by omega]
    exact ⟨fun h0 => absurd h0 h.1, fun i hi => opIn_of_qOp (hd i) hw (fun a' w' hw' h' => anyIn_of_head hd hL f _ a' w' hw' h') (h.2 i hi).2⟩

theorem opIn_mono {F : Fence} {nF i : Nat} {a : Act} {K K' : Act → World → Prop} {Q : Exit → Act → World → Prop} {w : World} (h : ∀ a w, K a w → K' a w) (hh : wpOpIn F nF P ops Q i K a w) : wpOpIn F nF P ops Q i K' a w := by
  unfold wpOpIn at *
  split
  · rename_i ho; simp only [ho] at hh; exact h _ _ hh
  · rename_i o ho
    simp only [ho] at hh
    split
    · rename_i hw; simp only [hw, if_true] at hh; exact Oper.wpIn_mono h hh
    · rename_i hw; simp only [hw] at hh; exact ⟨hh.1, h _ _ hh.2⟩

theorem anyIn_of_seq {F : Fence} {nF : Nat} {Q' : Exit → Act → World → Prop} : ∀ (l : List Oper) (k : Nat) (ls : Array Bool) (a : Act) (w : World), (∀ j, l[j]? = ops[k + j]?) →
    Region.seqB md ops l.length k ls = true → wpListIn F nF P ops Q' l a w → wpAnyIn F nF P md ops Q' l.length ls a w
  | [], _, _, _, _, _, hB, h => ⟨by simpa [Region.seqB] using hB, h⟩
  | o :: l, k, ls, a, w, hl, hB, h => by
    have h0 : ops[k]? = some o := by simpa using (hl 0).symm
    simp only [List.length_cons, Region.seqB, Bool.and_eq_true, decide_eq_true_eq] at hB
    refine ⟨fun h1 => (by rw [hB.1] at h1; cases h1), fun i hi => ?_⟩
    rw [hB.1] at hi
    have hik : i = k := by simpa using hi
    subst hik
    have hw : wpOpIn F nF P ops Q' i (wpListIn F nF P ops Q' l) a w := by unfold wpOpIn; simp only [h0]; exact h
    exact opIn_mono (fun a' w' h' => anyIn_of_seq l (i + 1) _ a' w' (fun j => by have := hl (j + 1); simpa [Nat.add_assoc, Nat.add_comm 1 j] using this) hB.2 h') hw

def noDefer (l : List Oper) : Bool := l.all fun o => match o.op with | .defer _ => false | _ => true

/-- First quietly, then the tail, within a round. -/
theorem region_quiet_tail_in {l0 nF id : Nat} {Q : Exit → Act → World → Prop} {a : Act} {w : World} {l : List Oper} (n : Nat) (hm : P.follows .mixedOrders = true) (hB : Region.lexTailB .any l.toArray n = true) (hD : noDefer l = true)
    (h : wpQuiet P l.toArray (fun w' => ∃ m, w' = w.drewN m) (fun a' => ∀ m, wpListIn (Fence.wide.inRound l0) nF P l.toArray Q (l.drop n) a' (w.drewN m)) (l.take n) a) : (Code.region id l.toArray true).wpIn (Fence.wide.inRound l0) nF P Q a w := by
  have hd : ∀ (i : Nat) o, l.toArray[i]? = some o → ∀ c, o.op ≠ .defer c := by
    intro i o ho c hc
    have hmem : o ∈ l := by
      have := List.mem_of_getElem? (l := l) (i := i) (a := o) (by simpa using ho)
      exact this
    have := List.all_eq_true.1 hD o hmem
    simp only [hc] at this
    cases this
  simp only [Region.lexTailB, Bool.and_eq_true, decide_eq_true_eq] at hB
  obtain ⟨⟨⟨⟨hsel, hn⟩, hs⟩, hc⟩, hlex⟩ := hB
  have hn' : n < l.length := by simpa using hn
  have htl : (l.take n).length = n := by simp; omega
  have hdl : (l.drop n).length = l.toArray.size - n := by simp
  have inv0 : HeadInv .any l.toArray n (Array.replicate l.toArray.size false) :=
    ⟨by simp, fun j oj _ hl => (by rw [getD_replicate_false] at hl; cases hl), fun t _ ht => getD_in (by simpa using ht) (getD_replicate_false _ _)⟩
  have H := head_lex (C := fun w' => ∃ m, w' = w.drewN m) (md := .any) (g := l.toArray.size - n) hsel hs hc hn (l.take n) 0 _ a (fun j hj => by
    have hj' : j < n := by rw [htl] at hj; exact hj
    simp [hj']) (by simpa using htl) inv0 (by rw [htl]; exact hlex) h
  refine wpIn_region_any hm ?_
  have := anyIn_of_head (C := fun w' => ∃ m, w' = w.drewN m) (Q := Q) (g := l.toArray.size - n) (l0 := l0) (nF := nF) hd (fun ls a' w' hw hL => by
    obtain ⟨m, rfl⟩ := hw
    have := anyIn_of_seq (md := .any) (Q' := Q) (F := Fence.wide.inRound l0) (nF := nF) (l.drop n) n ls a' (w.drewN m) (fun j => by simp [List.getElem?_drop]) (by rw [hdl]; exact hL.1) (hL.2 m)
    rwa [hdl] at this) _ _ _ _ ⟨1, rfl⟩ H
  rw [htl, show n + (l.toArray.size - n) = l.toArray.size by omega] at this
  exact this
end
end Go.Proofs.Ytfjbanfibmpalaa

/- Words: a region that draws its order, within whatever fence lets all in: operations taken one by one, then a forced tail. -/
set_option linter.unusedVariables false
set_option linter.unusedSimpArgs false
namespace Go.Proofs.Ytfjbanfibmpalaa
open Go

section
variable {P : Program} {ops : Array Oper} {md : Region.Mode} {S : World → Prop} {Q : Exit → Act → World → Prop} {F : Fence} {nF : Nat}

/-- It yields this in every world that meets S, and calls nothing. -/
def Yl (P : Program) (ops : Array Oper) (S : World → Prop) (o : Oper) (v : Value) (a : Act) : Prop := YieldsIf P ops S o v a

theorem opIn_take (hF : ∀ f, F.fn f) {i : Nat} {o : Oper} {v : Value} {a : Act} (hd : ∀ c, o.op ≠ .defer c) (hi : ops[i]? = some o) (hy : YieldsIf P ops S o v a) {K : Act → World → Prop} {w : World} (hS : S w) (h : K (a.put o.dst v) w) :
    wpOpIn F nF P ops Q i K a w := by
  unfold wpOpIn
  simp only [hi]
  rcases hy with ⟨hw, hv⟩ | ⟨hw, rfl⟩
  · simp only [hw, if_true]
    refine ⟨fun f _ => hF f, ?_⟩
    rw [Oper.semAt_eq _ _ _ hd, hv w hS]
    exact h
  · simp only [hw, Bool.false_eq_true, if_false]
    exact ⟨fun f _ => hF f, h⟩

theorem opIn_put (hF : ∀ f, F.fn f) {j : Nat} {oi oj : Oper} {v : Value} (hd : ∀ c, oj.op ≠ .defer c) (hj : ops[j]? = some oj) (hap : oi.apart ops oj = true)
    (hsi : ∀ cs b, oi.op ≠ .select cs b) (hsj : ∀ cs b, oj.op ≠ .select cs b)
    (hQ : ∀ c a w, Q (.panic c) (a.put oi.dst v) w → Q (.panic c) a w) {K : Act → World → Prop} {a : Act} {w : World}
    (hy : YieldsIf P ops S oi v a) (h : wpOpIn F nF P ops Q j K (a.put oi.dst v) w) :
    wpOpIn F nF P ops Q j (fun a' w' => YieldsIf P ops S oi v a' ∧ K (a'.put oi.dst v) w') a w := by
  obtain ⟨h1, h2, h3⟩ := Oper.apart_spec hap
  have keep : ∀ (a : Act), YieldsIf P ops S oi v a → ∀ u, YieldsIf P ops S oi v (a.put oj.dst u) := fun a hy u =>
    hy.of_same (execOp_put oi hsi a oj.dst u h3) (wanted_put oi a oj.dst u h3)
  have keepD : ∀ d, YieldsIf P ops S oi v { a with defers := d :: a.defers } := fun d => hy.of_same rfl rfl
  unfold wpOpIn at *
  simp only [hj] at *
  rw [wanted_put oj a oi.dst v h1] at h
  split
  · rename_i hw
    simp only [hw, if_true] at h
    refine ⟨fun f _ => hF f, ?_⟩
    have h := h.2
    rw [Oper.semAt_eq _ _ _ hd, execOp_put oj hsj a oi.dst v h1] at h
    rw [Oper.semAt_eq _ _ _ hd]
    generalize (execOp a.eval oj).run P w = r at *
    cases r with
    | ok x w' =>
      cases x <;> simp only [Oper.uponIn] at h ⊢
      case value u => exact ⟨keep a hy u, by rw [← Act.put_comm a v u h2]; exact h⟩
      case skip => exact ⟨keep a hy _, by rw [← Act.put_comm a v undef h2]; exact h⟩
      case defer d =>
        refine ⟨keep _ (keepD d) _, ?_⟩
        rw [← Act.put_comm _ v undef h2, ← Act.put_defers]
        exact h
      case enter f args =>
        refine ⟨h.1, CallsIn.mono h.2 fun e w'' he => ?_⟩
        cases e with
        | returned u => exact ⟨keep a hy u, by rw [← Act.put_comm a v u h2]; exact he⟩
        | panicked c => exact hQ _ _ _ he
        | outgrown => exact he
      case row row args => exact ⟨h.1, RowsIn.mono h.2 fun u w'' he => ⟨keep a hy u, by rw [← Act.put_comm a v u h2]; exact he⟩⟩
      case round l f tmps assign body =>
        refine ⟨h.1, RoundIn.mono h.2 fun e w'' he => ?_⟩
        cases e with
        | returned u => exact ⟨keep a hy u, by rw [← Act.put_comm a v u h2]; exact he⟩
        | panicked c => exact hQ _ _ _ he
        | outgrown => exact he
    | halt x w' =>
      cases x <;> simp only [Oper.uponIn] at h ⊢
      case panic u => exact hQ _ _ _ h
  · rename_i hw
    simp only [hw] at h
    exact ⟨fun f _ => hF f, keep a hy _, by rw [← Act.put_comm a v undef h2]; exact h.2⟩

/-- Whatever order is picked for those ahead of m; S behind each. -/
def headM (P : Program) (md : Region.Mode) (ops : Array Oper) (Q : Exit → Act → World → Prop) (S : World → Prop) (F : Fence) (nF m : Nat) (L : Array Bool → Act → World → Prop) : Nat → Array Bool → Act → World → Prop
  | 0, ls, a, w => L ls a w
  | f + 1, ls, a, w => Region.ready md ops ls ≠ [] ∧ ∀ i ∈ Region.ready md ops ls, i < m ∧ wpOpIn F nF P ops Q i (fun a' w' => S w' ∧ headM P md ops Q S F nF m L f (ls.setIfInBounds i true) a' w') a w

theorem anyIn_of_headM {m g : Nat} {L : Array Bool → Act → World → Prop} (hL : ∀ ls a w, L ls a w → wpAnyIn F nF P md ops Q g ls a w) :
    ∀ (f : Nat) (ls : Array Bool) (a : Act) (w : World), headM P md ops Q S F nF m L f ls a w → wpAnyIn F nF P md ops Q (f + g) ls a w
  | 0, ls, a, w, h => by rw [Nat.zero_add]; exact hL _ _ _ h
  | f + 1, ls, a, w, h => by
    rw [show f + 1 + g = (f + g) + 1 by omega]
    exact ⟨fun h0 => absurd h0 h.1, fun i hi => opIn_mono (fun a' w' h' => anyIn_of_headM hL f _ a' w' h'.2) (h.2 i hi).2⟩

theorem headM_first (hF : ∀ f, F.fn f) {m i : Nat} {oi : Oper} {v : Value} {L : Array Bool → Act → World → Prop} (hd : ∀ (j : Nat) (o : Oper), ops[j]? = some o → ∀ c, o.op ≠ .defer c) (hi : ops[i]? = some oi) (hsel : ∀ (j : Nat) (o : Oper) cs b, ops[j]? = some o → o.op ≠ .select cs b)
    (hQ : ∀ c a w, Q (.panic c) (a.put oi.dst v) w → Q (.panic c) a w)
    (hs : Region.sinkB md ops m = true) (hc : Region.chainB md ops m = true) (hn : m < ops.size) (hin : i < m) (hdone : ∀ ls a w, L ls a w → ∀ j ∈ Region.ready md ops ls, m ≤ j) :
    ∀ (f : Nat) (ls : Array Bool) (a : Act) (w : World), HeadInv md ops m ls →
      (∀ j oj, ops[j]? = some oj → j ≠ i → ls.getD j true = false → (∀ e ∈ oj.after, Region.binds md e = true → e.on ≠ i) → oi.apart ops oj = true) →
      i ∈ Region.ready md ops ls → YieldsIf P ops S oi v a → S w →
      headM P md ops Q S F nF m L f (ls.setIfInBounds i true) (a.put oi.dst v) w → headM P md ops Q S F nF m L (f + 1) ls a w := by
  intro f
  induction f with
  | zero =>
    intro ls a w inv _ hr hy hS H
    have hun := (mem_ready.1 hr).1
    refine ⟨fun h => (by rw [h] at hr; cases hr), fun j hj => ?_⟩
    have hjn : j < m := by
      rcases Nat.lt_or_ge j m with h | h
      · exact h
      · exact absurd hj (tail_waits hs hc hn inv _ i rfl hin hun j h)
    refine ⟨hjn, ?_⟩
    by_cases hji : j = i
    · subst hji; exact opIn_take hF (hd _ _ hi) hi hy hS ⟨hS, H⟩
    · have := hdone _ _ _ H j (ready_mono hj hji)
      omega
  | succ f ih =>
    intro ls a w inv hfree hr hy hS H
    have hun := (mem_ready.1 hr).1
    refine ⟨fun h => (by rw [h] at hr; cases hr), fun j hj => ?_⟩
    have hjn : j < m := by
      rcases Nat.lt_or_ge j m with h | h
      · exact h
      · exact absurd hj (tail_waits hs hc hn inv _ i rfl hin hun j h)
    refine ⟨hjn, ?_⟩
    by_cases hji : j = i
    · subst hji; exact opIn_take hF (hd _ _ hi) hi hy hS ⟨hS, H⟩
    · have h1 := (H.2 j (ready_mono hj hji)).2
      obtain ⟨hjun, oj, hoj, hall⟩ := mem_ready.1 hj
      have hnot : ∀ e ∈ oj.after, Region.binds md e = true → e.on ≠ i := fun e he hb heq => by
        have h1 := hall e he hb
        rw [heq, getD_both hun] at h1
        cases h1
      have h2 := opIn_put hF (hd _ _ hoj) hoj (hfree j oj hoj hji hjun hnot) (fun cs b => hsel i oi cs b hi) (fun cs b => hsel j oj cs b hoj) hQ hy h1
      have hfree' : ∀ k ok, ops[k]? = some ok → k ≠ i → (ls.setIfInBounds j true).getD k true = false →
          (∀ e ∈ ok.after, Region.binds md e = true → e.on ≠ i) → oi.apart ops ok = true := fun k ok hk hki hun hno => by
        refine hfree k ok hk hki ?_ hno
        by_cases hjk : j = k
        · subst hjk; exact hjun
        · rw [getD_set_ne true hjk] at hun; exact hun
      refine opIn_mono (fun a' w' h3 => ⟨h3.2.1, ih (ls.setIfInBounds j true) a' w' (inv.set hj hjn) hfree' (ready_mono hr (Ne.symm hji)) h3.1 h3.2.1 ?_⟩) h2
      rw [Array.setIfInBounds_comm _ _ hji]
      exact h3.2.2

/-- Behind a forced operation. -/
def thenS (S : World → Prop) (Q : Exit → Act → World → Prop) (K : Act → World → Prop) : Exit → Act → World → Prop
  | .normal, a, w => S w ∧ K a w
  | e, a, w => Q e a w
theorem thenS_normal {K : Act → World → Prop} {a : Act} {w : World} (h1 : S w) (h2 : S w → K a w) : thenS S Q K .normal a w := ⟨h1, h2 h1⟩

theorem uponIn_thenS {F : Fence} {n : Nat} {o : Oper} {a : Act} {K : Act → World → Prop} : ∀ (r : Result Next), o.uponIn F n P a (fun a' w' => thenS S Q K .normal a' w') (thenS S Q K) r → o.uponIn F n P a (fun a' w' => S w' ∧ K a' w') Q r
  | .ok (.value _) _, h => h
  | .ok .skip _, h => h
  | .ok (.defer _) _, h => h
  | .ok (.enter _ _) _, h => ⟨h.1, CallsIn.mono h.2 fun e w'' he => by cases e <;> exact he⟩
  | .ok (.row _ _) _, h => ⟨h.1, RowsIn.mono h.2 fun u w'' he => he⟩
  | .ok (.round _ _ _ _ _) _, h => ⟨h.1, RoundIn.mono h.2 fun e w'' he => by cases e <;> exact he⟩
  | .halt (.panic _) _, h => h
  | .halt (.fatal _) _, h => h
  | .halt _ _, h => h

end

/-- Where the walk stands: what has been listed, how many are still to come ahead of m. -/
structure At (P : Program) (ops : List Oper) (Q : Exit → Act → World → Prop) (S : World → Prop) (F : Fence) (nF m : Nat) (ls : Array Bool) (f : Nat) (a : Act) (w : World) : Prop where
  run : (∀ f, F.fn f) → noDefer ops = true → Region.noSelect ops.toArray = true → Region.sinkB .any ops.toArray m = true → Region.chainB .any ops.toArray m = true → m < ops.toArray.size → HeadInv .any ops.toArray m ls →
    (∀ c a a' w, Q (.panic c) a w → Q (.panic c) a' w) →
    headM P .any ops.toArray Q S F nF m (fun ls' a' w' => Region.seqB .any ops.toArray (ops.toArray.size - m) m ls' = true ∧ wpListIn F nF P ops.toArray Q (ops.drop m) a' w') f ls a w

theorem noDefer_spec {l : List Oper} (h : noDefer l = true) : ∀ (i : Nat) o, l.toArray[i]? = some o → ∀ c, o.op ≠ .defer c := by
  intro i o ho c hc
  have hmem : o ∈ l := List.mem_of_getElem? (l := l) (i := i) (a := o) (by simpa using ho)
  have := List.all_eq_true.1 h o hmem
  simp only [hc] at this
  cases this

section
variable {P : Program} {l : List Oper} {S : World → Prop} {Q : Exit → Act → World → Prop} {F : Fence} {nF m f : Nat} {ls : Array Bool} {a : Act} {w : World}

/-- It may be taken first. -/
theorem At.take (i : Nat) {oi : Oper} {v : Value} (hi : l.toArray[i]? = some oi) (hin : i < m) (hf : Region.free .any l.toArray ls i = true) (hr : (Region.ready .any l.toArray ls).contains i = true) (hS : S w)
    (hy : YieldsIf P l.toArray S oi v a) (h : At P l Q S F nF m (ls.setIfInBounds i true) f (a.put oi.dst v) w) : At P l Q S F nF m ls (f + 1) a w :=
  ⟨fun hF h1 h2 h3 h4 h5 h6 h7 => headM_first hF (noDefer_spec h1) hi (Region.noSelect_spec h2) (fun c a' w' q => h7 c _ _ w' q) h3 h4 h5 hin (fun ls' a' w' hL => seqB_ready hL.1) f ls a w h6 (Region.free_spec hi hf) (by simpa using hr) hy hS
    (h.run hF h1 h2 h3 h4 h5 (h6.set (by simpa using hr) hin) h7)⟩

theorem At.forced (i : Nat) {oi : Oper} (hi : l.toArray[i]? = some oi) (hin : i < m) (hr : i ∈ Region.ready .any l.toArray ls)
    (h : wpListIn F nF P l.toArray (thenS S Q (fun a' w' => At P l Q S F nF m (ls.setIfInBounds i true) f a' w')) [oi] a w)
    (hF : ∀ f, F.fn f) (h1 : noDefer l = true) (h2 : Region.noSelect l.toArray = true) (h3 : Region.sinkB .any l.toArray m = true) (h4 : Region.chainB .any l.toArray m = true) (h5 : m < l.toArray.size) (h6 : HeadInv .any l.toArray m ls)
    (h7 : ∀ c a a' w, Q (.panic c) a w → Q (.panic c) a' w) :
    i < m ∧ wpOpIn F nF P l.toArray Q i (fun a' w' => S w' ∧ headM P .any l.toArray Q S F nF m (fun ls' a' w' => Region.seqB .any l.toArray (l.toArray.size - m) m ls' = true ∧ wpListIn F nF P l.toArray Q (l.drop m) a' w') f (ls.setIfInBounds i true) a' w') a w := by
    refine ⟨hin, ?_⟩
    have hset := h6.set hr hin
    unfold wpOpIn
    simp only [hi]
    unfold wpListIn at h
    split
    · rename_i hw
      rw [if_pos hw] at h
      refine ⟨h.1, ?_⟩
      have := uponIn_thenS _ h.2
      generalize (oi.semAt F.round a.eval).run P w = r at *
      cases r with
      | ok x w' =>
        cases x
        case value u => exact ⟨this.1, this.2.run hF h1 h2 h3 h4 h5 hset h7⟩
        case skip => exact ⟨this.1, this.2.run hF h1 h2 h3 h4 h5 hset h7⟩
        case defer d => exact ⟨this.1, this.2.run hF h1 h2 h3 h4 h5 hset h7⟩
        case enter g args =>
          refine ⟨this.1, CallsIn.mono this.2 fun e w'' he => ?_⟩
          cases e
          case returned u => exact ⟨he.1, he.2.run hF h1 h2 h3 h4 h5 hset h7⟩
          case panicked c => exact he
          case outgrown => exact he
        case row row args => exact ⟨this.1, RowsIn.mono this.2 fun u w'' he => ⟨he.1, he.2.run hF h1 h2 h3 h4 h5 hset h7⟩⟩
        case round l f tmps assign body =>
          refine ⟨this.1, RoundIn.mono this.2 fun e w'' he => ?_⟩
          cases e
          case returned u => exact ⟨he.1, he.2.run hF h1 h2 h3 h4 h5 hset h7⟩
          case panicked c => exact he
          case outgrown => exact he
        all_goals exact this
      | halt x w' => cases x <;> exact this
    · rename_i hw
      rw [if_neg hw] at h
      exact ⟨h.1, h.2.1, h.2.2.run hF h1 h2 h3 h4 h5 hset h7⟩

/-- It is the only one that may come up. -/
theorem At.force (i : Nat) {oi : Oper} (hi : l.toArray[i]? = some oi) (hin : i < m) (hr : Region.ready .any l.toArray ls = [i])
    (h : wpListIn F nF P l.toArray (thenS S Q (fun a' w' => At P l Q S F nF m (ls.setIfInBounds i true) f a' w')) [oi] a w) : At P l Q S F nF m ls (f + 1) a w :=
  ⟨fun hF h1 h2 h3 h4 h5 h6 h7 => by
    refine ⟨fun h0 => (by rw [hr] at h0; cases h0), fun j hj => ?_⟩
    have hj' : j = i := by rw [hr] at hj; simpa using hj
    subst hj'
    exact At.forced j hi hin hj h hF h1 h2 h3 h4 h5 h6 h7⟩

/-- Two may come up. -/
theorem At.branch2 (i j : Nat) {oi oj : Oper} (hi : l.toArray[i]? = some oi) (hj : l.toArray[j]? = some oj) (hin : i < m) (hjn : j < m) (hr : Region.ready .any l.toArray ls = [i, j])
    (h : wpListIn F nF P l.toArray (thenS S Q (fun a' w' => At P l Q S F nF m (ls.setIfInBounds i true) f a' w')) [oi] a w)
    (h' : wpListIn F nF P l.toArray (thenS S Q (fun a' w' => At P l Q S F nF m (ls.setIfInBounds j true) f a' w')) [oj] a w) : At P l Q S F nF m ls (f + 1) a w :=
  ⟨fun hF h1 h2 h3 h4 h5 h6 h7 => by
    refine ⟨fun h0 => (by rw [hr] at h0; cases h0), fun k hk => ?_⟩
    have hk' : k = i ∨ k = j := by rw [hr] at hk; simpa using hk
    rcases hk' with rfl | rfl
    · exact At.forced k hi hin hk h hF h1 h2 h3 h4 h5 h6 h7
    · exact At.forced k hj hjn hk h' hF h1 h2 h3 h4 h5 h6 h7⟩

/-- All ahead of m have come up. -/
theorem At.tail (hB : Region.seqB .any l.toArray (l.toArray.size - m) m ls = true) (h : wpListIn F nF P l.toArray Q (l.drop m) a w) : At P l Q S F nF m ls 0 a w :=
  ⟨fun _ _ _ _ _ _ _ _ => ⟨hB, h⟩⟩

/-- The beginning. -/
theorem region_at {id : Nat} (m : Nat) (S : World → Prop) (hF : ∀ f, F.fn f) (hm : P.follows .mixedOrders = true) (h1 : noDefer l = true) (h2 : Region.noSelect l.toArray = true) (h3 : Region.sinkB .any l.toArray m = true) (h4 : Region.chainB .any l.toArray m = true) (h5 : decide (m < l.length) = true)
    (hQ : ∀ c a a' w, Q (.panic c) a w → Q (.panic c) a' w) (h : At P l Q S F nF m (Array.replicate l.toArray.size false) m a w.drew) : (Code.region id l.toArray true).wpIn F nF P Q a w := by
  have h5' : m < l.toArray.size := by simpa using h5
  have inv0 : HeadInv .any l.toArray m (Array.replicate l.toArray.size false) :=
    ⟨by simp, fun j oj _ hl => (by rw [getD_replicate_false] at hl; cases hl), fun t _ ht => getD_in (by simpa using ht) (getD_replicate_false _ _)⟩
  have H := h.run hF h1 h2 h3 h4 h5' inv0 hQ
  refine wpIn_region_any hm ?_
  have := anyIn_of_headM (Q := Q) (g := l.toArray.size - m) (nF := nF) (fun ls a' w' hL => by
    have hdl : (l.drop m).length = l.toArray.size - m := by simp
    have := anyIn_of_seq (md := .any) (Q' := Q) (F := F) (nF := nF) (l.drop m) m ls a' w' (fun j => by simp [List.getElem?_drop]) (by rw [hdl]; exact hL.1) hL.2
    rwa [hdl] at this) _ _ _ _ H
  rw [show m + (l.toArray.size - m) = l.toArray.size by omega] at this
  exact this
end
end Go.Proofs.Ytfjbanfibmpalaa

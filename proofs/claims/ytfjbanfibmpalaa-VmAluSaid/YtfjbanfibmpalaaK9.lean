/- Words: rows that a call made itself and may write (lists of anything of fixed size); append by them. -/
import Derived.Test.YtfjbanfibmpalaaK0
set_option linter.unusedVariables false
set_option linter.unusedSimpArgs false
namespace Go.Proofs.Ytfjbanfibmpalaa
open Go.RowKit

/-- How a Lean datum lies in cells. -/
structure Enc (α : Type) where
  enc : α → List Value
  size : Nat
  len : ∀ x, (enc x).length = size
  one : ∀ x, ∀ u ∈ enc x, u.oneCell' = true

def Enc.flat {α : Type} (E : Enc α) (l : List α) : List Value := l.flatMap E.enc

theorem Enc.flat_len {α : Type} (E : Enc α) (l : List α) : (E.flat l).length = l.length * E.size := by
  induction l with
  | nil => simp [Enc.flat]
  | cons x r ih =>
    have : E.flat (x :: r) = E.enc x ++ E.flat r := rfl
    rw [this, List.length_append, ih, E.len, List.length_cons, Nat.succ_mul, Nat.add_comm]

theorem Enc.flat_get {α : Type} (E : Enc α) (l : List α) : ∀ (i : Nat) (hi : i < l.length) (r : Nat), r < E.size → (E.flat l)[i * E.size + r]? = (E.enc (l[i]'hi))[r]? := by
  induction l with
  | nil => intro i hi; simp at hi
  | cons x t ih =>
    intro i hi r hr
    have e : E.flat (x :: t) = E.enc x ++ E.flat t := rfl
    rw [e]
    cases i with
    | zero =>
      rw [Nat.zero_mul, Nat.zero_add, List.getElem?_append_left (by rw [E.len]; exact hr)]
      rfl
    | succ i =>
      rw [List.getElem?_append_right (by rw [E.len, Nat.succ_mul]; omega), E.len, show (i + 1) * E.size + r - E.size = i * E.size + r by rw [Nat.succ_mul]; omega]
      exact ih i (by simpa using hi) r hr

theorem Enc.flat_one {α : Type} (E : Enc α) (l : List α) : ∀ u ∈ E.flat l, u.oneCell' = true := by
  intro u hu
  obtain ⟨x, _, hx⟩ := List.mem_flatMap.1 hu
  exact E.one x u hx

theorem Enc.flat_append {α : Type} (E : Enc α) (a b : List α) : E.flat (a ++ b) = E.flat a ++ E.flat b := by simp [Enc.flat]

/-- The cells of a list from an address on. -/
def Enc.at_ {α : Type} (E : Enc α) (w : World) (b o : Nat) (l : List α) : Prop := ∀ i (h : i < l.length) (r : Nat) (u : Value), (E.enc (l[i]'h))[r]? = some u → w.cell? ⟨b, o + i * E.size + r, none⟩ = some u

theorem Enc.at_flat {α : Type} {E : Enc α} {w : World} {b o : Nat} {l : List α} (h : E.at_ w b o l) : ∀ j u, (E.flat l)[j]? = some u → w.cell? ((⟨b, o, none⟩ : Addr).add j) = some u := by
  intro j u hj
  have hlt : j < (E.flat l).length := by
    rcases Nat.lt_or_ge j (E.flat l).length with h | h
    · exact h
    · rw [List.getElem?_eq_none h] at hj; cases hj
  rw [E.flat_len] at hlt
  have hs : 0 < E.size := by
    rcases Nat.eq_zero_or_pos E.size with h0 | h0
    · rw [h0] at hlt; omega
    · exact h0
  have hi : j / E.size < l.length := by rw [Nat.div_lt_iff_lt_mul hs]; exact hlt
  have hr : j % E.size < E.size := Nat.mod_lt _ hs
  have e : j / E.size * E.size + j % E.size = j := by rw [Nat.mul_comm]; exact Nat.div_add_mod j E.size
  have hg := E.flat_get l _ hi _ hr
  rw [e] at hg
  have := h _ hi _ u (hg ▸ hj)
  rw [Nat.add_assoc, e] at this
  unfold Addr.add
  split
  · rename_i h0; subst h0; simpa using this
  · exact this

/-- A slice that reads as a list. -/
structure Enc.Rd {α : Type} (E : Enc α) (w : World) (A : Option Addr) (l : List α) : Prop where
  at_ : l ≠ [] → ∃ b o, A = some ⟨b, o, none⟩ ∧ b < w.heap.size ∧ E.at_ w b o l

theorem Enc.at_.keep {α : Type} {E : Enc α} {w w' : World} {b o : Nat} {l : List α} (h : E.at_ w b o l) (hk : ∀ o, w'.cell? ⟨b, o, none⟩ = w.cell? ⟨b, o, none⟩) : E.at_ w' b o l :=
  fun i hi r u hu => (hk _).trans (h i hi r u hu)

theorem Enc.Rd.below {α : Type} {E : Enc α} {w w' : World} {A : Option Addr} {l : List α} (h : E.Rd w A l) {B : Nat} (hb : Below B w w') (hB : w.heap.size ≤ B) : E.Rd w' A l :=
  ⟨fun hl => by
    obtain ⟨b, o, rfl, hlt, hc⟩ := h.at_ hl
    exact ⟨b, o, rfl, Nat.lt_of_lt_of_le hlt hb.size, hc.keep fun o => hb.cell (p := ⟨b, o, none⟩) (Nat.lt_of_lt_of_le hlt hB)⟩⟩

theorem Enc.Rd.get {α : Type} {E : Enc α} {w : World} {A : Option Addr} {l : List α} (h : E.Rd w A l) {i : Nat} (hi : i < l.length) :
    ∃ b o, A = some ⟨b, o, none⟩ ∧ b < w.heap.size ∧ E.at_ w b o l :=
  h.at_ (by intro e; subst e; simp at hi)

/-- A row of the call's own that holds a list. -/
def Enc.Own {α : Type} (E : Enc α) (e : TypeId) (w : World) (base : Nat) (A : Option Addr) (c : Nat) (l : List α) : Prop :=
  w.ownsRow base e E.size (.slice A l.length c) l.length (E.flat l)

section
variable {α : Type} {E : Enc α} {e : TypeId} {w w' : World} {base : Nat} {A : Option Addr} {c : Nat} {l : List α}

theorem Enc.Own.nil : E.Own e w base none 0 [] := ⟨by simp [Enc.flat], .inl ⟨rfl, rfl⟩⟩

theorem Enc.Own.fresh (E : Enc α) (w : World) (e : TypeId) : E.Own e (w.alloc (.cells #[] e)) w.heap.size (some ⟨w.heap.size, 0, none⟩) 0 [] :=
  ⟨by simp [Enc.flat], .inr ⟨w.heap.size, 0, #[], rfl, Nat.le_refl _, heap_alloc_new w _, Nat.le_refl _, by unfold maxLen; omega, by simp, by simp [Enc.flat]⟩⟩

theorem Enc.Own.form (h : E.Own e w base A c l) (hl : l ≠ []) : ∃ g, A = some ⟨g, 0, none⟩ ∧ base ≤ g ∧ g < w.heap.size := by
  rcases h.2 with ⟨h1, h2⟩ | ⟨g, cap, cur, h1, h2, h3, _⟩
  · exact absurd (List.eq_nil_of_length_eq_zero h2) hl
  · refine ⟨g, by injection h1, h2, ?_⟩
    rcases Nat.lt_or_ge g w.heap.size with h | h
    · exact h
    · rw [Array.getElem?_eq_none h] at h3; cases h3

theorem Enc.Own.at_ {g : Nat} (h : E.Own e w base (some ⟨g, 0, none⟩) c l) : E.at_ w g 0 l := by
  intro i hi r u hu
  have hr : r < E.size := by
    rcases Nat.lt_or_ge r E.size with h | h
    · exact h
    · rw [List.getElem?_eq_none (by rw [E.len]; exact h)] at hu; cases hu
  have hj : i * E.size + r < l.length * E.size := by
    have : (i + 1) * E.size ≤ l.length * E.size := Nat.mul_le_mul_right _ hi
    rw [Nat.succ_mul] at this; omega
  rw [Nat.zero_add, World.ownsRow.cellAt h _ hj, E.flat_get l i hi r hr]
  exact hu

theorem Enc.Own.rd (h : E.Own e w base A c l) : E.Rd w A l := ⟨fun hl => by
  obtain ⟨g, rfl, _, hg⟩ := h.form hl
  exact ⟨g, 0, rfl, hg, h.at_⟩⟩

theorem Enc.Own.frozen {g : Nat} (h : E.Own e w base (some ⟨g, 0, none⟩) c l) (j : Nat) : w.frozen? ⟨g, j, none⟩ = false := World.ownsRow.frozenAt h j

theorem Enc.Own.lt {g : Nat} (h : E.Own e w base (some ⟨g, 0, none⟩) c l) : base ≤ g ∧ g < w.heap.size := World.ownsRow.lt (show w.ownsRow _ _ _ _ _ _ from h) g rfl

theorem Enc.Own.below (h : E.Own e w base A c l) {B : Nat} (hb : Below B w w') (hB : w.heap.size ≤ B) : E.Own e w' base A c l := by
  refine World.ownsRow.kept (row := none) h ⟨hb.os, hb.tape, hb.output, hb.size, fun k hk _ => hb.block k (Nat.lt_of_lt_of_le hk hB)⟩ ?_
  cases A <;> simp [Value.ownBlock]

theorem Enc.Own.mono (h : E.Own e w base A c l) {base' : Nat} (hb : base' ≤ base) : E.Own e w base' A c l :=
  ⟨h.1, h.2.imp id fun ⟨g, cap, cur, h1, h2, r⟩ => ⟨g, cap, cur, h1, Nat.le_trans hb h2, r⟩⟩
end

/-- append(s, x...): whatever source. -/
theorem run_append_L {α : Type} {P : Program} (E : Enc α) (e t ty : TypeId) (z : Value) (bytes : Nat) (ht : P.underlying t = some (.slice e)) (hinf : (P.info? e).map (fun i => (i.zero, i.size, i.bytes)) = some (some z, E.size, bytes)) (hzs : z.cells.size = E.size)
    (hsz : 0 < E.size) (w : World) (base : Nat) (A : Option Addr) (c : Nat) (l : List α) (hown : E.Own e w base A c l) (B : Option Addr) (d : Nat) (m : List α) (hr : E.Rd w B m)
    (hb1 : (l.length + m.length) ≤ 1099511627776) (hb2 : bytes ≤ 128) (hbase : base ≤ w.heap.size) :
    ∃ A' c' w', (Builtin.append_ #[t, t] ty #[.slice A l.length c, .slice B m.length d]).run P w = .ok (.slice A' (l ++ m).length c') w' ∧ E.Own e w' base A' c' (l ++ m) ∧ w.grownBy w' (Value.slice A l.length c).ownBlock ∧
      ((Value.slice A' (l ++ m).length c').ownBlock = (Value.slice A l.length c).ownBlock ∨ (Value.slice A' (l ++ m).length c').ownBlock = some w.heap.size) := by
  obtain ⟨i, hi, hz, hs, hby⟩ := info_parts hinf
  have hby' : (l.length + m.length) * bytes ≤ 140737488355328 := by
    have : (l.length + m.length) * bytes ≤ 1099511627776 * 128 := Nat.mul_le_mul hb1 hb2
    omega
  by_cases hB : ∃ ad, B = some ad
  · obtain ⟨ad, rfl⟩ := hB
    have hcells : ∀ j u, (E.flat m)[j]? = some u → w.cell? (ad.add j) = some u := by
      intro j u hj
      by_cases hm : m = []
      · subst hm; simp [Enc.flat] at hj
      · obtain ⟨b, o, h1, _, h2⟩ := hr.at_ hm
        injection h1 with h1
        subst h1
        exact Enc.at_flat h2 j u hj
    obtain ⟨v', w', hrun, h2, h3, _, h5⟩ := run_append_own_at (P := P) w base t ty e i z E.size bytes ht hi hz hs hby hzs hsz _ _ _ hown ad m.length d (E.flat m) (E.flat_len m) hcells (E.flat_one m) (by unfold maxLen; omega) hby' hbase
    rw [← E.flat_append, show l.length + m.length = (l ++ m).length by simp] at h2
    have hf : ∃ A' c', v' = .slice A' (l ++ m).length c' := by
      rcases h2.2 with ⟨h, h0⟩ | ⟨g, cap, cur, h, _⟩
      · exact ⟨none, 0, by rw [h, h0]⟩
      · exact ⟨_, _, h⟩
    obtain ⟨A', c', rfl⟩ := hf
    exact ⟨A', c', w', hrun, h2, h3, h5⟩
  · have hB' : B = none := by cases B with
      | none => rfl
      | some a => exact absurd ⟨a, rfl⟩ hB
    subst hB'
    have hm : m = [] := by
      rcases Classical.em (m = []) with h | h
      · exact h
      · obtain ⟨b, o, h1, _⟩ := hr.at_ h; cases h1
    subst hm
    refine ⟨A, c, w, ?_, by simpa using hown, World.grownBy.refl w _, .inl (by simp)⟩
    rcases hown.2 with ⟨h1, h2⟩ | ⟨g, cap, cur, h1, _, _, hnc, _⟩
    · have : l = [] := List.eq_nil_of_length_eq_zero h2
      subst this
      injection h1 with h1 h3 h4
      subst h1; subst h4
      simp [Builtin.append_, run_underlying ht, sizeOf, typeInfo, hi, Builtin.lenOf, Builtin.firstCells]
    · injection h1 with h1 h3 h4
      subst h1; subst h4
      simp [Builtin.append_, run_underlying ht, sizeOf, typeInfo, hi, Builtin.lenOf, Builtin.firstCells, hnc, storeCells]

theorem wpList_append_L {α : Type} {P : Program} (E : Enc α) (e t : TypeId) {ops : Array Oper} {rest : List Oper} {o : Oper} {a : Act} {Q : Exit → Act → World → Prop} (hgd : o.guard = none) (s x : Operand)
    (ho : o.op = .call { callee := .builtin .append, args := #[s, x], argTypes := #[t, t] })
    (z : Value) (bytes : Nat) (ht : P.underlying t = some (.slice e)) (hinf : (P.info? e).map (fun i => (i.zero, i.size, i.bytes)) = some (some z, E.size, bytes)) (hzs : z.cells.size = E.size) (hsz : 0 < E.size)
    (w : World) (base : Nat) (A : Option Addr) (c : Nat) (l : List α) (hs : a.eval s = .slice A l.length c) (hown : E.Own e w base A c l) (B : Option Addr) (d : Nat) (m : List α) (hx : a.eval x = .slice B m.length d) (hr : E.Rd w B m)
    (hb1 : (l.length + m.length) ≤ 1099511627776) (hb2 : bytes ≤ 128) (hbase : base ≤ w.heap.size)
    (h : ∀ A' c' w', E.Own e w' base A' c' (l ++ m) → w.grownBy w' (Value.slice A l.length c).ownBlock →
      ((Value.slice A' (l ++ m).length c').ownBlock = (Value.slice A l.length c).ownBlock ∨ (Value.slice A' (l ++ m).length c').ownBlock = some w.heap.size) → wpList P ops Q rest (a.put o.dst (.slice A' (l ++ m).length c')) w') :
    wpList P ops Q (o :: rest) a w := by
  refine wpList_plain hgd fun K hK => ?_
  obtain ⟨A', c', w', hr', h2, h3, h4⟩ := run_append_L (P := P) E e t o.type z bytes ht hinf hzs hsz w base A c l hown B d m hr hb1 hb2 hbase
  unfold Oper.wp execOp
  simp only [ho, resolve, invoke, builtin, Sem.run_bind, Sem.run_pure, Result.andThen_ok, List.map_toArray, List.map_cons, List.map_nil, hs, hx, hr']
  exact hK _ _ (h A' c' w' h2 h3 h4)

/-- Nothing below a base has turned behind an append to a row of the call's own. -/
theorem below_append {α : Type} {E : Enc α} {e : TypeId} {w0 w w' : World} {base : Nat} {A : Option Addr} {c : Nat} {l : List α} (hb : Below base w0 w) (hown : E.Own e w base A c l) (hg : w.grownBy w' (Value.slice A l.length c).ownBlock) (hB : base ≤ w.heap.size) : Below base w0 w' :=
  hb.grown hg hB fun k hk => (World.ownsRow.lt hown k hk).1

/-! Instructions -/
def EI : Enc Insn := ⟨Insn.cells, 4, fun _ => rfl, fun x u hu => by simp [Insn.cells] at hu; rcases hu with rfl | rfl | rfl | rfl <;> rfl⟩

theorem at_insn {w : World} {b o : Nat} {l : List Insn} (h : EI.at_ w b o l) : ∀ i (h : i < l.length), IAt w b (o + i * 4) (l[i]'h) := fun i hi =>
  ⟨h i hi 0 _ rfl, h i hi 1 _ rfl, h i hi 2 _ rfl, h i hi 3 _ rfl⟩

theorem insn_at {w : World} {b o : Nat} {l : List Insn} (h : ∀ i (h : i < l.length), IAt w b (o + i * 4) (l[i]'h)) : EI.at_ w b o l := by
  intro i hi r u hu
  obtain ⟨h0, h1, h2, h3⟩ := h i hi
  match r, hu with
  | 0, hu => injection hu with hu; subst hu; exact h0
  | 1, hu => injection hu with hu; subst hu; exact h1
  | 2, hu => injection hu with hu; subst hu; exact h2
  | 3, hu => injection hu with hu; subst hu; exact h3
  | r + 4, hu => simp [EI, Insn.cells] at hu

theorem RdP.enc {w : World} {A : Option Addr} {l : List Insn} (h : RdP w A l) : EI.Rd w A l := ⟨fun hl => by
  obtain ⟨b, o, h1, h2, h3⟩ := h.at_ hl
  exact ⟨b, o, h1, h2, insn_at h3⟩⟩

theorem RdP.of_enc {w : World} {A : Option Addr} {l : List Insn} (h : EI.Rd w A l) (h1 : l.length ≤ 17592186044416) (h2 : ∀ x ∈ l, x.Ok) : RdP w A l := ⟨h1, h2, fun hl => by
  obtain ⟨b, o, h1, h2, h3⟩ := h.at_ hl
  exact ⟨b, o, h1, h2, at_insn h3⟩⟩

end Go.Proofs.Ytfjbanfibmpalaa

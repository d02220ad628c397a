/- Words: writing into rows of one's own; rows of truth values; rows made at once. -/
import Derived.Test.YtfjbanfibmpalaaK16
set_option linter.unusedVariables false
set_option linter.unusedSimpArgs false
namespace Go.Proofs.Ytfjbanfibmpalaa
open Go.RowKit Go.Shelf

theorem Enc.flat_set {α : Type} (E : Enc α) (y : α) (u : Value) (r : Nat) (hr : r < E.size) : ∀ (l : List α) (i : Nat) (hi : i < l.length), E.enc y = (E.enc (l[i]'hi)).set r u → E.flat (l.set i y) = (E.flat l).set (i * E.size + r) u
  | [], i, hi, _ => by simp at hi
  | x :: t, 0, hi, h => by
    have e1 : E.flat ((x :: t).set 0 y) = E.enc y ++ E.flat t := rfl
    have e2 : E.flat (x :: t) = E.enc x ++ E.flat t := rfl
    rw [e1, e2, h, Nat.zero_mul, Nat.zero_add, List.set_append_left _ _ (by rw [E.len]; exact hr)]
    rfl
  | x :: t, i + 1, hi, h => by
    have e1 : E.flat ((x :: t).set (i + 1) y) = E.enc x ++ E.flat (t.set i y) := rfl
    have e2 : E.flat (x :: t) = E.enc x ++ E.flat t := rfl
    have ih := Enc.flat_set E y u r hr t i (by simpa using hi) h
    rw [e1, e2, ih, List.set_append_right _ _ (by rw [E.len, Nat.succ_mul]; omega), E.len]
    rw [show (i + 1) * E.size + r - E.size = i * E.size + r by rw [Nat.succ_mul]; omega]

section
variable {α : Type} {E : Enc α} {e : TypeId} {w : World} {base : Nat} {A : Option Addr} {c : Nat} {l : List α}

/-- One cell of an element is written. -/
theorem Enc.Own.set {g : Nat} (h : E.Own e w base (some ⟨g, 0, none⟩) c l) (i : Nat) (hi : i < l.length) (r : Nat) (hr : r < E.size) (y : α) (u : Value) (hy : E.enc y = (E.enc (l[i]'hi)).set r u) (j : Nat) (hj : j = i * E.size + r) :
    E.Own e (w.setCell ⟨g, j, none⟩ u) base (some ⟨g, 0, none⟩) c (l.set i y) := by
  subst hj
  have hf := E.flat_set y u r hr l i hi hy
  obtain ⟨h1, h2⟩ := h
  refine ⟨by rw [E.flat_len, List.length_set], ?_⟩
  rcases h2 with ⟨h2, _⟩ | ⟨g', cap, cur, h2, h3, h4, h5, h6, h7, h8⟩
  · cases h2
  · have eg : g = g' := by injection h2 with a; injection a with a; injection a
    have ec : c = cap := by injection h2
    subst eg
    subst ec
    refine .inr ⟨g, c, cur.setIfInBounds (i * E.size + r) u, by rw [List.length_set], h3, heap_setCell_same w g _ cur e u h4, by rw [List.length_set]; exact h5, h6, by simpa using h7, ?_⟩
    rw [List.length_set, hf, ← h8, Array.toList_setIfInBounds, List.take_set]

theorem Enc.Own.setCell_ne {p : Addr} (h : E.Own e w base A c l) (hp : ∀ g, A = some ⟨g, 0, none⟩ → p.block ≠ g) (u : Value) : E.Own e (w.setCell p u) base A c l := by
  obtain ⟨h1, h2⟩ := h
  refine ⟨h1, h2.imp id ?_⟩
  rintro ⟨g, cap, cur, h2, h3, h4, r⟩
  exact ⟨g, cap, cur, h2, h3, (Below.heap_setCell _ _ _ _ (fun e => hp g (by injection h2) e.symm)).trans h4, r⟩
end

/-! Truth values in cells -/
def EB : Enc Bool := ⟨fun b => [.bool b], 1, fun _ => rfl, fun x u hu => by simp at hu; subst hu; rfl⟩

theorem info_bool : (Try.prog.info? 4).map (fun i => (i.zero, i.size, i.bytes)) = some (some (.bool false), 1, 1) := by kernel_rfl

theorem flat_one {α : Type} (E : Enc α) (f : α → Value) (hf : ∀ x, E.enc x = [f x]) (l : List α) : E.flat l = l.map f := by
  induction l with
  | nil => rfl
  | cons x t ih =>
    have e : E.flat (x :: t) = E.enc x ++ E.flat t := rfl
    rw [e, ih, hf]; rfl

/-- make([]T, n) for elements of one cell. -/
theorem make_own1 {α : Type} (E : Enc α) (f : α → Value) (hf : ∀ x, E.enc x = [f x]) (hE : E.size = 1) (z : α) {e : TypeId} {w : World} {base n : Nat} (hz : (f z).cells = #[f z]) {w' : World}
    (h' : w'.ownsRow base e 1 (.slice (some ⟨w.heap.size, 0, none⟩) n n) n (madeCells (f z).cells (n * 1)).toList) : E.Own e w' base (some ⟨w.heap.size, 0, none⟩) n (List.replicate n z) := by
  unfold Enc.Own
  rw [flat_one E f hf, hE, List.length_replicate]
  have : (madeCells (f z).cells (n * 1)).toList = (List.replicate n z).map f := by
    rw [hz]
    refine List.ext_getElem (by simp [madeCells]) ?_
    intro i h1 h2
    simp [madeCells, Nat.mod_one]
  rw [← this]
  exact h'
end Go.Proofs.Ytfjbanfibmpalaa

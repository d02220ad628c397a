/- Plain: what a passed check tells. Contract: wicketgateref04.Next, whole; wicketgateref04.Reach. -/
import Derived.Test.YtfjbanfibmpalaaK18
set_option linter.unusedVariables false
set_option linter.unusedSimpArgs false
namespace Go.Proofs.Ytfjbanfibmpalaa
open Go.RowKit Go.Shelf

theorem rnext_any (x : Insn) (hx : x.Ok) (i : Nat) (hi : i ≤ 255) (w : World) :
    Calls Try.prog 143 #[(Value.agg #[.int .u16 x.code, .int .u8 x.jt, .int .u8 x.jf, .int .u32 x.k]), .int .i64 i] w fun e w' => ∃ A c, e = .returned (.slice A (nexts x i).length c) ∧ EN.Rd w' A (nexts x i) ∧ (∀ b o, A = some ⟨b, o, none⟩ → w.heap.size ≤ b) ∧ Below w.heap.size w w' := by
  have hv := form_vals x.code
  by_cases hneg : form x.code < 0
  · rw [show nexts x i = [] by unfold nexts; rw [if_pos (.inl hneg)]]
    exact rnext_neg x hx i hi w (by omega) _ rfl
  by_cases hr : isRet x.code = true
  · rw [show nexts x i = [] by unfold nexts; rw [if_pos (.inr hr)]]
    exact rnext_ret x hx i hi w _ rfl (by omega) hr
  have hr' : isRet x.code = false := by simpa using hr
  have hno : ¬ (form x.code < 0 ∨ isRet x.code = true) := by rintro (h | h); exact hneg h; exact hr h
  by_cases h4 : form x.code = 4
  · by_cases hk : x.k ≤ 255
    · rw [show nexts x i = [i + 1 + x.k] by unfold nexts; rw [if_neg hno, if_pos h4, if_pos hk]]
      exact rnext_ja x hx i hi w h4 hr' hk
    · rw [show nexts x i = [] by unfold nexts; rw [if_neg hno, if_pos h4, if_neg hk]]
      exact rnext_far x hx i hi w h4 hr' (by omega)
  by_cases h56 : form x.code = 5 ∨ form x.code = 6
  · by_cases he : x.jt = x.jf
    · rw [show nexts x i = [i + 1 + x.jt] by unfold nexts; rw [if_neg hno, if_neg h4, if_pos h56, if_pos he]]
      rcases h56 with h | h
      · exact rnext_t5e x hx i hi w h hr' he
      · exact rnext_t6e x hx i hi w h hr' he
    · by_cases hl : x.jt < x.jf
      · rw [show nexts x i = [i + 1 + x.jt, i + 1 + x.jf] by unfold nexts; rw [if_neg hno, if_neg h4, if_pos h56, if_neg he, Nat.min_eq_left (by omega), Nat.max_eq_right (by omega)]]
        rcases h56 with h | h
        · exact rnext_t5l x hx i hi w h hr' hl
        · exact rnext_t6l x hx i hi w h hr' hl
      · rw [show nexts x i = [i + 1 + x.jf, i + 1 + x.jt] by unfold nexts; rw [if_neg hno, if_neg h4, if_pos h56, if_neg he, Nat.min_eq_right (by omega), Nat.max_eq_left (by omega)]]
        rcases h56 with h | h
        · exact rnext_t5g x hx i hi w h hr' (by omega)
        · exact rnext_t6g x hx i hi w h hr' (by omega)
  · rw [show nexts x i = [i + 1] by unfold nexts; rw [if_neg hno, if_neg h4, if_neg h56]]
    exact rnext_plain x hx i hi w _ rfl (by omega) (by simp; omega) (by simp; omega) (by simp; omega) hr'

/-- A truth value for each place. -/
def marks (n : Nat) (f : Nat → Bool) : List Bool := (List.range n).map f

theorem marks_len (n : Nat) (f : Nat → Bool) : (marks n f).length = n := by simp [marks]
theorem marks_get (n : Nat) (f : Nat → Bool) (i : Nat) (hi : i < (marks n f).length) : (marks n f)[i] = f i := by simp [marks]
theorem marks_set (n : Nat) (f : Nat → Bool) (i : Nat) (b : Bool) : (marks n f).set i b = marks n (fun q => if q = i then b else f q) := by
  refine List.ext_getElem (by simp [marks]) ?_
  intro j h1 h2
  rw [List.getElem_set]
  simp only [marks, List.getElem_map, List.getElem_range]
  by_cases h : i = j
  · simp [h]
  · rw [if_neg h, if_neg (fun e => h e.symm)]
theorem marks_congr (n : Nat) (f g : Nat → Bool) (h : ∀ q, q < n → f q = g q) : marks n f = marks n g :=
  List.map_congr_left (fun q hq => h q (List.mem_range.1 hq))

/-- One truth value is written. -/
theorem marks_put {w : World} {base n g c : Nat} {f : Nat → Bool} (h : EB.Own 4 w base (some ⟨g, 0, none⟩) c (marks n f)) (i : Nat) (hi : i < n) (b : Bool) :
    EB.Own 4 (w.setCell ⟨g, i, none⟩ (.bool b)) base (some ⟨g, 0, none⟩) c (marks n (fun q => if q = i then b else f q)) := by
  rw [← marks_set]
  exact h.set i (by rw [marks_len]; exact hi) 0 (by decide) b (.bool b) rfl i (by show i = i * 1 + 0; omega)

theorem marks_cell {w : World} {base n g c : Nat} {f : Nat → Bool} (h : EB.Own 4 w base (some ⟨g, 0, none⟩) c (marks n f)) (i : Nat) (hi : i < n) : w.cell? ⟨g, i, none⟩ = some (.bool (f i)) := by
  have hi' : i < (marks n f).length := by rw [marks_len]; exact hi
  have := h.at_ i hi' 0 (.bool (f i)) (by rw [marks_get]; rfl)
  simpa [EB] using this
theorem ints_cell {w : World} {b o : Nat} {l : List Nat} (h : EN.at_ w b o l) (i : Nat) (hi : i < l.length) : w.cell? ⟨b, o + i, none⟩ = some (.int .i64 ((nth l i : Nat) : Int)) := by
  have := h i hi 0 (.int .i64 (l[i] : Int)) rfl
  simpa [EN, nth, hi] using this
end Go.Proofs.Ytfjbanfibmpalaa

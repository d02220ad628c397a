/- PruneDoes: for every row of programs the law answers true, and leaves what came in as it was. -/
import Derived.Test.YtfjbanfibmpalaaR1
import Derived.Test.YtfjbanfibmpalaaK44
set_option linter.unusedVariables false
set_option linter.unusedSimpArgs false
namespace Go.Proofs.Ytfjbanfibmpalaa
open Go.ChangeShapes Go.WideShapes Go.ChangeAt Go.RowKit Go.Deep

theorem weightsAll_mem {H : Type} {P : Program} {e : TypeId} : ∀ {l : List (DataW H)} {d : DataW H}, d ∈ l → ∀ n ∈ d.weights P e, n ∈ DataW.weightsAll P e l
  | [], _, h, _, _ => by simp at h
  | y :: l, d, h, n, hn => by
    simp only [DataW.weightsAll, List.mem_append]
    rcases List.mem_cons.1 h with rfl | h
    · exact .inl hn
    · exact .inr (weightsAll_mem h n hn)

theorem cells_row : Try.prog.cellsOf 24 = 1 := by kernel_rfl

theorem rows_of {H : Type} {enc : TypeId × Value → H} {W : World} {fuel : Nat} {a : Option Addr} {len cap : Nat} {x : DataW H × List MemPlace} (h : DataW.trod enc Try.prog W 0 (fun _ => true) true fuel 22 [.slice a len cap] = some x)
    (hr : ∀ n ∈ x.1.weights Try.prog 22, n ≤ reachBytes) : InRows W a len ∧ len ≤ 9223372036854775807 := by
  rcases open_slice Try.underlying22 h with ⟨hcs, hx⟩ | ⟨ad, len', cap', m, n, D, Pl, hcs, hb, hl, hm, hmm, hx, hi⟩
  · injection hcs with hcs _
    injection hcs with h1 h2 h3
    subst h2
    exact ⟨⟨fun h => absurd rfl h⟩, by omega⟩
  · injection hcs with hcs _
    injection hcs with h1 h2 h3
    subst h1; subst h2; subst h3
    simp only [if_true] at hmm
    subst hmm
    rw [cells_row] at hi
    refine ⟨⟨fun hne => ?_⟩, by unfold maxLen at hm; omega⟩
    have hone : ∀ i, i < len → ∃ (Ai : Option Addr) (ci : Nat) (li : List Insn), W.cell? (ad.add (i * 1) |>.add 0) = some (.slice Ai li.length ci) ∧ In W Ai ci li := by
      intro i hil
      obtain ⟨cs', hc, ht⟩ := hi i (by omega)
      obtain ⟨_, hcl, hcc⟩ := World.cells?_some hc
      match cs', hcl with
      | [v], _ =>
        have hv : ∃ Ai ni ci, v = .slice Ai ni ci := by
          rcases open_slice Try.underlying24 ht with ⟨e, _⟩ | ⟨ad', l', c', _, _, _, _, e, _⟩
          · injection e with e; exact ⟨_, _, _, e⟩
          · injection e with e; exact ⟨_, _, _, e⟩
        obtain ⟨Ai, ni, ci, rfl⟩ := hv
        obtain ⟨li, rfl, hin⟩ := in_of ht (fun E S e => hr _ (by
          rw [hx]
          simp only [DataW.weights, Try.underlying22, List.mem_cons, List.mem_append]
          right; left
          refine weightsAll_mem (d := D i) (List.mem_map_of_mem (List.mem_range.2 hil)) _ ?_
          have e' : D i = .slice E S := e
          rw [e']
          simp only [DataW.weights, Try.underlying24, List.mem_cons]
          left; trivial))
        exact ⟨Ai, ci, li, hcc 0 (by omega), hin⟩
    obtain ⟨A0, c0, l0, hc0, _⟩ := hone 0 (by omega)
    obtain ⟨b, off, spot⟩ := ad
    have hspot : spot = none := by simpa [Addr.add] using World.cell?_spot hc0
    subst hspot
    have hp : ∀ i, ((⟨b, off, none⟩ : Addr).add (i * 1) |>.add 0) = ⟨b, off + i, none⟩ := by
      intro i; unfold Addr.add; split <;> split <;> simp_all
    refine ⟨b, off, rfl, ?_, fun i hil => ?_⟩
    · rw [hp] at hc0
      exact World.block_lt_of_cell? W ⟨b, off + 0, none⟩ hc0
    · obtain ⟨Ai, ci, li, h1, h2⟩ := hone i hil
      rw [hp] at h1
      exact ⟨Ai, ci, li, h1, h2⟩

set_option maxRecDepth 100000 in
theorem pruneDoes_lifted (os : Os) (started : os.Started) (H : Type) (enc : TypeId × Value → H) :
    ReturnsInHanded {} Try.checked os 3 .any (Rows.pruneDoesSpec.pre6 enc Try.prog Try.f3 Rows.pruneDoesRow.domain false) (Rows.pruneDoesSpec.post enc Try.prog Try.f3 false true false false) := by
  refine returnsInHanded_of_change_sized (C := Try.checked) Try.own started (by kernel_rfl) Try.func3
    (ChangeSpec.witness6 (enc := enc) (C := Try.checked) false ⟨#[], #[.slice none 0 0], []⟩ 8 (by kernel_rfl) (by kernel_rfl) (by kernel_rfl) (by kernel_rfl)) ?_
  intro W base args ds gs before hval0 hW _ hsz0 _
  have hsz : (DataW.weightsEach Try.prog (Try.f3.params.toList ++ Rows.pruneDoesSpec.plain.varTypes Try.prog) (ds ++ gs)).all (· ≤ reachBytes) = true := hsz0
  clear hsz0
  have hval : ∀ (j : Nat) t v, Try.f3.params[j]? = some t → args[j]? = some v → Value.okWide Try.prog W .any base t v := hval0
  have hW' := hW
  obtain ⟨p, q, hA0, hV, rfl, _, _⟩ := hW
  have hA : DataW.TrodAll enc Try.prog W 0 (fun _ => true) true Try.f3.params.toList args.toList ds p := hA0
  have hAk := hA
  rw [Try.params3] at hA hval hsz
  obtain ⟨v0, d0, rfl, rfl, h0⟩ := trodAll_one hA
  obtain ⟨rfl, rfl⟩ := trodVars_none hV
  obtain ⟨a0, len0, cap0, rfl⟩ := okWide_slice Try.underlying22 (hval 0 22 v0 rfl rfl)
  have h0k := h0
  obtain ⟨f0, hf0⟩ := h0
  clear hA0 hval0
  simp only [List.append_nil] at hW'
  have hlt : ∀ x ∈ p, x.block < W.heap.size := fun x hx => by simpa using hW'.lt x hx
  obtain ⟨hin, hn⟩ := rows_of hf0 (fun n hn => by simpa using List.all_eq_true.1 hsz _ (DataW.weights_mem_each (j := 0) (t := 22) rfl rfl n hn))
  refine (pdoes_any a0 len0 cap0 W hin hn).mono ?_
  rintro e W' ⟨rfl, hb⟩
  refine ⟨_, rfl, law_post (f := Try.f3) (s := Rows.pruneDoesSpec) rfl rfl rfl rfl rfl hW' hAk (fun sp hsp => ?_) hb⟩
  exact trodAll_mk1 (WideElems.Trod_stays Try.laidOut (by kernel_rfl) (of_decide_eq_true (by kernel_rfl)) h0k (fun x hx => hb.same (hlt x hx)) (fun x hx => hsp x hx))

theorem pruneDoes_holds : Rows.PruneDoesSaid :=
  OpenClaim.holds_of_wide 3 Try.f3 rfl rfl rfl rfl rfl rfl rfl ⟨rfl, rfl, rfl, rfl, rfl⟩ rfl rfl rfl rfl rfl (by kernel_rfl) Try.func3 (by kernel_rfl)
    (of_decide_eq_true (by kernel_rfl)) (by unfold Func.isWrapper; first | (rw [if_pos (by decide +kernel)]; kernel_rfl) | (rw [if_neg (by decide +kernel)]; exact ⟨rfl, rfl⟩))
    (fun os started H enc _ => pruneDoes_lifted os started H enc)
end Go.Proofs.Ytfjbanfibmpalaa

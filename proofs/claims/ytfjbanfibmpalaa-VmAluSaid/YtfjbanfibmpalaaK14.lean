/- Contracts: check.next, slices.AppendSeq, slices.Collect, check.Next. -/
import Derived.Test.YtfjbanfibmpalaaK13
set_option linter.unusedVariables false
set_option linter.unusedSimpArgs false
namespace Go.Proofs.Ytfjbanfibmpalaa
open Go.RowKit Go.Shelf
attribute [local go_sem] Oper.semAt_some

def ints (l : List Nat) : List (Array Value) := l.map fun (k : Nat) => (#[Value.int .i64 (k : Int)] : Array Value)

/-- What comes next, told one behind the other. -/
theorem next_iter (x : Insn) (hx : x.Ok) (i : Nat) (hi : i ≤ 255) (g1 g2 m0 n0 : Nat) (w0 : World) (h1 : IAt w0 g1 0 x) (h2 : w0.cell? ⟨g2, 0, none⟩ = some (.int .i64 i)) (hg1 : m0 ≤ g1 ∧ g1 < n0) (hg2 : m0 ≤ g2 ∧ g2 < n0) :
    Iter Try.prog 123 #[.pointer (some ⟨g1, 0, none⟩), .pointer (some ⟨g2, 0, none⟩)] (ints (nexts x i)) m0 n0 w0 := by
  have hv := form_vals x.code
  by_cases hneg : form x.code < 0
  · rw [show nexts x i = [] by unfold nexts; rw [if_pos (.inl hneg)]]
    exact next_iter_neg x hx i hi (by omega) g1 g2 m0 n0 w0 h1 h2 hg1 hg2
  by_cases hr : isRet x.code = true
  · rw [show nexts x i = [] by unfold nexts; rw [if_pos (.inr hr)]]
    exact next_iter_ret x hx i hi _ rfl (by omega) hr g1 g2 m0 n0 w0 h1 h2 hg1 hg2
  have hr' : isRet x.code = false := by simpa using hr
  have hno : ¬ (form x.code < 0 ∨ isRet x.code = true) := by rintro (h | h); exact hneg h; exact hr h
  by_cases h4 : form x.code = 4
  · by_cases hk : x.k ≤ 255
    · rw [show nexts x i = [i + 1 + x.k] by unfold nexts; rw [if_neg hno, if_pos h4, if_pos hk]]
      exact next_iter_ja x hx i hi h4 hr' hk g1 g2 m0 n0 w0 h1 h2 hg1 hg2
    · rw [show nexts x i = [] by unfold nexts; rw [if_neg hno, if_pos h4, if_neg hk]]
      exact next_iter_far x hx i hi h4 hr' (by omega) g1 g2 m0 n0 w0 h1 h2 hg1 hg2
  by_cases h56 : form x.code = 5 ∨ form x.code = 6
  · by_cases he : x.jt = x.jf
    · rw [show nexts x i = [i + 1 + x.jt] by unfold nexts; rw [if_neg hno, if_neg h4, if_pos h56, if_pos he]]
      rcases h56 with h | h
      · exact next_iter_t5e x hx i hi h hr' he g1 g2 m0 n0 w0 h1 h2 hg1 hg2
      · exact next_iter_t6e x hx i hi h hr' he g1 g2 m0 n0 w0 h1 h2 hg1 hg2
    · by_cases hl : x.jt < x.jf
      · rw [show nexts x i = [i + 1 + x.jt, i + 1 + x.jf] by unfold nexts; rw [if_neg hno, if_neg h4, if_pos h56, if_neg he, Nat.min_eq_left (by omega), Nat.max_eq_right (by omega)]]
        rcases h56 with h | h
        · exact next_iter_t5l x hx i hi h hr' hl g1 g2 m0 n0 w0 h1 h2 hg1 hg2
        · exact next_iter_t6l x hx i hi h hr' hl g1 g2 m0 n0 w0 h1 h2 hg1 hg2
      · rw [show nexts x i = [i + 1 + x.jf, i + 1 + x.jt] by unfold nexts; rw [if_neg hno, if_neg h4, if_pos h56, if_neg he, Nat.min_eq_right (by omega), Nat.max_eq_left (by omega)]]
        rcases h56 with h | h
        · exact next_iter_t5g x hx i hi h hr' (by omega) g1 g2 m0 n0 w0 h1 h2 hg1 hg2
        · exact next_iter_t6g x hx i hi h hr' (by omega) g1 g2 m0 n0 w0 h1 h2 hg1 hg2
  · rw [show nexts x i = [i + 1] by unfold nexts; rw [if_neg hno, if_neg h4, if_neg h56]]
    exact next_iter_plain x hx i hi _ rfl (by omega) (by simp; omega) (by simp; omega) (by simp; omega) hr' g1 g2 m0 n0 w0 h1 h2 hg1 hg2

set_option maxHeartbeats 400000 in
theorem next_any (x : Insn) (i : Nat) (w : World) :
    Calls Try.prog 74 #[(Value.agg #[.int .u16 x.code, .int .u8 x.jt, .int .u8 x.jf, .int .u32 x.k]), .int .i64 i] w fun e w' => e = .returned (.func (.func 123) #[] #[.pointer (some ⟨w.heap.size, 0, none⟩), .pointer (some ⟨w.heap.size + 1, 0, none⟩)]) ∧
      (w.alloc (.cells #[.int .u16 x.code, .int .u8 x.jt, .int .u8 x.jf, .int .u32 x.k] 36)).alloc (.cells #[.int .i64 i] 3) = w' := by
  go_enter Try.func74, Try.ntmps74
  go_wp2
  go_ret
  exact ⟨rfl, rfl⟩

/-! Whole numbers in cells -/
def EN : Enc Nat := ⟨fun n => [.int .i64 (n : Int)], 1, fun _ => rfl, fun x u hu => by simp at hu; subst hu; rfl⟩

theorem info_int : (Try.prog.info? 3).map (fun i => (i.zero, i.size, i.bytes)) = some (some (.int .i64 0), EN.size, 8) := by kernel_rfl

set_option maxHeartbeats 400000 in
theorem appendSeq_any (gf : Nat) (lb : Array Value) (ns : List Nat) (m0 n0 : Nat) (w : World) (eg : ∀ args w, (callFunc gf args).run Try.prog w = .ok (.enter gf args) w) (hit : Iter Try.prog gf lb (ints ns) m0 n0 w) (hn0 : n0 ≤ w.heap.size) (hlen : ns.length ≤ 1000000) :
    Calls Try.prog 176 #[.slice none 0 0, .func (.func gf) #[] lb] w fun e w' => ∃ A c, e = .returned (.slice A ns.length c) ∧ EN.Own 3 w' w.heap.size A c ns ∧ Below w.heap.size w w' := by
  refine (callsIn_wide (n := 0)).1 ?_
  refine callsIn_of_wp_marks Try.func176 rfl trivial ?_ rfl
  simp only [Try.ntmps176, List.size_toArray, List.length_cons, List.length_nil, Nat.reduceAdd, Nat.reduceSub, Array.replicate_succ, Array.replicate_zero, List.push_toArray, List.append_toArray, List.nil_append, List.cons_append]
  have hlens : (ints ns).length = ns.length := by simp [ints]
  gi_wp2
  obtain ⟨w1, hw1⟩ : ∃ w1, w.alloc (.cells #[.slice none 0 0] 64) = w1 := ⟨_, rfl⟩
  rw [hw1]
  have hs1 : w1.heap.size = w.heap.size + 1 := by rw [← hw1]; simp
  have hb1 : Below w.heap.size w w1 := by rw [← hw1]; (repeat (first | with_reducible exact Below.refl _ _ | with_reducible assumption | ((with_reducible refine Below.setCell ?_ ?hp _); case hp => (first | omega | (simp only [World.size_alloc, World.size_setCell, World.size_drew]; omega) | (simp; done) | (simp; omega))) | ((with_reducible refine Below.alloc ?_ ?hp _); case hp => (first | omega | (simp only [World.size_alloc, World.size_setCell, World.size_drew]; omega) | (simp; done) | (simp; omega))) | with_reducible refine Below.drew ?_ | with_reducible refine below_drewN ?_ _))
  have hbox : w1.heap[w.heap.size]? = some (.cells #[.slice none 0 0] 64 (0, 0)) := by rw [← hw1]; exact heap_alloc_new w _
  clear hw1
  refine rf_law (m := 0) (gf := gf) (lb := lb) rfl eg (hit.later (hb1.mono hn0)) (by omega) (fun i h => by simp [ints])
    (fun W => W.heap[w.heap.size]? = some (.cells #[.slice none 0 0] 64 (0, 0)) ∧ Below w.heap.size w W)
    (fun K i W => (∃ A c, W.heap[w.heap.size]? = some (.cells #[.slice A (ns.take i).length c] 64 (0, 0)) ∧ EN.Own 3 W K A c (ns.take i)) ∧ Below w.heap.size w W)
    ?hI0 ?hI1 ?hI ⟨hbox, hb1⟩ (fun i => ⟨#[.slice none 0 0, .func (.func gf) #[] lb, .pointer (some ⟨w.heap.size, 0, none⟩), undef, .slice none 0 0, .int .i64 ((ns.getD i 0 : Nat) : Int), .func (.func gf) #[] lb, .int .i64 ((ns.getD i 0 : Nat) : Int), undef, undef, undef, undef, undef], []⟩) ?assign ?body ?done
  case hI0 =>
    rintro A B ⟨h1, h2⟩ hs
    exact ⟨(hs.block _ (by omega)).trans h1, h2.trans (hs.mono (by omega))⟩
  case hI1 =>
    rintro A ⟨h1, h2⟩ hs
    exact ⟨⟨none, 0, by simpa using h1, by simpa using Enc.Own.nil⟩, h2⟩
  case hI =>
    rintro K i A B ⟨⟨R, c, h1, h2⟩, h3⟩ hK hs
    exact ⟨⟨R, c, (hs.block _ (Array.getElem?_eq_some_iff.1 h1).1 (by omega)).trans h1, h2.step hs (Nat.le_refl _)⟩, h3.trans (hs.below (by omega) h3.size)⟩
  case assign =>
    intro l i h W K hK
    have e : (ints ns)[i]'h = #[.int .i64 ((ns.getD i 0 : Nat) : Int)] := by
      have : i < ns.length := by omega
      simp [ints, this]
    rw [e]
    gi_wp2
    exact hK
  case body =>
    rintro l K i h W ⟨⟨R, c, hbx, hown⟩, hB⟩ hK hKW
    have hi : i < ns.length := by omega
    have htk : ns.take i ++ [ns.getD i 0] = ns.take (i + 1) := by
      rw [List.take_succ_eq_append_getElem hi]; simp [hi]
    have HTK := Lib.hid htk
    clear htk
    have hbc : W.cell? ⟨w.heap.size, 0, none⟩ = some (.slice R (ns.take i).length c) := cell_of_row _ _ _ _ _ _ hbx
    have hbf : W.frozen? ⟨w.heap.size, 0, none⟩ = false := by simp [World.frozen?, hbx]
    have hltb : w.heap.size < W.heap.size := (Array.getElem?_eq_some_iff.1 hbx).1
    have HBX := Lib.hid hbx
    clear hbx
    have hown1 := Lib.hid (hown.below (w' := W.alloc (.cells #[.int .i64 ((ns.getD i 0 : Nat) : Int)] 3)) (B := W.heap.size) (by (repeat (first | with_reducible exact Below.refl _ _ | with_reducible assumption | ((with_reducible refine Below.setCell ?_ ?hp _); case hp => (first | omega | (simp only [World.size_alloc, World.size_setCell, World.size_drew]; omega) | (simp; done) | (simp; omega))) | ((with_reducible refine Below.alloc ?_ ?hp _); case hp => (first | omega | (simp only [World.size_alloc, World.size_setCell, World.size_drew]; omega) | (simp; done) | (simp; omega))) | with_reducible refine Below.drew ?_ | with_reducible refine below_drewN ?_ _))) (Nat.le_refl _))
    have htl : (ns.take i).length ≤ 1000000 := by rw [List.length_take]; omega
    generalize ns.take i = p at *
    generalize ns.getD i 0 = k at *
    gi_wp2_with (gi_at_builtin; refine wpListIn_append_L EN 3 64 rfl (.tmp 8) (.tmp 10) rfl _ 8 Try.underlying64 info_int rfl (by decide) _ K R c p rfl hown1.out (some ⟨W.heap.size, 0, none⟩) 1 [k] rfl (Enc.Rd.one_new EN W _ k _ rfl) (by show p.length + 1 ≤ _; omega) (by decide) (by simp only [World.size_alloc]; omega) ?_; intro A' c' w3 hown3 hg hat; have hb3 : w3.heap[w.heap.size]? = some (.cells #[.slice R p.length c] 64 (0, 0)) := hown1.out.box hg ((Below.heap_alloc W _ _ hltb).trans HBX.out) (by omega); have hc3 : w3.cell? ⟨w.heap.size, 0, none⟩ = some (.slice R p.length c) := cell_of_row w3 w.heap.size 0 _ _ _ hb3; have hf3 : w3.frozen? ⟨w.heap.size, 0, none⟩ = false := (by simp [World.frozen?, hb3]); have HG := Lib.hid hg; have HO3 := Lib.hid hown3; have HB3 := Lib.hid hb3; clear hg hat hown3 hb3)
    have hs3 : W.heap.size + 1 ≤ w3.heap.size := by have := HG.out.size; simpa using this
    have hkp : KpB m0 n0 w1.heap.size K W w3 := ((KpB.refl _ _ _ _ _).alloc _).grown HG.out (fun k hk => by have := World.ownsRow.lt hown1.out k hk; omega)
    have hB3 : Below w.heap.size w w3 := (hB.alloc hB.size _).grown HG.out (by simp only [World.size_alloc]; omega) (fun k hk => by have := World.ownsRow.lt hown1.out k hk; omega)
    refine ⟨hkp.setCell (p := ⟨w.heap.size, 0, none⟩) (.inr (by show n0 ≤ w.heap.size; omega)) (.inl (by show w.heap.size < _; omega)) _, ⟨A', c', ?_, ?_⟩, hB3.setCell (p := ⟨w.heap.size, 0, none⟩) (Nat.le_refl _) _⟩
    · rw [← HTK.out]
      exact (heap_setCell_same w3 _ 0 _ _ _ HB3.out).trans (by simp)
    · rw [← HTK.out]
      exact ownsRow_setCell_below HO3.out (a := ⟨w.heap.size, 0, none⟩) (by show w.heap.size < K; omega) _
  case done =>
    rintro K W hK hKW ⟨⟨R, c, hbx, hown⟩, hB⟩ hD
    have hbc : W.cell? ⟨w.heap.size, 0, none⟩ = some (.slice R (ns.take (ints ns).length).length c) := cell_of_row _ _ _ _ _ _ hbx
    rw [hlens, List.take_length] at hbc hown
    gi_wp2
    refine ⟨by simp, .inl ⟨_, _, rfl, run_takeDeferred hD, ?_⟩⟩
    refine ⟨_, results_tmp rfl _ _ _, R, c, rfl, ?_, ?_⟩
    · exact (hown.step (N := w1.heap.size) (K := w1.heap.size + 1) (.put _ _ _ (Nat.le_refl _) (by omega)) (by omega)).mono (by omega)
    · exact hB.trans (below_put _ _ _ (by omega))

theorem enters_next (args : Array Value) (w : World) : (callFunc 123 args).run Try.prog w = .ok (.enter 123 args) w := enters_of Try.func123 (by kernel_rfl) rfl args w

set_option maxHeartbeats 400000 in
theorem collect_any (gf : Nat) (lb : Array Value) (ns : List Nat) (m0 n0 : Nat) (w : World) (eg : ∀ args w, (callFunc gf args).run Try.prog w = .ok (.enter gf args) w) (hit : Iter Try.prog gf lb (ints ns) m0 n0 w) (hn0 : n0 ≤ w.heap.size) (hlen : ns.length ≤ 1000000) :
    Calls Try.prog 170 #[.func (.func gf) #[] lb] w fun e w' => ∃ A c, e = .returned (.slice A ns.length c) ∧ EN.Own 3 w' w.heap.size A c ns ∧ Below w.heap.size w w' := by
  have HA := Lib.hid (appendSeq_any gf lb ns m0 n0 w eg hit hn0 hlen)
  clear eg hit
  go_enter Try.func170, Try.ntmps170
  go_wp2_with (go_at_call 176; refine HA.out.mono ?_; rintro e w' ⟨A, c, rfl, ho, hb⟩)
  go_ret
  exact ⟨A, c, rfl, ho, hb⟩

set_option maxRecDepth 100000 in
set_option maxHeartbeats 400000 in
theorem nextList_any (x : Insn) (hx : x.Ok) (i : Nat) (hi : i ≤ 255) (w : World) :
    Calls Try.prog 157 #[(Value.agg #[.int .u16 x.code, .int .u8 x.jt, .int .u8 x.jf, .int .u32 x.k]), .int .i64 i] w fun e w' => ∃ A c, e = .returned (.slice A (nexts x i).length c) ∧ EN.Own 3 w' w.heap.size A c (nexts x i) ∧ Below w.heap.size w w' := by
  have hlen : (nexts x i).length ≤ 1000000 := by unfold nexts; (repeat' split) <;> simp
  obtain ⟨W, hW⟩ : ∃ W, W = w.alloc (.cells #[.int .u16 x.code, .int .u8 x.jt, .int .u8 x.jf, .int .u32 x.k] 36) := ⟨_, rfl⟩
  obtain ⟨W2, hW2⟩ : ∃ W2, W2 = (W.alloc (.cells #[.int .u16 x.code, .int .u8 x.jt, .int .u8 x.jf, .int .u32 x.k] 36)).alloc (.cells #[.int .i64 i] 3) := ⟨_, rfl⟩
  have hs : W.heap.size = w.heap.size + 1 := by rw [hW]; simp
  have hs2 : W2.heap.size = w.heap.size + 3 := by rw [hW2]; simp [hs]
  have hIt : Iter Try.prog 123 #[.pointer (some ⟨W.heap.size, 0, none⟩), .pointer (some ⟨W.heap.size + 1, 0, none⟩)] (ints (nexts x i)) 0 W2.heap.size W2 := by
    refine next_iter x hx i hi _ _ _ _ _ ?_ ?_ ⟨by omega, by omega⟩ ⟨by omega, by omega⟩
    · subst hW2; exact ⟨by simp [go_sem], by simp [go_sem], by simp [go_sem], by simp [go_sem]⟩
    · subst hW2; simp [go_sem]
  rw [hs] at hIt
  have HC := Lib.hid (collect_any _ _ _ _ _ W2 enters_next hIt (Nat.le_refl _) hlen)
  have hB : Below w.heap.size w W2 := by subst hW2; subst hW; (repeat (first | with_reducible exact Below.refl _ _ | with_reducible assumption | ((with_reducible refine Below.setCell ?_ ?hp _); case hp => (first | omega | (simp only [World.size_alloc, World.size_setCell, World.size_drew]; omega) | (simp; done) | (simp; omega))) | ((with_reducible refine Below.alloc ?_ ?hp _); case hp => (first | omega | (simp only [World.size_alloc, World.size_setCell, World.size_drew]; omega) | (simp; done) | (simp; omega))) | with_reducible refine Below.drew ?_ | with_reducible refine below_drewN ?_ _))
  have HB := Lib.hid hB
  have HW := Lib.hid hW2
  have HN := Lib.hid (next_any x i W)
  have HWW := Lib.hid hW
  clear hIt hB hW2
  subst hW
  clear hs hs2
  go_enter Try.func157, Try.ntmps157
  go_wp2_with (first
    | (go_at_call 74; refine HN.out.mono ?_; rw [← HW.out]; rintro e w' ⟨rfl, rfl⟩)
    | (go_at_call 170; refine HC.out.mono ?_; rintro e w' ⟨A, c, rfl, ho, hb⟩))
  go_ret
  exact ⟨A, c, rfl, ho.mono HB.out.size, HB.out.trans (hb.mono HB.out.size)⟩
end Go.Proofs.Ytfjbanfibmpalaa

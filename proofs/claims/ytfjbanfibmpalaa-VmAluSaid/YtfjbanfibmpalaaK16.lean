/- Contract: check.Reach. -/
import Derived.Test.YtfjbanfibmpalaaK15
set_option linter.unusedVariables false
set_option linter.unusedSimpArgs false
namespace Go.Proofs.Ytfjbanfibmpalaa
open Go.RowKit Go.Shelf
attribute [local go_sem] Oper.semAt_some

/-- All but block mb is as it was. -/
structure KeepX (mb : Nat) (A B : World) : Prop where
  os : B.os = A.os
  tape : B.tape = A.tape
  output : B.output = A.output
  size : A.heap.size ≤ B.heap.size
  block : ∀ k, k < A.heap.size → k ≠ mb → B.heap[k]? = A.heap[k]?

/-- Between the rounds of check.Reach. -/
structure RI (w : World) (N0 mb bx n : Nat) (f : Nat → Bool) (R : Option Addr) (c : Nat) (out : List Nat) (ds : List Deferred) (W : World) : Prop where
  own : EN.Own 3 W N0 R c out
  met : Met W mb n f
  box : W.heap[bx]? = some (.cells #[.map (some mb)] 111 (0, 0))
  below : Below w.heap.size w W
  marks : Marks N0 W ds
  size : N0 ≤ W.heap.size
  h1 : w.heap.size ≤ mb
  h2 : mb < N0
  h3 : bx < N0
  h4 : mb ≠ bx

section
variable {w : World} {N0 mb bx n : Nat} {f : Nat → Bool} {R : Option Addr} {c : Nat} {out : List Nat} {ds : List Deferred} {W W' : World}

theorem RI.step (h : RI w N0 mb bx n f R c out ds W) (hb : Below W.heap.size W W') : RI w N0 mb bx n f R c out ds W' :=
  ⟨h.own.below hb (Nat.le_refl _), h.met.kept (hb.block _ h.met.lt), (hb.block _ (Nat.lt_of_lt_of_le h.h3 h.size)).trans h.box, h.below.trans (hb.mono h.below.size),
    h.marks.kept (fun k _ hk => (hb.block _ (Array.getElem?_eq_some_iff.1 hk).1).trans hk), Nat.le_trans h.size hb.size, h.h1, h.h2, h.h3, h.h4⟩

theorem own_cells {g : Nat} (h : EN.Own 3 W N0 R c out) (hg : (Value.slice R out.length c).ownBlock = some g) : N0 ≤ g ∧ ∃ cs e s, W.heap[g]? = some (.cells cs e s) := by
  rcases h.2 with ⟨h1, h2⟩ | ⟨g', cap, cur, h1, h2, h3, r⟩
  · rw [h1] at hg
    simp [Value.ownBlock] at hg
  · rw [h1] at hg
    simp [Value.ownBlock] at hg
    subst hg
    exact ⟨h2, _, _, _, h3⟩

theorem RI.grow {R' : Option Addr} {c' : Nat} {out' : List Nat} (h : RI w N0 mb bx n f R c out ds W) (hg : W.grownBy W' (Value.slice R out.length c).ownBlock) (ho : EN.Own 3 W' N0 R' c' out') : RI w N0 mb bx n f R' c' out' ds W' := by
  have hne : ∀ k, k < N0 → k < W.heap.size → W'.heap[k]? = W.heap[k]? := fun k hk hl => hg.block k hl (fun e => by
    have := (own_cells h.own e.symm).1; omega)
  have hsz := h.size
  have q1 := h.h1
  have q2 := h.h2
  have q3 := h.h3
  refine ⟨ho, h.met.kept (hne _ h.h2 h.met.lt), (hne _ h.h3 (by omega)).trans h.box, ⟨hg.os.trans h.below.os, hg.tape.trans h.below.tape, hg.output.trans h.below.output, Nat.le_trans h.below.size hg.size, fun k hk => (hne k (by omega) (by omega)).trans (h.below.block k hk)⟩, ?_, Nat.le_trans h.size hg.size, h.h1, h.h2, h.h3, h.h4⟩
  refine h.marks.kept (fun k _ hk => ?_)
  rw [← hk]
  refine hg.block k (Array.getElem?_eq_some_iff.1 hk).1 (fun e => ?_)
  obtain ⟨_, cs, e1, s1, hc⟩ := own_cells h.own e.symm
  rw [hk] at hc
  cases hc

theorem RI.keepX {n' : Nat} {f' : Nat → Bool} (h : RI w N0 mb bx n f R c out ds W) (hk : KeepX mb W W') (hm : Met W' mb n' f') (d : Nat) (hd : W.heap.size ≤ d) (hdd : W'.heap[d]? = some (.deferred (some []))) :
    RI w N0 mb bx n' f' R c out ({ target := .collected d, args := #[] } :: ds) W' := by
  have hsz := h.size
  have q1 := h.h1
  have q2 := h.h2
  have q3 := h.h3
  have hB : Below w.heap.size w W' := ⟨hk.os.trans h.below.os, hk.tape.trans h.below.tape, hk.output.trans h.below.output, Nat.le_trans h.below.size hk.size, fun k hk' => (hk.block k (by omega) (by omega)).trans (h.below.block k hk')⟩
  refine ⟨⟨h.own.1, h.own.2.imp id ?_⟩, hm, (hk.block _ (by omega) (fun e => h.h4 e.symm)).trans h.box, hB, ?_, Nat.le_trans hsz hk.size, q1, q2, q3, h.h4⟩
  · rintro ⟨g, cap, cur, e1, e2, e3, r⟩
    exact ⟨g, cap, cur, e1, e2, (hk.block g (Array.getElem?_eq_some_iff.1 e3).1 (by omega)).trans e3, r⟩
  · refine h.marks.cons (fun k hk1 hk2 => (hk.block k (Array.getElem?_eq_some_iff.1 hk2).1 (by omega)).trans hk2) d hd (by omega) hdd
end

theorem Enc.Rd.one_at {α : Type} (E : Enc α) (w : World) (e : TypeId) (x : α) (cs : Array Value) (hcs : cs = (E.enc x).toArray) (g : Nat) (hg : g = w.heap.size) : E.Rd (w.alloc (.cells cs e)) (some ⟨g, 0, none⟩) [x] := by
  subst hg
  exact Enc.Rd.one_new E w e x cs hcs

theorem Met.congr {w : World} {b n : Nat} {f g : Nat → Bool} (h : Met w b n f) (hf : ∀ q, f q = g q) : Met w b n g := by
  have := funext hf
  subst this
  exact h

theorem RI.congr {w : World} {N0 mb bx n n' : Nat} {f g : Nat → Bool} {R : Option Addr} {c : Nat} {out : List Nat} {ds : List Deferred} {W : World} (h : RI w N0 mb bx n f R c out ds W) (hf : ∀ q, f q = g q) (hn : n ≤ n') : RI w N0 mb bx n' g R c out ds W :=
  ⟨h.own, (h.met.congr hf).mono hn, h.box, h.below, h.marks, h.size, h.h1, h.h2, h.h3, h.h4⟩

/-- The i-th of them. -/
def nth (ns : List Nat) (i : Nat) : Nat := ns.getD i 0

theorem contains_take (ns : List Nat) (i q : Nat) (hi : i < ns.length) : (ns.take (i + 1)).contains q = ((ns.take i).contains q || q == nth ns i) := by
  unfold nth
  have : ns.take (i + 1) = ns.take i ++ [ns.getD i 0] := by
    rw [List.take_succ_eq_append_getElem hi]; simp [hi]
  rw [this, List.contains_eq_any_beq, List.any_append, ← List.contains_eq_any_beq]
  simp

theorem nexts_le (x : Insn) (hx : x.Ok) (i : Nat) (hi : i ≤ 255) : ∀ k ∈ nexts x i, k ≤ 1000000 := by
  have h1 := hx.jt
  have h2 := hx.jf
  intro k hk
  unfold nexts at hk
  (repeat' split at hk) <;> simp at hk <;> omega

theorem nexts_len (x : Insn) (i : Nat) : (nexts x i).length ≤ 2 := by
  unfold nexts
  (repeat' split) <;> simp

set_option maxRecDepth 100000 in
set_option maxHeartbeats 1000000 in
theorem reach_good (A : Option Addr) (cap : Nat) (l : List Insn) (w : World) (hl : RdP w A l) (hc : (check l).2 = 0) :
    Calls Try.prog 40 #[.slice A l.length cap] w fun e w' => ∃ R c, e = .returned (.tuple #[.slice R (reach l).length c, .int .i64 0]) ∧ EN.Own 3 w' w.heap.size R c (reach l) ∧ Below w.heap.size w w' := by
  have hlen := check_len hc
  have HC := Lib.hid hc
  have HL := Lib.hid hl
  clear hc hl
  refine (callsIn_wide (n := 0)).1 ?_
  refine callsIn_of_wp_marks Try.func40 rfl trivial ?_ rfl
  simp only [Try.ntmps40, List.size_toArray, List.length_cons, List.length_nil, Nat.reduceAdd, Nat.reduceSub, Array.replicate_succ, Array.replicate_zero, List.push_toArray, List.append_toArray, List.nil_append, List.cons_append]
  have hwf : ∀ k, Fence.wide.fn k := fun _ => trivial
  have hwd : Fence.wide.depth = none := rfl
  have hmm := @run_makeMap Try.prog
  gi_wp2_with (first
    | (gi_at_call 27; refine (callsIn_wide.2 (check_any A cap l _ HL.out)).mono ?_; rw [HC.out]; rintro e w1 ⟨rfl, hb⟩; have HB := Lib.hid hb; clear hb)
    | (refine wpListIn_met_put rfl _ _ _ (.inr rfl) w1.heap.size 0 _ 0 rfl rfl rfl (Met.made w1) (by omega) (by omega) ?_; intro w2 hmet hgrow; have HM := Lib.hid hmet; have HG := Lib.hid hgrow; clear hmet hgrow))
  have hN : w1.heap.size + 1 ≤ w2.heap.size := by have := HG.out.size; simpa using this
  have hR0 : RI w (w2.heap.size + 1) w1.heap.size w2.heap.size 1 (metAt l 0) none 0 (outAt l 0) [] (w2.alloc (.cells #[.map (some w1.heap.size)] 111)) := by
    have hb2 : Below w.heap.size w w2 := (HB.out.alloc HB.out.size _).grown HG.out (by have := HB.out.size; simp; omega) (fun k hk => by cases hk; exact HB.out.size)
    have q := HB.out.size
    refine ⟨Enc.Own.nil, Met.kept HM.out (Below.heap_alloc _ _ _ (by omega)), heap_alloc_new w2 _, hb2.alloc (by omega) _, Marks.nil _ _, by simp, q, by omega, by omega, by omega⟩
  generalize w1.heap.size = mb at *
  generalize hbx : w2.heap.size = bx at *
  obtain ⟨W0, hW0⟩ : ∃ W0, W0 = w2.alloc (.cells #[.map (some mb)] 111) := ⟨_, rfl⟩
  rw [← hW0] at hR0 ⊢
  have HR0 := Lib.hid hR0
  clear hR0 hW0 HM HG HB hN hbx
  refine wpIn_loop (fun a W => ∃ (k : Nat) (R : Option Addr) (c : Nat) (ds : List Deferred) (u8 u9 u10 u24 u25 u26 u27 u28 u29 u30 u31 u32 u33 u34 u35 u36 u37 u38 u39 u40 u41 u42 : Value), k ≤ l.length ∧ RI w (bx + 1) mb bx (1 + 2 * k) (metAt l k) R c (outAt l k) ds W ∧ a = ⟨#[.slice A l.length cap, undef, .slice none 0 0, .int .i64 0, .int .i64 (check l).1, .int .i64 0, .pointer (some ⟨bx, 0, none⟩), .slice R (outAt l k).length c, u8, u9, u10, .tuple #[.int .i64 (check l).1, .int .i64 0], .slice A l.length cap, .tuple #[.int .i64 (check l).1, .int .i64 0], .int .i64 (check l).1, .int .i64 0, .int .i64 0, .bool false, undef, .map (some mb), .map (some mb), .slice A l.length cap, .int .i64 ((l.length : Nat) : Int), .int .i64 ((k : Nat) : Int), u24, u25, u26, u27, u28, u29, u30, u31, u32, u33, u34, u35, u36, u37, u38, u39, u40, u41, u42, undef], ds⟩)
    (fun a _ => l.length - (intOf (a.tmps.getD 23 undef)).toNat) ?start ?round
  case start =>
    refine ⟨0, none, 0, [], undef, undef, undef, undef, undef, undef, undef, undef, undef, undef, undef, undef, undef, undef, undef, undef, undef, undef, undef, undef, undef, undef, Nat.zero_le _, HR0.out, rfl⟩
  case round =>
    rintro _ W ⟨k, R, c, ds, u8, u9, u10, u24, u25, u26, u27, u28, u29, u30, u31, u32, u33, u34, u35, u36, u37, u38, u39, u40, u41, u42, hk, hRI, rfl⟩
    have HRI := Lib.hid hRI
    clear hRI HR0
    have hbm : W.cell? ⟨bx, 0, none⟩ = some (.map (some mb)) := cell_of_row _ _ _ _ _ _ HRI.out.box
    have hbf : W.frozen? ⟨bx, 0, none⟩ = false := by simp [World.frozen?, HRI.out.box]
    by_cases hlt : k < l.length
    · obtain ⟨b, o, rfl, hb, hcells⟩ := HL.out.get (i := k) hlt
      have hI := (hcells k hlt).keep (fun o => HRI.out.below.cell (p := ⟨b, o, none⟩) hb)
      have hx := HL.out.ok _ (List.getElem_mem hlt)
      have hxd : l.getD k default = l[k] := by simp [hlt]
      generalize hx0 : l[k] = x at *
      have HX := Lib.hid hx0
      have HXD := Lib.hid hxd
      obtain ⟨h0, h1, h2, h3⟩ := hI
      clear hcells hx0 hxd
      have hsz := HRI.out.size
      have hbW : bx < W.heap.size := by omega
      have q1 := HRI.out.h1
      have q2 := HRI.out.h2
      by_cases hm : metAt l k k = true
      · have HM := Lib.hid hm
        clear hm
        have hol := outAt_len l k
        have HOUT := Lib.hid (show outAt l (k + 1) = outAt l k ++ [k] by rw [outAt, if_pos HM.out])
        have HMET := Lib.hid (show metAt l (k + 1) = fun q => metAt l k q || (nexts x k).contains q by rw [metAt, if_pos HM.out, HXD.out])
        have hown := HRI.out.own
        have HOWN := Lib.hid hown
        generalize outAt l k = out at *
        generalize hfm : metAt l k = fm at *
        clear hfm hown
        have hmk := HM.out
        gi_wp2_with (first
          | (gi_at_builtin; refine wpListIn_append_L EN 3 64 rfl (.tmp 32) (.tmp 34) rfl _ 8 Try.underlying64 info_int rfl (by decide) _ (bx + 1) R c out rfl (HRI.out.step (by (repeat (first | with_reducible exact Below.refl _ _ | with_reducible assumption | ((with_reducible refine Below.setCell ?_ ?hp _); case hp => (first | omega | (simp only [World.size_alloc, World.size_setCell, World.size_drew]; omega) | (simp; done) | (simp; omega))) | ((with_reducible refine Below.alloc ?_ ?hp _); case hp => (first | omega | (simp only [World.size_alloc, World.size_setCell, World.size_drew]; omega) | (simp; done) | (simp; omega))) | with_reducible refine Below.drew ?_ | with_reducible refine below_drewN ?_ _)))).own (some ⟨W.heap.size + 1, 0, none⟩) 1 [k] rfl (Enc.Rd.one_at EN _ _ k _ rfl _ (by simp only [World.size_alloc])) (by show out.length + 1 ≤ _; omega) (by decide) (by simp only [World.size_alloc]; omega) ?_; intro R' c' w3 hown3 hg hat; have HG := Lib.hid hg; have HR3 := Lib.hid ((HRI.out.step (by (repeat (first | with_reducible exact Below.refl _ _ | with_reducible assumption | ((with_reducible refine Below.setCell ?_ ?hp _); case hp => (first | omega | (simp only [World.size_alloc, World.size_setCell, World.size_drew]; omega) | (simp; done) | (simp; omega))) | ((with_reducible refine Below.alloc ?_ ?hp _); case hp => (first | omega | (simp only [World.size_alloc, World.size_setCell, World.size_drew]; omega) | (simp; done) | (simp; omega))) | with_reducible refine Below.drew ?_ | with_reducible refine below_drewN ?_ _)))).grow hg hown3); have hx3 : w3.heap[W.heap.size]? = some (.cells #[.int .u16 x.code, .int .u8 x.jt, .int .u8 x.jf, .int .u32 x.k] 36 (0, 0)) := (hg.block _ (by simp only [World.size_alloc]; omega) (fun e => by have := World.ownsRow.lt HOWN.out _ e.symm; omega)).trans ((Below.heap_alloc _ _ _ (by simp)).trans (heap_alloc_new W _)); have d0 : w3.cell? ⟨W.heap.size, 0, none⟩ = some (.int .u16 x.code) := cell_of_row _ _ _ _ _ _ hx3; have d1 : w3.cell? ⟨W.heap.size, 1, none⟩ = some (.int .u8 x.jt) := cell_of_row _ _ _ _ _ _ hx3; have d2 : w3.cell? ⟨W.heap.size, 2, none⟩ = some (.int .u8 x.jf) := cell_of_row _ _ _ _ _ _ hx3; have d3 : w3.cell? ⟨W.heap.size, 3, none⟩ = some (.int .u32 x.k) := cell_of_row _ _ _ _ _ _ hx3; clear hx3 hg hat hown3)
          | (gi_at_call 74; refine (callsIn_wide.2 (next_any x k w3)).mono ?_; rintro e w4 ⟨rfl, hw4⟩; have HW4 := Lib.hid hw4; clear hw4)
          | (refine wpListIn_met_look rfl _ _ rfl mb _ _ k rfl rfl (HRI.out.step (by (repeat (first | with_reducible exact Below.refl _ _ | with_reducible assumption | ((with_reducible refine Below.setCell ?_ ?hp _); case hp => (first | omega | (simp only [World.size_alloc, World.size_setCell, World.size_drew]; omega) | (simp; done) | (simp; omega))) | ((with_reducible refine Below.alloc ?_ ?hp _); case hp => (first | omega | (simp only [World.size_alloc, World.size_setCell, World.size_drew]; omega) | (simp; done) | (simp; omega))) | with_reducible refine Below.drew ?_ | with_reducible refine below_drewN ?_ _)))).met (by omega) ?_; rw [hmk]))
        have hs3 := HR3.out.size
        have hs4 : w4.heap.size = w3.heap.size + 2 := by rw [← HW4.out]; simp
        have hRI4 : RI w (bx + 1) mb bx (1 + 2 * k) fm R' c' (out ++ [k]) ds w4 := by rw [← HW4.out]; exact HR3.out.step (by (repeat (first | with_reducible exact Below.refl _ _ | with_reducible assumption | ((with_reducible refine Below.setCell ?_ ?hp _); case hp => (first | omega | (simp only [World.size_alloc, World.size_setCell, World.size_drew]; omega) | (simp; done) | (simp; omega))) | ((with_reducible refine Below.alloc ?_ ?hp _); case hp => (first | omega | (simp only [World.size_alloc, World.size_setCell, World.size_drew]; omega) | (simp; done) | (simp; omega))) | with_reducible refine Below.drew ?_ | with_reducible refine below_drewN ?_ _)))
        have hnl := nexts_len x k
        have hIt : Iter Try.prog 123 #[.pointer (some ⟨w3.heap.size, 0, none⟩), .pointer (some ⟨w3.heap.size + 1, 0, none⟩)] (ints (nexts x k)) w3.heap.size w4.heap.size w4 := by
          refine next_iter x hx k (by omega) _ _ _ _ _ ?_ ?_ ⟨by omega, by omega⟩ ⟨by omega, by omega⟩
          · rw [← HW4.out]; exact ⟨by simp [go_sem], by simp [go_sem], by simp [go_sem], by simp [go_sem]⟩
          · rw [← HW4.out]; simp [go_sem]
        have HIT := Lib.hid hIt
        have HR4 := Lib.hid hRI4
        have HNE := Lib.hid (nexts_le x hx k (by omega))
        have hlens : (ints (nexts x k)).length = (nexts x k).length := by simp [ints]
        clear hIt hRI4
        generalize nexts x k = ns at *
        refine rf_law (m := 0) (gf := 123) (lb := #[.pointer (some ⟨w3.heap.size, 0, none⟩), .pointer (some ⟨w3.heap.size + 1, 0, none⟩)]) rfl enters_next HIT.out (Nat.le_refl _) (fun i h => by simp [ints])
          (fun B => Below w4.heap.size w4 B)
          (fun K i B => KeepX mb w4 B ∧ Met B mb (1 + 2 * k + i) (fun q => fm q || (ns.take i).contains q))
          ?hI0 ?hI1 ?hI (Below.refl _ _) ?a1 ?assign ?body ?done
        case hI0 => exact fun A B h hs => h.trans hs
        case hI1 =>
          intro B h hs
          exact ⟨⟨h.os, h.tape, h.output, h.size, fun q hq _ => h.block q hq⟩, (HR4.out.met.kept (h.block _ (by omega))).congr (fun q => by simp)⟩
        case hI =>
          rintro K i B B' ⟨h1, h2⟩ hK hs
          have := h1.size
          exact ⟨⟨hs.os.trans h1.os, hs.tape.trans h1.tape, hs.output.trans h1.output, Nat.le_trans h1.size hs.size, fun q hq hne => (hs.block q (by omega) (by omega)).trans (h1.block q hq hne)⟩, h2.kept (hs.block mb (by omega) (by omega))⟩
        case assign =>
          intro lp i h B K hK
          have e : (ints ns)[i]'h = #[.int .i64 ((nth ns i : Nat) : Int)] := by
            have : i < ns.length := by omega
            simp [ints, this, nth]
          rw [e]
          gi_wp2
          exact hK
        case body =>
          rintro lp K i h B ⟨hkx, hmt⟩ hK hKW
          have hi : i < ns.length := by omega
          have hbx : B.heap[bx]? = some (.cells #[.map (some mb)] 111 (0, 0)) := (hkx.block bx (by omega) (fun e => HR4.out.h4 e.symm)).trans HR4.out.box
          have hbc : B.cell? ⟨bx, 0, none⟩ = some (.map (some mb)) := cell_of_row _ _ _ _ _ _ hbx
          have hle : nth ns i ≤ 1000000 := by
            have : nth ns i = ns[i] := by simp [nth, hi]
            rw [this]
            exact HNE.out _ (List.getElem_mem hi)
          have HCT := Lib.hid (fun q => contains_take ns i q hi)
          have HMT := Lib.hid hmt
          have HKX := Lib.hid hkx
          clear hmt hkx hbx
          generalize nth ns i = z at *
          gi_wp2_with (refine wpListIn_met_put rfl _ _ _ (.inl rfl) mb _ _ z rfl rfl rfl HMT.out (by omega) hle ?_; intro w6 hm6 hg6)
          have hsB := HKX.out.size
          refine ⟨(KpB.refl _ _ _ _ _).grown hg6 (fun q hq => by cases hq; omega), ⟨hg6.os.trans HKX.out.os, hg6.tape.trans HKX.out.tape, hg6.output.trans HKX.out.output, Nat.le_trans HKX.out.size hg6.size, fun q hq hne => (hg6.block q (by omega) (fun e => by cases e; exact hne rfl)).trans (HKX.out.block q hq hne)⟩, hm6.congr (fun q => ?_)⟩
          rw [HCT.out, Bool.or_assoc]
        case done =>
          rintro K B hK hKW ⟨hkx, hmt⟩ hD
          rw [hlens, List.take_length] at hmt
          have HF := Lib.hid ((HR4.out.keepX hkx hmt w4.heap.size (Nat.le_refl _) hD).congr (fun _ => rfl) (show _ ≤ 1 + 2 * (k + 1) by omega))
          clear hkx hmt hD
          gi_wp2
          have hk1 : ((k + 1 : Nat) : Int) = (k : Int) + 1 := by omega
          refine ⟨?_, ?measure⟩
          · refine ⟨k + 1, R', c', { target := .collected w4.heap.size, args := #[] } :: ds, ?_⟩
            rw [HOUT.out, HMET.out]
            (repeat apply Exists.intro)
            refine ⟨by omega, HF.out, ?_⟩
            rw [hk1, List.length_append]
            rfl
          case measure => simp [intOf]; omega
      · have HM := Lib.hid hm
        clear hm
        have hmb : (metAt l k k) = false := by simpa using HM.out
        gi_wp2_with (refine wpListIn_met_look rfl _ _ rfl mb _ _ k rfl rfl (HRI.out.step (by (repeat (first | with_reducible exact Below.refl _ _ | with_reducible assumption | ((with_reducible refine Below.setCell ?_ ?hp _); case hp => (first | omega | (simp only [World.size_alloc, World.size_setCell, World.size_drew]; omega) | (simp; done) | (simp; omega))) | ((with_reducible refine Below.alloc ?_ ?hp _); case hp => (first | omega | (simp only [World.size_alloc, World.size_setCell, World.size_drew]; omega) | (simp; done) | (simp; omega))) | with_reducible refine Below.drew ?_ | with_reducible refine below_drewN ?_ _)))).met (by omega) ?_; rw [hmb])
        have HMM := Lib.hid hmb
        refine ⟨?_, ?measure⟩
        · have e1 : outAt l (k + 1) = outAt l k := by rw [outAt, if_neg HM.out]
          have e2 : metAt l (k + 1) = metAt l k := by rw [metAt, if_neg HM.out]
          have hk1 : ((k + 1 : Nat) : Int) = (k : Int) + 1 := by omega
          refine ⟨k + 1, R, c, ds, ?_⟩
          rw [e1, e2]
          (repeat apply Exists.intro)
          refine ⟨by omega, (HRI.out.step (by (repeat (first | with_reducible exact Below.refl _ _ | with_reducible assumption | ((with_reducible refine Below.setCell ?_ ?hp _); case hp => (first | omega | (simp only [World.size_alloc, World.size_setCell, World.size_drew]; omega) | (simp; done) | (simp; omega))) | ((with_reducible refine Below.alloc ?_ ?hp _); case hp => (first | omega | (simp only [World.size_alloc, World.size_setCell, World.size_drew]; omega) | (simp; done) | (simp; omega))) | with_reducible refine Below.drew ?_ | with_reducible refine below_drewN ?_ _)))).congr (fun _ => rfl) (by omega), ?_⟩
          rw [hk1]
        case measure => simp [intOf]; omega
    · have hk' : k = l.length := by omega
      subst hk'
      gi_wp2
      refine leaves_marks (base := bx + 1) _ _ HRI.out.marks ?_
      intro W' hcl
      refine ⟨_, results_tmp2 rfl _ _ _, R, c, rfl, ?_, ?_⟩
      · have ho := HRI.out.own
        unfold reach
        refine ⟨ho.1, ho.2.imp id ?_⟩
        rintro ⟨g, cap', cur, e1, e2, e3, r⟩
        exact ⟨g, cap', cur, e1, Nat.le_trans (by have := HRI.out.h1; have := HRI.out.h2; omega) e2, hcl.block _ _ e3 (by intro ds h; cases h), r⟩
      · exact HRI.out.below.trans (hcl.below.mono (by have := HRI.out.h1; have := HRI.out.h2; omega))
end Go.Proofs.Ytfjbanfibmpalaa

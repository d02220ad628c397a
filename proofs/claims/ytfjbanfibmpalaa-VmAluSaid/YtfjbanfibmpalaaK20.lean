/- Contract: wicketgateref04.Reach. -/
import Derived.Test.YtfjbanfibmpalaaK19
set_option linter.unusedVariables false
set_option linter.unusedSimpArgs false
namespace Go.Proofs.Ytfjbanfibmpalaa
open Go.RowKit Go.Shelf

/-- Between the rounds of the document's Reach. -/
structure RJ (w : World) (N0 g n : Nat) (f : Nat → Bool) (R : Option Addr) (c : Nat) (out : List Nat) (W : World) : Prop where
  own : EN.Own 3 W N0 R c out
  bools : EB.Own 4 W w.heap.size (some ⟨g, 0, none⟩) n (marks n f)
  below : Below w.heap.size w W
  size : N0 ≤ W.heap.size
  h1 : w.heap.size ≤ g
  h2 : g < N0

section
variable {w : World} {N0 g n : Nat} {f : Nat → Bool} {R : Option Addr} {c : Nat} {out : List Nat} {W W' : World}

theorem RJ.step (h : RJ w N0 g n f R c out W) (hb : Below W.heap.size W W') : RJ w N0 g n f R c out W' :=
  ⟨h.own.below hb (Nat.le_refl _), h.bools.below hb (Nat.le_refl _), h.below.trans (hb.mono h.below.size), Nat.le_trans h.size hb.size, h.h1, h.h2⟩

theorem RJ.grow {R' : Option Addr} {c' : Nat} {out' : List Nat} (h : RJ w N0 g n f R c out W) (hg : W.grownBy W' (Value.slice R out.length c).ownBlock) (ho : EN.Own 3 W' N0 R' c' out') : RJ w N0 g n f R' c' out' W' := by
  have q1 := h.h1
  have q2 := h.h2
  have hne : ∀ k, (Value.slice R out.length c).ownBlock = some k → N0 ≤ k := fun k e => (World.ownsRow.lt h.own k e).1
  refine ⟨ho, ?_, ⟨hg.os.trans h.below.os, hg.tape.trans h.below.tape, hg.output.trans h.below.output, Nat.le_trans h.below.size hg.size, fun k hk => (hg.block k (Nat.lt_of_lt_of_le hk h.below.size) (fun e => by have := hne k e.symm; omega)).trans (h.below.block k hk)⟩, Nat.le_trans h.size hg.size, q1, q2⟩
  refine World.ownsRow.kept h.bools hg (.inr fun e => ?_)
  have := hne g (e.symm.trans rfl)
  omega

theorem RJ.put (h : RJ w N0 g n f R c out W) (i : Nat) (hi : i < n) (b : Bool) : RJ w N0 g n (fun q => if q = i then b else f q) R c out (W.setCell ⟨g, i, none⟩ (.bool b)) :=
  ⟨ownsRow_setCell_below h.own (a := ⟨g, i, none⟩) (by exact h.h2) _, marks_put h.bools i hi b, h.below.setCell (p := ⟨g, i, none⟩) (by exact h.h1) _, by simpa using h.size, h.h1, h.h2⟩

theorem RJ.congr {f' : Nat → Bool} (h : RJ w N0 g n f R c out W) (hf : ∀ q, q < n → f q = f' q) : RJ w N0 g n f' R c out W :=
  ⟨h.own, by rw [← marks_congr n f f' hf]; exact h.bools, h.below, h.size, h.h1, h.h2⟩
end

set_option maxRecDepth 100000 in
set_option maxHeartbeats 1000000 in
theorem rreach_good (A : Option Addr) (cap : Nat) (l : List Insn) (w : World) (hl : RdP w A l) (hc : (check l).2 = 0) :
    Calls Try.prog 98 #[.slice A l.length cap] w fun e w' => ∃ R c, e = .returned (.slice R (reach l).length c) ∧ EN.Own 3 w' w.heap.size R c (reach l) ∧ Below w.heap.size w w' := by
  have hlen := check_len hc
  have HNX := Lib.hid (fun i (hi : i < l.length) => nexts_lt hc hi)
  have HL := Lib.hid hl
  obtain ⟨b, o, rfl, hb, hcells⟩ := HL.out.get (i := 0) (by omega)
  have HCL := Lib.hid hcells
  clear hc hl hcells
  obtain ⟨ib, hib, hz0, hz1, hz2⟩ := info_parts info_bool
  have HI := Lib.hid (And.intro hib (And.intro hz0 (And.intro hz1 hz2)))
  clear hib hz0 hz1 hz2
  have hn1 : ¬ (l.length = 0) := by omega
  go_enter Try.func98, Try.ntmps98
  go_wp2_with (at_make; refine wpList_make_full _ rfl _ _ 152 rfl w.heap.size 4 ib (.bool false) 1 Try.underlying152 HI.out.1 HI.out.2.1 HI.out.2.2.1 _ _ _ _ l.length rfl rfl rfl rfl (by rw [HI.out.2.2.2]; omega) (by unfold maxLen; omega) (Nat.le_refl _) ?_; intro w1 hown1 hg1; have HG1 := Lib.hid hg1; have HO1 := Lib.hid (make_own1 EB .bool (fun _ => rfl) rfl false rfl hown1); have hf1 : w1.frozen? ⟨w.heap.size, 0, none⟩ = false := HO1.out.frozen 0; have hc1 : w1.cell? ⟨w.heap.size, 0, none⟩ = some (.bool false) := (by have h := HO1.out.at_ 0 (by simp; omega) 0 (.bool false) (by simp [EB]); simpa [EB] using h); clear hg1 hown1)
  have hs1 : w.heap.size < w1.heap.size := HO1.out.lt.2
  have hR0 : RJ w w1.heap.size w.heap.size l.length (metAt l 0) none 0 (outAt l 0) (w1.setCell ⟨w.heap.size, 0, none⟩ (.bool true)) := by
    have e : List.replicate l.length false = marks l.length (fun _ => false) := by
      refine List.ext_getElem (by simp [marks]) ?_
      intro i h1 h2
      simp [marks]
    have h := HO1.out
    rw [e] at h
    have hb1 : Below w.heap.size w w1 := (Below.refl _ w).grown HG1.out (Nat.le_refl _) (fun k hk => by cases hk)
    exact (RJ.put (R := none) (c := 0) (out := []) ⟨Enc.Own.nil, h, hb1, Nat.le_refl _, Nat.le_refl _, hs1⟩ 0 (by omega) true).congr (fun q _ => by by_cases h : q = 0 <;> simp [h, metAt])
  generalize hN0 : w1.heap.size = N0 at *
  generalize hg0 : w.heap.size = g at *
  have HR0 := Lib.hid hR0
  clear hR0 HG1 HO1 hf1 hs1 hc1
  go_loopw [4, 16] (fun out i wr => ∃ (k : Nat) (R : Option Addr) (c : Nat), k ≤ l.length ∧ i = .int .i64 k ∧ out = .slice R (outAt l k).length c ∧ RJ w N0 g l.length (metAt l k) R c (outAt l k) wr) (fun _ i _ => l.length - (intOf i).toNat)
  case atStart => exact ⟨0, none, 0, by omega, rfl, rfl, HR0.out⟩
  case round =>
    obtain ⟨k, R, c, hk, rfl, rfl, hRJ⟩ := hrel
    have HRJ := Lib.hid hRJ
    clear hRJ HR0
    have q1 := HRJ.out.h1
    have q2 := HRJ.out.h2
    have q3 := HRJ.out.size
    have hgw : g < wr.heap.size := by omega
    by_cases hlt : k < l.length
    · have hI := (HCL.out k hlt).keep (fun o => HRJ.out.below.cell (p := ⟨b, o, none⟩) (by rw [hg0]; exact hb))
      have hx := HL.out.ok _ (List.getElem_mem hlt)
      have hxd : l.getD k default = l[k] := by simp [hlt]
      have HN := Lib.hid (HNX.out k hlt)
      generalize hx0 : l[k] = x at *
      have HXD := Lib.hid hxd
      obtain ⟨h0, h1, h2, h3⟩ := hI
      clear hx0 hxd
      have hcm := marks_cell HRJ.out.bools k hlt
      by_cases hm : metAt l k k = true
      · rw [hm] at hcm
        have HM := Lib.hid hm
        clear hm
        have hol := outAt_len l k
        have HOUT := Lib.hid (show outAt l (k + 1) = outAt l k ++ [k] by rw [outAt, if_pos HM.out])
        have HMET := Lib.hid (show metAt l (k + 1) = fun q => metAt l k q || (nexts x k).contains q by rw [metAt, if_pos HM.out, HXD.out])
        have HOWN := Lib.hid HRJ.out.own
        generalize outAt l k = out at *
        generalize hfm : metAt l k = fm at *
        clear hfm
        go_wp2_with (first
          | (at_builtin; refine wpList_append_L EN 3 64 rfl (.tmp 26) (.tmp 28) rfl _ 8 Try.underlying64 info_int rfl (by decide) _ N0 R c out rfl (HRJ.out.step (by (repeat (first | with_reducible exact Below.refl _ _ | with_reducible assumption | ((with_reducible refine Below.setCell ?_ ?hp _); case hp => (first | omega | (simp only [World.size_alloc, World.size_setCell, World.size_drew]; omega) | (simp; done) | (simp; omega))) | ((with_reducible refine Below.alloc ?_ ?hp _); case hp => (first | omega | (simp only [World.size_alloc, World.size_setCell, World.size_drew]; omega) | (simp; done) | (simp; omega))) | with_reducible refine Below.drew ?_ | with_reducible refine below_drewN ?_ _)))).own (some ⟨wr.heap.size + 1, 0, none⟩) 1 [k] rfl (Enc.Rd.one_at EN _ _ k _ rfl _ (by simp only [World.size_alloc])) (by show out.length + 1 ≤ _; omega) (by decide) (by simp only [World.size_alloc]; omega) ?_; intro R' c' w3 hown3 hg hat; have HG := Lib.hid hg; have HR3 := Lib.hid ((HRJ.out.step (by (repeat (first | with_reducible exact Below.refl _ _ | with_reducible assumption | ((with_reducible refine Below.setCell ?_ ?hp _); case hp => (first | omega | (simp only [World.size_alloc, World.size_setCell, World.size_drew]; omega) | (simp; done) | (simp; omega))) | ((with_reducible refine Below.alloc ?_ ?hp _); case hp => (first | omega | (simp only [World.size_alloc, World.size_setCell, World.size_drew]; omega) | (simp; done) | (simp; omega))) | with_reducible refine Below.drew ?_ | with_reducible refine below_drewN ?_ _)))).grow hg hown3); have hx3 : w3.heap[wr.heap.size]? = some (.cells #[.int .u16 x.code, .int .u8 x.jt, .int .u8 x.jf, .int .u32 x.k] 36 (0, 0)) := (hg.block _ (by simp only [World.size_alloc]; omega) (fun e => by have := World.ownsRow.lt HOWN.out _ e.symm; omega)).trans ((Below.heap_alloc _ _ _ (by simp)).trans (heap_alloc_new wr _)); have d0 : w3.cell? ⟨wr.heap.size, 0, none⟩ = some (.int .u16 x.code) := cell_of_row _ _ _ _ _ _ hx3; have d1 : w3.cell? ⟨wr.heap.size, 1, none⟩ = some (.int .u8 x.jt) := cell_of_row _ _ _ _ _ _ hx3; have d2 : w3.cell? ⟨wr.heap.size, 2, none⟩ = some (.int .u8 x.jf) := cell_of_row _ _ _ _ _ _ hx3; have d3 : w3.cell? ⟨wr.heap.size, 3, none⟩ = some (.int .u32 x.k) := cell_of_row _ _ _ _ _ _ hx3; clear hx3 hg hat hown3)
          | (go_at_call 143; refine (rnext_any x hx k (by omega) w3).mono ?_; rintro e w4 ⟨B, d, rfl, hrd, hfr, hb4⟩; have HFR := Lib.hid hfr; have HR4 := Lib.hid (HR3.out.step hb4); have HRD := Lib.hid hrd; clear hrd hb4 hfr))
        have hnl := nexts_len x k
        generalize nexts x k = ns at *
        go_loopw [34] (fun i wq => ∃ j : Nat, j ≤ ns.length ∧ i = .int .i64 j ∧ RJ w N0 g l.length (fun q => fm q || (ns.take j).contains q) R' c' (out ++ [k]) wq ∧ ∀ b o, B = some ⟨b, o, none⟩ → ns ≠ [] → EN.at_ wq b o ns) (fun i _ => ns.length - (intOf i).toNat)
        case atStart =>
          refine ⟨0, by omega, rfl, HR4.out.congr (fun q _ => by simp), fun b o hB hne => ?_⟩
          obtain ⟨b', o', hB', _, hat⟩ := HRD.out.at_ hne
          rw [hB] at hB'
          cases hB'
          exact hat
        case round =>
          obtain ⟨j, hj, rfl, hRJ, hat⟩ := hrel
          have HRJ2 := Lib.hid hRJ
          have HAT := Lib.hid hat
          clear hRJ hat
          have p3 := HRJ2.out.size
          have hgq : g < wr.heap.size := by omega
          by_cases hjl : j < ns.length
          · have hne : ns ≠ [] := by intro e; rw [e] at hjl; simp at hjl
            obtain ⟨b', o', rfl, _, _⟩ := HRD.out.at_ hne
            have hci := ints_cell (HAT.out b' o' rfl hne) j hjl
            have hz : nth ns j < l.length := by
              have : nth ns j = ns[j] := by simp [nth, hjl]
              rw [this]
              exact (HN.out _ (List.getElem_mem hjl)).2
            have HCT := Lib.hid (fun q => contains_take ns j q hjl)
            have hfz := HRJ2.out.bools.frozen (nth ns j)
            have hcz := marks_cell HRJ2.out.bools (nth ns j) hz
            have hbg : g < b' := by have := HFR.out b' o' rfl; have := HR3.out.size; omega
            generalize nth ns j = z at *
            have HNE := Lib.hid hne
            clear hne
            go_wp2
            go_roundw
            case rel =>
              refine ⟨j + 1, by omega, by go_num, (HRJ2.out.put z hz true).congr (fun q _ => ?_), fun b o hB hne => ?_⟩
              · rw [HCT.out]
                by_cases hq : q = z
                · simp [hq]
                · have hq' : (q == z) = false := by simp [hq]
                  simp [hq, hq']
              · cases hB
                exact (HAT.out _ _ rfl hne).keep (fun o => World.cell?_setCell_other _ _ _ _ (by intro e; injection e with e1; omega))
            case measure => simp [intOf]; omega
          · have hj' : j = ns.length := by omega
            subst hj'
            go_wp2
            go_roundw
            case rel =>
              refine ⟨k + 1, R', c', by omega, by go_num, by rw [HOUT.out, List.length_append]; rfl, ?_⟩
              rw [HOUT.out, HMET.out]
              have := HRJ2.out
              rw [List.take_length] at this
              exact this
            case measure => simp [intOf]; omega
      · have HM := Lib.hid hm
        have e1 : outAt l (k + 1) = outAt l k := by rw [outAt, if_neg HM.out]
        have e2 : metAt l (k + 1) = metAt l k := by rw [metAt, if_neg HM.out]
        rw [show metAt l k k = false by simpa using hm] at hcm
        clear hm
        go_wp2
        go_roundw
        case rel =>
          refine ⟨k + 1, R, c, by omega, by go_num, by rw [e1], ?_⟩
          rw [e1, e2]
          exact HRJ.out.step (by (repeat (first | with_reducible exact Below.refl _ _ | with_reducible assumption | ((with_reducible refine Below.setCell ?_ ?hp _); case hp => (first | omega | (simp only [World.size_alloc, World.size_setCell, World.size_drew]; omega) | (simp; done) | (simp; omega))) | ((with_reducible refine Below.alloc ?_ ?hp _); case hp => (first | omega | (simp only [World.size_alloc, World.size_setCell, World.size_drew]; omega) | (simp; done) | (simp; omega))) | with_reducible refine Below.drew ?_ | with_reducible refine below_drewN ?_ _)))
        case measure => simp [intOf]; omega
    · have hk' : k = l.length := by omega
      subst hk'
      go_wp2
      go_ret
      exact ⟨R, c, rfl, HRJ.out.own.mono (by omega), HRJ.out.below⟩
end Go.Proofs.Ytfjbanfibmpalaa

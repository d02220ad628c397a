/- The walk of the law PruneVain. -/
import Derived.Test.YtfjbanfibmpalaaK42
set_option linter.unusedVariables false
set_option linter.unusedSimpArgs false
namespace Go.Proofs.Ytfjbanfibmpalaa
open Go.RowKit Go.Shelf
attribute [local go_sem ↓] Go.wp_at_zero Go.wp_at_succ

theorem Enc.Own.lit {α : Type} (E : Enc α) (w : World) (e : TypeId) (l : List α) (cs : Array Value) (hcs : cs = (E.flat l).toArray) (base : Nat) (hb : base ≤ w.heap.size) (hl : l.length ≤ maxLen) :
    E.Own e (w.alloc (.cells cs e)) base (some ⟨w.heap.size, 0, none⟩) l.length l :=
  ⟨E.flat_len l, .inr ⟨w.heap.size, l.length, cs, rfl, hb, heap_alloc_new w _, Nat.le_refl _, hl, by rw [hcs]; simp [E.flat_len], by rw [hcs]; rw [List.take_of_length_le (by rw [E.flat_len]; exact Nat.le_refl _)]⟩⟩

theorem one_isRet {x : Insn} (hc : (check [x]).2 = 0) : isRet x.code = true := by
  have := checked_last hc (by simp)
  simpa using this
theorem RdP.one {x : Insn} (hx : x.Ok) (w : World) (cs : Array Value) (hcs : cs = (EI.flat [x]).toArray) (g : Nat) (hg : g = w.heap.size) : RdP (w.alloc (.cells cs 36)) (some ⟨g, 0, none⟩) [x] :=
  RdP.of_enc (Enc.Rd.list_at EI w _ [x] cs hcs _ hg) (by simp) (by intro y hy; simp at hy; subst hy; exact hx)

theorem ja0_ok : ja0.Ok := ja_ok 0 (by omega)
theorem vain_app {l : List Insn} (hg : Good l) {x : Insn} (hx : x.Ok) (hc : (check [x]).2 = 0) (hl : l.length < 64) : Good (l ++ [x]) ∧ decide (pruneL l = pruneL (l ++ [x])) = true :=
  ⟨app_good hg hx (one_isRet hc) hl, decide_eq_true (app_prune hg hx (one_isRet hc) hl).symm⟩
theorem vain_cons {l : List Insn} (hg : Good l) (hl : l.length < 64) : Good (ja0 :: l) ∧ decide (pruneL l = pruneL (ja0 :: l)) = true :=
  ⟨cons_good hg ja0_ok rfl (by have := hg.len; show 0 < _; omega) hl, decide_eq_true (cons_prune hg hl).symm⟩

/-- The last of it: a jump ahead. -/
theorem vain_last (R : Option Addr) (c : Nat) (l : List Insn) (w W : World) (R2 : Option Addr) (c2 : Nat) (hl : RdP w R l) (hr : EI.Own 36 W w.heap.size R2 c2 (ja0 :: l)) (hb : Below w.heap.size w W) (hg : Good l) (hlen : l.length < 64) :
    Calls Try.prog 26 #[.slice R l.length c, .slice R2 (l.length + 1) c2] W fun e w' => e = .returned (.tuple #[.bool true, .int .i64 0]) ∧ Below W.heap.size W w' := by
  obtain ⟨h1, h2⟩ := vain_cons hg hlen
  have := same_good R R2 c c2 l (ja0 :: l) W (hl.below hb (Nat.le_refl _)) (h1.rdp hr) hg h1
  rw [h2] at this
  exact this

theorem vain_mid (R : Option Addr) (c : Nat) (l : List Insn) (x : Insn) (w W : World) (base : Nat) (R2 : Option Addr) (c2 : Nat) (hl : RdP w R l) (hr : EI.Own 36 W base R2 c2 (l ++ [x])) (hb : Below w.heap.size w W) (hg : Good l) (hv : Good (l ++ [x]) ∧ decide (pruneL l = pruneL (l ++ [x])) = true) :
    Calls Try.prog 26 #[.slice R l.length c, .slice R2 (l.length + 1) c2] W fun e w' => e = .returned (.tuple #[.bool true, .int .i64 0]) ∧ Below W.heap.size W w' := by
  have := same_good R R2 c c2 l (l ++ [x]) W (hl.below hb (Nat.le_refl _)) (hv.1.rdp hr) hg hv.1
  rw [hv.2, List.length_append] at this
  exact this

set_option maxRecDepth 100000 in
set_option maxHeartbeats 2000000 in
theorem pvain_bad (A : Option Addr) (ca : Nat) (a : List Insn) (x : Insn) (w : World) (ha : In w A ca a) (hx : x.Ok) (hc : (check (a.take 65)).2 ≠ 0) :
    Calls Try.prog 5 #[.slice A a.length ca, (Value.agg #[.int .u16 x.code, .int .u8 x.jt, .int .u8 x.jf, .int .u32 x.k])] w fun e w' => e = .returned (.bool true) ∧ Below w.heap.size w w' := by
  obtain ⟨W0, hW0⟩ : ∃ W0, w.alloc (.cells #[.int .u16 x.code, .int .u8 x.jt, .int .u8 x.jf, .int .u32 x.k] 36) = W0 := ⟨_, rfl⟩
  have hB0 : Below w.heap.size w W0 := by rw [← hW0]; (repeat (first | with_reducible exact Below.refl _ _ | with_reducible assumption | ((with_reducible refine Below.setCell ?_ ?hp _); case hp => (first | omega | (simp only [World.size_alloc, World.size_setCell, World.size_drew]; omega) | (simp; done) | (simp; omega))) | ((with_reducible refine Below.alloc ?_ ?hp _); case hp => (first | omega | (simp only [World.size_alloc, World.size_setCell, World.size_drew]; omega) | (simp; done) | (simp; omega))) | with_reducible refine Below.drew ?_ | with_reducible refine below_drewN ?_ _))
  have hs0 : w.heap.size < W0.heap.size := by rw [← hW0]; simp
  have HC0 := Lib.hid (show IAt W0 w.heap.size 0 x by rw [← hW0]; exact ⟨by simp [go_sem], by simp [go_sem], by simp [go_sem], by simp [go_sem]⟩)
  have HA := Lib.hid (ha.later hB0)
  have HB0 := Lib.hid hB0
  have HW0 := Lib.hid hW0
  have HFA := Lib.hid (fun W (h : In W A ca a) => few_in A ca a W h)
  have HTA := Lib.hid (fun w' base R c (h : EI.Own 36 w' base R c (a.take 65)) => take_rdp ha.rd h)
  generalize a.take 65 = l at *
  clear ha hB0 hW0
  have e2 : ((check l).2 != 0) = true := by simpa using hc
  have HC := Lib.hid hc
  clear hc
  have tok : True := trivial
  go_enter Try.func5, Try.ntmps5
  go_wp2_with (first
    | (go_at_call 17; rw [HW0.out]; refine (wakes22_any W0).mono ?_; rintro e w1 ⟨rfl, hb⟩; have H1 := Lib.hid hb; clear hb)
    | (go_at_call 18; refine (HFA.out w1 (HA.out.later H1.out)).mono ?_; rintro e w2 ⟨R, c, rfl, ho, hb⟩; have HX2 := Lib.hid (HTA.out _ _ _ _ ho); have H2 := Lib.hid (H1.out.trans (hb.mono H1.out.size)); clear ho hb)
    | (go_at_call 27; have _t := tok; refine (check_any R c l w2 HX2.out).mono ?_;  rintro e w3 ⟨rfl, hb⟩; have HX3 := Lib.hid (HX2.out.below hb (Nat.le_refl _)); have H3 := Lib.hid (H2.out.trans (hb.mono H2.out.size)); obtain ⟨q0, q1, q2, q3⟩ := HC0.out.keep (fun o => H3.out.cell (p := ⟨w.heap.size, o, none⟩) hs0); have hs3 : w.heap.size < w3.heap.size := (by have := H3.out.size; omega); clear hb tok))
  go_ret
  exact ⟨rfl, HB0.out.trans (H3.out.mono (by omega))⟩

set_option maxRecDepth 100000 in
set_option maxHeartbeats 2000000 in
theorem pvain_long (A : Option Addr) (ca : Nat) (a : List Insn) (x : Insn) (w : World) (ha : In w A ca a) (hx : x.Ok) (hg : Good (a.take 65)) (hl : 64 ≤ (a.take 65).length) :
    Calls Try.prog 5 #[.slice A a.length ca, (Value.agg #[.int .u16 x.code, .int .u8 x.jt, .int .u8 x.jf, .int .u32 x.k])] w fun e w' => e = .returned (.bool true) ∧ Below w.heap.size w w' := by
  obtain ⟨W0, hW0⟩ : ∃ W0, w.alloc (.cells #[.int .u16 x.code, .int .u8 x.jt, .int .u8 x.jf, .int .u32 x.k] 36) = W0 := ⟨_, rfl⟩
  have hB0 : Below w.heap.size w W0 := by rw [← hW0]; (repeat (first | with_reducible exact Below.refl _ _ | with_reducible assumption | ((with_reducible refine Below.setCell ?_ ?hp _); case hp => (first | omega | (simp only [World.size_alloc, World.size_setCell, World.size_drew]; omega) | (simp; done) | (simp; omega))) | ((with_reducible refine Below.alloc ?_ ?hp _); case hp => (first | omega | (simp only [World.size_alloc, World.size_setCell, World.size_drew]; omega) | (simp; done) | (simp; omega))) | with_reducible refine Below.drew ?_ | with_reducible refine below_drewN ?_ _))
  have hs0 : w.heap.size < W0.heap.size := by rw [← hW0]; simp
  have HC0 := Lib.hid (show IAt W0 w.heap.size 0 x by rw [← hW0]; exact ⟨by simp [go_sem], by simp [go_sem], by simp [go_sem], by simp [go_sem]⟩)
  have HA := Lib.hid (ha.later hB0)
  have HB0 := Lib.hid hB0
  have HW0 := Lib.hid hW0
  have HFA := Lib.hid (fun W (h : In W A ca a) => few_in A ca a W h)
  have HTA := Lib.hid (fun w' base R c (h : EI.Own 36 w' base R c (a.take 65)) => take_rdp ha.rd h)
  generalize a.take 65 = l at *
  clear ha hB0 hW0
  have HG := Lib.hid hg
  have HGC := Lib.hid hg.checked
  have e3 : decide ((l.length : Int) ≥ 64) = true := by rw [decide_eq_true_eq]; omega
  clear hg
  have tok : True := trivial
  go_enter Try.func5, Try.ntmps5
  go_wp2_with (first
    | (go_at_call 17; rw [HW0.out]; refine (wakes22_any W0).mono ?_; rintro e w1 ⟨rfl, hb⟩; have H1 := Lib.hid hb; clear hb)
    | (go_at_call 18; refine (HFA.out w1 (HA.out.later H1.out)).mono ?_; rintro e w2 ⟨R, c, rfl, ho, hb⟩; have HX2 := Lib.hid (HTA.out _ _ _ _ ho); have H2 := Lib.hid (H1.out.trans (hb.mono H1.out.size)); clear ho hb)
    | (go_at_call 27; have _t := tok; refine (check_any R c l w2 HX2.out).mono ?_; rw [HGC.out]; rintro e w3 ⟨rfl, hb⟩; have HX3 := Lib.hid (HX2.out.below hb (Nat.le_refl _)); have H3 := Lib.hid (H2.out.trans (hb.mono H2.out.size)); obtain ⟨q0, q1, q2, q3⟩ := HC0.out.keep (fun o => H3.out.cell (p := ⟨w.heap.size, o, none⟩) hs0); have hs3 : w.heap.size < w3.heap.size := (by have := H3.out.size; omega); clear hb tok))
  go_ret
  exact ⟨by first | rfl | simp [hl], HB0.out.trans (H3.out.mono (by omega))⟩

set_option maxRecDepth 100000 in
set_option maxHeartbeats 2000000 in
theorem pvain_no (A : Option Addr) (ca : Nat) (a : List Insn) (x : Insn) (w : World) (ha : In w A ca a) (hx : x.Ok) (hg : Good (a.take 65)) (hl : (a.take 65).length < 64) (hc : (check [x]).2 ≠ 0) :
    Calls Try.prog 5 #[.slice A a.length ca, (Value.agg #[.int .u16 x.code, .int .u8 x.jt, .int .u8 x.jf, .int .u32 x.k])] w fun e w' => e = .returned (.bool true) ∧ Below w.heap.size w w' := by
  obtain ⟨W0, hW0⟩ : ∃ W0, w.alloc (.cells #[.int .u16 x.code, .int .u8 x.jt, .int .u8 x.jf, .int .u32 x.k] 36) = W0 := ⟨_, rfl⟩
  have hB0 : Below w.heap.size w W0 := by rw [← hW0]; (repeat (first | with_reducible exact Below.refl _ _ | with_reducible assumption | ((with_reducible refine Below.setCell ?_ ?hp _); case hp => (first | omega | (simp only [World.size_alloc, World.size_setCell, World.size_drew]; omega) | (simp; done) | (simp; omega))) | ((with_reducible refine Below.alloc ?_ ?hp _); case hp => (first | omega | (simp only [World.size_alloc, World.size_setCell, World.size_drew]; omega) | (simp; done) | (simp; omega))) | with_reducible refine Below.drew ?_ | with_reducible refine below_drewN ?_ _))
  have hs0 : w.heap.size < W0.heap.size := by rw [← hW0]; simp
  have HC0 := Lib.hid (show IAt W0 w.heap.size 0 x by rw [← hW0]; exact ⟨by simp [go_sem], by simp [go_sem], by simp [go_sem], by simp [go_sem]⟩)
  have HA := Lib.hid (ha.later hB0)
  have HB0 := Lib.hid hB0
  have HW0 := Lib.hid hW0
  have HFA := Lib.hid (fun W (h : In W A ca a) => few_in A ca a W h)
  have HTA := Lib.hid (fun w' base R c (h : EI.Own 36 w' base R c (a.take 65)) => take_rdp ha.rd h)
  generalize a.take 65 = l at *
  clear ha hB0 hW0
  have HG := Lib.hid hg
  have HGC := Lib.hid hg.checked
  have e3 : decide ((l.length : Int) ≥ 64) = false := by rw [decide_eq_false_iff_not]; omega
  have e4 : ((check [x]).2 == 0) = false := by simpa using hc
  have hn : ¬ 64 ≤ l.length := by omega
  clear hg hc
  have tok : True := trivial
  go_enter Try.func5, Try.ntmps5
  go_wp2_with (first
    | (go_at_call 17; rw [HW0.out]; refine (wakes22_any W0).mono ?_; rintro e w1 ⟨rfl, hb⟩; have H1 := Lib.hid hb; clear hb)
    | (go_at_call 18; refine (HFA.out w1 (HA.out.later H1.out)).mono ?_; rintro e w2 ⟨R, c, rfl, ho, hb⟩; have HX2 := Lib.hid (HTA.out _ _ _ _ ho); have H2 := Lib.hid (H1.out.trans (hb.mono H1.out.size)); clear ho hb)
    | (go_at_call 27; have _t := tok; refine (check_any R c l w2 HX2.out).mono ?_; rw [HGC.out]; rintro e w3 ⟨rfl, hb⟩; have HX3 := Lib.hid (HX2.out.below hb (Nat.le_refl _)); have H3 := Lib.hid (H2.out.trans (hb.mono H2.out.size)); obtain ⟨q0, q1, q2, q3⟩ := HC0.out.keep (fun o => H3.out.cell (p := ⟨w.heap.size, o, none⟩) hs0); have hs3 : w.heap.size < w3.heap.size := (by have := H3.out.size; omega); clear hb tok)
    | (go_at_call 27; refine (check_any (some ⟨w3.heap.size, 0, none⟩) 1 [x] _ (RdP.one hx w3 _ rfl _ rfl)).mono ?_; rintro e w4 ⟨rfl, hb⟩; have H34 := Lib.hid (Below.trans (show Below w3.heap.size w3 _ by (repeat (first | with_reducible exact Below.refl _ _ | with_reducible assumption | ((with_reducible refine Below.setCell ?_ ?hp _); case hp => (first | omega | (simp only [World.size_alloc, World.size_setCell, World.size_drew]; omega) | (simp; done) | (simp; omega))) | ((with_reducible refine Below.alloc ?_ ?hp _); case hp => (first | omega | (simp only [World.size_alloc, World.size_setCell, World.size_drew]; omega) | (simp; done) | (simp; omega))) | with_reducible refine Below.drew ?_ | with_reducible refine below_drewN ?_ _))) (hb.mono (by simp))); have HX4 := Lib.hid (HX3.out.below H34.out (Nat.le_refl _)); have H4 := Lib.hid (H3.out.trans (H34.out.mono H3.out.size)); clear hb)
    | (at_builtin; refine wpList_append_L EI 36 24 rfl (.tmp 56) (.tmp 57) rfl _ 8 Try.underlying24 info_insn rfl (by decide) _ w4.heap.size (some ⟨w4.heap.size, 0, none⟩) 1 [ja0] rfl (Enc.Own.lit EI w4 _ [ja0] _ rfl _ (Nat.le_refl _) (by simp [maxLen])) R c l rfl (HX4.out.enc.below (B := w4.heap.size) (by (repeat (first | with_reducible exact Below.refl _ _ | with_reducible assumption | ((with_reducible refine Below.setCell ?_ ?hp _); case hp => (first | omega | (simp only [World.size_alloc, World.size_setCell, World.size_drew]; omega) | (simp; done) | (simp; omega))) | ((with_reducible refine Below.alloc ?_ ?hp _); case hp => (first | omega | (simp only [World.size_alloc, World.size_setCell, World.size_drew]; omega) | (simp; done) | (simp; omega))) | with_reducible refine Below.drew ?_ | with_reducible refine below_drewN ?_ _))) (Nat.le_refl _)) (by simp; omega) (by decide) (by simp) ?_; intro R7 c7 w7 hown7 hg7 hat7; have HO7 := Lib.hid hown7; have H7 := Lib.hid (below_append (show Below w4.heap.size w4 _ by (repeat (first | with_reducible exact Below.refl _ _ | with_reducible assumption | ((with_reducible refine Below.setCell ?_ ?hp _); case hp => (first | omega | (simp only [World.size_alloc, World.size_setCell, World.size_drew]; omega) | (simp; done) | (simp; omega))) | ((with_reducible refine Below.alloc ?_ ?hp _); case hp => (first | omega | (simp only [World.size_alloc, World.size_setCell, World.size_drew]; omega) | (simp; done) | (simp; omega))) | with_reducible refine Below.drew ?_ | with_reducible refine below_drewN ?_ _))) (Enc.Own.lit EI w4 _ [ja0] _ rfl _ (Nat.le_refl _) (by simp [maxLen])) hg7 (by simp)); clear hown7 hg7 hat7)
    | (go_at_call 26; refine (vain_last R c l w4 w7 R7 c7 HX4.out HO7.out H7.out HG.out hl).mono ?_; rintro e w8 ⟨rfl, hb⟩; have H8 := Lib.hid (H7.out.trans (hb.mono H7.out.size)); clear hb))
  go_ret
  exact ⟨by simp, HB0.out.trans ((H4.out.trans (H8.out.mono H4.out.size)).mono (by omega))⟩

set_option maxRecDepth 100000 in
set_option maxHeartbeats 2000000 in
theorem pvain_yes (A : Option Addr) (ca : Nat) (a : List Insn) (x : Insn) (w : World) (ha : In w A ca a) (hx : x.Ok) (hg : Good (a.take 65)) (hl : (a.take 65).length < 64) (hc : (check [x]).2 = 0) :
    Calls Try.prog 5 #[.slice A a.length ca, (Value.agg #[.int .u16 x.code, .int .u8 x.jt, .int .u8 x.jf, .int .u32 x.k])] w fun e w' => e = .returned (.bool true) ∧ Below w.heap.size w w' := by
  obtain ⟨W0, hW0⟩ : ∃ W0, w.alloc (.cells #[.int .u16 x.code, .int .u8 x.jt, .int .u8 x.jf, .int .u32 x.k] 36) = W0 := ⟨_, rfl⟩
  have hB0 : Below w.heap.size w W0 := by rw [← hW0]; (repeat (first | with_reducible exact Below.refl _ _ | with_reducible assumption | ((with_reducible refine Below.setCell ?_ ?hp _); case hp => (first | omega | (simp only [World.size_alloc, World.size_setCell, World.size_drew]; omega) | (simp; done) | (simp; omega))) | ((with_reducible refine Below.alloc ?_ ?hp _); case hp => (first | omega | (simp only [World.size_alloc, World.size_setCell, World.size_drew]; omega) | (simp; done) | (simp; omega))) | with_reducible refine Below.drew ?_ | with_reducible refine below_drewN ?_ _))
  have hs0 : w.heap.size < W0.heap.size := by rw [← hW0]; simp
  have HC0 := Lib.hid (show IAt W0 w.heap.size 0 x by rw [← hW0]; exact ⟨by simp [go_sem], by simp [go_sem], by simp [go_sem], by simp [go_sem]⟩)
  have HA := Lib.hid (ha.later hB0)
  have HB0 := Lib.hid hB0
  have HW0 := Lib.hid hW0
  have HFA := Lib.hid (fun W (h : In W A ca a) => few_in A ca a W h)
  have HTA := Lib.hid (fun w' base R c (h : EI.Own 36 w' base R c (a.take 65)) => take_rdp ha.rd h)
  generalize a.take 65 = l at *
  clear ha hB0 hW0
  have HG := Lib.hid hg
  have HGC := Lib.hid hg.checked
  have e3 : decide ((l.length : Int) ≥ 64) = false := by rw [decide_eq_false_iff_not]; omega
  have hn : ¬ 64 ≤ l.length := by omega
  have HC := Lib.hid hc
  have HV := Lib.hid (vain_app hg hx hc hl)
  clear hg hc
  have tok : True := trivial
  go_enter Try.func5, Try.ntmps5
  go_wp2_with (first
    | (go_at_call 17; rw [HW0.out]; refine (wakes22_any W0).mono ?_; rintro e w1 ⟨rfl, hb⟩; have H1 := Lib.hid hb; clear hb)
    | (go_at_call 18; refine (HFA.out w1 (HA.out.later H1.out)).mono ?_; rintro e w2 ⟨R, c, rfl, ho, hb⟩; have HX2 := Lib.hid (HTA.out _ _ _ _ ho); have H2 := Lib.hid (H1.out.trans (hb.mono H1.out.size)); clear ho hb)
    | (go_at_call 27; have _t := tok; refine (check_any R c l w2 HX2.out).mono ?_; rw [HGC.out]; rintro e w3 ⟨rfl, hb⟩; have HX3 := Lib.hid (HX2.out.below hb (Nat.le_refl _)); have H3 := Lib.hid (H2.out.trans (hb.mono H2.out.size)); obtain ⟨q0, q1, q2, q3⟩ := HC0.out.keep (fun o => H3.out.cell (p := ⟨w.heap.size, o, none⟩) hs0); have hs3 : w.heap.size < w3.heap.size := (by have := H3.out.size; omega); clear hb tok)
    | (go_at_call 27; refine (check_any (some ⟨w3.heap.size, 0, none⟩) 1 [x] _ (RdP.one hx w3 _ rfl _ rfl)).mono ?_; rw [HC.out]; rintro e w4 ⟨rfl, hb⟩; have H34 := Lib.hid (Below.trans (show Below w3.heap.size w3 _ by (repeat (first | with_reducible exact Below.refl _ _ | with_reducible assumption | ((with_reducible refine Below.setCell ?_ ?hp _); case hp => (first | omega | (simp only [World.size_alloc, World.size_setCell, World.size_drew]; omega) | (simp; done) | (simp; omega))) | ((with_reducible refine Below.alloc ?_ ?hp _); case hp => (first | omega | (simp only [World.size_alloc, World.size_setCell, World.size_drew]; omega) | (simp; done) | (simp; omega))) | with_reducible refine Below.drew ?_ | with_reducible refine below_drewN ?_ _))) (hb.mono (by simp))); have HX4 := Lib.hid (HX3.out.below H34.out (Nat.le_refl _)); have H4 := Lib.hid (H3.out.trans (H34.out.mono H3.out.size)); clear hb))
  have q4 := HC0.out.keep (fun o => H4.out.cell (p := ⟨w.heap.size, o, none⟩) hs0)
  have HQ4 := Lib.hid q4
  have hs4 : w.heap.size < w4.heap.size := by have := H4.out.size; omega
  have HS := Lib.hid (fun W (h : Below w4.heap.size w4 W) => (show W.cell? ⟨w.heap.size, 0, none⟩ = some (.int .u16 x.code) ∧ W.cell? ⟨w.heap.size, 1, none⟩ = some (.int .u8 x.jt) ∧ W.cell? ⟨w.heap.size, 2, none⟩ = some (.int .u8 x.jf) ∧ W.cell? ⟨w.heap.size, 3, none⟩ = some (.int .u32 x.k) from by
    obtain ⟨k0, k1, k2, k3⟩ := HQ4.out.keep (fun o => h.cell (p := ⟨w.heap.size, o, none⟩) hs4)
    exact ⟨by simpa using k0, by simpa using k1, by simpa using k2, by simpa using k3⟩))
  clear q0 q1 q2 q3 q4
  have hwf : ∀ k, Fence.wide.fn k := fun _ => trivial
  have hwd : Fence.wide.depth = none := rfl
  have HBD := Lib.hid (show Below w4.heap.size w4 w4.drew by (repeat (first | with_reducible exact Below.refl _ _ | with_reducible assumption | ((with_reducible refine Below.setCell ?_ ?hp _); case hp => (first | omega | (simp only [World.size_alloc, World.size_setCell, World.size_drew]; omega) | (simp; done) | (simp; omega))) | ((with_reducible refine Below.alloc ?_ ?hp _); case hp => (first | omega | (simp only [World.size_alloc, World.size_setCell, World.size_drew]; omega) | (simp; done) | (simp; omega))) | with_reducible refine Below.drew ?_ | with_reducible refine below_drewN ?_ _)))
  refine wp_region_noPanic ?_
  refine (wpIn_wide (n := 0)).1 ?_
  (refine region_at 11 (fun W => W.cell? ⟨w.heap.size, 0, none⟩ = some (.int .u16 x.code) ∧ W.cell? ⟨w.heap.size, 1, none⟩ = some (.int .u8 x.jt) ∧ W.cell? ⟨w.heap.size, 2, none⟩ = some (.int .u8 x.jf) ∧ W.cell? ⟨w.heap.size, 3, none⟩ = some (.int .u32 x.k)) (fun _ => trivial) (by kernel_rfl) (by kernel_rfl) (by kernel_rfl) (by kernel_rfl) (by kernel_rfl) (by kernel_rfl) (fun _ _ _ _ h => h) ?_)
  (refine At.take 0 (v := .slice R l.length c) rfl (by decide) (by kernel_rfl) (by kernel_rfl) (HS.out _ HBD.out) (Or.inl ⟨by rfl, fun w hw => (by go_simp; try (simp (disch := omega) only [IntWalk.i64_in, IntWalk.u8_in, IntWalk.u16_in, IntWalk.u32_in]); try omega)⟩) ?_; simp only [Act.put, List.setIfInBounds_toArray, List.set_cons_zero, List.set_cons_succ])
  (refine At.take 1 (v := .slice R l.length c) rfl (by decide) (by kernel_rfl) (by kernel_rfl) (HS.out _ HBD.out) (Or.inl ⟨by rfl, fun w hw => (by go_simp; try (simp (disch := omega) only [IntWalk.i64_in, IntWalk.u8_in, IntWalk.u16_in, IntWalk.u32_in]); try omega)⟩) ?_; simp only [Act.put, List.setIfInBounds_toArray, List.set_cons_zero, List.set_cons_succ])
  (refine At.take 3 (v := (Value.agg #[.int .u16 x.code, .int .u8 x.jt, .int .u8 x.jf, .int .u32 x.k])) rfl (by decide) (by kernel_rfl) (by kernel_rfl) (HS.out _ HBD.out) (Or.inl ⟨by rfl, fun w hw => (by obtain ⟨k0, k1, k2, k3⟩ := hw; go_simp)⟩) ?_; simp only [Act.put, List.setIfInBounds_toArray, List.set_cons_zero, List.set_cons_succ])
  have HCL := Lib.hid (fun W (h : Below w4.heap.size w4 W) => clone_any R c l W (HX4.out.below h (Nat.le_refl _)).enc (by omega))
  refine At.branch2 2 4 rfl rfl (by decide) (by decide) (by kernel_rfl) ?_ ?_
  · gi_wp2_with (gi_at_call 28; refine (callsIn_wide.2 (HCL.out _ HBD.out)).mono ?_; rintro e w5 ⟨R5, c5, rfl, ho, hb⟩; have HO5 := Lib.hid (ho.mono (show w4.heap.size ≤ w4.drew.heap.size by simp)); have HB5 := Lib.hid (HBD.out.trans (hb.mono (by simp))); clear ho hb)
    refine thenS_normal (HS.out _ HB5.out) (fun _ => ?_)
    (refine At.force 4 rfl (by decide) (by kernel_rfl) ?_)
    gi_wp2
    have HB6 := Lib.hid (show Below w4.heap.size w4 (w5.alloc (.cells #[.int .u16 x.code, .int .u8 x.jt, .int .u8 x.jf, .int .u32 x.k] 36)) from HB5.out.alloc HB5.out.size _)
    have HO6 := Lib.hid (HO5.out.below (show Below w5.heap.size w5 (w5.alloc (.cells #[.int .u16 x.code, .int .u8 x.jt, .int .u8 x.jf, .int .u32 x.k] 36)) by (repeat (first | with_reducible exact Below.refl _ _ | with_reducible assumption | ((with_reducible refine Below.setCell ?_ ?hp _); case hp => (first | omega | (simp only [World.size_alloc, World.size_setCell, World.size_drew]; omega) | (simp; done) | (simp; omega))) | ((with_reducible refine Below.alloc ?_ ?hp _); case hp => (first | omega | (simp only [World.size_alloc, World.size_setCell, World.size_drew]; omega) | (simp; done) | (simp; omega))) | with_reducible refine Below.drew ?_ | with_reducible refine below_drewN ?_ _))) (Nat.le_refl _))
    have HR6 := Lib.hid (Enc.Rd.one_at EI w5 36 x #[.int .u16 x.code, .int .u8 x.jt, .int .u8 x.jf, .int .u32 x.k] rfl _ rfl)
    have hz6 : w4.heap.size ≤ w5.heap.size := HB5.out.size
    refine thenS_normal (HS.out _ HB6.out) (fun _ => ?_)
    (refine At.force 5 rfl (by decide) (by kernel_rfl) ?_)
    refine wpListIn_append_L EI 36 24 rfl (.tmp 40) (.tmp 42) rfl _ 8 Try.underlying24 info_insn rfl (by decide) _ w4.heap.size R5 c5 l rfl HO6.out (some ⟨w5.heap.size, 0, none⟩) 1 [x] rfl HR6.out (by simp; omega) (by decide) (by simp only [World.size_alloc]; omega) ?_
    intro R6 c6 w6 hown6 hg6 hat6
    have HO7 := Lib.hid hown6
    have HB7 := Lib.hid (below_append HB6.out HO6.out hg6 (by simp only [World.size_alloc]; omega))
    clear hown6 hg6 hat6
    gi_wp2
    refine thenS_normal (HS.out _ HB7.out) (fun _ => ?_)
    (refine At.force 6 rfl (by decide) (by kernel_rfl) ?_)
    gi_wp2_with (gi_at_call 26; refine (callsIn_wide.2 (vain_mid R c l x w4 w6 _ R6 c6 HX4.out HO7.out HB7.out HG.out HV.out)).mono ?_; rintro e wz ⟨rfl, hb⟩; have HB8 := Lib.hid (HB7.out.trans (hb.mono HB7.out.size)); clear hb)
    refine thenS_normal (HS.out _ HB8.out) (fun _ => ?_)
    (refine At.force 7 rfl (by decide) (by kernel_rfl) ?_)
    gi_wp2
    refine thenS_normal (HS.out _ HB8.out) (fun _ => ?_)
    (refine At.take 8 (v := .bool true) rfl (by decide) (by kernel_rfl) (by kernel_rfl) (HS.out _ HB8.out) (Or.inl ⟨by rfl, fun w hw => (by go_simp; try (simp (disch := omega) only [IntWalk.i64_in, IntWalk.u8_in, IntWalk.u16_in, IntWalk.u32_in]); try omega)⟩) ?_; simp only [Act.put, List.setIfInBounds_toArray, List.set_cons_zero, List.set_cons_succ])
    (refine At.take 9 (v := .int .i64 0) rfl (by decide) (by kernel_rfl) (by kernel_rfl) (HS.out _ HB8.out) (Or.inl ⟨by rfl, fun w hw => (by go_simp; try (simp (disch := omega) only [IntWalk.i64_in, IntWalk.u8_in, IntWalk.u16_in, IntWalk.u32_in]); try omega)⟩) ?_; simp only [Act.put, List.setIfInBounds_toArray, List.set_cons_zero, List.set_cons_succ])
    (refine At.force 10 rfl (by decide) (by kernel_rfl) ?_)
    gi_wp2
    refine thenS_normal (HS.out _ HB8.out) (fun _ => ?_)
    refine At.tail (by kernel_rfl) ?_
    simp only [List.drop_succ_cons, List.drop_zero]
    gi_wp2
    refine NoPanic.normal ?_
    have HX7 := Lib.hid (HX4.out.below HB8.out (Nat.le_refl _))
    have H47 := Lib.hid (H4.out.trans (HB8.out.mono H4.out.size))
    clear HB6 HB7 HO6 HO7 HR6
    go_wp2_with (first
    | (at_builtin; refine wpList_append_L EI 36 24 rfl (.tmp 56) (.tmp 57) rfl _ 8 Try.underlying24 info_insn rfl (by decide) _ wz.heap.size (some ⟨wz.heap.size, 0, none⟩) 1 [ja0] rfl (Enc.Own.lit EI wz _ [ja0] _ rfl _ (Nat.le_refl _) (by simp [maxLen])) R c l rfl (HX7.out.enc.below (B := wz.heap.size) (by (repeat (first | with_reducible exact Below.refl _ _ | with_reducible assumption | ((with_reducible refine Below.setCell ?_ ?hp _); case hp => (first | omega | (simp only [World.size_alloc, World.size_setCell, World.size_drew]; omega) | (simp; done) | (simp; omega))) | ((with_reducible refine Below.alloc ?_ ?hp _); case hp => (first | omega | (simp only [World.size_alloc, World.size_setCell, World.size_drew]; omega) | (simp; done) | (simp; omega))) | with_reducible refine Below.drew ?_ | with_reducible refine below_drewN ?_ _))) (Nat.le_refl _)) (by simp; omega) (by decide) (by simp) ?_; intro R7 c7 w7 hown7 hg7 hat7; have HO7 := Lib.hid hown7; have H7 := Lib.hid (below_append (show Below wz.heap.size wz _ by (repeat (first | with_reducible exact Below.refl _ _ | with_reducible assumption | ((with_reducible refine Below.setCell ?_ ?hp _); case hp => (first | omega | (simp only [World.size_alloc, World.size_setCell, World.size_drew]; omega) | (simp; done) | (simp; omega))) | ((with_reducible refine Below.alloc ?_ ?hp _); case hp => (first | omega | (simp only [World.size_alloc, World.size_setCell, World.size_drew]; omega) | (simp; done) | (simp; omega))) | with_reducible refine Below.drew ?_ | with_reducible refine below_drewN ?_ _))) (Enc.Own.lit EI wz _ [ja0] _ rfl _ (Nat.le_refl _) (by simp [maxLen])) hg7 (by simp)); clear hown7 hg7 hat7)
    | (go_at_call 26; refine (vain_last R c l wz w7 R7 c7 HX7.out HO7.out H7.out HG.out hl).mono ?_; rintro e w8 ⟨rfl, hb⟩; have H8 := Lib.hid (H7.out.trans (hb.mono H7.out.size)); clear hb))
    go_ret
    exact ⟨by simp, HB0.out.trans ((H47.out.trans (H8.out.mono H47.out.size)).mono (by omega))⟩
  · gi_wp2
    have HB5 := Lib.hid (show Below w4.heap.size w4 (w4.drew.alloc (.cells #[.int .u16 x.code, .int .u8 x.jt, .int .u8 x.jf, .int .u32 x.k] 36)) by (repeat (first | with_reducible exact Below.refl _ _ | with_reducible assumption | ((with_reducible refine Below.setCell ?_ ?hp _); case hp => (first | omega | (simp only [World.size_alloc, World.size_setCell, World.size_drew]; omega) | (simp; done) | (simp; omega))) | ((with_reducible refine Below.alloc ?_ ?hp _); case hp => (first | omega | (simp only [World.size_alloc, World.size_setCell, World.size_drew]; omega) | (simp; done) | (simp; omega))) | with_reducible refine Below.drew ?_ | with_reducible refine below_drewN ?_ _)))
    refine thenS_normal (HS.out _ HB5.out) (fun _ => ?_)
    (refine At.force 2 rfl (by decide) (by kernel_rfl) ?_)
    gi_wp2_with (gi_at_call 28; refine (callsIn_wide.2 (HCL.out _ HB5.out)).mono ?_; rintro e w5 ⟨R5, c5, rfl, ho, hb⟩; have HO6 := Lib.hid (ho.mono (show w4.heap.size ≤ _ by simp)); have HB6 := Lib.hid (HB5.out.trans (hb.mono (by simp))); have HR6 := Lib.hid ((Enc.Rd.one_at EI w4.drew 36 x #[.int .u16 x.code, .int .u8 x.jt, .int .u8 x.jf, .int .u32 x.k] rfl _ rfl).below hb (Nat.le_refl _)); have hz6 : w4.heap.size ≤ w5.heap.size := HB6.out.size; clear ho hb)
    refine thenS_normal (HS.out _ HB6.out) (fun _ => ?_)
    (refine At.force 5 rfl (by decide) (by kernel_rfl) ?_)
    refine wpListIn_append_L EI 36 24 rfl (.tmp 40) (.tmp 42) rfl _ 8 Try.underlying24 info_insn rfl (by decide) _ w4.heap.size R5 c5 l rfl HO6.out (some ⟨w4.heap.size, 0, none⟩) 1 [x] rfl HR6.out (by simp; omega) (by decide) hz6 ?_
    intro R6 c6 w6 hown6 hg6 hat6
    have HO7 := Lib.hid hown6
    have HB7 := Lib.hid (below_append HB6.out HO6.out hg6 hz6)
    clear hown6 hg6 hat6
    gi_wp2
    refine thenS_normal (HS.out _ HB7.out) (fun _ => ?_)
    (refine At.force 6 rfl (by decide) (by kernel_rfl) ?_)
    gi_wp2_with (gi_at_call 26; refine (callsIn_wide.2 (vain_mid R c l x w4 w6 _ R6 c6 HX4.out HO7.out HB7.out HG.out HV.out)).mono ?_; rintro e wz ⟨rfl, hb⟩; have HB8 := Lib.hid (HB7.out.trans (hb.mono HB7.out.size)); clear hb)
    refine thenS_normal (HS.out _ HB8.out) (fun _ => ?_)
    (refine At.force 7 rfl (by decide) (by kernel_rfl) ?_)
    gi_wp2
    refine thenS_normal (HS.out _ HB8.out) (fun _ => ?_)
    (refine At.take 8 (v := .bool true) rfl (by decide) (by kernel_rfl) (by kernel_rfl) (HS.out _ HB8.out) (Or.inl ⟨by rfl, fun w hw => (by go_simp; try (simp (disch := omega) only [IntWalk.i64_in, IntWalk.u8_in, IntWalk.u16_in, IntWalk.u32_in]); try omega)⟩) ?_; simp only [Act.put, List.setIfInBounds_toArray, List.set_cons_zero, List.set_cons_succ])
    (refine At.take 9 (v := .int .i64 0) rfl (by decide) (by kernel_rfl) (by kernel_rfl) (HS.out _ HB8.out) (Or.inl ⟨by rfl, fun w hw => (by go_simp; try (simp (disch := omega) only [IntWalk.i64_in, IntWalk.u8_in, IntWalk.u16_in, IntWalk.u32_in]); try omega)⟩) ?_; simp only [Act.put, List.setIfInBounds_toArray, List.set_cons_zero, List.set_cons_succ])
    (refine At.force 10 rfl (by decide) (by kernel_rfl) ?_)
    gi_wp2
    refine thenS_normal (HS.out _ HB8.out) (fun _ => ?_)
    refine At.tail (by kernel_rfl) ?_
    simp only [List.drop_succ_cons, List.drop_zero]
    gi_wp2
    refine NoPanic.normal ?_
    have HX7 := Lib.hid (HX4.out.below HB8.out (Nat.le_refl _))
    have H47 := Lib.hid (H4.out.trans (HB8.out.mono H4.out.size))
    clear HB6 HB7 HO6 HO7 HR6
    go_wp2_with (first
    | (at_builtin; refine wpList_append_L EI 36 24 rfl (.tmp 56) (.tmp 57) rfl _ 8 Try.underlying24 info_insn rfl (by decide) _ wz.heap.size (some ⟨wz.heap.size, 0, none⟩) 1 [ja0] rfl (Enc.Own.lit EI wz _ [ja0] _ rfl _ (Nat.le_refl _) (by simp [maxLen])) R c l rfl (HX7.out.enc.below (B := wz.heap.size) (by (repeat (first | with_reducible exact Below.refl _ _ | with_reducible assumption | ((with_reducible refine Below.setCell ?_ ?hp _); case hp => (first | omega | (simp only [World.size_alloc, World.size_setCell, World.size_drew]; omega) | (simp; done) | (simp; omega))) | ((with_reducible refine Below.alloc ?_ ?hp _); case hp => (first | omega | (simp only [World.size_alloc, World.size_setCell, World.size_drew]; omega) | (simp; done) | (simp; omega))) | with_reducible refine Below.drew ?_ | with_reducible refine below_drewN ?_ _))) (Nat.le_refl _)) (by simp; omega) (by decide) (by simp) ?_; intro R7 c7 w7 hown7 hg7 hat7; have HO7 := Lib.hid hown7; have H7 := Lib.hid (below_append (show Below wz.heap.size wz _ by (repeat (first | with_reducible exact Below.refl _ _ | with_reducible assumption | ((with_reducible refine Below.setCell ?_ ?hp _); case hp => (first | omega | (simp only [World.size_alloc, World.size_setCell, World.size_drew]; omega) | (simp; done) | (simp; omega))) | ((with_reducible refine Below.alloc ?_ ?hp _); case hp => (first | omega | (simp only [World.size_alloc, World.size_setCell, World.size_drew]; omega) | (simp; done) | (simp; omega))) | with_reducible refine Below.drew ?_ | with_reducible refine below_drewN ?_ _))) (Enc.Own.lit EI wz _ [ja0] _ rfl _ (Nat.le_refl _) (by simp [maxLen])) hg7 (by simp)); clear hown7 hg7 hat7)
    | (go_at_call 26; refine (vain_last R c l wz w7 R7 c7 HX7.out HO7.out H7.out HG.out hl).mono ?_; rintro e w8 ⟨rfl, hb⟩; have H8 := Lib.hid (H7.out.trans (hb.mono H7.out.size)); clear hb))
    go_ret
    exact ⟨by simp, HB0.out.trans ((H47.out.trans (H8.out.mono H47.out.size)).mono (by omega))⟩

theorem pvain_any (A : Option Addr) (ca : Nat) (a : List Insn) (x : Insn) (w : World) (ha : In w A ca a) (hx : x.Ok) :
    Calls Try.prog 5 #[.slice A a.length ca, (Value.agg #[.int .u16 x.code, .int .u8 x.jt, .int .u8 x.jf, .int .u32 x.k])] w fun e w' => e = .returned (.bool true) ∧ Below w.heap.size w w' := by
  by_cases h1 : (check (a.take 65)).2 = 0
  · have hg := take_good ha h1
    by_cases h2 : (a.take 65).length < 64
    · by_cases h3 : (check [x]).2 = 0
      · exact pvain_yes A ca a x w ha hx hg h2 h3
      · exact pvain_no A ca a x w ha hx hg h2 h3
    · exact pvain_long A ca a x w ha hx hg (by omega)
  · exact pvain_bad A ca a x w ha hx h1
end Go.Proofs.Ytfjbanfibmpalaa

/- What comes next, told one behind the other: all but tests. -/
import Derived.Test.YtfjbanfibmpalaaK2
import Derived.Test.YtfjbanfibmpalaaK11
import Derived.Sort.BigQuietIn
set_option linter.unusedVariables false
set_option linter.unusedSimpArgs false
namespace Go.Proofs.Ytfjbanfibmpalaa
open Go.RowKit Go.Shelf
attribute [local go_sem] Oper.semAt_some

theorem IAt_of_below {w w' : World} {b o n : Nat} {x : Insn} (h : IAt w b o x) (hb : Below n w w') (hl : b < n) : IAt w' b o x := h.keep fun o => hb.cell (p := ⟨b, o, none⟩) hl

set_option maxHeartbeats 400000 in
theorem next_iter_plain (x : Insn) (hx : x.Ok) (i : Nat) (hi : i ≤ 255) (f : Int) (hf : form x.code = f) (h0 : 0 ≤ f) (e4 : (f == 4) = false) (e5 : (f == 5) = false) (e6 : (f == 6) = false) (hr : isRet x.code = false) (g1 g2 m0 n0 : Nat) (w0 : World)
    (h1 : IAt w0 g1 0 x) (h2 : w0.cell? ⟨g2, 0, none⟩ = some (.int .i64 i)) (hg1 : m0 ≤ g1 ∧ g1 < n0) (hg2 : m0 ≤ g2 ∧ g2 < n0) :
    Iter Try.prog 123 #[.pointer (some ⟨g1, 0, none⟩), .pointer (some ⟨g2, 0, none⟩)] [#[.int .i64 ((i : Int) + 1)]] m0 n0 w0 := by
  intro l W P0 J hW hn0 hP hPJ hJ hY hJ0
  have hc := hx.code
  have HF := Lib.hid hf
  have HR := Lib.hid hr
  clear hf hr
  have HI := Lib.hid (IAt_of_below h1 hW hg1.2)
  have h2' := (hW.cell (p := ⟨g2, 0, none⟩) hg2.2).trans h2
  obtain ⟨c0, c1, c2, c3⟩ := HI.out
  clear h2 h1
  have HY := Lib.hid hY
  have HJ := Lib.hid (And.intro hP hPJ)
  clear hY hJ hP hPJ hW
  refine callsIn_of_wp Try.func123 rfl trivial ?_ rfl
  simp only [Try.ntmps123, List.size_toArray, List.length_cons, List.length_nil, Nat.reduceAdd, Nat.reduceSub, Array.replicate_succ, Array.replicate_zero, List.push_toArray, List.append_toArray, List.nil_append, List.cons_append]
  have hwf : ∀ k, Fence.wide.fn k := fun _ => trivial
  have hwd : Fence.wide.depth = none := rfl
  have hg1W : g1 < W.heap.size := by omega
  have hg2W : g2 < W.heap.size := by omega
  gi_wp2_with (first
    | (gi_at_call 105; refine (callsIn_wide.2 (form_any x.code hc _)).mono ?_; rw [HF.out]; rintro e w1 ⟨rfl, hb⟩; have d2 := (hb.cell (p := ⟨g2, 0, none⟩) hg2W).trans h2'; have HD := Lib.hid (IAt_of_below HI.out hb hg1W); obtain ⟨d0, d1, dd, d3⟩ := HD.out; have hz := hb.size; have HB := Lib.hid hb; clear hb)
    | (gi_at_call 65; refine (callsIn_wide.2 (returns_any x.code x.jt x.jf x.k _)).mono ?_; rw [HR.out]; rintro e w2 ⟨rfl, hb2⟩; have e2 := (hb2.cell (p := ⟨g2, 0, none⟩) (show g2 < _ by omega)).trans d2; have HE := Lib.hid (IAt_of_below HD.out hb2 (by omega)); obtain ⟨e0, e1, ee, e3⟩ := HE.out; have hz2 := hb2.size; have HB2 := Lib.hid (HB.out.trans (hb2.mono hz)); obtain ⟨fn, tmps, assign, body, hy, hR⟩ := HY.out _ 0 (by simp) w2 (HJ.out.2 _ (HJ.out.1 _ _ hJ0 HB2.out) HB2.out.size) HB2.out.size (Nat.le_refl _); simp only [List.getElem_cons_zero] at hy; have HRR := Lib.hid hR; clear hb2 hR))
  refine HRR.out.mono ?_
  rintro e B ⟨rfl, hJB, hkp⟩
  have HKP := Lib.hid hkp
  clear hkp
  gi_wp2
  go_end0
  exact ⟨⟨_, rfl⟩, _, HB2.out.size, HKP.out.size, hJB⟩
set_option maxHeartbeats 400000 in
theorem next_iter_neg (x : Insn) (hx : x.Ok) (i : Nat) (hi : i ≤ 255) (hf : form x.code = -1) (g1 g2 m0 n0 : Nat) (w0 : World)
    (h1 : IAt w0 g1 0 x) (h2 : w0.cell? ⟨g2, 0, none⟩ = some (.int .i64 i)) (hg1 : m0 ≤ g1 ∧ g1 < n0) (hg2 : m0 ≤ g2 ∧ g2 < n0) :
    Iter Try.prog 123 #[.pointer (some ⟨g1, 0, none⟩), .pointer (some ⟨g2, 0, none⟩)] [] m0 n0 w0 := by
  intro l W P0 J hW hn0 hP hPJ hJ hY hJ0
  have hc := hx.code
  have HF := Lib.hid hf
  clear hf
  have HI := Lib.hid (IAt_of_below h1 hW hg1.2)
  have h2' := (hW.cell (p := ⟨g2, 0, none⟩) hg2.2).trans h2
  obtain ⟨c0, c1, c2, c3⟩ := HI.out
  clear h2 h1
  have HY := Lib.hid hY
  have HJ := Lib.hid (And.intro hP hPJ)
  clear hY hJ hP hPJ hW
  refine callsIn_of_wp Try.func123 rfl trivial ?_ rfl
  simp only [Try.ntmps123, List.size_toArray, List.length_cons, List.length_nil, Nat.reduceAdd, Nat.reduceSub, Array.replicate_succ, Array.replicate_zero, List.push_toArray, List.append_toArray, List.nil_append, List.cons_append]
  have hwf : ∀ k, Fence.wide.fn k := fun _ => trivial
  have hwd : Fence.wide.depth = none := rfl
  have hg1W : g1 < W.heap.size := by omega
  have hg2W : g2 < W.heap.size := by omega
  gi_wp2_with (gi_at_call 105; refine (callsIn_wide.2 (form_any x.code hc _)).mono ?_; rw [HF.out]; rintro e w1 ⟨rfl, hb⟩; have d2 := (hb.cell (p := ⟨g2, 0, none⟩) hg2W).trans h2'; have HD := Lib.hid (IAt_of_below HI.out hb hg1W); obtain ⟨d0, d1, dd, d3⟩ := HD.out; have hz := hb.size; have HB := Lib.hid hb; clear hb)
  go_end0
  exact ⟨⟨_, rfl⟩, _, HB.out.size, Nat.le_refl _, HJ.out.2 _ (HJ.out.1 _ _ hJ0 HB.out) HB.out.size⟩

set_option maxHeartbeats 400000 in
theorem next_iter_ret (x : Insn) (hx : x.Ok) (i : Nat) (hi : i ≤ 255) (f : Int) (hf : form x.code = f) (h0 : 0 ≤ f) (hr : isRet x.code = true) (g1 g2 m0 n0 : Nat) (w0 : World)
    (h1 : IAt w0 g1 0 x) (h2 : w0.cell? ⟨g2, 0, none⟩ = some (.int .i64 i)) (hg1 : m0 ≤ g1 ∧ g1 < n0) (hg2 : m0 ≤ g2 ∧ g2 < n0) :
    Iter Try.prog 123 #[.pointer (some ⟨g1, 0, none⟩), .pointer (some ⟨g2, 0, none⟩)] [] m0 n0 w0 := by
  intro l W P0 J hW hn0 hP hPJ hJ hY hJ0
  have hc := hx.code
  have HF := Lib.hid hf
  have HR := Lib.hid hr
  clear hf hr
  have HI := Lib.hid (IAt_of_below h1 hW hg1.2)
  have h2' := (hW.cell (p := ⟨g2, 0, none⟩) hg2.2).trans h2
  obtain ⟨c0, c1, c2, c3⟩ := HI.out
  clear h2 h1
  have HY := Lib.hid hY
  have HJ := Lib.hid (And.intro hP hPJ)
  clear hY hJ hP hPJ hW
  refine callsIn_of_wp Try.func123 rfl trivial ?_ rfl
  simp only [Try.ntmps123, List.size_toArray, List.length_cons, List.length_nil, Nat.reduceAdd, Nat.reduceSub, Array.replicate_succ, Array.replicate_zero, List.push_toArray, List.append_toArray, List.nil_append, List.cons_append]
  have hwf : ∀ k, Fence.wide.fn k := fun _ => trivial
  have hwd : Fence.wide.depth = none := rfl
  have hg1W : g1 < W.heap.size := by omega
  have hg2W : g2 < W.heap.size := by omega
  gi_wp2_with (first
    | (gi_at_call 105; refine (callsIn_wide.2 (form_any x.code hc _)).mono ?_; rw [HF.out]; rintro e w1 ⟨rfl, hb⟩; have d2 := (hb.cell (p := ⟨g2, 0, none⟩) hg2W).trans h2'; have HD := Lib.hid (IAt_of_below HI.out hb hg1W); obtain ⟨d0, d1, dd, d3⟩ := HD.out; have hz := hb.size; have HB := Lib.hid hb; clear hb)
    | (gi_at_call 65; refine (callsIn_wide.2 (returns_any x.code x.jt x.jf x.k _)).mono ?_; rw [HR.out]; rintro e w2 ⟨rfl, hb2⟩; have e2 := (hb2.cell (p := ⟨g2, 0, none⟩) (show g2 < _ by omega)).trans d2; have HE := Lib.hid (IAt_of_below HD.out hb2 (by omega)); obtain ⟨e0, e1, ee, e3⟩ := HE.out; have hz2 := hb2.size; have HB2 := Lib.hid (HB.out.trans (hb2.mono hz)); clear hb2))
  go_end0
  exact ⟨⟨_, rfl⟩, _, HB2.out.size, Nat.le_refl _, HJ.out.2 _ (HJ.out.1 _ _ hJ0 HB2.out) HB2.out.size⟩

set_option maxHeartbeats 400000 in
theorem next_iter_ja (x : Insn) (hx : x.Ok) (i : Nat) (hi : i ≤ 255) (hf : form x.code = 4) (hr : isRet x.code = false) (hk : x.k ≤ 255) (g1 g2 m0 n0 : Nat) (w0 : World)
    (h1 : IAt w0 g1 0 x) (h2 : w0.cell? ⟨g2, 0, none⟩ = some (.int .i64 i)) (hg1 : m0 ≤ g1 ∧ g1 < n0) (hg2 : m0 ≤ g2 ∧ g2 < n0) :
    Iter Try.prog 123 #[.pointer (some ⟨g1, 0, none⟩), .pointer (some ⟨g2, 0, none⟩)] [#[.int .i64 ((i : Int) + 1 + x.k)]] m0 n0 w0 := by
  intro l W P0 J hW hn0 hP hPJ hJ hY hJ0
  have hc := hx.code
  have HF := Lib.hid hf
  have HR := Lib.hid hr
  clear hf hr
  have HI := Lib.hid (IAt_of_below h1 hW hg1.2)
  have h2' := (hW.cell (p := ⟨g2, 0, none⟩) hg2.2).trans h2
  obtain ⟨c0, c1, c2, c3⟩ := HI.out
  clear h2 h1
  have HY := Lib.hid hY
  have HJ := Lib.hid (And.intro hP hPJ)
  clear hY hJ hP hPJ hW
  refine callsIn_of_wp Try.func123 rfl trivial ?_ rfl
  simp only [Try.ntmps123, List.size_toArray, List.length_cons, List.length_nil, Nat.reduceAdd, Nat.reduceSub, Array.replicate_succ, Array.replicate_zero, List.push_toArray, List.append_toArray, List.nil_append, List.cons_append]
  have hwf : ∀ k, Fence.wide.fn k := fun _ => trivial
  have hwd : Fence.wide.depth = none := rfl
  have hg1W : g1 < W.heap.size := by omega
  have hg2W : g2 < W.heap.size := by omega
  gi_wp2_with (first
    | (gi_at_call 105; refine (callsIn_wide.2 (form_any x.code hc _)).mono ?_; rw [HF.out]; rintro e w1 ⟨rfl, hb⟩; have d2 := (hb.cell (p := ⟨g2, 0, none⟩) hg2W).trans h2'; have HD := Lib.hid (IAt_of_below HI.out hb hg1W); obtain ⟨d0, d1, dd, d3⟩ := HD.out; have hz := hb.size; have HB := Lib.hid hb; clear hb)
    | (gi_at_call 65; refine (callsIn_wide.2 (returns_any x.code x.jt x.jf x.k _)).mono ?_; rw [HR.out]; rintro e w2 ⟨rfl, hb2⟩; have e2 := (hb2.cell (p := ⟨g2, 0, none⟩) (show g2 < _ by omega)).trans d2; have HE := Lib.hid (IAt_of_below HD.out hb2 (by omega)); obtain ⟨e0, e1, ee, e3⟩ := HE.out; have hz2 := hb2.size; have HB2 := Lib.hid (HB.out.trans (hb2.mono hz)); clear hb2; obtain ⟨fn, tmps, assign, body, hy, hR⟩ := HY.out _ 0 (by simp) w2 (HJ.out.2 _ (HJ.out.1 _ _ hJ0 HB2.out) HB2.out.size) HB2.out.size (Nat.le_refl _); simp only [List.getElem_cons_zero] at hy; have HRR := Lib.hid hR; clear hR))
  refine HRR.out.mono ?_
  rintro e B ⟨rfl, hJB, hkp⟩
  have HKP := Lib.hid hkp
  clear hkp
  gi_wp2
  go_end0
  exact ⟨⟨_, rfl⟩, _, HB2.out.size, HKP.out.size, hJB⟩

set_option maxHeartbeats 400000 in
theorem next_iter_far (x : Insn) (hx : x.Ok) (i : Nat) (hi : i ≤ 255) (hf : form x.code = 4) (hr : isRet x.code = false) (hk : 255 < x.k) (g1 g2 m0 n0 : Nat) (w0 : World)
    (h1 : IAt w0 g1 0 x) (h2 : w0.cell? ⟨g2, 0, none⟩ = some (.int .i64 i)) (hg1 : m0 ≤ g1 ∧ g1 < n0) (hg2 : m0 ≤ g2 ∧ g2 < n0) :
    Iter Try.prog 123 #[.pointer (some ⟨g1, 0, none⟩), .pointer (some ⟨g2, 0, none⟩)] [] m0 n0 w0 := by
  intro l W P0 J hW hn0 hP hPJ hJ hY hJ0
  have hc := hx.code
  have HF := Lib.hid hf
  have HR := Lib.hid hr
  clear hf hr
  have HI := Lib.hid (IAt_of_below h1 hW hg1.2)
  have h2' := (hW.cell (p := ⟨g2, 0, none⟩) hg2.2).trans h2
  obtain ⟨c0, c1, c2, c3⟩ := HI.out
  clear h2 h1
  have HY := Lib.hid hY
  have HJ := Lib.hid (And.intro hP hPJ)
  clear hY hJ hP hPJ hW
  refine callsIn_of_wp Try.func123 rfl trivial ?_ rfl
  simp only [Try.ntmps123, List.size_toArray, List.length_cons, List.length_nil, Nat.reduceAdd, Nat.reduceSub, Array.replicate_succ, Array.replicate_zero, List.push_toArray, List.append_toArray, List.nil_append, List.cons_append]
  have hwf : ∀ k, Fence.wide.fn k := fun _ => trivial
  have hwd : Fence.wide.depth = none := rfl
  have hg1W : g1 < W.heap.size := by omega
  have hg2W : g2 < W.heap.size := by omega
  have hx4 := hx.k
  gi_wp2_with (first
    | (gi_at_call 105; refine (callsIn_wide.2 (form_any x.code hc _)).mono ?_; rw [HF.out]; rintro e w1 ⟨rfl, hb⟩; have d2 := (hb.cell (p := ⟨g2, 0, none⟩) hg2W).trans h2'; have HD := Lib.hid (IAt_of_below HI.out hb hg1W); obtain ⟨d0, d1, dd, d3⟩ := HD.out; have hz := hb.size; have HB := Lib.hid hb; clear hb)
    | (gi_at_call 65; refine (callsIn_wide.2 (returns_any x.code x.jt x.jf x.k _)).mono ?_; rw [HR.out]; rintro e w2 ⟨rfl, hb2⟩; have e2 := (hb2.cell (p := ⟨g2, 0, none⟩) (show g2 < _ by omega)).trans d2; have HE := Lib.hid (IAt_of_below HD.out hb2 (by omega)); obtain ⟨e0, e1, ee, e3⟩ := HE.out; have hz2 := hb2.size; have HB2 := Lib.hid (HB.out.trans (hb2.mono hz)); clear hb2))
  go_end0
  exact ⟨⟨_, rfl⟩, _, HB2.out.size, Nat.le_refl _, HJ.out.2 _ (HJ.out.1 _ _ hJ0 HB2.out) HB2.out.size⟩

end Go.Proofs.Ytfjbanfibmpalaa

/- What comes next, told one behind the other: tests. -/
import Derived.Test.YtfjbanfibmpalaaK12
import Derived.Sort.QuietTacIn
set_option linter.unusedVariables false
set_option linter.unusedSimpArgs false
namespace Go.Proofs.Ytfjbanfibmpalaa
open Go.RowKit Go.Shelf
attribute [local go_sem] Oper.semAt_some
set_option maxRecDepth 100000 in
set_option maxHeartbeats 400000 in
theorem next_iter_t5e (x : Insn) (hx : x.Ok) (i : Nat) (hi : i ≤ 255) (hf : form x.code = 5) (hr : isRet x.code = false) (hk : x.jt = x.jf) (g1 g2 m0 n0 : Nat) (w0 : World)
    (h1 : IAt w0 g1 0 x) (h2 : w0.cell? ⟨g2, 0, none⟩ = some (.int .i64 i)) (hg1 : m0 ≤ g1 ∧ g1 < n0) (hg2 : m0 ≤ g2 ∧ g2 < n0) :
    Iter Try.prog 123 #[.pointer (some ⟨g1, 0, none⟩), .pointer (some ⟨g2, 0, none⟩)] [#[.int .i64 ((i : Int) + 1 + x.jt)]] m0 n0 w0 := by
  have n1 : ¬ x.jt < x.jf := by omega
  have n2 : ¬ x.jf < x.jt := by omega
  have HK := Lib.hid hk
  clear hk
  intro l W P0 J hW hn0 hP hPJ hJ hY hJ0
  have hc := hx.code
  have HF := Lib.hid hf
  have HR := Lib.hid hr
  clear hf hr
  have HI := Lib.hid (IAt_of_below h1 hW hg1.2)
  have h2' := (hW.cell (p := ⟨g2, 0, none⟩) hg2.2).trans h2
  obtain ⟨c0, c1, c2, c3⟩ := HI.out
  clear h2 h1
  have HY := Lib.hid hY
  have HJ := Lib.hid (And.intro hP hPJ)
  clear hY hJ hP hPJ hW
  refine callsIn_of_wp Try.func123 rfl trivial ?_ rfl
  simp only [Try.ntmps123, List.size_toArray, List.length_cons, List.length_nil, Nat.reduceAdd, Nat.reduceSub, Array.replicate_succ, Array.replicate_zero, List.push_toArray, List.append_toArray, List.nil_append, List.cons_append]
  have hwf : ∀ k, Fence.wide.fn k := fun _ => trivial
  have hwd : Fence.wide.depth = none := rfl
  have hg1W : g1 < W.heap.size := by omega
  have hg2W : g2 < W.heap.size := by omega
  have q1 := hx.jt
  have q2 := hx.jf
  gi_wp2_with (first
    | (gi_at_call 105; refine (callsIn_wide.2 (form_any x.code hc _)).mono ?_; rw [HF.out]; rintro e w1 ⟨rfl, hb⟩; have d2 := (hb.cell (p := ⟨g2, 0, none⟩) hg2W).trans h2'; have HD := Lib.hid (IAt_of_below HI.out hb hg1W); obtain ⟨d0, d1, dd, d3⟩ := HD.out; have hz := hb.size; have HB := Lib.hid hb; clear hb)
    | (gi_at_call 65; refine (callsIn_wide.2 (returns_any x.code x.jt x.jf x.k _)).mono ?_; rw [HR.out]; rintro e w2 ⟨rfl, hb2⟩; have e2 := (hb2.cell (p := ⟨g2, 0, none⟩) (show g2 < _ by omega)).trans d2; have HE := Lib.hid (IAt_of_below HD.out hb2 (by omega)); obtain ⟨e0, e1, ee, e3⟩ := HE.out; have hz2 := hb2.size; have HB2 := Lib.hid (HB.out.trans (hb2.mono hz)); clear hb2))
  gi_quiet_th (fail)
  obtain ⟨fn, tmps, assign, body, hy, hR⟩ := HY.out _ 0 (by simp) (w2.drewN nq) (HJ.out.2 _ (HJ.out.1 _ _ hJ0 (below_drewN HB2.out nq)) HB2.out.size) HB2.out.size (Nat.le_refl _)
  simp only [List.getElem_cons_zero] at hy
  have HRR := Lib.hid hR
  clear hR
  gi_wp2
  refine HRR.out.mono ?_
  rintro e B ⟨rfl, hJB, hkp⟩
  have HKP := Lib.hid hkp
  clear hkp
  gi_wp2
  go_end0
  exact ⟨⟨_, rfl⟩, _, HB2.out.size, HKP.out.size, hJB⟩

set_option maxRecDepth 100000 in
set_option maxHeartbeats 400000 in
theorem next_iter_t5l (x : Insn) (hx : x.Ok) (i : Nat) (hi : i ≤ 255) (hf : form x.code = 5) (hr : isRet x.code = false) (hk : x.jt < x.jf) (g1 g2 m0 n0 : Nat) (w0 : World)
    (h1 : IAt w0 g1 0 x) (h2 : w0.cell? ⟨g2, 0, none⟩ = some (.int .i64 i)) (hg1 : m0 ≤ g1 ∧ g1 < n0) (hg2 : m0 ≤ g2 ∧ g2 < n0) :
    Iter Try.prog 123 #[.pointer (some ⟨g1, 0, none⟩), .pointer (some ⟨g2, 0, none⟩)] [#[.int .i64 ((i : Int) + 1 + x.jt)], #[.int .i64 ((i : Int) + 1 + x.jf)]] m0 n0 w0 := by
  have n2 : ¬ x.jf < x.jt := by omega
  have hne : ((x.jt : Int) != (x.jf : Int)) = true := by rw [bne_iff_ne]; omega
  intro l W P0 J hW hn0 hP hPJ hJ hY hJ0
  have hc := hx.code
  have HF := Lib.hid hf
  have HR := Lib.hid hr
  clear hf hr
  have HI := Lib.hid (IAt_of_below h1 hW hg1.2)
  have h2' := (hW.cell (p := ⟨g2, 0, none⟩) hg2.2).trans h2
  obtain ⟨c0, c1, c2, c3⟩ := HI.out
  clear h2 h1
  have HY := Lib.hid hY
  have HJ := Lib.hid (And.intro hP hPJ)
  clear hY hJ hP hPJ hW
  refine callsIn_of_wp Try.func123 rfl trivial ?_ rfl
  simp only [Try.ntmps123, List.size_toArray, List.length_cons, List.length_nil, Nat.reduceAdd, Nat.reduceSub, Array.replicate_succ, Array.replicate_zero, List.push_toArray, List.append_toArray, List.nil_append, List.cons_append]
  have hwf : ∀ k, Fence.wide.fn k := fun _ => trivial
  have hwd : Fence.wide.depth = none := rfl
  have hg1W : g1 < W.heap.size := by omega
  have hg2W : g2 < W.heap.size := by omega
  have q1 := hx.jt
  have q2 := hx.jf
  gi_wp2_with (first
    | (gi_at_call 105; refine (callsIn_wide.2 (form_any x.code hc _)).mono ?_; rw [HF.out]; rintro e w1 ⟨rfl, hb⟩; have d2 := (hb.cell (p := ⟨g2, 0, none⟩) hg2W).trans h2'; have HD := Lib.hid (IAt_of_below HI.out hb hg1W); obtain ⟨d0, d1, dd, d3⟩ := HD.out; have hz := hb.size; have HB := Lib.hid hb; clear hb)
    | (gi_at_call 65; refine (callsIn_wide.2 (returns_any x.code x.jt x.jf x.k _)).mono ?_; rw [HR.out]; rintro e w2 ⟨rfl, hb2⟩; have e2 := (hb2.cell (p := ⟨g2, 0, none⟩) (show g2 < _ by omega)).trans d2; have HE := Lib.hid (IAt_of_below HD.out hb2 (by omega)); obtain ⟨e0, e1, ee, e3⟩ := HE.out; have hz2 := hb2.size; have HB2 := Lib.hid (HB.out.trans (hb2.mono hz)); clear hb2))
  gi_quiet_th (fail)
  obtain ⟨fn, tmps, assign, body, hy, hR⟩ := HY.out _ 0 (by simp) (w2.drewN nq) (HJ.out.2 _ (HJ.out.1 _ _ hJ0 (below_drewN HB2.out nq)) HB2.out.size) HB2.out.size (Nat.le_refl _)
  simp only [List.getElem_cons_zero] at hy
  have HRR := Lib.hid hR
  clear hR
  gi_wp2
  refine HRR.out.mono ?_
  rintro e B ⟨rfl, hJB, hkp⟩
  have hsz2 : (w2.drewN nq).heap.size ≤ B.heap.size := hkp.size
  have f2 : B.cell? ⟨g2, 0, none⟩ = some (.int .i64 i) := (World.cell?_of_block (w := w2.drewN nq) (a := ⟨g2, 0, none⟩) (hkp.block g2 (.inl hg2) (show g2 < w2.heap.size by omega))).trans e2
  obtain ⟨fn2, tmps2, assign2, body2, hy2, hR2⟩ := HY.out _ 1 (by simp) B hJB HB2.out.size hsz2
  simp only [List.getElem_cons_zero, List.getElem_cons_succ] at hy2
  have HRR2 := Lib.hid hR2
  have HKP := Lib.hid hkp
  clear hR2 hkp hy
  gi_wp2
  refine HRR2.out.mono ?_
  rintro e B2 ⟨rfl, hJB2, hkp2⟩
  have HKP2 := Lib.hid hkp2
  clear hkp2
  gi_wp2
  go_end0
  exact ⟨⟨_, rfl⟩, _, HB2.out.size, Nat.le_trans HKP.out.size HKP2.out.size, hJB2⟩

set_option maxRecDepth 100000 in
set_option maxHeartbeats 400000 in
theorem next_iter_t5g (x : Insn) (hx : x.Ok) (i : Nat) (hi : i ≤ 255) (hf : form x.code = 5) (hr : isRet x.code = false) (hk : x.jf < x.jt) (g1 g2 m0 n0 : Nat) (w0 : World)
    (h1 : IAt w0 g1 0 x) (h2 : w0.cell? ⟨g2, 0, none⟩ = some (.int .i64 i)) (hg1 : m0 ≤ g1 ∧ g1 < n0) (hg2 : m0 ≤ g2 ∧ g2 < n0) :
    Iter Try.prog 123 #[.pointer (some ⟨g1, 0, none⟩), .pointer (some ⟨g2, 0, none⟩)] [#[.int .i64 ((i : Int) + 1 + x.jf)], #[.int .i64 ((i : Int) + 1 + x.jt)]] m0 n0 w0 := by
  have n1 : ¬ x.jt < x.jf := by omega
  have hne : ((x.jf : Int) != (x.jt : Int)) = true := by rw [bne_iff_ne]; omega
  intro l W P0 J hW hn0 hP hPJ hJ hY hJ0
  have hc := hx.code
  have HF := Lib.hid hf
  have HR := Lib.hid hr
  clear hf hr
  have HI := Lib.hid (IAt_of_below h1 hW hg1.2)
  have h2' := (hW.cell (p := ⟨g2, 0, none⟩) hg2.2).trans h2
  obtain ⟨c0, c1, c2, c3⟩ := HI.out
  clear h2 h1
  have HY := Lib.hid hY
  have HJ := Lib.hid (And.intro hP hPJ)
  clear hY hJ hP hPJ hW
  refine callsIn_of_wp Try.func123 rfl trivial ?_ rfl
  simp only [Try.ntmps123, List.size_toArray, List.length_cons, List.length_nil, Nat.reduceAdd, Nat.reduceSub, Array.replicate_succ, Array.replicate_zero, List.push_toArray, List.append_toArray, List.nil_append, List.cons_append]
  have hwf : ∀ k, Fence.wide.fn k := fun _ => trivial
  have hwd : Fence.wide.depth = none := rfl
  have hg1W : g1 < W.heap.size := by omega
  have hg2W : g2 < W.heap.size := by omega
  have q1 := hx.jt
  have q2 := hx.jf
  gi_wp2_with (first
    | (gi_at_call 105; refine (callsIn_wide.2 (form_any x.code hc _)).mono ?_; rw [HF.out]; rintro e w1 ⟨rfl, hb⟩; have d2 := (hb.cell (p := ⟨g2, 0, none⟩) hg2W).trans h2'; have HD := Lib.hid (IAt_of_below HI.out hb hg1W); obtain ⟨d0, d1, dd, d3⟩ := HD.out; have hz := hb.size; have HB := Lib.hid hb; clear hb)
    | (gi_at_call 65; refine (callsIn_wide.2 (returns_any x.code x.jt x.jf x.k _)).mono ?_; rw [HR.out]; rintro e w2 ⟨rfl, hb2⟩; have e2 := (hb2.cell (p := ⟨g2, 0, none⟩) (show g2 < _ by omega)).trans d2; have HE := Lib.hid (IAt_of_below HD.out hb2 (by omega)); obtain ⟨e0, e1, ee, e3⟩ := HE.out; have hz2 := hb2.size; have HB2 := Lib.hid (HB.out.trans (hb2.mono hz)); clear hb2))
  gi_quiet_th (fail)
  obtain ⟨fn, tmps, assign, body, hy, hR⟩ := HY.out _ 0 (by simp) (w2.drewN nq) (HJ.out.2 _ (HJ.out.1 _ _ hJ0 (below_drewN HB2.out nq)) HB2.out.size) HB2.out.size (Nat.le_refl _)
  simp only [List.getElem_cons_zero] at hy
  have HRR := Lib.hid hR
  clear hR
  gi_wp2
  refine HRR.out.mono ?_
  rintro e B ⟨rfl, hJB, hkp⟩
  have hsz2 : (w2.drewN nq).heap.size ≤ B.heap.size := hkp.size
  have f2 : B.cell? ⟨g2, 0, none⟩ = some (.int .i64 i) := (World.cell?_of_block (w := w2.drewN nq) (a := ⟨g2, 0, none⟩) (hkp.block g2 (.inl hg2) (show g2 < w2.heap.size by omega))).trans e2
  obtain ⟨fn2, tmps2, assign2, body2, hy2, hR2⟩ := HY.out _ 1 (by simp) B hJB HB2.out.size hsz2
  simp only [List.getElem_cons_zero, List.getElem_cons_succ] at hy2
  have HRR2 := Lib.hid hR2
  have HKP := Lib.hid hkp
  clear hR2 hkp hy
  gi_wp2
  refine HRR2.out.mono ?_
  rintro e B2 ⟨rfl, hJB2, hkp2⟩
  have HKP2 := Lib.hid hkp2
  clear hkp2
  gi_wp2
  go_end0
  exact ⟨⟨_, rfl⟩, _, HB2.out.size, Nat.le_trans HKP.out.size HKP2.out.size, hJB2⟩

set_option maxRecDepth 100000 in
set_option maxHeartbeats 400000 in
theorem next_iter_t6e (x : Insn) (hx : x.Ok) (i : Nat) (hi : i ≤ 255) (hf : form x.code = 6) (hr : isRet x.code = false) (hk : x.jt = x.jf) (g1 g2 m0 n0 : Nat) (w0 : World)
    (h1 : IAt w0 g1 0 x) (h2 : w0.cell? ⟨g2, 0, none⟩ = some (.int .i64 i)) (hg1 : m0 ≤ g1 ∧ g1 < n0) (hg2 : m0 ≤ g2 ∧ g2 < n0) :
    Iter Try.prog 123 #[.pointer (some ⟨g1, 0, none⟩), .pointer (some ⟨g2, 0, none⟩)] [#[.int .i64 ((i : Int) + 1 + x.jt)]] m0 n0 w0 := by
  have n1 : ¬ x.jt < x.jf := by omega
  have n2 : ¬ x.jf < x.jt := by omega
  have HK := Lib.hid hk
  clear hk
  intro l W P0 J hW hn0 hP hPJ hJ hY hJ0
  have hc := hx.code
  have HF := Lib.hid hf
  have HR := Lib.hid hr
  clear hf hr
  have HI := Lib.hid (IAt_of_below h1 hW hg1.2)
  have h2' := (hW.cell (p := ⟨g2, 0, none⟩) hg2.2).trans h2
  obtain ⟨c0, c1, c2, c3⟩ := HI.out
  clear h2 h1
  have HY := Lib.hid hY
  have HJ := Lib.hid (And.intro hP hPJ)
  clear hY hJ hP hPJ hW
  refine callsIn_of_wp Try.func123 rfl trivial ?_ rfl
  simp only [Try.ntmps123, List.size_toArray, List.length_cons, List.length_nil, Nat.reduceAdd, Nat.reduceSub, Array.replicate_succ, Array.replicate_zero, List.push_toArray, List.append_toArray, List.nil_append, List.cons_append]
  have hwf : ∀ k, Fence.wide.fn k := fun _ => trivial
  have hwd : Fence.wide.depth = none := rfl
  have hg1W : g1 < W.heap.size := by omega
  have hg2W : g2 < W.heap.size := by omega
  have q1 := hx.jt
  have q2 := hx.jf
  gi_wp2_with (first
    | (gi_at_call 105; refine (callsIn_wide.2 (form_any x.code hc _)).mono ?_; rw [HF.out]; rintro e w1 ⟨rfl, hb⟩; have d2 := (hb.cell (p := ⟨g2, 0, none⟩) hg2W).trans h2'; have HD := Lib.hid (IAt_of_below HI.out hb hg1W); obtain ⟨d0, d1, dd, d3⟩ := HD.out; have hz := hb.size; have HB := Lib.hid hb; clear hb)
    | (gi_at_call 65; refine (callsIn_wide.2 (returns_any x.code x.jt x.jf x.k _)).mono ?_; rw [HR.out]; rintro e w2 ⟨rfl, hb2⟩; have e2 := (hb2.cell (p := ⟨g2, 0, none⟩) (show g2 < _ by omega)).trans d2; have HE := Lib.hid (IAt_of_below HD.out hb2 (by omega)); obtain ⟨e0, e1, ee, e3⟩ := HE.out; have hz2 := hb2.size; have HB2 := Lib.hid (HB.out.trans (hb2.mono hz)); clear hb2))
  gi_quiet_th (fail)
  obtain ⟨fn, tmps, assign, body, hy, hR⟩ := HY.out _ 0 (by simp) (w2.drewN nq) (HJ.out.2 _ (HJ.out.1 _ _ hJ0 (below_drewN HB2.out nq)) HB2.out.size) HB2.out.size (Nat.le_refl _)
  simp only [List.getElem_cons_zero] at hy
  have HRR := Lib.hid hR
  clear hR
  gi_wp2
  refine HRR.out.mono ?_
  rintro e B ⟨rfl, hJB, hkp⟩
  have HKP := Lib.hid hkp
  clear hkp
  gi_wp2
  go_end0
  exact ⟨⟨_, rfl⟩, _, HB2.out.size, HKP.out.size, hJB⟩

set_option maxRecDepth 100000 in
set_option maxHeartbeats 400000 in
theorem next_iter_t6l (x : Insn) (hx : x.Ok) (i : Nat) (hi : i ≤ 255) (hf : form x.code = 6) (hr : isRet x.code = false) (hk : x.jt < x.jf) (g1 g2 m0 n0 : Nat) (w0 : World)
    (h1 : IAt w0 g1 0 x) (h2 : w0.cell? ⟨g2, 0, none⟩ = some (.int .i64 i)) (hg1 : m0 ≤ g1 ∧ g1 < n0) (hg2 : m0 ≤ g2 ∧ g2 < n0) :
    Iter Try.prog 123 #[.pointer (some ⟨g1, 0, none⟩), .pointer (some ⟨g2, 0, none⟩)] [#[.int .i64 ((i : Int) + 1 + x.jt)], #[.int .i64 ((i : Int) + 1 + x.jf)]] m0 n0 w0 := by
  have n2 : ¬ x.jf < x.jt := by omega
  have hne : ((x.jt : Int) != (x.jf : Int)) = true := by rw [bne_iff_ne]; omega
  intro l W P0 J hW hn0 hP hPJ hJ hY hJ0
  have hc := hx.code
  have HF := Lib.hid hf
  have HR := Lib.hid hr
  clear hf hr
  have HI := Lib.hid (IAt_of_below h1 hW hg1.2)
  have h2' := (hW.cell (p := ⟨g2, 0, none⟩) hg2.2).trans h2
  obtain ⟨c0, c1, c2, c3⟩ := HI.out
  clear h2 h1
  have HY := Lib.hid hY
  have HJ := Lib.hid (And.intro hP hPJ)
  clear hY hJ hP hPJ hW
  refine callsIn_of_wp Try.func123 rfl trivial ?_ rfl
  simp only [Try.ntmps123, List.size_toArray, List.length_cons, List.length_nil, Nat.reduceAdd, Nat.reduceSub, Array.replicate_succ, Array.replicate_zero, List.push_toArray, List.append_toArray, List.nil_append, List.cons_append]
  have hwf : ∀ k, Fence.wide.fn k := fun _ => trivial
  have hwd : Fence.wide.depth = none := rfl
  have hg1W : g1 < W.heap.size := by omega
  have hg2W : g2 < W.heap.size := by omega
  have q1 := hx.jt
  have q2 := hx.jf
  gi_wp2_with (first
    | (gi_at_call 105; refine (callsIn_wide.2 (form_any x.code hc _)).mono ?_; rw [HF.out]; rintro e w1 ⟨rfl, hb⟩; have d2 := (hb.cell (p := ⟨g2, 0, none⟩) hg2W).trans h2'; have HD := Lib.hid (IAt_of_below HI.out hb hg1W); obtain ⟨d0, d1, dd, d3⟩ := HD.out; have hz := hb.size; have HB := Lib.hid hb; clear hb)
    | (gi_at_call 65; refine (callsIn_wide.2 (returns_any x.code x.jt x.jf x.k _)).mono ?_; rw [HR.out]; rintro e w2 ⟨rfl, hb2⟩; have e2 := (hb2.cell (p := ⟨g2, 0, none⟩) (show g2 < _ by omega)).trans d2; have HE := Lib.hid (IAt_of_below HD.out hb2 (by omega)); obtain ⟨e0, e1, ee, e3⟩ := HE.out; have hz2 := hb2.size; have HB2 := Lib.hid (HB.out.trans (hb2.mono hz)); clear hb2))
  gi_quiet_th (fail)
  obtain ⟨fn, tmps, assign, body, hy, hR⟩ := HY.out _ 0 (by simp) (w2.drewN nq) (HJ.out.2 _ (HJ.out.1 _ _ hJ0 (below_drewN HB2.out nq)) HB2.out.size) HB2.out.size (Nat.le_refl _)
  simp only [List.getElem_cons_zero] at hy
  have HRR := Lib.hid hR
  clear hR
  gi_wp2
  refine HRR.out.mono ?_
  rintro e B ⟨rfl, hJB, hkp⟩
  have hsz2 : (w2.drewN nq).heap.size ≤ B.heap.size := hkp.size
  have f2 : B.cell? ⟨g2, 0, none⟩ = some (.int .i64 i) := (World.cell?_of_block (w := w2.drewN nq) (a := ⟨g2, 0, none⟩) (hkp.block g2 (.inl hg2) (show g2 < w2.heap.size by omega))).trans e2
  obtain ⟨fn2, tmps2, assign2, body2, hy2, hR2⟩ := HY.out _ 1 (by simp) B hJB HB2.out.size hsz2
  simp only [List.getElem_cons_zero, List.getElem_cons_succ] at hy2
  have HRR2 := Lib.hid hR2
  have HKP := Lib.hid hkp
  clear hR2 hkp hy
  gi_wp2
  refine HRR2.out.mono ?_
  rintro e B2 ⟨rfl, hJB2, hkp2⟩
  have HKP2 := Lib.hid hkp2
  clear hkp2
  gi_wp2
  go_end0
  exact ⟨⟨_, rfl⟩, _, HB2.out.size, Nat.le_trans HKP.out.size HKP2.out.size, hJB2⟩

set_option maxRecDepth 100000 in
set_option maxHeartbeats 400000 in
theorem next_iter_t6g (x : Insn) (hx : x.Ok) (i : Nat) (hi : i ≤ 255) (hf : form x.code = 6) (hr : isRet x.code = false) (hk : x.jf < x.jt) (g1 g2 m0 n0 : Nat) (w0 : World)
    (h1 : IAt w0 g1 0 x) (h2 : w0.cell? ⟨g2, 0, none⟩ = some (.int .i64 i)) (hg1 : m0 ≤ g1 ∧ g1 < n0) (hg2 : m0 ≤ g2 ∧ g2 < n0) :
    Iter Try.prog 123 #[.pointer (some ⟨g1, 0, none⟩), .pointer (some ⟨g2, 0, none⟩)] [#[.int .i64 ((i : Int) + 1 + x.jf)], #[.int .i64 ((i : Int) + 1 + x.jt)]] m0 n0 w0 := by
  have n1 : ¬ x.jt < x.jf := by omega
  have hne : ((x.jf : Int) != (x.jt : Int)) = true := by rw [bne_iff_ne]; omega
  intro l W P0 J hW hn0 hP hPJ hJ hY hJ0
  have hc := hx.code
  have HF := Lib.hid hf
  have HR := Lib.hid hr
  clear hf hr
  have HI := Lib.hid (IAt_of_below h1 hW hg1.2)
  have h2' := (hW.cell (p := ⟨g2, 0, none⟩) hg2.2).trans h2
  obtain ⟨c0, c1, c2, c3⟩ := HI.out
  clear h2 h1
  have HY := Lib.hid hY
  have HJ := Lib.hid (And.intro hP hPJ)
  clear hY hJ hP hPJ hW
  refine callsIn_of_wp Try.func123 rfl trivial ?_ rfl
  simp only [Try.ntmps123, List.size_toArray, List.length_cons, List.length_nil, Nat.reduceAdd, Nat.reduceSub, Array.replicate_succ, Array.replicate_zero, List.push_toArray, List.append_toArray, List.nil_append, List.cons_append]
  have hwf : ∀ k, Fence.wide.fn k := fun _ => trivial
  have hwd : Fence.wide.depth = none := rfl
  have hg1W : g1 < W.heap.size := by omega
  have hg2W : g2 < W.heap.size := by omega
  have q1 := hx.jt
  have q2 := hx.jf
  gi_wp2_with (first
    | (gi_at_call 105; refine (callsIn_wide.2 (form_any x.code hc _)).mono ?_; rw [HF.out]; rintro e w1 ⟨rfl, hb⟩; have d2 := (hb.cell (p := ⟨g2, 0, none⟩) hg2W).trans h2'; have HD := Lib.hid (IAt_of_below HI.out hb hg1W); obtain ⟨d0, d1, dd, d3⟩ := HD.out; have hz := hb.size; have HB := Lib.hid hb; clear hb)
    | (gi_at_call 65; refine (callsIn_wide.2 (returns_any x.code x.jt x.jf x.k _)).mono ?_; rw [HR.out]; rintro e w2 ⟨rfl, hb2⟩; have e2 := (hb2.cell (p := ⟨g2, 0, none⟩) (show g2 < _ by omega)).trans d2; have HE := Lib.hid (IAt_of_below HD.out hb2 (by omega)); obtain ⟨e0, e1, ee, e3⟩ := HE.out; have hz2 := hb2.size; have HB2 := Lib.hid (HB.out.trans (hb2.mono hz)); clear hb2))
  gi_quiet_th (fail)
  obtain ⟨fn, tmps, assign, body, hy, hR⟩ := HY.out _ 0 (by simp) (w2.drewN nq) (HJ.out.2 _ (HJ.out.1 _ _ hJ0 (below_drewN HB2.out nq)) HB2.out.size) HB2.out.size (Nat.le_refl _)
  simp only [List.getElem_cons_zero] at hy
  have HRR := Lib.hid hR
  clear hR
  gi_wp2
  refine HRR.out.mono ?_
  rintro e B ⟨rfl, hJB, hkp⟩
  have hsz2 : (w2.drewN nq).heap.size ≤ B.heap.size := hkp.size
  have f2 : B.cell? ⟨g2, 0, none⟩ = some (.int .i64 i) := (World.cell?_of_block (w := w2.drewN nq) (a := ⟨g2, 0, none⟩) (hkp.block g2 (.inl hg2) (show g2 < w2.heap.size by omega))).trans e2
  obtain ⟨fn2, tmps2, assign2, body2, hy2, hR2⟩ := HY.out _ 1 (by simp) B hJB HB2.out.size hsz2
  simp only [List.getElem_cons_zero, List.getElem_cons_succ] at hy2
  have HRR2 := Lib.hid hR2
  have HKP := Lib.hid hkp
  clear hR2 hkp hy
  gi_wp2
  refine HRR2.out.mono ?_
  rintro e B2 ⟨rfl, hJB2, hkp2⟩
  have HKP2 := Lib.hid hkp2
  clear hkp2
  gi_wp2
  go_end0
  exact ⟨⟨_, rfl⟩, _, HB2.out.size, Nat.le_trans HKP.out.size HKP2.out.size, hJB2⟩

end Go.Proofs.Ytfjbanfibmpalaa

/- Contract: wicketgatelaw05.VmSteps. -/
import Derived.Test.YtfjbanfibmpalaaVD
import Derived.Test.YtfjbanfibmpalaaK74
import Derived.Test.YtfjbanfibmpalaaVE
import Derived.Test.YtfjbanfibmpalaaVB
set_option linter.unusedVariables false
set_option linter.unusedSimpArgs false
namespace Go.Proofs.Ytfjbanfibmpalaa
open Go.RowKit Go.Shelf
attribute [local go_sem] Oper.semAt_some

theorem rstep_any (b o cap n : Nat) (pc : Nat) (hpc : pc < n) (hn : n ≤ 64) (y : Insn) (hy : y.Ok) (hf : 0 ≤ form y.code) (hm : MemOk y) (d : Dt) (hd : d.Ok) (r : Rg) (hr : r.Ok) (w : World) (hh : Here b o pc y w) :
    Calls Try.prog 36 #[.slice (some ⟨b, o, none⟩) n cap, (Value.agg #[.int .u32 d.nr, .int .u32 d.arch, .int .u64 d.ip, .int .u64 d.a0, .int .u64 d.a1, .int .u64 d.a2, .int .u64 d.a3, .int .u64 d.a4, .int .u64 d.a5]), .agg (vmA pc r)] w fun e w' => e = .returned (stepV y (datL d) pc r) ∧ Below w.heap.size w w' := by
  by_cases hx : tailIx y.code = 0
  · exact rstep_x b o cap n pc hpc hn y hy hf hm d hd r hr w hh hx
  · exact rstep_k b o cap n pc hpc hn y hy hf hm d hd r hr w hh hx

theorem rdp_of_own {w' : World} {base : Nat} {R : Option Addr} {c : Nat} {l : List Insn} (ho : EI.Own 36 w' base R c l) (h1 : ∀ x ∈ l, x.Ok) (h2 : l.length ≤ 17592186044416) : RdP w' R l := RdP.of_enc ho.rd h2 h1

/-- Whatever a step says, it is the same wherever the program lies. -/
theorem vstep_all (l : List Insn) (d : Dt) (hd : d.Ok) (pc : Int) (hp1 : -9223372036854775808 ≤ pc) (hp2 : pc ≤ 9223372036854775807) (r : Rg) (hr : r.Ok) (hok : ∀ x ∈ l, x.Ok) : ∃ (q : Int) (s : Rg) (v : Nat) (b : Bool) (er : Int), s.Ok ∧
    (∀ (A : Option Addr) (cap : Nat) (w : World), RdP w A l → Calls Try.prog 34 #[.slice A l.length cap, (Value.agg #[.int .u32 d.nr, .int .u32 d.arch, .int .u64 d.ip, .int .u64 d.a0, .int .u64 d.a1, .int .u64 d.a2, .int .u64 d.a3, .int .u64 d.a4, .int .u64 d.a5]), .agg (vmA pc r)] w fun e w' => e = .returned (.tuple #[.agg (vmA q s), .int .u32 (v : Int), .bool b, .int .i64 er]) ∧ Below w.heap.size w w') ∧
    ((check l).2 ≠ 0 → q = 0 ∧ s = rg0 ∧ v = 0 ∧ b = false ∧ er = (check l).2) ∧ ((check l).2 = 0 → (pc < 0 ∨ (l.length : Int) ≤ pc) → q = 0 ∧ s = rg0 ∧ v = 0 ∧ b = false ∧ er = 2) ∧
    ((check l).2 = 0 → ∀ k : Nat, pc = (k : Int) → k < l.length → er = 0 ∧ stepV (ins l k) (datL d) pc r = .tuple #[.agg (vmA q s), .int .u32 (v : Int), .bool b]) := by
  by_cases hc : (check l).2 = 0
  · have hg : Good l := ⟨hok, hc⟩
    by_cases hp : pc < 0 ∨ (l.length : Int) ≤ pc
    · exact ⟨0, rg0, 0, false, 2, rg0_ok, fun A cap w hl => vstep_out A cap l d pc hp1 hp2 r w hl hg hp, fun h => absurd hc h, fun _ _ => ⟨rfl, rfl, rfl, rfl, rfl⟩, fun _ k hk hlt => by omega⟩
    · obtain ⟨k, rfl⟩ : ∃ k : Nat, pc = (k : Int) := ⟨pc.toNat, by omega⟩
      have hk : k < l.length := by omega
      obtain ⟨q, s, v, b, hsv, hs, _⟩ := stepV_form (ins l k) (hg.okAt hk) (datL d) (fun j => datL_lt hd j) (k : Int) r hr
      refine ⟨q, s, v, b, 0, hs, fun A cap w hl => ?_, fun h => absurd hc h, fun _ h => absurd h hp, fun _ j hj hlt => ⟨rfl, ?_⟩⟩
      · refine (vstep_good A cap l d hd k hk r hr w hl hg).mono ?_
        rintro e w' ⟨⟨q', s', v', b', hsv', _, rfl⟩, hb⟩
        rw [hsv] at hsv'
        injection hsv' with h
        simp only [Array.mk.injEq, List.cons.injEq, Value.agg.injEq, Value.int.injEq, Value.bool.injEq, and_true, true_and] at h
        obtain ⟨h1, h2, h3⟩ := h
        exact ⟨by rw [h1, h2, h3], hb⟩
      · obtain rfl : j = k := by omega
        exact hsv
  · exact ⟨0, rg0, 0, false, (check l).2, rg0_ok, fun A cap w hl => vstep_bad A cap l d pc r w hl hc, fun _ => ⟨rfl, rfl, rfl, rfl, rfl⟩, fun h => absurd h hc, fun h => absurd h hc⟩

set_option maxRecDepth 100000 in
set_option maxHeartbeats 2000000 in
theorem vmsteps_any (A : Option Addr) (cap : Nat) (l : List Insn) (d : Dt) (hd : d.Ok) (pc : Int) (hp1 : -9223372036854775808 ≤ pc) (hp2 : pc ≤ 9223372036854775807) (r : Rg) (hr : r.Ok) (w : World) (hl : RdP w A l) :
    Calls Try.prog 7 #[.slice A l.length cap, (Value.agg #[.int .u32 d.nr, .int .u32 d.arch, .int .u64 d.ip, .int .u64 d.a0, .int .u64 d.a1, .int .u64 d.a2, .int .u64 d.a3, .int .u64 d.a4, .int .u64 d.a5]), .agg (vmA pc r)] w fun e w' => e = .returned (.bool true) ∧ Below w.heap.size w w' := by
  have HWK := Lib.hid (fun W => wakes05_any W)
  have HL := Lib.hid hl
  have HR := Lib.hid hr
  have HDd := Lib.hid hd
  have HOK := Lib.hid hl.ok
  have HSM := Lib.hid hl.small
  have hsm := hl.small
  have HDX := Lib.hid (step_rows3 w (.cells #[.int .u32 d.nr, .int .u32 d.arch, .int .u64 d.ip, .int .u64 d.a0, .int .u64 d.a1, .int .u64 d.a2, .int .u64 d.a3, .int .u64 d.a4, .int .u64 d.a5] 47) (.cells (vmA pc r) 50) (.cells #[.int .i64 0, .int .u32 0, .int .u32 0, .int .u32 0, .int .u32 0, .int .u32 0, .int .u32 0, .int .u32 0, .int .u32 0, .int .u32 0, .int .u32 0, .int .u32 0, .int .u32 0, .int .u32 0, .int .u32 0, .int .u32 0, .int .u32 0, .int .u32 0, .int .u32 0] 50))
  by_cases hlen : 300 < l.length
  · have hg : (300 : Int) < (l.length : Int) := by omega
    clear hl hr hd hlen
    go_enter Try.func7, Try.ntmps7
    go_wp2_with (go_at_call 29; refine (HWK.out _).mono ?_; rintro e w1 ⟨rfl, hb⟩)
    go_ret
    exact ⟨rfl, Below.trans (by (repeat (first | with_reducible exact Below.refl _ _ | with_reducible assumption | ((with_reducible refine Below.setCell ?_ ?hp _); case hp => (first | omega | (simp only [World.size_alloc, World.size_setCell, World.size_drew]; omega) | (simp; done) | (simp; omega))) | ((with_reducible refine Below.alloc ?_ ?hp _); case hp => (first | omega | (simp only [World.size_alloc, World.size_setCell, World.size_drew]; omega) | (simp; done) | (simp; omega))) | with_reducible refine Below.drew ?_ | with_reducible refine below_drewN ?_ _))) (hb.mono (by simp; omega))⟩
  have hg : ¬ (300 : Int) < (l.length : Int) := by omega
  obtain ⟨q, s, v, bb, er, hs, hst, hbad, hout, hgood⟩ := vstep_all l d hd pc hp1 hp2 r hr hl.ok
  have HST := Lib.hid hst
  have HSO := Lib.hid hs
  have HBAD := Lib.hid hbad
  have HOUT := Lib.hid hout
  have HGOOD := Lib.hid hgood
  clear hl hr hd hlen hst hs hbad hout hgood
  have hwf : ∀ k, Fence.wide.fn k := fun _ => trivial
  have hwd : Fence.wide.depth = none := rfl
  go_enter Try.func7, Try.ntmps7
  go_wp2_with (go_at_call 29; refine (HWK.out _).mono ?_; rintro e w1 ⟨rfl, hb⟩; have HB1 := Lib.hid (Below.trans (show Below w.heap.size w _ by (repeat (first | with_reducible exact Below.refl _ _ | with_reducible assumption | ((with_reducible refine Below.setCell ?_ ?hp _); case hp => (first | omega | (simp only [World.size_alloc, World.size_setCell, World.size_drew]; omega) | (simp; done) | (simp; omega))) | ((with_reducible refine Below.alloc ?_ ?hp _); case hp => (first | omega | (simp only [World.size_alloc, World.size_setCell, World.size_drew]; omega) | (simp; done) | (simp; omega))) | with_reducible refine Below.drew ?_ | with_reducible refine below_drewN ?_ _))) (hb.mono (by simp; omega))); have hz1 : w.heap.size + 1 < w1.heap.size := (by have := hb.size; simp at this; omega); have HM1 := Lib.hid ((hb.block _ (by simp)).trans ((Below.heap_alloc _ _ _ (by simp)).symm.trans HDX.out.2.1)); have HD1 := Lib.hid ((hb.block _ (by simp; omega)).trans ((Below.heap_alloc _ _ _ (by simp; omega)).symm.trans HDX.out.1)); clear hb)
  have HS := Lib.hid (fun V (h : Below w1.heap.size w1 V) => (show (fun V => V.heap[w.heap.size]? = some (.cells #[.int .u32 d.nr, .int .u32 d.arch, .int .u64 d.ip, .int .u64 d.a0, .int .u64 d.a1, .int .u64 d.a2, .int .u64 d.a3, .int .u64 d.a4, .int .u64 d.a5] 47 (0, 0)) ∧ V.heap[w.heap.size + 1]? = some (.cells (vmA pc r) 50 (0, 0))) V from ⟨(h.block _ (by omega)).trans HD1.out, (h.block _ (by omega)).trans HM1.out⟩))
  have HCP := Lib.hid (fun W (h : Below w1.heap.size w1 W) => copied5_any A cap l W (HL.out.below (HB1.out.trans (h.mono HB1.out.size)) (Nat.le_refl _)).enc (by omega))
  have HDW := Lib.hid (show Below w1.heap.size w1 w1.drew by (repeat (first | with_reducible exact Below.refl _ _ | with_reducible assumption | ((with_reducible refine Below.setCell ?_ ?hp _); case hp => (first | omega | (simp only [World.size_alloc, World.size_setCell, World.size_drew]; omega) | (simp; done) | (simp; omega))) | ((with_reducible refine Below.alloc ?_ ?hp _); case hp => (first | omega | (simp only [World.size_alloc, World.size_setCell, World.size_drew]; omega) | (simp; done) | (simp; omega))) | with_reducible refine Below.drew ?_ | with_reducible refine below_drewN ?_ _)))
  refine wp_region_noPanic ?_
  refine (wpIn_wide (n := 0)).1 ?_
  (refine region_at 14 (fun V => V.heap[w.heap.size]? = some (.cells #[.int .u32 d.nr, .int .u32 d.arch, .int .u64 d.ip, .int .u64 d.a0, .int .u64 d.a1, .int .u64 d.a2, .int .u64 d.a3, .int .u64 d.a4, .int .u64 d.a5] 47 (0, 0)) ∧ V.heap[w.heap.size + 1]? = some (.cells (vmA pc r) 50 (0, 0))) (fun _ => trivial) (by kernel_rfl) (by kernel_rfl) (by kernel_rfl) (by kernel_rfl) (by kernel_rfl) (by kernel_rfl) (fun _ _ _ _ h => h) ?_)
  (refine At.take 0 (v := .slice A l.length cap) rfl (by decide) (by kernel_rfl) (by kernel_rfl) (HS.out _ HDW.out) (Or.inl ⟨by rfl, fun w hw => (by go_simp)⟩) ?_; simp only [Act.put, List.setIfInBounds_toArray, List.set_cons_zero, List.set_cons_succ])
  (refine At.take 2 (v := (Value.agg #[.int .u32 d.nr, .int .u32 d.arch, .int .u64 d.ip, .int .u64 d.a0, .int .u64 d.a1, .int .u64 d.a2, .int .u64 d.a3, .int .u64 d.a4, .int .u64 d.a5])) rfl (by decide) (by kernel_rfl) (by kernel_rfl) (HS.out _ HDW.out) (Or.inl ⟨by rfl, fun W hw => (by exact exec_load_row 47 (.tmp 4) rfl w.heap.size rfl 47 _ (0, 0) _ hw.1 Try.underlying47 rfl (by kernel_rfl))⟩) ?_; simp only [Act.put, List.setIfInBounds_toArray, List.set_cons_zero, List.set_cons_succ])
  (refine At.take 3 (v := .agg (vmA pc r)) rfl (by decide) (by kernel_rfl) (by kernel_rfl) (HS.out _ HDW.out) (Or.inl ⟨by rfl, fun W hw => (by exact exec_load_row 50 (.tmp 5) rfl (w.heap.size + 1) rfl 50 _ (0, 0) _ hw.2 Try.underlying50 rfl (info_vm _ _ HR.out))⟩) ?_; simp only [Act.put, List.setIfInBounds_toArray, List.set_cons_zero, List.set_cons_succ])
  refine At.branch2 1 10 rfl rfl (by decide) (by decide) (by kernel_rfl) ?b1 ?b2
  case' b1 =>
    gi_wp2_with (gi_at_call 35; refine (callsIn_wide.2 (HCP.out _ HDW.out)).mono ?_; rintro e w2 ⟨R, c, rfl, ho, hb⟩; have HRD := Lib.hid (rdp_of_own ho HOK.out HSM.out); have HBw2 := Lib.hid (HDW.out.trans (hb.mono HDW.out.size)); clear ho hb)
    refine thenS_normal (HS.out _ HBw2.out) (fun _ => ?_)
    refine At.branch2 4 10 rfl rfl (by decide) (by decide) (by kernel_rfl) ?b3 ?b4
  case' b3 =>
    gi_wp2_with (gi_at_call 34; refine (callsIn_wide.2 (HST.out _ _ _ HRD.out)).mono ?_; rintro e w3 ⟨rfl, hb⟩; have HBw3 := Lib.hid (HBw2.out.trans (hb.mono HBw2.out.size)); clear hb)
    refine thenS_normal (HS.out _ HBw3.out) (fun _ => ?_)
    (refine At.take 5 (v := .tuple #[.agg (vmA q s), .int .u32 (v : Int), .bool bb, .int .i64 er]) rfl (by decide) (by kernel_rfl) (by kernel_rfl) (HS.out _ HBw3.out) (Or.inl ⟨by rfl, fun w hw => (by go_simp)⟩) ?_; simp only [Act.put, List.setIfInBounds_toArray, List.set_cons_zero, List.set_cons_succ])
    (refine At.take 6 (v := .agg (vmA q s)) rfl (by decide) (by kernel_rfl) (by kernel_rfl) (HS.out _ HBw3.out) (Or.inl ⟨by rfl, fun w hw => (by go_simp)⟩) ?_; simp only [Act.put, List.setIfInBounds_toArray, List.set_cons_zero, List.set_cons_succ])
    (refine At.take 7 (v := .int .u32 (v : Int)) rfl (by decide) (by kernel_rfl) (by kernel_rfl) (HS.out _ HBw3.out) (Or.inl ⟨by rfl, fun w hw => (by go_simp)⟩) ?_; simp only [Act.put, List.setIfInBounds_toArray, List.set_cons_zero, List.set_cons_succ])
    (refine At.take 8 (v := .bool bb) rfl (by decide) (by kernel_rfl) (by kernel_rfl) (HS.out _ HBw3.out) (Or.inl ⟨by rfl, fun w hw => (by go_simp)⟩) ?_; simp only [Act.put, List.setIfInBounds_toArray, List.set_cons_zero, List.set_cons_succ])
    (refine At.take 9 (v := .int .i64 er) rfl (by decide) (by kernel_rfl) (by kernel_rfl) (HS.out _ HBw3.out) (Or.inl ⟨by rfl, fun w hw => (by go_simp)⟩) ?_; simp only [Act.put, List.setIfInBounds_toArray, List.set_cons_zero, List.set_cons_succ])
    (refine At.force 10 rfl (by decide) (by kernel_rfl) ?_)
    gi_wp2
    obtain ⟨V0, hV0⟩ : ∃ V0, w3.alloc (.cells #[.int .i64 0, .int .u32 0, .int .u32 0, .int .u32 0, .int .u32 0, .int .u32 0, .int .u32 0, .int .u32 0, .int .u32 0, .int .u32 0, .int .u32 0, .int .u32 0, .int .u32 0, .int .u32 0, .int .u32 0, .int .u32 0, .int .u32 0, .int .u32 0, .int .u32 0] 50) = V0 := ⟨_, rfl⟩
    have HR0 := Lib.hid (show V0.heap[w3.heap.size]? = some (.cells #[.int .i64 0, .int .u32 0, .int .u32 0, .int .u32 0, .int .u32 0, .int .u32 0, .int .u32 0, .int .u32 0, .int .u32 0, .int .u32 0, .int .u32 0, .int .u32 0, .int .u32 0, .int .u32 0, .int .u32 0, .int .u32 0, .int .u32 0, .int .u32 0, .int .u32 0] 50 (0, 0)) by rw [← hV0]; exact heap_alloc_new _ _)
    have HB0 := Lib.hid (show Below w1.heap.size w1 V0 by rw [← hV0]; exact HBw3.out.alloc HBw3.out.size _)
    have hzD : w1.heap.size ≤ w3.heap.size := HBw3.out.size
    have hz0 : w3.heap.size < V0.heap.size := by rw [← hV0]; simp
    simp only [hV0]
    generalize w3.heap.size = D at *
    clear hV0
    refine thenS_normal (HS.out _ HB0.out) (fun _ => ?_)
  case' b4 =>
    gi_wp2
    obtain ⟨V1, hV1⟩ : ∃ V1, w2.alloc (.cells #[.int .i64 0, .int .u32 0, .int .u32 0, .int .u32 0, .int .u32 0, .int .u32 0, .int .u32 0, .int .u32 0, .int .u32 0, .int .u32 0, .int .u32 0, .int .u32 0, .int .u32 0, .int .u32 0, .int .u32 0, .int .u32 0, .int .u32 0, .int .u32 0, .int .u32 0] 50) = V1 := ⟨_, rfl⟩
    have HR1 := Lib.hid (show V1.heap[w2.heap.size]? = some (.cells #[.int .i64 0, .int .u32 0, .int .u32 0, .int .u32 0, .int .u32 0, .int .u32 0, .int .u32 0, .int .u32 0, .int .u32 0, .int .u32 0, .int .u32 0, .int .u32 0, .int .u32 0, .int .u32 0, .int .u32 0, .int .u32 0, .int .u32 0, .int .u32 0, .int .u32 0] 50 (0, 0)) by rw [← hV1]; exact heap_alloc_new _ _)
    have HBV1 := Lib.hid (show Below w1.heap.size w1 V1 by rw [← hV1]; exact HBw2.out.alloc HBw2.out.size _)
    have HRD1 := Lib.hid (HRD.out.below (w' := V1) (B := w2.heap.size) (by rw [← hV1]; (repeat (first | with_reducible exact Below.refl _ _ | with_reducible assumption | ((with_reducible refine Below.setCell ?_ ?hp _); case hp => (first | omega | (simp only [World.size_alloc, World.size_setCell, World.size_drew]; omega) | (simp; done) | (simp; omega))) | ((with_reducible refine Below.alloc ?_ ?hp _); case hp => (first | omega | (simp only [World.size_alloc, World.size_setCell, World.size_drew]; omega) | (simp; done) | (simp; omega))) | with_reducible refine Below.drew ?_ | with_reducible refine below_drewN ?_ _))) (Nat.le_refl _))
    have hz1' : w2.heap.size < V1.heap.size := by rw [← hV1]; simp
    have hzD : w1.heap.size ≤ w2.heap.size := HBw2.out.size
    simp only [hV1]
    clear hV1
    refine thenS_normal (HS.out _ HBV1.out) (fun _ => ?_)
    (refine At.force 4 rfl (by decide) (by kernel_rfl) ?_)
    gi_wp2_with (gi_at_call 34; refine (callsIn_wide.2 (HST.out _ _ _ HRD1.out)).mono ?_; rintro e V0 ⟨rfl, hb⟩; have HB0 := Lib.hid (HBV1.out.trans (hb.mono HBV1.out.size)); have hz0 : w2.heap.size < V0.heap.size := (by have := hb.size; omega); have HR0 := Lib.hid ((hb.block _ hz1').trans HR1.out); clear hb)
    refine thenS_normal (HS.out _ HB0.out) (fun _ => ?_)
    (refine At.take 5 (v := .tuple #[.agg (vmA q s), .int .u32 (v : Int), .bool bb, .int .i64 er]) rfl (by decide) (by kernel_rfl) (by kernel_rfl) (HS.out _ HB0.out) (Or.inl ⟨by rfl, fun w hw => (by go_simp)⟩) ?_; simp only [Act.put, List.setIfInBounds_toArray, List.set_cons_zero, List.set_cons_succ])
    (refine At.take 6 (v := .agg (vmA q s)) rfl (by decide) (by kernel_rfl) (by kernel_rfl) (HS.out _ HB0.out) (Or.inl ⟨by rfl, fun w hw => (by go_simp)⟩) ?_; simp only [Act.put, List.setIfInBounds_toArray, List.set_cons_zero, List.set_cons_succ])
    (refine At.take 7 (v := .int .u32 (v : Int)) rfl (by decide) (by kernel_rfl) (by kernel_rfl) (HS.out _ HB0.out) (Or.inl ⟨by rfl, fun w hw => (by go_simp)⟩) ?_; simp only [Act.put, List.setIfInBounds_toArray, List.set_cons_zero, List.set_cons_succ])
    (refine At.take 8 (v := .bool bb) rfl (by decide) (by kernel_rfl) (by kernel_rfl) (HS.out _ HB0.out) (Or.inl ⟨by rfl, fun w hw => (by go_simp)⟩) ?_; simp only [Act.put, List.setIfInBounds_toArray, List.set_cons_zero, List.set_cons_succ])
    (refine At.take 9 (v := .int .i64 er) rfl (by decide) (by kernel_rfl) (by kernel_rfl) (HS.out _ HB0.out) (Or.inl ⟨by rfl, fun w hw => (by go_simp)⟩) ?_; simp only [Act.put, List.setIfInBounds_toArray, List.set_cons_zero, List.set_cons_succ])
    generalize w2.heap.size = D at *
  case' b2 =>
    gi_wp2
    obtain ⟨V1, hV1⟩ : ∃ V1, (w1.alloc (.cells #[.int .i64 0, .int .u32 0, .int .u32 0, .int .u32 0, .int .u32 0, .int .u32 0, .int .u32 0, .int .u32 0, .int .u32 0, .int .u32 0, .int .u32 0, .int .u32 0, .int .u32 0, .int .u32 0, .int .u32 0, .int .u32 0, .int .u32 0, .int .u32 0, .int .u32 0] 50)).drew = V1 := ⟨_, rfl⟩
    have HR1 := Lib.hid (show V1.heap[w1.heap.size]? = some (.cells #[.int .i64 0, .int .u32 0, .int .u32 0, .int .u32 0, .int .u32 0, .int .u32 0, .int .u32 0, .int .u32 0, .int .u32 0, .int .u32 0, .int .u32 0, .int .u32 0, .int .u32 0, .int .u32 0, .int .u32 0, .int .u32 0, .int .u32 0, .int .u32 0, .int .u32 0] 50 (0, 0)) by rw [← hV1]; exact heap_alloc_new _ _)
    have HBV1 := Lib.hid (show Below w1.heap.size w1 V1 by rw [← hV1]; (repeat (first | with_reducible exact Below.refl _ _ | with_reducible assumption | ((with_reducible refine Below.setCell ?_ ?hp _); case hp => (first | omega | (simp only [World.size_alloc, World.size_setCell, World.size_drew]; omega) | (simp; done) | (simp; omega))) | ((with_reducible refine Below.alloc ?_ ?hp _); case hp => (first | omega | (simp only [World.size_alloc, World.size_setCell, World.size_drew]; omega) | (simp; done) | (simp; omega))) | with_reducible refine Below.drew ?_ | with_reducible refine below_drewN ?_ _)))
    have hz1' : w1.heap.size < V1.heap.size := by rw [← hV1]; simp
    simp only [hV1]
    clear hV1
    refine thenS_normal (HS.out _ HBV1.out) (fun _ => ?_)
    (refine At.force 1 rfl (by decide) (by kernel_rfl) ?_)
    gi_wp2_with (gi_at_call 35; refine (callsIn_wide.2 (HCP.out _ HBV1.out)).mono ?_; rintro e w2 ⟨R, c, rfl, ho, hb⟩; have HRD := Lib.hid (rdp_of_own ho HOK.out HSM.out); have HBw2 := Lib.hid (HBV1.out.trans (hb.mono HBV1.out.size)); have hz2' : w1.heap.size < w2.heap.size := (by have := hb.size; omega); have HR2 := Lib.hid ((hb.block _ hz1').trans HR1.out); clear ho hb)
    refine thenS_normal (HS.out _ HBw2.out) (fun _ => ?_)
    (refine At.force 4 rfl (by decide) (by kernel_rfl) ?_)
    gi_wp2_with (gi_at_call 34; refine (callsIn_wide.2 (HST.out _ _ _ HRD.out)).mono ?_; rintro e V0 ⟨rfl, hb⟩; have HB0 := Lib.hid (HBw2.out.trans (hb.mono HBw2.out.size)); have hz0' : w1.heap.size < V0.heap.size := (by have := hb.size; omega); have HR0' := Lib.hid ((hb.block _ hz2').trans HR2.out); clear hb)
    refine thenS_normal (HS.out _ HB0.out) (fun _ => ?_)
    (refine At.take 5 (v := .tuple #[.agg (vmA q s), .int .u32 (v : Int), .bool bb, .int .i64 er]) rfl (by decide) (by kernel_rfl) (by kernel_rfl) (HS.out _ HB0.out) (Or.inl ⟨by rfl, fun w hw => (by go_simp)⟩) ?_; simp only [Act.put, List.setIfInBounds_toArray, List.set_cons_zero, List.set_cons_succ])
    (refine At.take 6 (v := .agg (vmA q s)) rfl (by decide) (by kernel_rfl) (by kernel_rfl) (HS.out _ HB0.out) (Or.inl ⟨by rfl, fun w hw => (by go_simp)⟩) ?_; simp only [Act.put, List.setIfInBounds_toArray, List.set_cons_zero, List.set_cons_succ])
    (refine At.take 7 (v := .int .u32 (v : Int)) rfl (by decide) (by kernel_rfl) (by kernel_rfl) (HS.out _ HB0.out) (Or.inl ⟨by rfl, fun w hw => (by go_simp)⟩) ?_; simp only [Act.put, List.setIfInBounds_toArray, List.set_cons_zero, List.set_cons_succ])
    (refine At.take 8 (v := .bool bb) rfl (by decide) (by kernel_rfl) (by kernel_rfl) (HS.out _ HB0.out) (Or.inl ⟨by rfl, fun w hw => (by go_simp)⟩) ?_; simp only [Act.put, List.setIfInBounds_toArray, List.set_cons_zero, List.set_cons_succ])
    (refine At.take 9 (v := .int .i64 er) rfl (by decide) (by kernel_rfl) (by kernel_rfl) (HS.out _ HB0.out) (Or.inl ⟨by rfl, fun w hw => (by go_simp)⟩) ?_; simp only [Act.put, List.setIfInBounds_toArray, List.set_cons_zero, List.set_cons_succ])
    obtain ⟨D, hD⟩ : ∃ D, D = w1.heap.size := ⟨_, rfl⟩
    have hzD : w1.heap.size ≤ D := by omega
    have hz0 : D < V0.heap.size := by omega
    have HR0 := Lib.hid (show V0.heap[D]? = some (.cells #[.int .i64 0, .int .u32 0, .int .u32 0, .int .u32 0, .int .u32 0, .int .u32 0, .int .u32 0, .int .u32 0, .int .u32 0, .int .u32 0, .int .u32 0, .int .u32 0, .int .u32 0, .int .u32 0, .int .u32 0, .int .u32 0, .int .u32 0, .int .u32 0, .int .u32 0] 50 (0, 0)) by rw [hD]; exact HR0'.out)
    rw [← hD]
    clear hD
  all_goals
    (refine At.force 11 rfl (by decide) (by kernel_rfl) ?_)
    (try simp only [Act.put, List.getElem_toArray, List.getElem_cons_zero, List.getElem_cons_succ, List.setIfInBounds_toArray, List.set_cons_zero, List.set_cons_succ])
    refine wpListIn_store_row rfl 50 (.tmp 7) (.tmp 27) rfl D (vmA q s) rfl rfl 50 _ HR0.out (info_vm _ _ HSO.out) (by rw [vmA_size _ _ HSO.out]; rfl) (vmA_one q s) ?_
    simp only [Act.put, List.getElem_toArray, List.getElem_cons_zero, List.getElem_cons_succ, List.setIfInBounds_toArray, List.set_cons_zero, List.set_cons_succ]
    gi_wp2
    obtain ⟨V, hV⟩ : ∃ V, V0.setRow D (vmA q s) = V := ⟨_, rfl⟩
    have HBV := Lib.hid (show Below w1.heap.size w1 V by rw [← hV]; exact below_row HB0.out hzD _)
    have HNV := Lib.hid (show V.heap[D]? = some (.cells (vmA q s) 50 (0, 0)) by rw [← hV]; exact setRow_heap _ _ _ _ _ _ HR0.out)
    have hzV : D < V.heap.size := by rw [← hV]; simpa using hz0
    simp only [hV]
    clear hV
    refine thenS_normal (HS.out _ HBV.out) (fun _ => ?_)
    (refine At.force 12 rfl (by decide) (by kernel_rfl) ?_)
    gi_wp2
    refine thenS_normal (HS.out _ HBV.out) (fun _ => ?_)
    (refine At.force 13 rfl (by decide) (by kernel_rfl) ?_)
    gi_wp2
    refine thenS_normal (HS.out _ HBV.out) (fun _ => ?_)
    refine At.tail (by kernel_rfl) ?_
    simp only [List.drop_succ_cons, List.drop_zero]
    gi_wp2
    refine NoPanic.normal ?_
    have HWV := Lib.hid (HB1.out.trans (HBV.out.mono HB1.out.size))
    have HRC := Lib.hid (fun W (h : Below V.heap.size V W) => rcheck_any A cap l W (HL.out.below (HWV.out.trans (h.mono HWV.out.size)) (Nat.le_refl _)))
    have HEQ := Lib.hid (fun w => eql_vm q s HSO.out w)
    by_cases hc : (check l).2 = 0
    · have HC0 := Lib.hid hc
      by_cases hp : pc < 0 ∨ (l.length : Int) ≤ pc
      · obtain ⟨hq, hs0, hv, hbb, he⟩ := HOUT.out hc hp
        have heq : ∀ w, (binOp .eql 50 (.agg (vmA q s)) (.agg #[.int .i64 0, .int .u32 0, .int .u32 0, .int .u32 0, .int .u32 0, .int .u32 0, .int .u32 0, .int .u32 0, .int .u32 0, .int .u32 0, .int .u32 0, .int .u32 0, .int .u32 0, .int .u32 0, .int .u32 0, .int .u32 0, .int .u32 0, .int .u32 0, .int .u32 0])).run Try.prog w = .ok (.bool true) w := fun w => by rw [hq, hs0]; exact eql_vm 0 rg0 rg0_ok w
        have e1 : ((v : Int) == 0) = true := by rw [hv]; rfl
        have e2 : (er == 2) = true := by rw [he]; rfl
        have HM0 := Lib.hid ((HBV.out.block _ hz1).trans HM1.out)
        have m0 := (cell_of_row _ _ 0 _ _ _ HM0.out).trans (vmA_0 _ _)
        have hcase : (pc < 0) ∨ (¬ pc < 0 ∧ (l.length : Int) ≤ pc) := by omega
        clear hc hq hs0 hv he hp HEQ
        rcases hcase with h1 | ⟨h1, h2⟩
        all_goals
          go_wp2_with (first
            | (go_at_call 21; refine (HRC.out _ (Below.refl _ _)).mono ?_; rw [HC0.out]; rintro e w5 ⟨rfl, hb⟩; have HBE := Lib.hid (HWV.out.trans (hb.mono HWV.out.size)); have HM5 := Lib.hid ((hb.block _ (by have := HBV.out.size; omega)).trans HM0.out); have m5 := (hb.cell (p := ⟨w.heap.size + 1, 0, none⟩) (by have := HBV.out.size; show w.heap.size + 1 < _; omega)).trans m0; have HN5 := Lib.hid ((hb.block _ hzV).trans HNV.out); clear hb m0)
            | (refine wpList_load_row rfl 50 (.tmp 7) rfl D rfl 50 (vmA q s) (0, 0) _ HN5.out Try.underlying50 rfl (info_vm _ _ HSO.out) ?_; go_simp))
          go_ret
          exact ⟨rfl, HBE.out⟩
      · obtain ⟨k, hk⟩ : ∃ k : Nat, pc = (k : Int) := ⟨pc.toNat, by omega⟩
        have hklt : k < l.length := by omega
        obtain ⟨he, hsv⟩ := HGOOD.out hc k hk hklt
        have heq := HEQ.out
        have e2 : (er == 0) = true := by rw [he]; rfl
        have HGO := Lib.hid (show Good l from ⟨HOK.out, hc⟩)
        have HLV := Lib.hid (HL.out.below HWV.out (Nat.le_refl _))
        have HRS := Lib.hid (fun W (h : Below V.heap.size V W) => (show Calls Try.prog 36 #[.slice A l.length cap, (Value.agg #[.int .u32 d.nr, .int .u32 d.arch, .int .u64 d.ip, .int .u64 d.a0, .int .u64 d.a1, .int .u64 d.a2, .int .u64 d.a3, .int .u64 d.a4, .int .u64 d.a5]), .agg (vmA pc r)] W fun e w' => e = .returned (.tuple #[.agg (vmA q s), .int .u32 (v : Int), .bool bb]) ∧ Below W.heap.size W w' from by
          have hg := HGO.out
          have hlw := HLV.out.below h (Nat.le_refl _)
          obtain ⟨b, o, rfl, hb, hc'⟩ := hlw.get hklt
          have hi := hc' k hklt
          have hy := at_get l k hklt
          rw [← hy] at hi
          rw [← hsv, hk]
          obtain ⟨x0, x1, x2, x3⟩ := hi
          exact rstep_any b o cap l.length k hklt (by have := hg.len; omega) (ins l k) (hg.okAt hklt) (hg.form hklt) (hg.memOk hklt) d HDd.out r HR.out W ⟨hb, x0, x1, x2, x3⟩))
        have HM0 := Lib.hid ((HBV.out.block _ hz1).trans HM1.out)
        have HD0 := Lib.hid ((HBV.out.block _ (show w.heap.size < w1.heap.size by omega)).trans HD1.out)
        have m0 := (cell_of_row _ _ 0 _ _ _ HM0.out).trans (vmA_0 _ _)
        have h1 : ¬ pc < 0 := by omega
        have h2 : ¬ (l.length : Int) ≤ pc := by omega
        clear hc he hsv hp hk hklt HEQ
        cases bb
        all_goals
          go_wp2_with (first
            | (go_at_call 21; refine (HRC.out _ (Below.refl _ _)).mono ?_; rw [HC0.out]; rintro e w5 ⟨rfl, hb⟩; have HBV5 := Lib.hid hb; have HBE := Lib.hid (HWV.out.trans (hb.mono HWV.out.size)); have HM5 := Lib.hid ((hb.block _ (by have := HBV.out.size; omega)).trans HM0.out); have HD5 := Lib.hid ((hb.block _ (by have := HBV.out.size; omega)).trans HD0.out); have m5 := (hb.cell (p := ⟨w.heap.size + 1, 0, none⟩) (by have := HBV.out.size; show w.heap.size + 1 < _; omega)).trans m0; have HN5 := Lib.hid ((hb.block _ hzV).trans HNV.out); clear hb m0)
            | (refine wpList_load_row rfl 47 (.tmp 4) rfl w.heap.size rfl 47 #[.int .u32 d.nr, .int .u32 d.arch, .int .u64 d.ip, .int .u64 d.a0, .int .u64 d.a1, .int .u64 d.a2, .int .u64 d.a3, .int .u64 d.a4, .int .u64 d.a5] (0, 0) _ HD5.out Try.underlying47 rfl (by kernel_rfl) ?_; go_simp)
            | (refine wpList_load_row rfl 50 (.tmp 5) rfl (w.heap.size + 1) rfl 50 (vmA pc r) (0, 0) _ HM5.out Try.underlying50 rfl (info_vm _ _ HR.out) ?_; go_simp)
            | (go_at_call 36; refine (HRS.out _ HBV5.out).mono ?_; rintro e w6 ⟨rfl, hb⟩; have HN6 := Lib.hid ((hb.block _ (by have := HBV5.out.size; omega)).trans HN5.out); have hz6 : D < w6.heap.size := (by have := HBV5.out.size; have := hb.size; omega); have HBF := Lib.hid (HBE.out.trans (hb.mono HBE.out.size)); clear hb)
            | (refine wpList_store_row rfl 50 (.tmp 13) (.tmp 84) rfl w6.heap.size (vmA q s) rfl rfl 50 #[.int .i64 0, .int .u32 0, .int .u32 0, .int .u32 0, .int .u32 0, .int .u32 0, .int .u32 0, .int .u32 0, .int .u32 0, .int .u32 0, .int .u32 0, .int .u32 0, .int .u32 0, .int .u32 0, .int .u32 0, .int .u32 0, .int .u32 0, .int .u32 0, .int .u32 0] (heap_alloc_new w6 _) (info_vm _ _ HSO.out) (by rw [vmA_size _ _ HSO.out]; rfl) (vmA_one _ _) ?_; have HN7 := Lib.hid (show ((w6.alloc (.cells #[.int .i64 0, .int .u32 0, .int .u32 0, .int .u32 0, .int .u32 0, .int .u32 0, .int .u32 0, .int .u32 0, .int .u32 0, .int .u32 0, .int .u32 0, .int .u32 0, .int .u32 0, .int .u32 0, .int .u32 0, .int .u32 0, .int .u32 0, .int .u32 0, .int .u32 0] 50)).setRow w6.heap.size (vmA q s)).heap[D]? = some (.cells (vmA q s) 50 (0, 0)) from (setRow_other _ _ _ _ (by omega)).trans ((Below.heap_alloc _ _ _ hz6).trans HN6.out)); have HP7 := Lib.hid (show ((w6.alloc (.cells #[.int .i64 0, .int .u32 0, .int .u32 0, .int .u32 0, .int .u32 0, .int .u32 0, .int .u32 0, .int .u32 0, .int .u32 0, .int .u32 0, .int .u32 0, .int .u32 0, .int .u32 0, .int .u32 0, .int .u32 0, .int .u32 0, .int .u32 0, .int .u32 0, .int .u32 0] 50)).setRow w6.heap.size (vmA q s)).heap[w6.heap.size]? = some (.cells (vmA q s) 50 (0, 0)) from setRow_heap _ _ _ _ _ _ (heap_alloc_new w6 _)); have HBG := Lib.hid (show Below w.heap.size w ((w6.alloc (.cells #[.int .i64 0, .int .u32 0, .int .u32 0, .int .u32 0, .int .u32 0, .int .u32 0, .int .u32 0, .int .u32 0, .int .u32 0, .int .u32 0, .int .u32 0, .int .u32 0, .int .u32 0, .int .u32 0, .int .u32 0, .int .u32 0, .int .u32 0, .int .u32 0, .int .u32 0] 50)).setRow w6.heap.size (vmA q s)) from below_row (HBF.out.alloc HBF.out.size _) HBF.out.size _); generalize (w6.alloc (.cells #[.int .i64 0, .int .u32 0, .int .u32 0, .int .u32 0, .int .u32 0, .int .u32 0, .int .u32 0, .int .u32 0, .int .u32 0, .int .u32 0, .int .u32 0, .int .u32 0, .int .u32 0, .int .u32 0, .int .u32 0, .int .u32 0, .int .u32 0, .int .u32 0, .int .u32 0] 50)).setRow w6.heap.size (vmA q s) = W7 at HN7 HP7 HBG ⊢; go_simp)
            | (refine wpList_load_row rfl 50 (.tmp 7) rfl D rfl 50 (vmA q s) (0, 0) _ HN7.out Try.underlying50 rfl (info_vm _ _ HSO.out) ?_; go_simp)
            | (refine wpList_load_row rfl 50 (.tmp 13) rfl w6.heap.size rfl 50 (vmA q s) (0, 0) _ HP7.out Try.underlying50 rfl (info_vm _ _ HSO.out) ?_; go_simp))
          go_ret
          exact ⟨rfl, HBG.out⟩
    · obtain ⟨hq, hs0, hv, hbb, he⟩ := HBAD.out hc
      have heq : ∀ w, (binOp .eql 50 (.agg (vmA q s)) (.agg #[.int .i64 0, .int .u32 0, .int .u32 0, .int .u32 0, .int .u32 0, .int .u32 0, .int .u32 0, .int .u32 0, .int .u32 0, .int .u32 0, .int .u32 0, .int .u32 0, .int .u32 0, .int .u32 0, .int .u32 0, .int .u32 0, .int .u32 0, .int .u32 0, .int .u32 0])).run Try.prog w = .ok (.bool true) w := fun w => by rw [hq, hs0]; exact eql_vm 0 rg0 rg0_ok w
      have e1 : ((v : Int) == 0) = true := by rw [hv]; rfl
      have e2 : (er == (check l).2) = true := by rw [he]; exact beq_self_eq_true _
      have e3 : ((check l).2 != 0) = true := by simpa using hc
      clear hc hq hs0 hv he HEQ
      generalize (check l).2 = kk at *
      generalize (check l).1 = ii at *
      go_wp2_with (first
        | (go_at_call 21; refine (HRC.out _ (Below.refl _ _)).mono ?_; rintro e w5 ⟨rfl, hb⟩; have HBE := Lib.hid (HWV.out.trans (hb.mono HWV.out.size)); have HN5 := Lib.hid ((hb.block _ hzV).trans HNV.out); clear hb)
        | (refine wpList_load_row rfl 50 (.tmp 7) rfl D rfl 50 (vmA q s) (0, 0) _ HN5.out Try.underlying50 rfl (info_vm _ _ HSO.out) ?_; go_simp))
      go_ret
      exact ⟨rfl, HBE.out⟩
end Go.Proofs.Ytfjbanfibmpalaa

/- Contract: wicketgatelaw05.VmSees. -/
import Derived.Test.YtfjbanfibmpalaaK83
import Derived.Test.YtfjbanfibmpalaaK81
set_option linter.unusedVariables false
set_option linter.unusedSimpArgs false
namespace Go.Proofs.Ytfjbanfibmpalaa
open Go.RowKit Go.Shelf

/-- A call's data in cells. -/
def dA (d : Dt) : Array Value := #[.int .u32 d.nr, .int .u32 d.arch, .int .u64 d.ip, .int .u64 d.a0, .int .u64 d.a1, .int .u64 d.a2, .int .u64 d.a3, .int .u64 d.a4, .int .u64 d.a5]
theorem dA_info (d : Dt) : (Try.prog.info? 47).map (·.size) = some (dA d).size := by kernel_rfl
theorem dA_one (d : Dt) : (dA d).all (·.oneCell') = true := by simp [dA, Value.oneCell']
theorem seen_same {l : List Insn} (hg : Good l) (a b : Dt) (ha : a.Ok) (hb : b.Ok) : runL l (datL ((traceL l (datL a)).foldl (seenL l (datL a)) b)) = runL l (datL a) := by
  have hk : ∀ m : Nat × Rg, (ins l m.1).code = 32 → (ins l m.1).k ≤ 60 ∧ (ins l m.1).k % 4 = 0 := fun m h => good_loads hg m.1 h
  refine (out_same (fun i hi => hg.form hi) (fun i r hi he => hg.step hi he) l.length 0 rg0 (by have := hg.len; omega) (fun m hm hc => ?_)).symm
  have h1 := seen_all (fun k => datL_lt ha k) hk (traceL l (datL a)) hb m hm hc
  have h2 := hk m hc
  have hp : placeOk (ins l m.1).k = true := by simp [placeOk]; omega
  rw [← h1]
  generalize (traceL l (datL a)).foldl (seenL l (datL a)) b = c
  unfold datL
  rw [if_pos hp]

set_option maxRecDepth 100000 in
set_option maxHeartbeats 4000000 in
theorem vmsees_any (A : Option Addr) (cap : Nat) (l : List Insn) (a b : Dt) (ha : a.Ok) (hb : b.Ok) (w : World) (hl : RdP w A l) :
    Calls Try.prog 10 #[.slice A l.length cap, .agg (dA a), .agg (dA b)] w fun e w' => e = .returned (.bool true) ∧ Below w.heap.size w w' := by
  have HWK := Lib.hid (fun W => wakes05_any W)
  have HL := Lib.hid hl
  have HOK := Lib.hid hl.ok
  by_cases hlen : 300 < l.length
  · have hg : (300 : Int) < (l.length : Int) := by omega
    clear hl ha hb hlen
    go_enter Try.func10, Try.ntmps10
    go_wp2_with (go_at_call 29; refine (HWK.out _).mono ?_; rintro e w1 ⟨rfl, hb⟩)
    go_ret
    exact ⟨rfl, Below.trans (by (repeat (first | with_reducible exact Below.refl _ _ | with_reducible assumption | ((with_reducible refine Below.setCell ?_ ?hp _); case hp => (first | omega | (simp only [World.size_alloc, World.size_setCell, World.size_drew]; omega) | (simp; done) | (simp; omega))) | ((with_reducible refine Below.alloc ?_ ?hp _); case hp => (first | omega | (simp only [World.size_alloc, World.size_setCell, World.size_drew]; omega) | (simp; done) | (simp; omega))) | with_reducible refine Below.drew ?_ | with_reducible refine below_drewN ?_ _))) (hb.mono (by simp; omega))⟩
  have hg : ¬ (300 : Int) < (l.length : Int) := by omega
  have hrow (W : World) (x y : Obj) : ((W.alloc x).alloc y).heap[W.heap.size]? = some x := (Below.heap_alloc _ _ _ (by simp)).trans (heap_alloc_new W x)
  have HROW := Lib.hid hrow
  by_cases hc : (check l).2 = 0
  · have hgd : Good l := ⟨hl.ok, hc⟩
    have HTRC := Lib.hid (fun A' c W (h : RdP W A' l) => (show Calls Try.prog 38 #[.slice A' l.length c, .agg (dA a)] W fun e w' => ∃ R c, e = .returned (.tuple #[.slice R (trI l (datL a)).length c, .int .i64 0]) ∧ EV.Rd w' R (trI l (datL a)) ∧ Below W.heap.size W w' from trace_good A' c l a ha W h hgd))
    have HRUN := Lib.hid (fun A' c (d : Dt) (hd : d.Ok) W (h : RdP W A' l) => (show Calls Try.prog 37 #[.slice A' l.length c, .agg (dA d)] W fun e w' => e = .returned (.tuple #[.int .u32 (runL l (datL d) : Int), .int .i64 0]) ∧ Below W.heap.size W w' from run_good A' c l d hd W h hgd))
    have HWD := Lib.hid (fun k W (hk : placeOk k = true) => (show Calls Try.prog 43 #[.agg (dA a), .int .u32 k] W fun e w' => e = .returned (.tuple #[.int .u32 ((datL a k : Nat) : Int), .int .i64 0]) ∧ Below W.heap.size W w' from by
      have := word_good a ha k W hk
      unfold datL; rw [if_pos hk]; exact this))
    have HWT := Lib.hid (fun (d : Dt) (hd : d.Ok) k W (hk : placeOk k = true) => (show Calls Try.prog 44 #[.agg (dA d), .int .u32 k, .int .u32 ((datL a k : Nat) : Int)] W fun e w' => e = .returned (.tuple #[.agg (dA (withL d k (datL a k))), .int .i64 0]) ∧ Below W.heap.size W w' from with_good d hd k (datL a k) (datL_lt ha k) W hk))
    have HSM := Lib.hid (seen_same hgd a b ha hb)
    have HGD := Lib.hid hgd
    have HAO := Lib.hid (And.intro ha hb)
    have HLT := Lib.hid (show ∀ z ∈ traceL l (datL a), z.1 < l.length from trace_lt hgd (dd := datL a) l.length 0 rg0 (by have := hgd.len; omega))
    have HTO := Lib.hid (show ∀ z ∈ traceL l (datL a), z.2.Ok from trace_ok hgd (dd := datL a) (fun k => datL_lt ha k) l.length 0 rg0 (by have := hgd.len; omega) rg0_ok)
    have htl : (traceL l (datL a)).length ≤ 64 := by
      have := trX_len l (datL a) hl.ok
      unfold trX at this
      rw [if_pos hc] at this
      simpa [trI] using this
    have hLT : (trI l (datL a)).length = (traceL l (datL a)).length := by simp [trI]
    have HTI := Lib.hid (fun k (h : k < (traceL l (datL a)).length) (h' : k < (trI l (datL a)).length) => (show (trI l (datL a))[k] = (((traceL l (datL a))[k].1 : Int), (traceL l (datL a))[k].2) by simp [trI]))
    clear hl ha hb hlen hc hgd
    generalize hTe : trI l (datL a) = L at *
    generalize hTe' : traceL l (datL a) = T at *
    go_enter Try.func10, Try.ntmps10
    go_wp2_with (first
      | (go_at_call 29; refine (HWK.out _).mono ?_; rintro e w1 ⟨rfl, hb⟩; have HB1 := Lib.hid (Below.trans (show Below w.heap.size w _ by (repeat (first | with_reducible exact Below.refl _ _ | with_reducible assumption | ((with_reducible refine Below.setCell ?_ ?hp _); case hp => (first | omega | (simp only [World.size_alloc, World.size_setCell, World.size_drew]; omega) | (simp; done) | (simp; omega))) | ((with_reducible refine Below.alloc ?_ ?hp _); case hp => (first | omega | (simp only [World.size_alloc, World.size_setCell, World.size_drew]; omega) | (simp; done) | (simp; omega))) | with_reducible refine Below.drew ?_ | with_reducible refine below_drewN ?_ _))) (hb.mono (by simp; omega))); have hz1 : w.heap.size + 1 < w1.heap.size := (by have := hb.size; simp at this; omega); have HA1 := Lib.hid ((hb.block _ (by simp; omega)).trans (HROW.out w (.cells (dA a) 47 (0, 0)) (.cells (dA b) 47 (0, 0)))); have HC1 := Lib.hid ((hb.block _ (by simp)).trans (heap_alloc_new' w (.cells (dA a) 47 (0, 0)) (.cells (dA b) 47 (0, 0)))); clear hb)
      | (refine wpList_load_row rfl 47 (.tmp 4) rfl w.heap.size rfl 47 (dA a) (0, 0) _ HA1.out Try.underlying47 rfl (dA_info a) ?_; go_simp)
      | (go_at_call 38; refine (HTRC.out A cap _ (HL.out.below HB1.out (Nat.le_refl _))).mono ?_; rintro e w2 ⟨R, c, rfl, hrd, hb⟩; have HB2 := Lib.hid (HB1.out.trans (hb.mono HB1.out.size)); have HR2 := Lib.hid hrd; have hz2 : w1.heap.size ≤ w2.heap.size := hb.size; have HA2 := Lib.hid ((hb.block _ (by omega)).trans HA1.out); have HC2 := Lib.hid ((hb.block _ (by omega)).trans HC1.out); clear hb hrd)
      | (refine wpList_load_row rfl 47 (.tmp 5) rfl (w.heap.size + 1) rfl 47 (dA b) (0, 0) _ HC2.out Try.underlying47 rfl (dA_info b) ?_; go_simp)
      | (refine wpList_store_row rfl 47 (.tmp 9) (.tmp 34) rfl w2.heap.size (dA b) rfl rfl 47 #[.int .u32 0, .int .u32 0, .int .u64 0, .int .u64 0, .int .u64 0, .int .u64 0, .int .u64 0, .int .u64 0, .int .u64 0] (heap_alloc_new w2 _) (dA_info b) rfl (dA_one b) ?_; go_simp; obtain ⟨w3, hw3⟩ : ∃ V, (w2.alloc (.cells #[.int .u32 0, .int .u32 0, .int .u64 0, .int .u64 0, .int .u64 0, .int .u64 0, .int .u64 0, .int .u64 0, .int .u64 0] 47)).setRow w2.heap.size (dA b) = V := ⟨_, rfl⟩; have HB3 := Lib.hid (show Below w2.heap.size w2 w3 by rw [← hw3]; exact below_row (by (repeat (first | with_reducible exact Below.refl _ _ | with_reducible assumption | ((with_reducible refine Below.setCell ?_ ?hp _); case hp => (first | omega | (simp only [World.size_alloc, World.size_setCell, World.size_drew]; omega) | (simp; done) | (simp; omega))) | ((with_reducible refine Below.alloc ?_ ?hp _); case hp => (first | omega | (simp only [World.size_alloc, World.size_setCell, World.size_drew]; omega) | (simp; done) | (simp; omega))) | with_reducible refine Below.drew ?_ | with_reducible refine below_drewN ?_ _))) (Nat.le_refl _) _); have HC3 := Lib.hid (show w3.heap[w2.heap.size]? = some (.cells (dA b) 47 (0, 0)) by rw [← hw3]; exact setRow_heap _ _ _ _ _ _ (heap_alloc_new w2 _)); have hz3 : w3.heap.size = w2.heap.size + 1 := (by rw [← hw3]; simp); simp only [hw3]; clear hw3))
    have hLs : (L.length : Int) = (T.length : Int) := by rw [hLT]
    go_loopw [37] (fun i wr => ∃ k : Nat, k ≤ T.length ∧ i = .int .i64 k ∧ wr.heap[w2.heap.size]? = some (.cells (dA ((T.take k).foldl (seenL l (datL a)) b)) 47 (0, 0)) ∧ Below w2.heap.size w2 wr ∧ w2.heap.size < wr.heap.size) (fun i _ => T.length - (intOf i).toNat)
    case atStart => exact ⟨0, Nat.zero_le _, rfl, HC3.out, HB3.out, by omega⟩
    case round =>
      obtain ⟨k, hk, rfl, hcc, hbb, hcz⟩ := hrel
      have HBW := Lib.hid (HB2.out.trans (hbb.mono HB2.out.size))
      have hswr := HBW.out.size
      have HBB := Lib.hid hbb
      have HCC := Lib.hid hcc
      have HAR := Lib.hid ((hbb.block _ (by omega)).trans HA2.out)
      clear hbb hcc
      by_cases hlt : k < T.length
      · have i1 : (0 : Int) ≤ (k : Int) := by omega
        have i2 : (k : Int) < (L.length : Int) := by omega
        have hkL : k < L.length := by omega
        obtain ⟨bR, oR, rfl, hbR, haR⟩ := (HR2.out.below HBB.out (Nat.le_refl _)).get hkL
        have hrg : wr.rangeAt bR (oR + k * 19) (EV.enc L[k]) := fun j v hv => haR k hkL j v hv
        rw [HTI.out k hlt hkL] at hrg
        have hpn := HLT.out _ (List.getElem_mem hlt)
        have hro := HTO.out _ (List.getElem_mem hlt)
        have hnx : (T.take (k + 1)).foldl (seenL l (datL a)) b = seenL l (datL a) ((T.take k).foldl (seenL l (datL a)) b) T[k] := by rw [List.take_succ_eq_append_getElem hlt, List.foldl_append]; rfl
        have hck := seen_fold_ok (l := l) (a := datL a) (fun k => datL_lt HAO.out.1 k) (T.take k) HAO.out.2
        have HNX := Lib.hid hnx
        have HCK := Lib.hid hck
        clear hnx hck haR
        generalize (T.take k).foldl (seenL l (datL a)) b = cc at *
        generalize T[k] = z at *
        obtain ⟨pc, r⟩ := z
        have hpc : pc < l.length := hpn
        have HRG := Lib.hid hrg
        have HRO := Lib.hid (show r.Ok from hro)
        have HLD := Lib.hid (fun (h : (ins l pc).code = 32) => (show placeOk (ins l pc).k = true from by have := good_loads HGD.out pc h; simp [placeOk]; omega))
        have HHR := Lib.hid (fun W (h : Below w.heap.size w W) => (show ∃ b' o', A = some ⟨b', o', none⟩ ∧ b' < W.heap.size ∧ W.cell? ⟨b', o' + pc * 4, none⟩ = some (.int .u16 (ins l pc).code) ∧ W.cell? ⟨b', o' + pc * 4 + 1, none⟩ = some (.int .u8 (ins l pc).jt) ∧ W.cell? ⟨b', o' + pc * 4 + 2, none⟩ = some (.int .u8 (ins l pc).jf) ∧ W.cell? ⟨b', o' + pc * 4 + 3, none⟩ = some (.int .u32 (ins l pc).k) from by
          obtain ⟨b', o', e, hb', hc⟩ := (HL.out.below h (Nat.le_refl _)).get hpc
          obtain ⟨x0, x1, x2, x3⟩ := hc pc hpc
          rw [← at_get l pc hpc] at x0 x1 x2 x3
          exact ⟨b', o', e, hb', x0, x1, x2, x3⟩))
        have HNX' := Lib.hid (show (T.take (k + 1)).foldl (seenL l (datL a)) b = if (ins l pc).code = 32 then withL cc (ins l pc).k (datL a (ins l pc).k) else cc from HNX.out)
        obtain ⟨bP, oP, hAe, _⟩ := HHR.out wr HBW.out
        have HHR' := Lib.hid (fun W (h : Below w.heap.size w W) => (show bP < W.heap.size ∧ W.cell? ⟨bP, oP + pc * 4, none⟩ = some (.int .u16 (ins l pc).code) ∧ W.cell? ⟨bP, oP + pc * 4 + 1, none⟩ = some (.int .u8 (ins l pc).jt) ∧ W.cell? ⟨bP, oP + pc * 4 + 2, none⟩ = some (.int .u8 (ins l pc).jf) ∧ W.cell? ⟨bP, oP + pc * 4 + 3, none⟩ = some (.int .u32 (ins l pc).k) from by
          obtain ⟨b', o', e, h⟩ := HHR.out W h
          rw [hAe] at e
          cases e
          exact h))
        subst hAe
        clear HHR hrg hro hpn HNX
        generalize ins l pc = y at *
        have j1 : (0 : Int) ≤ (pc : Int) := by omega
        have j2 : (pc : Int) < (l.length : Int) := by omega
        by_cases hcode : y.code = 32
        · have e32 : ((y.code : Int) == 32) = true := by rw [beq_iff_eq]; omega
          have HCODE := Lib.hid hcode
          clear hcode
          go_wp2_with (first
          | (refine wpList_load_mid rfl 50 (.tmp 39) rfl bR (oR + k * 19) rfl (EV.enc ((pc : Int), r)) _ HRG.out Try.underlying50 rfl (by rw [EV.len]; kernel_rfl) ?_; rw [← vmA_enc pc r HRO.out]; go_simp)
          | (refine wpList_store_row rfl 50 (.tmp 11) (.tmp 40) rfl wr.heap.size (vmA pc r) rfl rfl 50 #[.int .i64 0, .int .u32 0, .int .u32 0, .int .u32 0, .int .u32 0, .int .u32 0, .int .u32 0, .int .u32 0, .int .u32 0, .int .u32 0, .int .u32 0, .int .u32 0, .int .u32 0, .int .u32 0, .int .u32 0, .int .u32 0, .int .u32 0, .int .u32 0, .int .u32 0] (heap_alloc_new wr _) (info_vm _ _ HRO.out) (by rw [vmA_size _ _ HRO.out]; rfl) (vmA_one _ _) ?_; go_simp; obtain ⟨V1, hV1⟩ : ∃ V, (wr.alloc (.cells #[.int .i64 0, .int .u32 0, .int .u32 0, .int .u32 0, .int .u32 0, .int .u32 0, .int .u32 0, .int .u32 0, .int .u32 0, .int .u32 0, .int .u32 0, .int .u32 0, .int .u32 0, .int .u32 0, .int .u32 0, .int .u32 0, .int .u32 0, .int .u32 0, .int .u32 0] 50)).setRow wr.heap.size (vmA pc r) = V := ⟨_, rfl⟩; have HV1 := Lib.hid (show Below wr.heap.size wr V1 by rw [← hV1]; exact below_row (by (repeat (first | with_reducible exact Below.refl _ _ | with_reducible assumption | ((with_reducible refine Below.setCell ?_ ?hp _); case hp => (first | omega | (simp only [World.size_alloc, World.size_setCell, World.size_drew]; omega) | (simp; done) | (simp; omega))) | ((with_reducible refine Below.alloc ?_ ?hp _); case hp => (first | omega | (simp only [World.size_alloc, World.size_setCell, World.size_drew]; omega) | (simp; done) | (simp; omega))) | with_reducible refine Below.drew ?_ | with_reducible refine below_drewN ?_ _))) (Nat.le_refl _) _); have hzV : V1.heap.size = wr.heap.size + 1 := (by rw [← hV1]; simp); have m0 := (cell_of_row V1 wr.heap.size 0 _ _ _ (show V1.heap[wr.heap.size]? = some (.cells (vmA pc r) 50 (0, 0)) by rw [← hV1]; exact setRow_heap _ _ _ _ _ _ (heap_alloc_new wr _))).trans (vmA_0 _ _); simp only [hV1]; clear hV1; obtain ⟨hbP, x0, x1, x2, x3⟩ := HHR'.out V1 (HBW.out.trans (HV1.out.mono hswr)))
          | (refine wpList_load_row rfl 47 (.tmp 4) rfl w.heap.size rfl 47 (dA a) (0, 0) _ ((Below.heap_alloc _ _ _ (by omega)).trans ((HV1.out.block _ (by omega)).trans HAR.out)) Try.underlying47 rfl (dA_info a) ?_; go_simp)
          | (go_at_call 43; refine (HWD.out _ _ (HLD.out HCODE.out)).mono ?_; rintro e w5 ⟨rfl, hb⟩; have hs5 : V1.heap.size + 1 ≤ w5.heap.size := (by have := hb.size; simpa using this); have d3 : w5.cell? ⟨wr.heap.size + 1, 3, none⟩ = some (.int .u32 (y.k : Int)) := cell_of_row w5 (wr.heap.size + 1) 3 _ _ _ ((hb.block _ (by simp only [World.size_alloc]; omega)).trans (by rw [← hzV]; exact heap_alloc_new V1 _)); have HC5 := Lib.hid ((hb.block _ (by simp only [World.size_alloc]; omega)).trans ((Below.heap_alloc _ _ _ (by omega)).trans ((HV1.out.block _ hcz).trans HCC.out))); have HB5 := Lib.hid (((HBB.out.trans (HV1.out.mono (by omega))).alloc (by omega) _).trans (hb.mono (by simp only [World.size_alloc]; omega))); clear hb)
          | (refine wpList_load_row rfl 47 (.tmp 9) rfl w2.heap.size rfl 47 (dA cc) (0, 0) _ HC5.out Try.underlying47 rfl (dA_info cc) ?_; go_simp)
          | (go_at_call 44; refine (HWT.out cc HCK.out _ _ (HLD.out HCODE.out)).mono ?_; rintro e w6 ⟨rfl, hb⟩; have HC6 := Lib.hid ((hb.block _ (by omega)).trans HC5.out); have HB6 := Lib.hid (HB5.out.trans (hb.mono (by omega))); have hz6 : w2.heap.size < w6.heap.size := (by have := hb.size; omega); clear hb)
          | (refine wpList_store_row rfl 47 (.tmp 9) (.tmp 64) rfl w2.heap.size (dA (withL cc y.k (datL a y.k))) rfl rfl 47 (dA cc) HC6.out (dA_info _) rfl (dA_one _) ?_; go_simp))
          refine ⟨⟨k + 1, by omega, by go_num, ?_, below_row HB6.out (Nat.le_refl _) _, by simpa using hz6⟩, ?_⟩
          · rw [HNX'.out, if_pos HCODE.out]; exact setRow_heap _ _ _ _ _ _ HC6.out
          · simp [intOf]; omega
        · have e32 : ((y.code : Int) == 32) = false := by rw [beq_eq_false_iff_ne]; omega
          go_wp2_with (first
          | (refine wpList_load_mid rfl 50 (.tmp 39) rfl bR (oR + k * 19) rfl (EV.enc ((pc : Int), r)) _ HRG.out Try.underlying50 rfl (by rw [EV.len]; kernel_rfl) ?_; rw [← vmA_enc pc r HRO.out]; go_simp)
          | (refine wpList_store_row rfl 50 (.tmp 11) (.tmp 40) rfl wr.heap.size (vmA pc r) rfl rfl 50 #[.int .i64 0, .int .u32 0, .int .u32 0, .int .u32 0, .int .u32 0, .int .u32 0, .int .u32 0, .int .u32 0, .int .u32 0, .int .u32 0, .int .u32 0, .int .u32 0, .int .u32 0, .int .u32 0, .int .u32 0, .int .u32 0, .int .u32 0, .int .u32 0, .int .u32 0] (heap_alloc_new wr _) (info_vm _ _ HRO.out) (by rw [vmA_size _ _ HRO.out]; rfl) (vmA_one _ _) ?_; go_simp; obtain ⟨V1, hV1⟩ : ∃ V, (wr.alloc (.cells #[.int .i64 0, .int .u32 0, .int .u32 0, .int .u32 0, .int .u32 0, .int .u32 0, .int .u32 0, .int .u32 0, .int .u32 0, .int .u32 0, .int .u32 0, .int .u32 0, .int .u32 0, .int .u32 0, .int .u32 0, .int .u32 0, .int .u32 0, .int .u32 0, .int .u32 0] 50)).setRow wr.heap.size (vmA pc r) = V := ⟨_, rfl⟩; have HV1 := Lib.hid (show Below wr.heap.size wr V1 by rw [← hV1]; exact below_row (by (repeat (first | with_reducible exact Below.refl _ _ | with_reducible assumption | ((with_reducible refine Below.setCell ?_ ?hp _); case hp => (first | omega | (simp only [World.size_alloc, World.size_setCell, World.size_drew]; omega) | (simp; done) | (simp; omega))) | ((with_reducible refine Below.alloc ?_ ?hp _); case hp => (first | omega | (simp only [World.size_alloc, World.size_setCell, World.size_drew]; omega) | (simp; done) | (simp; omega))) | with_reducible refine Below.drew ?_ | with_reducible refine below_drewN ?_ _))) (Nat.le_refl _) _); have hzV : V1.heap.size = wr.heap.size + 1 := (by rw [← hV1]; simp); have m0 := (cell_of_row V1 wr.heap.size 0 _ _ _ (show V1.heap[wr.heap.size]? = some (.cells (vmA pc r) 50 (0, 0)) by rw [← hV1]; exact setRow_heap _ _ _ _ _ _ (heap_alloc_new wr _))).trans (vmA_0 _ _); simp only [hV1]; clear hV1; obtain ⟨hbP, x0, x1, x2, x3⟩ := HHR'.out V1 (HBW.out.trans (HV1.out.mono hswr))))
          have hbV := HBB.out.trans (HV1.out.mono (Nat.le_of_lt hcz))
          refine ⟨⟨k + 1, by omega, by go_num, ?_, hbV.alloc (by omega) _, by simp; omega⟩, ?_⟩
          · rw [HNX'.out, if_neg hcode]; exact (Below.heap_alloc _ _ _ (by omega)).trans ((HV1.out.block _ hcz).trans HCC.out)
          · simp [intOf]; omega
      · have hk' : k = T.length := by omega
        subst hk'
        have HCK := Lib.hid (seen_fold_ok (l := l) (a := datL a) (fun k => datL_lt HAO.out.1 k) T HAO.out.2)
        have HC4 := Lib.hid (by have := HCC.out; rw [List.take_length] at this; exact this)
        generalize T.foldl (seenL l (datL a)) b = cc at *
        have HRC := Lib.hid (fun W (h : RdP W A l) => (show Calls Try.prog 37 #[.slice A l.length cap, .agg (dA cc)] W fun e w' => e = .returned (.tuple #[.int .u32 (runL l (datL a) : Int), .int .i64 0]) ∧ Below W.heap.size W w' from by have := HRUN.out A cap cc HCK.out W h; rw [HSM.out] at this; exact this))
        have HRA := Lib.hid (fun W (h : RdP W A l) => HRUN.out A cap a HAO.out.1 W h)
        clear HRUN HSM
        generalize runL l (datL a) = x at *
        have hxx : ((x : Int) == (x : Int)) = true := by simp
        go_wp2_with (first
          | (refine wpList_load_row rfl 47 (.tmp 4) rfl w.heap.size rfl 47 (dA a) (0, 0) _ HAR.out Try.underlying47 rfl (dA_info a) ?_; go_simp)
          | (refine wpList_load_row rfl 47 (.tmp 9) rfl w2.heap.size rfl 47 (dA cc) (0, 0) _ HC5.out Try.underlying47 rfl (dA_info cc) ?_; go_simp)
          | (go_at_call 37; refine (HRC.out _ (HL.out.below HB5.out (Nat.le_refl _))).mono ?_; rintro e w6 ⟨rfl, hb⟩; have HB6 := Lib.hid (HB5.out.trans (hb.mono HB5.out.size)); clear hb)
          | (go_at_call 37; refine (HRA.out _ (HL.out.below HBW.out (Nat.le_refl _))).mono ?_; rintro e w5 ⟨rfl, hb⟩; have HC5 := Lib.hid ((hb.block _ hcz).trans HC4.out); have HB5 := Lib.hid (HBW.out.trans (hb.mono hswr)); clear hb))
        exact ⟨rfl, .bool true, by simp [results, go_sem], rfl, HB6.out⟩
  · have HTRC := Lib.hid (fun A' c W (h : RdP W A' l) => (show Calls Try.prog 38 #[.slice A' l.length c, .agg (dA a)] W fun e w' => e = .returned (.tuple #[.slice none 0 0, .int .i64 (check l).2]) ∧ Below W.heap.size W w' from trace_bad A' c l a W h hc))
    have hne : ((check l).2 != 0) = true := by simpa using hc
    clear hl ha hb hlen hc
    generalize (check l).2 = er at *
    go_enter Try.func10, Try.ntmps10
    go_wp2_with (first
      | (go_at_call 29; refine (HWK.out _).mono ?_; rintro e w1 ⟨rfl, hb⟩; have HB1 := Lib.hid (Below.trans (show Below w.heap.size w _ by (repeat (first | with_reducible exact Below.refl _ _ | with_reducible assumption | ((with_reducible refine Below.setCell ?_ ?hp _); case hp => (first | omega | (simp only [World.size_alloc, World.size_setCell, World.size_drew]; omega) | (simp; done) | (simp; omega))) | ((with_reducible refine Below.alloc ?_ ?hp _); case hp => (first | omega | (simp only [World.size_alloc, World.size_setCell, World.size_drew]; omega) | (simp; done) | (simp; omega))) | with_reducible refine Below.drew ?_ | with_reducible refine below_drewN ?_ _))) (hb.mono (by simp; omega))); have hz1 : w.heap.size + 1 < w1.heap.size := (by have := hb.size; simp at this; omega); have HA1 := Lib.hid ((hb.block _ (by simp; omega)).trans (HROW.out w (.cells (dA a) 47 (0, 0)) (.cells (dA b) 47 (0, 0)))); clear hb)
      | (refine wpList_load_row rfl 47 (.tmp 4) rfl w.heap.size rfl 47 (dA a) (0, 0) _ HA1.out Try.underlying47 rfl (dA_info a) ?_; go_simp)
      | (go_at_call 38; refine (HTRC.out A cap _ (HL.out.below HB1.out (Nat.le_refl _))).mono ?_; rintro e w2 ⟨rfl, hb⟩; have HB2 := Lib.hid (HB1.out.trans (hb.mono HB1.out.size)); clear hb))
    exact ⟨rfl, .bool true, by simp [results, go_sem], rfl, HB2.out⟩
end Go.Proofs.Ytfjbanfibmpalaa

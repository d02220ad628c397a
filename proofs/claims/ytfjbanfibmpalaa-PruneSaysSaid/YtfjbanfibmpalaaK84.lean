/- The walk of the law PruneSays. -/
import Derived.Test.YtfjbanfibmpalaaK42
import Derived.Test.YtfjbanfibmpalaaK83
import Derived.Test.YtfjbanfibmpalaaRX
set_option linter.unusedVariables false
set_option linter.unusedSimpArgs false
namespace Go.Proofs.Ytfjbanfibmpalaa
open Go.RowKit Go.Shelf

/-- Data in cells, as one row. -/
def dB (d : Dt) : Array Value := #[.int .u32 d.nr, .int .u32 d.arch, .int .u64 d.ip, .int .u64 d.a0, .int .u64 d.a1, .int .u64 d.a2, .int .u64 d.a3, .int .u64 d.a4, .int .u64 d.a5]
theorem dB_info (d : Dt) : (Try.prog.info? 47).map (·.size) = some (dB d).size := by kernel_rfl
theorem dB_one (d : Dt) : (dB d).all (·.oneCell') = true := by simp [dB, Value.oneCell']
theorem trI_len (l : List Insn) (dd : Nat → Nat) : (trI l dd).length = (traceL l dd).length := by simp [trI]

set_option maxRecDepth 100000 in
set_option maxHeartbeats 4000000 in
theorem prunesays_any (A : Option Addr) (cap : Nat) (l : List Insn) (D : Option Addr) (dcap : Nat) (ds : List Dt) (w : World) (hi : In w A cap l) (hd : RdD w D ds) (hds : ds.length ≤ 9223372036854775807) :
    Calls Try.prog 15 #[.slice A l.length cap, .slice D ds.length dcap] w fun e w' => e = .returned (.bool true) ∧ Below w.heap.size w w' := by
  have HI := Lib.hid hi
  have HDS := Lib.hid hd
  have HFA := Lib.hid (fun W (h : In W A cap l) => few_in A cap l W h)
  have HTA := Lib.hid (fun w' base R c (h : EI.Own 36 w' base R c (l.take 65)) => take_rdp hi.rd h)
  have hlx : (l.take 65).length ≤ 65 := by rw [List.length_take]; omega
  generalize l.take 65 = x at *
  by_cases hc : (check x).2 = 0
  · have HOK := Lib.hid hc
    have HCK := Lib.hid (fun A c W (h : RdP W A x) => (show Calls Try.prog 27 #[.slice A x.length c] W fun e w' => e = .returned (.tuple #[.int .i64 (check x).1, .int .i64 0]) ∧ Below W.heap.size W w' from by have := check_any A c x W h; rw [HOK.out] at this; exact this))
    have hgf : ∀ {W A}, RdP W A x → Good x := fun h => ⟨h.ok, hc⟩
    have HGF := Lib.hid (fun W A (h : RdP W A x) => (⟨h.ok, HOK.out⟩ : Good x))
    have HPR := Lib.hid (fun A c W (h : RdP W A x) => pprune_good A c x W h (hgf h))
    have HON := Lib.hid (fun A c W (h : RdP W A x) => ponce_good A c x W h (hgf h))
    have HSP := Lib.hid (fun (h : Good x) => prune_says h)
    have HSO := Lib.hid (fun (h : Good x) => once_says h)
    have HGP := Lib.hid (fun (h : Good x) => (prune_facts h).1)
    have HGO := Lib.hid (fun (h : Good x) => once_good h)
    generalize pruneL x = p at *
    generalize onceL x = q at *
    clear hi hd hc hgf
    generalize (check x).1 = ci at *
    go_enter Try.func15, Try.ntmps15
    go_wp2_with (first
      | (go_at_call 17; refine (wakes22_any w).mono ?_; rintro e w1 ⟨rfl, hb⟩; have H1 := Lib.hid hb; clear hb)
      | (go_at_call 18; refine (HFA.out w1 (HI.out.later H1.out)).mono ?_; rintro e w2 ⟨R, c, rfl, ho, hb⟩; have HX2 := Lib.hid (HTA.out _ _ _ _ ho); have H2 := Lib.hid (H1.out.trans (hb.mono H1.out.size)); clear ho hb)
      | (go_at_call 27; refine (HCK.out R c w2 HX2.out).mono ?_; rintro e w3 ⟨rfl, hb⟩; have HX3 := Lib.hid (HX2.out.below hb (Nat.le_refl _)); have H3 := Lib.hid (H2.out.trans (hb.mono H2.out.size)); clear hb)
      | (go_at_call 20; refine (HPR.out R c w3 HX3.out).mono ?_; rintro e w4 ⟨Rp, cp, rfl, ho, hb⟩; have HX4 := Lib.hid (HX3.out.below hb (Nat.le_refl _)); have HP4 := Lib.hid (Good.rdp (HGP.out (HGF.out _ _ HX3.out)) ho); have H4 := Lib.hid (H3.out.trans (hb.mono H3.out.size)); clear ho hb)
      | (go_at_call 19; refine (HON.out R c w4 HX4.out).mono ?_; rintro e w5 ⟨Rq, cq, rfl, ho, hb⟩; have HX5 := Lib.hid (HX4.out.below hb (Nat.le_refl _)); have HP5 := Lib.hid (HP4.out.below hb (Nat.le_refl _)); have HQ5 := Lib.hid (Good.rdp (HGO.out (HGF.out _ _ HX4.out)) ho); have H5 := Lib.hid (H4.out.trans (hb.mono H4.out.size)); clear ho hb))
    have HGX := Lib.hid (HGF.out _ _ HX5.out)
    have HGPX := Lib.hid (HGP.out HGX.out)
    have HGQX := Lib.hid (HGO.out HGX.out)
    have hsp := HSP.out HGX.out
    have hsq := HSO.out HGX.out
    have HSS := Lib.hid (And.intro hsp hsq)
    have hs5 := H5.out.size
    clear hsp hsq HSP HSO HGP HGO HGF HPR HON HCK HFA HTA
    go_loopw [50] (fun i wr => ∃ k : Nat, k ≤ ds.length ∧ k ≤ 12 ∧ i = .int .i64 k ∧ Below w5.heap.size w5 wr) (fun i _ => ds.length - (intOf i).toNat)
    case atStart => exact ⟨0, Nat.zero_le _, Nat.zero_le _, rfl, Below.refl _ _⟩
    case round =>
      obtain ⟨k, hk, hk12, rfl, hbb⟩ := hrel
      have HBB := Lib.hid hbb
      have HBW := Lib.hid (H5.out.trans (hbb.mono H5.out.size))
      have hswr := HBW.out.size
      have hsw5 := hbb.size
      clear hbb
      by_cases hlt : k < ds.length
      · have i1 : (0 : Int) ≤ (k : Int) := by omega
        have i2 : (k : Int) < (ds.length : Int) := by omega
        have hdr := HDS.out.below HBW.out (Nat.le_refl _)
        obtain ⟨bD, oD, rfl, hbD, haD⟩ := hdr.at_ (by intro e; rw [e] at hlt; simp at hlt)
        have hrg := haD k hlt
        have hyo := HDS.out.ok _ (List.getElem_mem hlt)
        clear hdr haD
        generalize ds[k] = y at *
        have HRG := Lib.hid hrg
        have HYO := Lib.hid hyo
        clear hrg
        have HRX := Lib.hid (fun A c W (h : RdP W A x) => (show Calls Try.prog 37 #[.slice A x.length c, .agg (dB y)] W fun e w' => e = .returned (.tuple #[.int .u32 (runL x (datL y) : Int), .int .i64 0]) ∧ Below W.heap.size W w' from run_good A c x y hyo W h HGX.out))
        have HRP := Lib.hid (fun A c W (h : RdP W A p) => (show Calls Try.prog 37 #[.slice A p.length c, .agg (dB y)] W fun e w' => e = .returned (.tuple #[.int .u32 (runL x (datL y) : Int), .int .i64 0]) ∧ Below W.heap.size W w' from by rw [← HSS.out.1.run]; exact run_good A c p y hyo W h HGPX.out))
        have HRQ := Lib.hid (fun A c W (h : RdP W A q) => (show Calls Try.prog 37 #[.slice A q.length c, .agg (dB y)] W fun e w' => e = .returned (.tuple #[.int .u32 (runL x (datL y) : Int), .int .i64 0]) ∧ Below W.heap.size W w' from by rw [← HSS.out.2.run]; exact run_good A c q y hyo W h HGQX.out))
        have HTX := Lib.hid (fun A c W (h : RdP W A x) => (show Calls Try.prog 38 #[.slice A x.length c, .agg (dB y)] W fun e w' => ∃ R c, e = .returned (.tuple #[.slice R (trI x (datL y)).length c, .int .i64 0]) ∧ Below W.heap.size W w' from (trace_good A c x y hyo W h HGX.out).mono (fun e w' ⟨R, c, h1, _, h2⟩ => ⟨R, c, h1, h2⟩)))
        have HTP := Lib.hid (fun A c W (h : RdP W A p) => (show Calls Try.prog 38 #[.slice A p.length c, .agg (dB y)] W fun e w' => ∃ R c, e = .returned (.tuple #[.slice R (trI p (datL y)).length c, .int .i64 0]) ∧ Below W.heap.size W w' from (trace_good A c p y hyo W h HGPX.out).mono (fun e w' ⟨R, c, h1, _, h2⟩ => ⟨R, c, h1, h2⟩)))
        have hle : ¬ (((trI x (datL y)).length : Int) < ((trI p (datL y)).length : Int)) := by
          have := HSS.out.1.len (datL y)
          rw [trI_len, trI_len]; omega
        generalize (trI x (datL y)).length = tx at *
        generalize (trI p (datL y)).length = tp at *
        generalize runL x (datL y) = v at *
        clear hyo
        have hvv : ((v : Int) != (v : Int)) = false := by simp
        by_cases h12 : k = 12
        · have e12 : ((k : Int) == 12) = true := by rw [beq_iff_eq]; omega
          clear h12
          go_wp2_with (first
            | (refine wpList_load_mid rfl 47 (.tmp 53) rfl bD (oD + k * 9) rfl (dtC y) _ HRG.out Try.underlying47 rfl (by kernel_rfl) ?_; rw [show (dtC y).toArray = dB y from rfl]; go_simp)
            | (refine wpList_store_row rfl 47 (.tmp 12) (.tmp 54) rfl wr.heap.size (dB y) rfl rfl 47 #[.int .u32 0, .int .u32 0, .int .u64 0, .int .u64 0, .int .u64 0, .int .u64 0, .int .u64 0, .int .u64 0, .int .u64 0] (heap_alloc_new wr _) (dB_info y) rfl (dB_one y) ?_; go_simp; obtain ⟨V, hV⟩ : ∃ V, (wr.alloc (.cells #[.int .u32 0, .int .u32 0, .int .u64 0, .int .u64 0, .int .u64 0, .int .u64 0, .int .u64 0, .int .u64 0, .int .u64 0] 47)).setRow wr.heap.size (dB y) = V := ⟨_, rfl⟩; have HBV := Lib.hid (HBB.out.trans ((show Below wr.heap.size wr V by rw [← hV]; exact below_row (by (repeat (first | with_reducible exact Below.refl _ _ | with_reducible assumption | ((with_reducible refine Below.setCell ?_ ?hp _); case hp => (first | omega | (simp only [World.size_alloc, World.size_setCell, World.size_drew]; omega) | (simp; done) | (simp; omega))) | ((with_reducible refine Below.alloc ?_ ?hp _); case hp => (first | omega | (simp only [World.size_alloc, World.size_setCell, World.size_drew]; omega) | (simp; done) | (simp; omega))) | with_reducible refine Below.drew ?_ | with_reducible refine below_drewN ?_ _))) (Nat.le_refl _) _).mono hsw5)); have HDV := Lib.hid (show V.heap[wr.heap.size]? = some (.cells (dB y) 47 (0, 0)) by rw [← hV]; exact setRow_heap _ _ _ _ _ _ (heap_alloc_new wr _)); have hsV : V.heap.size = wr.heap.size + 1 := (by rw [← hV]; simp); simp only [hV]; clear hV))
          exact ⟨rfl, .bool true, by simp [results, go_sem], rfl, H5.out.trans (HBV.out.mono hs5)⟩
        · have e12 : ((k : Int) == 12) = false := by rw [beq_eq_false_iff_ne]; omega
          have hk11 : k + 1 ≤ 12 := by omega
          clear h12
          go_wp2_with (first
            | (refine wpList_load_mid rfl 47 (.tmp 53) rfl bD (oD + k * 9) rfl (dtC y) _ HRG.out Try.underlying47 rfl (by kernel_rfl) ?_; rw [show (dtC y).toArray = dB y from rfl]; go_simp)
            | (refine wpList_store_row rfl 47 (.tmp 12) (.tmp 54) rfl wr.heap.size (dB y) rfl rfl 47 #[.int .u32 0, .int .u32 0, .int .u64 0, .int .u64 0, .int .u64 0, .int .u64 0, .int .u64 0, .int .u64 0, .int .u64 0] (heap_alloc_new wr _) (dB_info y) rfl (dB_one y) ?_; go_simp; obtain ⟨V, hV⟩ : ∃ V, (wr.alloc (.cells #[.int .u32 0, .int .u32 0, .int .u64 0, .int .u64 0, .int .u64 0, .int .u64 0, .int .u64 0, .int .u64 0, .int .u64 0] 47)).setRow wr.heap.size (dB y) = V := ⟨_, rfl⟩; have HBV := Lib.hid (HBB.out.trans ((show Below wr.heap.size wr V by rw [← hV]; exact below_row (by (repeat (first | with_reducible exact Below.refl _ _ | with_reducible assumption | ((with_reducible refine Below.setCell ?_ ?hp _); case hp => (first | omega | (simp only [World.size_alloc, World.size_setCell, World.size_drew]; omega) | (simp; done) | (simp; omega))) | ((with_reducible refine Below.alloc ?_ ?hp _); case hp => (first | omega | (simp only [World.size_alloc, World.size_setCell, World.size_drew]; omega) | (simp; done) | (simp; omega))) | with_reducible refine Below.drew ?_ | with_reducible refine below_drewN ?_ _))) (Nat.le_refl _) _).mono hsw5)); have HDV := Lib.hid (show V.heap[wr.heap.size]? = some (.cells (dB y) 47 (0, 0)) by rw [← hV]; exact setRow_heap _ _ _ _ _ _ (heap_alloc_new wr _)); have hsV : V.heap.size = wr.heap.size + 1 := (by rw [← hV]; simp); simp only [hV]; clear hV)
            | (refine wpList_load_row rfl 47 (.tmp 12) rfl wr.heap.size rfl 47 (dB y) (0, 0) _ HDw9.out Try.underlying47 rfl (dB_info y) ?_; go_simp)
            | (refine wpList_load_row rfl 47 (.tmp 12) rfl wr.heap.size rfl 47 (dB y) (0, 0) _ HDw8.out Try.underlying47 rfl (dB_info y) ?_; go_simp)
            | (refine wpList_load_row rfl 47 (.tmp 12) rfl wr.heap.size rfl 47 (dB y) (0, 0) _ HDw7.out Try.underlying47 rfl (dB_info y) ?_; go_simp)
            | (refine wpList_load_row rfl 47 (.tmp 12) rfl wr.heap.size rfl 47 (dB y) (0, 0) _ HDw6.out Try.underlying47 rfl (dB_info y) ?_; go_simp)
            | (refine wpList_load_row rfl 47 (.tmp 12) rfl wr.heap.size rfl 47 (dB y) (0, 0) _ HDV.out Try.underlying47 rfl (dB_info y) ?_; go_simp)
            | (go_at_call 38; refine (HTP.out Rp cp _ (HP5.out.below HBw9.out (Nat.le_refl _))).mono ?_; rintro e w10 ⟨R10, c10, rfl, hb⟩; have HDw10 := Lib.hid ((hb.block _ (by omega)).trans HDw9.out); have HBw10 := Lib.hid (HBw9.out.trans (hb.mono (by omega))); have hzw10 : w9.heap.size ≤ w10.heap.size := hb.size; clear hb)
            | (go_at_call 38; refine (HTX.out R c _ (HX5.out.below HBw8.out (Nat.le_refl _))).mono ?_; rintro e w9 ⟨R9, c9, rfl, hb⟩; have HDw9 := Lib.hid ((hb.block _ (by omega)).trans HDw8.out); have HBw9 := Lib.hid (HBw8.out.trans (hb.mono (by omega))); have hzw9 : w8.heap.size ≤ w9.heap.size := hb.size; clear hb)
            | (go_at_call 37; refine (HRQ.out Rq cq _ (HQ5.out.below HBw7.out (Nat.le_refl _))).mono ?_; rintro e w8 ⟨rfl, hb⟩; have HDw8 := Lib.hid ((hb.block _ (by omega)).trans HDw7.out); have HBw8 := Lib.hid (HBw7.out.trans (hb.mono (by omega))); have hzw8 : w7.heap.size ≤ w8.heap.size := hb.size; clear hb)
            | (go_at_call 37; refine (HRP.out Rp cp _ (HP5.out.below HBw6.out (Nat.le_refl _))).mono ?_; rintro e w7 ⟨rfl, hb⟩; have HDw7 := Lib.hid ((hb.block _ (by omega)).trans HDw6.out); have HBw7 := Lib.hid (HBw6.out.trans (hb.mono (by omega))); have hzw7 : w6.heap.size ≤ w7.heap.size := hb.size; clear hb)
            | (go_at_call 37; refine (HRX.out R c _ (HX5.out.below HBV.out (Nat.le_refl _))).mono ?_; rintro e w6 ⟨rfl, hb⟩; have HDw6 := Lib.hid ((hb.block _ (by omega)).trans HDV.out); have HBw6 := Lib.hid (HBV.out.trans (hb.mono (by omega))); have hzw6 : V.heap.size ≤ w6.heap.size := hb.size; clear hb))
          refine ⟨⟨k + 1, by omega, by omega, by go_num, HBw10.out⟩, ?_⟩
          simp [intOf]; omega
      · have hk' : k = ds.length := by omega
        subst hk'
        go_wp2
        exact ⟨rfl, .bool true, by simp [results, go_sem], rfl, HBW.out⟩
  · have HCK := Lib.hid (fun A c W (h : RdP W A x) => check_any A c x W h)
    have hne : ((check x).2 != 0) = true := by simpa using hc
    clear hi hd hc
    generalize (check x).1 = ci at *
    generalize (check x).2 = ce at *
    go_enter Try.func15, Try.ntmps15
    go_wp2_with (first
      | (go_at_call 17; refine (wakes22_any w).mono ?_; rintro e w1 ⟨rfl, hb⟩; have H1 := Lib.hid hb; clear hb)
      | (go_at_call 18; refine (HFA.out w1 (HI.out.later H1.out)).mono ?_; rintro e w2 ⟨R, c, rfl, ho, hb⟩; have HX2 := Lib.hid (HTA.out _ _ _ _ ho); have H2 := Lib.hid (H1.out.trans (hb.mono H1.out.size)); clear ho hb)
      | (go_at_call 27; refine (HCK.out R c w2 HX2.out).mono ?_; rintro e w3 ⟨rfl, hb⟩; have H3 := Lib.hid (H2.out.trans (hb.mono H2.out.size)); clear hb))
    exact ⟨rfl, .bool true, by simp [results, go_sem], rfl, H3.out⟩
end Go.Proofs.Ytfjbanfibmpalaa

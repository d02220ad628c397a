/- Contract: data.With. -/
import Derived.Test.YtfjbanfibmpalaaK79
set_option linter.unusedVariables false
set_option linter.unusedSimpArgs false
namespace Go.Proofs.Ytfjbanfibmpalaa
open Go.RowKit Go.Shelf

def u32A (l : List Nat) : Array Value := (l.map fun (n : Nat) => Value.int .u32 (n : Int)).toArray
theorem u32A_size (l : List Nat) : (u32A l).size = l.length := by simp [u32A]
theorem u32A_get (l : List Nat) (i : Nat) (h : i < l.length) : (u32A l)[i]? = some (.int .u32 ((l.getD i 0 : Nat) : Int)) := by simp [u32A, h]
theorem u32A_one (l : List Nat) : (u32A l).all (·.oneCell') = true := by
  rw [Array.all_eq_true_iff_forall_mem]
  intro v hv
  unfold u32A at hv
  obtain ⟨n, _, rfl⟩ := List.mem_map.1 (List.mem_toArray.1 hv)
  rfl
theorem u32A_set (l : List Nat) (i x : Nat) : (u32A l).setIfInBounds i (.int .u32 (x : Int)) = u32A (l.set i x) := by simp [u32A, List.map_set]
theorem wordsTo_u32 (d : Dt) : wordsTo d 16 = u32A (wordsD d) := by
  unfold wordsTo u32A
  rfl
theorem info_u16 (l : List Nat) (h : l.length = 16) : (Try.prog.info? 48).map (·.size) = some (u32A l).size := by rw [u32A_size, h]; kernel_rfl
theorem u32A_at (l : List Nat) (h : l.length = 16) (j : Nat) (hj : j < 16) (w : World) : (Instr.index 48 (.agg (u32A l)) (.int .i64 j)).run Try.prog w = .ok (.int .u32 ((l.getD j 0 : Nat) : Int)) w :=
  run_index_arr w _ 33 16 _ j _ undef Try.underlying48 hj (by kernel_rfl) isAgg_u32 (u32A_get l j (by omega))

set_option maxRecDepth 100000 in
theorem eql_words (a b : List Nat) (ha : a.length = 16) (hb : b.length = 16) (w : World) : (binOp .eql 48 (.agg (u32A a)) (.agg (u32A b))).run Try.prog w = .ok (.bool (decide (a = b))) w := by
  have hf : ∀ i, i < 16 → ∀ w, (Op.equalIn 9999 33 (.int .u32 ((a.getD i 0 : Nat) : Int)) (.int .u32 ((b.getD i 0 : Nat) : Int))).run Try.prog w = .ok (decide (a.getD i 0 = b.getD i 0)) w := fun i hi w => by
    rw [show (9999 : Nat) = 9998 + 1 from rfl, run_equalIn_int _ _ _ _ _ _ _ Try.underlying33]
    congr 1
    rw [Bool.eq_iff_iff]
    simp
    omega
  have h := run_equalIn_array (d := 9999) Try.underlying48 size_u32 (fun i => .int .u32 ((a.getD i 0 : Nat) : Int)) (fun i => .int .u32 ((b.getD i 0 : Nat) : Int)) (fun i => decide (a.getD i 0 = b.getD i 0))
      (fun i hi w => part_cell agg_u32 (by rw [Nat.mul_one]; exact u32A_get a i (by omega)) w) (fun i hi w => part_cell agg_u32 (by rw [Nat.mul_one]; exact u32A_get b i (by omega)) w) hf w
  rw [run_eql_struct, show (10000 : Nat) = 9999 + 1 from rfl, h]
  simp only [Result.andThen_ok]
  congr 2
  rw [Bool.eq_iff_iff, List.all_eq_true, decide_eq_true_eq]
  constructor
  · intro q
    refine List.ext_getElem (by omega) (fun i h1 h2 => ?_)
    have := q i (List.mem_range.2 (by omega))
    simp [h1, h2] at this
    exact this
  · intro e i hi
    rw [e]; simp

theorem flat_take (ws : List Nat) (k : Nat) (h : k < ws.length) : (ws.take (k + 1)).flatMap (lowL 4) = (ws.take k).flatMap (lowL 4) ++ lowL 4 (ws.getD k 0) := by
  rw [List.take_succ_eq_append_getElem h, List.flatMap_append]
  simp [h]
theorem flat_len : ∀ ws : List Nat, (ws.flatMap (lowL 4)).length = 4 * ws.length
  | [] => rfl
  | a :: ws => by rw [List.flatMap_cons, List.length_append, lowL_len, flat_len ws, List.length_cons]; omega
theorem flat_lt (ws : List Nat) : ∀ y ∈ ws.flatMap (lowL 4), y < 256 := fun y hy => by
  obtain ⟨x, _, h⟩ := List.mem_flatMap.1 hy
  exact lowL_lt 4 x y h

theorem heap_alloc_new' (w : World) (a b : Obj) : ((w.alloc a).alloc b).heap[w.heap.size + 1]? = some b := by
  have := heap_alloc_new (w.alloc a) b
  rwa [World.size_alloc] at this

set_option maxRecDepth 100000 in
set_option maxHeartbeats 400000 in
theorem with_bad (d : Dt) (k x : Nat) (w : World) (hk : placeOk k = false) :
    Calls Try.prog 44 #[(Value.agg #[.int .u32 d.nr, .int .u32 d.arch, .int .u64 d.ip, .int .u64 d.a0, .int .u64 d.a1, .int .u64 d.a2, .int .u64 d.a3, .int .u64 d.a4, .int .u64 d.a5]), .int .u32 k, .int .u32 x] w fun e w' => e = .returned (.tuple #[.agg #[.int .u32 0, .int .u32 0, .int .u64 0, .int .u64 0, .int .u64 0, .int .u64 0, .int .u64 0, .int .u64 0, .int .u64 0], .int .i64 2]) ∧ Below w.heap.size w w' := by
  have HP := Lib.hid (fun W => place_bad k W hk)
  clear hk
  go_enter Try.func44, Try.ntmps44
  go_wp2_with (go_at_call 78; refine (HP.out _).mono ?_; rintro e w1 ⟨rfl, rfl⟩)
  exact bodyPost_ret (results_cell2 rfl _ _ (w.heap.size + 1) 47 #[.int .u32 0, .int .u32 0, .int .u64 0, .int .u64 0, .int .u64 0, .int .u64 0, .int .u64 0, .int .u64 0, .int .u64 0] (0, 0) _ rfl (heap_alloc_new' w _ _) Try.underlying47 rfl (by kernel_rfl)) rfl ⟨rfl, by (repeat (first | with_reducible exact Below.refl _ _ | with_reducible assumption | ((with_reducible refine Below.setCell ?_ ?hp _); case hp => (first | omega | (simp only [World.size_alloc, World.size_setCell, World.size_drew]; omega) | (simp; done) | (simp; omega))) | ((with_reducible refine Below.alloc ?_ ?hp _); case hp => (first | omega | (simp only [World.size_alloc, World.size_setCell, World.size_drew]; omega) | (simp; done) | (simp; omega))) | with_reducible refine Below.drew ?_ | with_reducible refine below_drewN ?_ _))⟩

set_option maxRecDepth 100000 in
set_option maxHeartbeats 1000000 in
theorem with_good (d : Dt) (hd : d.Ok) (k x : Nat) (hx : x < 4294967296) (w : World) (hk : placeOk k = true) :
    Calls Try.prog 44 #[(Value.agg #[.int .u32 d.nr, .int .u32 d.arch, .int .u64 d.ip, .int .u64 d.a0, .int .u64 d.a1, .int .u64 d.a2, .int .u64 d.a3, .int .u64 d.a4, .int .u64 d.a5]), .int .u32 k, .int .u32 x] w fun e w' => e = .returned (.tuple #[(Value.agg #[.int .u32 (withL d k x).nr, .int .u32 (withL d k x).arch, .int .u64 (withL d k x).ip, .int .u64 (withL d k x).a0, .int .u64 (withL d k x).a1, .int .u64 (withL d k x).a2, .int .u64 (withL d k x).a3, .int .u64 (withL d k x).a4, .int .u64 (withL d k x).a5]), .int .i64 0]) ∧ Below w.heap.size w w' := by
  have HP := Lib.hid (fun W => place_good k W hk)
  have hk' : k % 4 = 0 ∧ k ≤ 60 := by simpa [placeOk] using hk
  have HW := Lib.hid (fun W => (show Calls Try.prog 79 #[(Value.agg #[.int .u32 d.nr, .int .u32 d.arch, .int .u64 d.ip, .int .u64 d.a0, .int .u64 d.a1, .int .u64 d.a2, .int .u64 d.a3, .int .u64 d.a4, .int .u64 d.a5])] W fun e w' => e = .returned (.agg (u32A (wordsD d))) ∧ Below W.heap.size W w' from by
    have := words_any d hd W
    unfold wordsV at this
    rw [wordsTo_u32] at this
    exact this))
  have hl16 : (wordsD d).length = 16 := rfl
  have hws := set_lt (wordsD_lt hd) (k / 4) hx
  have hn16 : ((wordsD d).set (k / 4) x).length = 16 := by rw [List.length_set]; rfl
  have HEQ := Lib.hid (fun W => eql_words _ _ hn16 hl16 W)
  have HAT := Lib.hid (fun j hj W => u32A_at _ hn16 j hj W)
  have HDE := Lib.hid (fun (A : Option Addr) (c : Nat) (W : World) (h : EY.Rd W A (((wordsD d).set (k / 4) x).flatMap (lowL 4))) => (show Calls Try.prog 81 #[.slice A 64 c] W fun e w' => e = .returned (.tuple #[(Value.agg #[.int .u32 (withL d k x).nr, .int .u32 (withL d k x).arch, .int .u64 (withL d k x).ip, .int .u64 (withL d k x).a0, .int .u64 (withL d k x).a1, .int .u64 (withL d k x).a2, .int .u64 (withL d k x).a3, .int .u64 (withL d k x).a4, .int .u64 (withL d k x).a5]), .int .i64 0]) ∧ Below W.heap.size W w' from by
    have h1 := decode_any A c _ W h (by rw [flat_len, hn16]) (flat_lt _)
    have h2 : dOf (((wordsD d).set (k / 4) x).flatMap (lowL 4)) = withL d k x := dOf_words _ hn16 hws
    rw [h2] at h1
    exact h1))
  have HSAME := Lib.hid (show (wordsD d).set (k / 4) x = wordsD d → withL d k x = d from fun e => by unfold withL; rw [e, ofW_words])
  have hj16 : k / 4 < 16 := by omega
  have HS := Lib.hid (u32A_set (wordsD d) (k / 4) x)
  have HWS := Lib.hid hws
  have i1 : (0 : Int) ≤ ((k / 4 : Nat) : Int) := by omega
  have i2 : ((k / 4 : Nat) : Int) < 16 := by omega
  clear hd hk hk' hws hx
  generalize k / 4 = j at *
  generalize withL d k x = y at *
  generalize hws0 : wordsD d = ws at *
  generalize hns0 : ws.set j x = ns at *
  have HID := Lib.hid (show (Try.prog.info? 47).map (·.size) = some (#[.int .u32 d.nr, .int .u32 d.arch, .int .u64 d.ip, .int .u64 d.a0, .int .u64 d.a1, .int .u64 d.a2, .int .u64 d.a3, .int .u64 d.a4, .int .u64 d.a5] : Array Value).size by kernel_rfl)
  have HONE := Lib.hid (show (#[.int .u32 d.nr, .int .u32 d.arch, .int .u64 d.ip, .int .u64 d.a0, .int .u64 d.a1, .int .u64 d.a2, .int .u64 d.a3, .int .u64 d.a4, .int .u64 d.a5] : Array Value).all (·.oneCell') = true by simp [Value.oneCell'])
  have hnl : ns.length = 16 := by rw [← hns0, List.length_set]; exact hl16
  have HINF := Lib.hid (And.intro (info_u16 ws hl16) (info_u16 ns hnl))
  have HSZ := Lib.hid (show (#[.int .u32 0, .int .u32 0, .int .u32 0, .int .u32 0, .int .u32 0, .int .u32 0, .int .u32 0, .int .u32 0, .int .u32 0, .int .u32 0, .int .u32 0, .int .u32 0, .int .u32 0, .int .u32 0, .int .u32 0, .int .u32 0] : Array Value).size = (u32A ws).size by rw [u32A_size, hl16]; rfl)
  have HWL := Lib.hid (And.intro hl16 hnl)
  have hjw : j < ws.length := by omega
  have HGJ := Lib.hid (u32A_get ws j hjw)
  clear hws0 hns0 hnl hl16 hn16
  by_cases hsame : ns = ws
  all_goals
    have heq : ∀ W, (binOp .eql 48 (.agg (u32A ns)) (.agg (u32A ws))).run Try.prog W = .ok (.bool (decide (ns = ws))) W := HEQ.out
    have HSM := Lib.hid hsame
    first
    | rw [decide_eq_true hsame] at heq
    | rw [decide_eq_false hsame] at heq
    clear hsame
    go_enter Try.func44, Try.ntmps44
    go_wp2_with (first
      | (go_at_call 78; refine (HP.out _).mono ?_; rintro e w1 ⟨rfl, rfl⟩)
      | (go_at_call 79; refine (HW.out _).mono ?_; rintro e w2 ⟨rfl, hb⟩; have HB2 := Lib.hid (Below.trans (show Below w.heap.size w _ by (repeat (first | with_reducible exact Below.refl _ _ | with_reducible assumption | ((with_reducible refine Below.setCell ?_ ?hp _); case hp => (first | omega | (simp only [World.size_alloc, World.size_setCell, World.size_drew]; omega) | (simp; done) | (simp; omega))) | ((with_reducible refine Below.alloc ?_ ?hp _); case hp => (first | omega | (simp only [World.size_alloc, World.size_setCell, World.size_drew]; omega) | (simp; done) | (simp; omega))) | with_reducible refine Below.drew ?_ | with_reducible refine below_drewN ?_ _))) (hb.mono (by simp; omega))); have HD2 := Lib.hid ((hb.block _ (by simp; omega)).trans ((Below.heap_alloc _ _ _ (by simp)).trans (heap_alloc_new w _))); have HO2 := Lib.hid ((hb.block _ (by simp)).trans (heap_alloc_new' w _ _)); have hz2 : w.heap.size + 1 < w2.heap.size := (by have := hb.size; simp at this; omega); clear hb)
      | (refine wpList_store_row rfl 48 (.tmp 10) (.tmp 25) rfl w2.heap.size (u32A ws) rfl rfl 48 #[.int .u32 0, .int .u32 0, .int .u32 0, .int .u32 0, .int .u32 0, .int .u32 0, .int .u32 0, .int .u32 0, .int .u32 0, .int .u32 0, .int .u32 0, .int .u32 0, .int .u32 0, .int .u32 0, .int .u32 0, .int .u32 0] (heap_alloc_new w2 _) HINF.out.1 HSZ.out (u32A_one _) ?_; have HR3 := Lib.hid (setRow_heap _ _ _ (u32A ws) _ _ (heap_alloc_new w2 (.cells #[.int .u32 0, .int .u32 0, .int .u32 0, .int .u32 0, .int .u32 0, .int .u32 0, .int .u32 0, .int .u32 0, .int .u32 0, .int .u32 0, .int .u32 0, .int .u32 0, .int .u32 0, .int .u32 0, .int .u32 0, .int .u32 0] 48))); have HB3 := Lib.hid (below_row (HB2.out.alloc HB2.out.size (.cells #[.int .u32 0, .int .u32 0, .int .u32 0, .int .u32 0, .int .u32 0, .int .u32 0, .int .u32 0, .int .u32 0, .int .u32 0, .int .u32 0, .int .u32 0, .int .u32 0, .int .u32 0, .int .u32 0, .int .u32 0, .int .u32 0] 48)) HB2.out.size (u32A ws)); have hbb : Below w2.heap.size w2 ((w2.alloc (.cells #[.int .u32 0, .int .u32 0, .int .u32 0, .int .u32 0, .int .u32 0, .int .u32 0, .int .u32 0, .int .u32 0, .int .u32 0, .int .u32 0, .int .u32 0, .int .u32 0, .int .u32 0, .int .u32 0, .int .u32 0, .int .u32 0] 48)).setRow w2.heap.size (u32A ws)) := below_row (by (repeat (first | with_reducible exact Below.refl _ _ | with_reducible assumption | ((with_reducible refine Below.setCell ?_ ?hp _); case hp => (first | omega | (simp only [World.size_alloc, World.size_setCell, World.size_drew]; omega) | (simp; done) | (simp; omega))) | ((with_reducible refine Below.alloc ?_ ?hp _); case hp => (first | omega | (simp only [World.size_alloc, World.size_setCell, World.size_drew]; omega) | (simp; done) | (simp; omega))) | with_reducible refine Below.drew ?_ | with_reducible refine below_drewN ?_ _))) (Nat.le_refl _) _; have HD3 := Lib.hid ((hbb.block _ (by omega)).trans HD2.out); have HO3 := Lib.hid ((hbb.block _ hz2).trans HO2.out); clear hbb; have hz3 : w2.heap.size < ((w2.alloc (.cells #[.int .u32 0, .int .u32 0, .int .u32 0, .int .u32 0, .int .u32 0, .int .u32 0, .int .u32 0, .int .u32 0, .int .u32 0, .int .u32 0, .int .u32 0, .int .u32 0, .int .u32 0, .int .u32 0, .int .u32 0, .int .u32 0] 48)).setRow w2.heap.size (u32A ws)).heap.size := (by simp); generalize (w2.alloc (.cells #[.int .u32 0, .int .u32 0, .int .u32 0, .int .u32 0, .int .u32 0, .int .u32 0, .int .u32 0, .int .u32 0, .int .u32 0, .int .u32 0, .int .u32 0, .int .u32 0, .int .u32 0, .int .u32 0, .int .u32 0, .int .u32 0] 48)).setRow w2.heap.size (u32A ws) = W3 at HR3 HB3 HD3 HO3 hz3 ⊢; go_simp)
      | (refine wpList_load_row rfl 48 (.tmp 10) rfl w2.heap.size rfl 48 (u32A ws) (0, 0) _ HR3.out Try.underlying48 rfl HINF.out.1 ?_; go_simp)
      | (refine wpList_store_row rfl 48 (.tmp 11) (.tmp 26) rfl W3.heap.size (u32A ws) rfl rfl 48 #[.int .u32 0, .int .u32 0, .int .u32 0, .int .u32 0, .int .u32 0, .int .u32 0, .int .u32 0, .int .u32 0, .int .u32 0, .int .u32 0, .int .u32 0, .int .u32 0, .int .u32 0, .int .u32 0, .int .u32 0, .int .u32 0] (heap_alloc_new W3 _) HINF.out.1 HSZ.out (u32A_one _) ?_; have HR4 := Lib.hid (setRow_heap _ _ _ (u32A ws) _ _ (heap_alloc_new W3 (.cells #[.int .u32 0, .int .u32 0, .int .u32 0, .int .u32 0, .int .u32 0, .int .u32 0, .int .u32 0, .int .u32 0, .int .u32 0, .int .u32 0, .int .u32 0, .int .u32 0, .int .u32 0, .int .u32 0, .int .u32 0, .int .u32 0] 48))); have HB4 := Lib.hid (below_row (HB3.out.alloc HB3.out.size (.cells #[.int .u32 0, .int .u32 0, .int .u32 0, .int .u32 0, .int .u32 0, .int .u32 0, .int .u32 0, .int .u32 0, .int .u32 0, .int .u32 0, .int .u32 0, .int .u32 0, .int .u32 0, .int .u32 0, .int .u32 0, .int .u32 0] 48)) HB3.out.size (u32A ws)); have hbb : Below W3.heap.size W3 ((W3.alloc (.cells #[.int .u32 0, .int .u32 0, .int .u32 0, .int .u32 0, .int .u32 0, .int .u32 0, .int .u32 0, .int .u32 0, .int .u32 0, .int .u32 0, .int .u32 0, .int .u32 0, .int .u32 0, .int .u32 0, .int .u32 0, .int .u32 0] 48)).setRow W3.heap.size (u32A ws)) := below_row (by (repeat (first | with_reducible exact Below.refl _ _ | with_reducible assumption | ((with_reducible refine Below.setCell ?_ ?hp _); case hp => (first | omega | (simp only [World.size_alloc, World.size_setCell, World.size_drew]; omega) | (simp; done) | (simp; omega))) | ((with_reducible refine Below.alloc ?_ ?hp _); case hp => (first | omega | (simp only [World.size_alloc, World.size_setCell, World.size_drew]; omega) | (simp; done) | (simp; omega))) | with_reducible refine Below.drew ?_ | with_reducible refine below_drewN ?_ _))) (Nat.le_refl _) _; have HD4 := Lib.hid ((hbb.block _ (by omega)).trans HD3.out); have HO4 := Lib.hid ((hbb.block _ (by omega)).trans HO3.out); have HT4 := Lib.hid ((hbb.block _ hz3).trans HR3.out); clear hbb; have hz4 : W3.heap.size < ((W3.alloc (.cells #[.int .u32 0, .int .u32 0, .int .u32 0, .int .u32 0, .int .u32 0, .int .u32 0, .int .u32 0, .int .u32 0, .int .u32 0, .int .u32 0, .int .u32 0, .int .u32 0, .int .u32 0, .int .u32 0, .int .u32 0, .int .u32 0] 48)).setRow W3.heap.size (u32A ws)).heap.size := (by simp); generalize (W3.alloc (.cells #[.int .u32 0, .int .u32 0, .int .u32 0, .int .u32 0, .int .u32 0, .int .u32 0, .int .u32 0, .int .u32 0, .int .u32 0, .int .u32 0, .int .u32 0, .int .u32 0, .int .u32 0, .int .u32 0, .int .u32 0, .int .u32 0] 48)).setRow W3.heap.size (u32A ws) = W4 at HR4 HB4 HD4 HO4 HT4 hz4 ⊢; have cj := (cell_of_row _ _ j _ _ _ HR4.out).trans HGJ.out; have fj : W4.frozen? ⟨W3.heap.size, j, none⟩ = false := (by simp [World.frozen?, HR4.out]); have HR5 := Lib.hid (show (W4.setCell ⟨W3.heap.size, j, none⟩ (.int .u32 (x : Int))).heap[W3.heap.size]? = some (.cells (u32A ns) 48 (0, 0)) from (by rw [← HS.out]; exact heap_setCell_same W4 _ j _ _ _ HR4.out)); have HT5 := Lib.hid (show (W4.setCell ⟨W3.heap.size, j, none⟩ (.int .u32 (x : Int))).heap[w2.heap.size]? = some (.cells (u32A ws) 48 (0, 0)) from (Below.heap_setCell _ _ _ _ (by show w2.heap.size ≠ W3.heap.size; omega)).trans HT4.out); have HD5 := Lib.hid (show (W4.setCell ⟨W3.heap.size, j, none⟩ (.int .u32 (x : Int))).heap[w.heap.size]? = some (.cells #[.int .u32 d.nr, .int .u32 d.arch, .int .u64 d.ip, .int .u64 d.a0, .int .u64 d.a1, .int .u64 d.a2, .int .u64 d.a3, .int .u64 d.a4, .int .u64 d.a5] 47 (0, 0)) from (Below.heap_setCell _ _ _ _ (by show w.heap.size ≠ W3.heap.size; omega)).trans HD4.out); have HO5 := Lib.hid (show (W4.setCell ⟨W3.heap.size, j, none⟩ (.int .u32 (x : Int))).heap[w.heap.size + 1]? = some (.cells #[.int .u32 0, .int .u32 0, .int .u64 0, .int .u64 0, .int .u64 0, .int .u64 0, .int .u64 0, .int .u64 0, .int .u64 0] 47 (0, 0)) from (Below.heap_setCell _ _ _ _ (by show w.heap.size + 1 ≠ W3.heap.size; omega)).trans HO4.out); have HB5 := Lib.hid (HB4.out.setCell (p := ⟨W3.heap.size, j, none⟩) (by show w.heap.size ≤ W3.heap.size; omega) (.int .u32 (x : Int))); go_simp)
      | (refine wpList_load_row rfl 48 (.tmp 11) rfl W3.heap.size rfl 48 (u32A ns) (0, 0) _ HR5.out Try.underlying48 rfl HINF.out.2 ?_; go_simp)
      | (refine wpList_load_row rfl 48 (.tmp 10) rfl w2.heap.size rfl 48 (u32A ws) (0, 0) _ HT5.out Try.underlying48 rfl HINF.out.1 ?_; go_simp)
      | (refine wpList_load_row rfl 47 (.tmp 3) rfl w.heap.size rfl 47 #[.int .u32 d.nr, .int .u32 d.arch, .int .u64 d.ip, .int .u64 d.a0, .int .u64 d.a1, .int .u64 d.a2, .int .u64 d.a3, .int .u64 d.a4, .int .u64 d.a5] (0, 0) _ HD5.out Try.underlying47 rfl (by kernel_rfl) ?_; go_simp)
      | (refine wpList_store_row rfl 47 (.tmp 6) (.tmp 33) rfl (w.heap.size + 1) #[.int .u32 d.nr, .int .u32 d.arch, .int .u64 d.ip, .int .u64 d.a0, .int .u64 d.a1, .int .u64 d.a2, .int .u64 d.a3, .int .u64 d.a4, .int .u64 d.a5] rfl rfl 47 _ HO5.out HID.out rfl HONE.out ?_; go_simp))
  · exact bodyPost_ret (results_cell2 rfl _ _ (w.heap.size + 1) 47 #[.int .u32 d.nr, .int .u32 d.arch, .int .u64 d.ip, .int .u64 d.a0, .int .u64 d.a1, .int .u64 d.a2, .int .u64 d.a3, .int .u64 d.a4, .int .u64 d.a5] (0, 0) _ rfl (setRow_heap _ _ _ _ _ _ HO5.out) Try.underlying47 rfl HID.out) rfl ⟨by rw [HSAME.out HSM.out]; rfl, below_row HB5.out (by omega) _⟩
  · generalize W4.setCell ⟨W3.heap.size, j, none⟩ (.int .u32 (x : Int)) = W5 at HR5 HT5 HD5 HO5 HB5 ⊢
    have HP32 := Lib.hid (fun (R : Option Addr) (c q : Nat) (V : World) (hq : q < 16) (h : EY.Own 5 V W5.heap.size R c ((ns.take q).flatMap (lowL 4))) => (show Calls Try.prog 80 #[.slice R (4 * q) c, .int .u32 ((ns.getD q 0 : Nat) : Int)] V fun e w' => ∃ A' c', e = .returned (.slice A' (4 * (q + 1)) c') ∧ EY.Own 5 w' V.heap.size A' c' ((ns.take (q + 1)).flatMap (lowL 4)) ∧ Below V.heap.size V w' from by
      have hl4 : ((ns.take q).flatMap (lowL 4)).length = 4 * q := by rw [flat_len, List.length_take, HWL.out.2]; omega
      have hxx : ns.getD q 0 < 4294967296 := by
        rw [List.getD_eq_getElem?_getD, List.getElem?_eq_getElem (by rw [HWL.out.2]; exact hq)]
        exact HWS.out _ (List.getElem_mem _)
      have h1 := put32_any R c _ (ns.getD q 0) V h.rd (by omega) hxx
      rw [hl4, ← flat_take ns q (by rw [HWL.out.2]; exact hq), show 4 * q + 4 = 4 * (q + 1) by omega] at h1
      exact h1))
    have hz5 : w.heap.size + 1 < W5.heap.size := (Array.getElem?_eq_some_iff.1 HO5.out).1
    clear heq cj fj
    go_loopw [12, 35] (fun bv i wr => ∃ (q : Nat) (R : Option Addr) (c : Nat), q ≤ 16 ∧ i = .int .i64 q ∧ bv = .slice R (4 * q) c ∧ EY.Own 5 wr W5.heap.size R c ((ns.take q).flatMap (lowL 4)) ∧ Below W5.heap.size W5 wr) (fun _ i _ => 16 - (intOf i).toNat)
    case atStart => exact ⟨0, none, 0, by omega, rfl, rfl, Enc.Own.nil, Below.refl _ _⟩
    case round =>
      obtain ⟨q, R, c, hq, rfl, rfl, ho, hb⟩ := hrel
      have HO := Lib.hid ho
      have HB := Lib.hid hb
      clear ho hb
      by_cases hlt : q < 16
      · have hidx := HAT.out q hlt
        go_wp2_with (go_at_call 80; refine (HP32.out R c q _ hlt HO.out).mono ?_; rintro e w9 ⟨R', c', rfl, ho, hb⟩; have HO9 := Lib.hid (ho.mono HB.out.size); have HB9 := Lib.hid (HB.out.trans (hb.mono HB.out.size)); clear ho hb)
        go_roundw
        case rel => exact ⟨q + 1, R', c', by omega, by go_num, rfl, HO9.out, HB9.out⟩
        case measure => simp [intOf]; omega
      · obtain rfl : q = 16 := by omega
        have HTK := Lib.hid (show ns.take 16 = ns from List.take_of_length_le (by rw [HWL.out.2]; exact Nat.le_refl _))
        have HO6 := Lib.hid ((HB.out.block _ hz5).trans HO5.out)
        have HYI := Lib.hid (show (Try.prog.info? 47).map (·.size) = some (#[.int .u32 y.nr, .int .u32 y.arch, .int .u64 y.ip, .int .u64 y.a0, .int .u64 y.a1, .int .u64 y.a2, .int .u64 y.a3, .int .u64 y.a4, .int .u64 y.a5] : Array Value).size by kernel_rfl)
        have HYO := Lib.hid (show (#[.int .u32 y.nr, .int .u32 y.arch, .int .u64 y.ip, .int .u64 y.a0, .int .u64 y.a1, .int .u64 y.a2, .int .u64 y.a3, .int .u64 y.a4, .int .u64 y.a5] : Array Value).all (·.oneCell') = true by simp [Value.oneCell'])
        go_wp2_with (first
          | (go_at_call 81; refine (HDE.out R c _ (by rw [← HTK.out]; exact HO.out.rd)).mono ?_; rintro e w9 ⟨rfl, hb⟩; have HO9 := Lib.hid ((hb.block _ (by have := HB.out.size; omega)).trans HO6.out); have HB9 := Lib.hid (HB5.out.trans ((HB.out.trans (hb.mono HB.out.size)).mono HB5.out.size)); clear hb)
          | (refine wpList_store_row rfl 47 (.tmp 6) (.tmp 44) rfl (w.heap.size + 1) #[.int .u32 y.nr, .int .u32 y.arch, .int .u64 y.ip, .int .u64 y.a0, .int .u64 y.a1, .int .u64 y.a2, .int .u64 y.a3, .int .u64 y.a4, .int .u64 y.a5] rfl rfl 47 _ HO9.out HYI.out rfl HYO.out ?_; go_simp))
        exact bodyPost_ret (results_cell2 rfl _ _ (w.heap.size + 1) 47 #[.int .u32 y.nr, .int .u32 y.arch, .int .u64 y.ip, .int .u64 y.a0, .int .u64 y.a1, .int .u64 y.a2, .int .u64 y.a3, .int .u64 y.a4, .int .u64 y.a5] (0, 0) _ rfl (setRow_heap _ _ _ _ _ _ HO9.out) Try.underlying47 rfl HYI.out) rfl ⟨rfl, below_row HB9.out (by omega) _⟩
end Go.Proofs.Ytfjbanfibmpalaa

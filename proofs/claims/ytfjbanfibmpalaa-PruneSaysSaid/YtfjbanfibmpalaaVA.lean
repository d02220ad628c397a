/- VA -/
import Derived.Test.YtfjbanfibmpalaaKE
import Derived.Test.YtfjbanfibmpalaaPA
import Derived.Deep.RegionHeld3
import Derived.Test.YtfjbanfibmpalaaKF
import Derived.Deep.QuietTactic

/- Contracts: numbers laid behind bytes. -/
set_option linter.unusedVariables false
set_option linter.unusedSimpArgs false
namespace Go.Proofs.Ytfjbanfibmpalaa
open Go.RowKit Go.Shelf

/-- Bytes in cells. -/
def EY : Enc Nat := ⟨fun n => [.int .u8 (n : Int)], 1, fun _ => rfl, fun x u hu => by simp at hu; subst hu; rfl⟩

theorem info_byte : (Try.prog.info? 5).map (fun i => (i.zero, i.size, i.bytes)) = some (some (.int .u8 0), EY.size, 1) := by kernel_rfl

set_option maxHeartbeats 400000 in
theorem cloneb_any (A : Option Addr) (c : Nat) (l : List Nat) (w : World) (hl : EY.Rd w A l) (hlen : l.length ≤ 1000000) :
    Calls Try.prog 149 #[.slice A l.length c] w fun e w' => ∃ A' c', e = .returned (.slice A' l.length c') ∧ EY.Own 5 w' w.heap.size A' c' l ∧ Below w.heap.size w w' := by
  have hl1 : EY.Rd (w.alloc (.cells #[] 5)) A l := hl.below (B := w.heap.size) (by (repeat (first | with_reducible exact Below.refl _ _ | with_reducible assumption | ((with_reducible refine Below.setCell ?_ ?hp _); case hp => (first | omega | (simp only [World.size_alloc, World.size_setCell, World.size_drew]; omega) | (simp; done) | (simp; omega))) | ((with_reducible refine Below.alloc ?_ ?hp _); case hp => (first | omega | (simp only [World.size_alloc, World.size_setCell, World.size_drew]; omega) | (simp; done) | (simp; omega))) | with_reducible refine Below.drew ?_ | with_reducible refine below_drewN ?_ _))) (Nat.le_refl _)
  have HL := Lib.hid hl1
  cases A with
  | none =>
    have h0 : l = [] := Classical.byContradiction fun h => by obtain ⟨b, o, h1, _⟩ := hl.at_ h; cases h1
    subst h0
    clear hl hl1
    have hnil := fun (w : World) => Lib.run_eql_slice_nil (P := Try.prog) w 122 5 none 0 c 0 0 Try.underlying122
    go_enter Try.func149, Try.ntmps149
    go_wp2
    go_ret
    exact ⟨none, 0, rfl, Enc.Own.nil, Below.refl _ _⟩
  | some ad =>
    clear hl hl1
    have hnil := fun (w : World) => Lib.run_eql_slice_nil (P := Try.prog) w 122 5 (some ad) l.length c 0 0 Try.underlying122
    go_enter Try.func149, Try.ntmps149
    go_wp2_with (at_builtin; refine wpList_append_L EY 5 122 rfl (.tmp 5) (.tmp 6) rfl _ 1 Try.underlying122 info_byte rfl (by decide) _ w.heap.size (some ⟨w.heap.size, 0, none⟩) 0 [] rfl (Enc.Own.fresh EY w _) (some ad) c l rfl HL.out (by simp; omega) (by decide) (by simp) ?_; intro A' c' w' hown hg hat)
    go_ret
    exact ⟨A', c', rfl, hown, below_append (by (repeat (first | with_reducible exact Below.refl _ _ | with_reducible assumption | ((with_reducible refine Below.setCell ?_ ?hp _); case hp => (first | omega | (simp only [World.size_alloc, World.size_setCell, World.size_drew]; omega) | (simp; done) | (simp; omega))) | ((with_reducible refine Below.alloc ?_ ?hp _); case hp => (first | omega | (simp only [World.size_alloc, World.size_setCell, World.size_drew]; omega) | (simp; done) | (simp; omega))) | with_reducible refine Below.drew ?_ | with_reducible refine below_drewN ?_ _))) (Enc.Own.fresh EY w _) hg (by simp)⟩

theorem mod_u8 (y : Nat) : ((y : Int) % 256) = ((y % 256 : Nat) : Int) := by omega

set_option maxRecDepth 100000 in
set_option maxHeartbeats 400000 in
theorem put_any (A : Option Addr) (c : Nat) (l : List Nat) (x n : Nat) (w : World) (hl : EY.Rd w A l) (hlen : l.length ≤ 1000) (hx : x < 18446744073709551616) (hn : n ≤ 8) :
    Calls Try.prog 128 #[.slice A l.length c, .int .u64 x, .int .i64 n] w fun e w' => ∃ A' c', e = .returned (.slice A' (l.length + n) c') ∧ EY.Own 5 w' w.heap.size A' c' (l ++ lowL n x) ∧ Below w.heap.size w w' := by
  have HC := Lib.hid (cloneb_any A c l w hl (by omega))
  clear hl
  go_enter Try.func128, Try.ntmps128
  go_wp2_with (go_at_call 149; refine HC.out.mono ?_; rintro e w1 ⟨R, c1, rfl, ho, hb1⟩; have HO1 := Lib.hid ho; have HB1 := Lib.hid hb1; clear ho hb1)
  go_loopw [1, 7, 11] (fun v out i wr => ∃ (k : Nat) (R : Option Addr) (c : Nat), k ≤ n ∧ i = .int .i64 k ∧ v = .int .u64 ((x / 256 ^ k : Nat) : Int) ∧ out = .slice R (l ++ lowL k x).length c ∧ EY.Own 5 wr w.heap.size R c (l ++ lowL k x) ∧ Below w.heap.size w wr) (fun _ _ i _ => n - (intOf i).toNat)
  case atStart => exact ⟨0, R, c1, by omega, rfl, by simp, by simp [lowL], by simpa [lowL] using HO1.out, HB1.out⟩
  case round =>
    obtain ⟨k, R, c, hk, rfl, rfl, rfl, ho, hb⟩ := hrel
    have HO := Lib.hid ho
    have HB := Lib.hid hb
    have hsz := hb.size
    clear ho hb
    have hy : x / 256 ^ k < 18446744073709551616 := Nat.lt_of_le_of_lt (Nat.div_le_self _ _) hx
    by_cases hlt : k < n
    · have HS := Lib.hid (show l ++ lowL (k + 1) x = (l ++ lowL k x) ++ [x / 256 ^ k % 256] by rw [lowL_snoc, List.append_assoc])
      have HD := Lib.hid (show x / 256 ^ (k + 1) = x / 256 ^ k / 256 by rw [Nat.pow_succ, Nat.div_div_eq_div_mul])
      have hll : (l ++ lowL k x).length ≤ 1008 := by rw [List.length_append, lowL_len]; omega
      generalize l ++ lowL k x = q at *
      generalize x / 256 ^ k = y at *
      have e2 : 0 ≤ (y : Int) % 256 := by omega
      have e3 : (y : Int) % 256 ≤ 255 := by omega
      go_wp2_with (at_builtin; refine wpList_append_L EY 5 122 rfl (.tmp 13) (.tmp 17) rfl _ 1 Try.underlying122 info_byte rfl (by decide) _ w.heap.size R c q rfl (HO.out.below (by (repeat (first | with_reducible exact Below.refl _ _ | with_reducible assumption | ((with_reducible refine Below.setCell ?_ ?hp _); case hp => (first | omega | (simp only [World.size_alloc, World.size_setCell, World.size_drew]; omega) | (simp; done) | (simp; omega))) | ((with_reducible refine Below.alloc ?_ ?hp _); case hp => (first | omega | (simp only [World.size_alloc, World.size_setCell, World.size_drew]; omega) | (simp; done) | (simp; omega))) | with_reducible refine Below.drew ?_ | with_reducible refine below_drewN ?_ _))) (Nat.le_refl _)) (some ⟨wr.heap.size, 0, none⟩) 1 [y % 256] rfl (Enc.Rd.one_at EY _ _ (y % 256) _ (by rfl) _ rfl) (by show q.length + 1 ≤ _; omega) (by decide) (by simp only [World.size_alloc]; omega) ?_; intro R' c' w3 hown3 hg hat)
      go_roundw
      case rel =>
        refine ⟨k + 1, R', c', by omega, by go_num, ?_, ?_, ?_, ?_⟩
        · rw [HD.out]; congr 1
        · rw [HS.out]; simp
        · rw [HS.out]; exact hown3
        · exact below_append (HB.out.alloc hsz _) (HO.out.below (by (repeat (first | with_reducible exact Below.refl _ _ | with_reducible assumption | ((with_reducible refine Below.setCell ?_ ?hp _); case hp => (first | omega | (simp only [World.size_alloc, World.size_setCell, World.size_drew]; omega) | (simp; done) | (simp; omega))) | ((with_reducible refine Below.alloc ?_ ?hp _); case hp => (first | omega | (simp only [World.size_alloc, World.size_setCell, World.size_drew]; omega) | (simp; done) | (simp; omega))) | with_reducible refine Below.drew ?_ | with_reducible refine below_drewN ?_ _))) (Nat.le_refl _)) hg (by (first | omega | (simp only [World.size_alloc, World.size_setCell, World.size_drew]; omega) | (simp; done) | (simp; omega)))
      case measure => simp [intOf]; omega
    · have hk' : k = n := by omega
      subst hk'
      go_wp2
      go_ret
      refine ⟨R, c, ?_, HO.out, HB.out⟩
      show Ending.returned (Value.slice R (l ++ lowL k x).length c) = _
      rw [List.length_append, lowL_len]

set_option maxHeartbeats 400000 in
theorem put32_any (A : Option Addr) (c : Nat) (l : List Nat) (x : Nat) (w : World) (hl : EY.Rd w A l) (hlen : l.length ≤ 1000) (hx : x < 4294967296) :
    Calls Try.prog 80 #[.slice A l.length c, .int .u32 x] w fun e w' => ∃ A' c', e = .returned (.slice A' (l.length + 4) c') ∧ EY.Own 5 w' w.heap.size A' c' (l ++ lowL 4 x) ∧ Below w.heap.size w w' := by
  have HC := Lib.hid (put_any A c l x 4 w hl hlen (by omega) (by omega))
  have e2 : 0 ≤ (x : Int) := by omega
  have e3 : (x : Int) ≤ 18446744073709551615 := by omega
  clear hl hx
  go_enter Try.func80, Try.ntmps80
  go_wp2_with (go_at_call 128; refine HC.out.mono ?_; rintro e w1 ⟨R, c1, rfl, ho, hb1⟩)
  go_ret
  exact ⟨R, c1, rfl, ho, hb1⟩

set_option maxHeartbeats 400000 in
theorem put64_any (A : Option Addr) (c : Nat) (l : List Nat) (x : Nat) (w : World) (hl : EY.Rd w A l) (hlen : l.length ≤ 1000) (hx : x < 18446744073709551616) :
    Calls Try.prog 150 #[.slice A l.length c, .int .u64 x] w fun e w' => ∃ A' c', e = .returned (.slice A' (l.length + 8) c') ∧ EY.Own 5 w' w.heap.size A' c' (l ++ lowL 8 x) ∧ Below w.heap.size w w' := by
  have HC := Lib.hid (put_any A c l x 8 w hl hlen hx (by omega))
  clear hl hx
  go_enter Try.func150, Try.ntmps150
  go_wp2_with (go_at_call 128; refine HC.out.mono ?_; rintro e w1 ⟨R, c1, rfl, ho, hb1⟩)
  go_ret
  exact ⟨R, c1, rfl, ho, hb1⟩
end Go.Proofs.Ytfjbanfibmpalaa

/- Contracts: data as bytes. -/
set_option linter.unusedVariables false
set_option linter.unusedSimpArgs false
namespace Go.Proofs.Ytfjbanfibmpalaa
open Go.RowKit Go.Shelf

set_option maxRecDepth 100000 in
set_option maxHeartbeats 1000000 in
theorem encode_any (d : Dt) (hd : d.Ok) (w : World) :
    Calls Try.prog 126 #[(Value.agg #[.int .u32 d.nr, .int .u32 d.arch, .int .u64 d.ip, .int .u64 d.a0, .int .u64 d.a1, .int .u64 d.a2, .int .u64 d.a3, .int .u64 d.a4, .int .u64 d.a5])] w fun e w' => ∃ A c, e = .returned (.slice A 64 c) ∧ EY.Own 5 w' w.heap.size A c (encL d) ∧ Below w.heap.size w w' := by
  obtain ⟨q0, q1, q2, q3, q4, q5, q6, q7, q8⟩ := hd
  have P32 := Lib.hid (fun (A : Option Addr) (c : Nat) (l : List Nat) (x : Nat) (w : World) => put32_any A c l x w)
  have P64 := Lib.hid (fun (A : Option Addr) (c : Nat) (l : List Nat) (x : Nat) (w : World) => put64_any A c l x w)
  have hwf : ∀ k, Fence.wide.fn k := fun _ => trivial
  have hwd : Fence.wide.depth = none := rfl
  have Q := Lib.hid (And.intro q0 (And.intro q1 (And.intro q2 (And.intro q3 (And.intro q4 (And.intro q5 (And.intro q6 (And.intro q7 q8))))))))
  obtain ⟨nr, arch, ip, a0, a1, a2, a3, a4, a5⟩ := d
  have f0 : ∀ w, (Instr.index 45 (.agg #[.int .u64 a0, .int .u64 a1, .int .u64 a2, .int .u64 a3, .int .u64 a4, .int .u64 a5]) (.int .i64 0)).run Try.prog w = .ok (.int .u64 a0) w := fun _ => by kernel_rfl
  have f1 : ∀ w, (Instr.index 45 (.agg #[.int .u64 a0, .int .u64 a1, .int .u64 a2, .int .u64 a3, .int .u64 a4, .int .u64 a5]) (.int .i64 1)).run Try.prog w = .ok (.int .u64 a1) w := fun _ => by kernel_rfl
  have f2 : ∀ w, (Instr.index 45 (.agg #[.int .u64 a0, .int .u64 a1, .int .u64 a2, .int .u64 a3, .int .u64 a4, .int .u64 a5]) (.int .i64 2)).run Try.prog w = .ok (.int .u64 a2) w := fun _ => by kernel_rfl
  have f3 : ∀ w, (Instr.index 45 (.agg #[.int .u64 a0, .int .u64 a1, .int .u64 a2, .int .u64 a3, .int .u64 a4, .int .u64 a5]) (.int .i64 3)).run Try.prog w = .ok (.int .u64 a3) w := fun _ => by kernel_rfl
  have f4 : ∀ w, (Instr.index 45 (.agg #[.int .u64 a0, .int .u64 a1, .int .u64 a2, .int .u64 a3, .int .u64 a4, .int .u64 a5]) (.int .i64 4)).run Try.prog w = .ok (.int .u64 a4) w := fun _ => by kernel_rfl
  have f5 : ∀ w, (Instr.index 45 (.agg #[.int .u64 a0, .int .u64 a1, .int .u64 a2, .int .u64 a3, .int .u64 a4, .int .u64 a5]) (.int .i64 5)).run Try.prog w = .ok (.int .u64 a5) w := fun _ => by kernel_rfl
  clear q0 q1 q2 q3 q4 q5 q6 q7 q8
  go_enter Try.func126, Try.ntmps126
  go_wp2
  obtain ⟨w0, hw0⟩ : ∃ w0, w.alloc (.cells #[.int .u32 nr, .int .u32 arch, .int .u64 ip, .int .u64 a0, .int .u64 a1, .int .u64 a2, .int .u64 a3, .int .u64 a4, .int .u64 a5] 47) = w0 := ⟨_, rfl⟩
  have hbx : w0.heap[w.heap.size]? = some (.cells #[.int .u32 nr, .int .u32 arch, .int .u64 ip, .int .u64 a0, .int .u64 a1, .int .u64 a2, .int .u64 a3, .int .u64 a4, .int .u64 a5] 47 (0, 0)) := by rw [← hw0]; exact heap_alloc_new w _
  have hs0 : w0.heap.size = w.heap.size + 1 := by rw [← hw0]; simp
  have hb0 : Below w.heap.size w w0 := by rw [← hw0]; (repeat (first | with_reducible exact Below.refl _ _ | with_reducible assumption | ((with_reducible refine Below.setCell ?_ ?hp _); case hp => (first | omega | (simp only [World.size_alloc, World.size_setCell, World.size_drew]; omega) | (simp; done) | (simp; omega))) | ((with_reducible refine Below.alloc ?_ ?hp _); case hp => (first | omega | (simp only [World.size_alloc, World.size_setCell, World.size_drew]; omega) | (simp; done) | (simp; omega))) | with_reducible refine Below.drew ?_ | with_reducible refine below_drewN ?_ _))
  have HS := Lib.hid (fun W (h : Below w0.heap.size w0 W) => (show W.cell? ⟨w.heap.size, 0, none⟩ = some (.int .u32 nr) ∧ W.cell? ⟨w.heap.size, 1, none⟩ = some (.int .u32 arch) ∧ W.cell? ⟨w.heap.size, 2, none⟩ = some (.int .u64 ip) from
    ⟨cell_of_row _ _ _ _ _ _ ((h.block _ (by omega)).trans hbx), cell_of_row _ _ _ _ _ _ ((h.block _ (by omega)).trans hbx), cell_of_row _ _ _ _ _ _ ((h.block _ (by omega)).trans hbx)⟩))
  have HBX := Lib.hid hbx
  have HB0 := Lib.hid hb0
  clear hbx hb0
  rw [hw0]
  clear hw0
  have HD := Lib.hid (HS.out w0.drew (by (repeat (first | with_reducible exact Below.refl _ _ | with_reducible assumption | ((with_reducible refine Below.setCell ?_ ?hp _); case hp => (first | omega | (simp only [World.size_alloc, World.size_setCell, World.size_drew]; omega) | (simp; done) | (simp; omega))) | ((with_reducible refine Below.alloc ?_ ?hp _); case hp => (first | omega | (simp only [World.size_alloc, World.size_setCell, World.size_drew]; omega) | (simp; done) | (simp; omega))) | with_reducible refine Below.drew ?_ | with_reducible refine below_drewN ?_ _))))
  have hz0 : w.heap.size < w0.heap.size := by omega
  refine wp_region_noPanic ?_
  refine (wpIn_wide (n := 0)).1 ?_
  (refine region_at 8 (fun W => W.cell? ⟨w.heap.size, 0, none⟩ = some (.int .u32 nr) ∧ W.cell? ⟨w.heap.size, 1, none⟩ = some (.int .u32 arch) ∧ W.cell? ⟨w.heap.size, 2, none⟩ = some (.int .u64 ip)) (fun _ => trivial) (by kernel_rfl) (by kernel_rfl) (by kernel_rfl) (by kernel_rfl) (by kernel_rfl) (by kernel_rfl) (fun _ _ _ _ h => h) ?_)
  (refine At.take 0 (v := .pointer (some ⟨w.heap.size, 0, none⟩)) rfl (by decide) (by kernel_rfl) (by kernel_rfl) HD.out (Or.inl ⟨by rfl, fun w hw => (by (repeat (obtain ⟨hw0, hw⟩ := hw)); go_simp; try (simp (disch := omega) only [IntWalk.i64_in, IntWalk.u8_in, IntWalk.u16_in, IntWalk.u32_in, IntWalk.u64_in]); try omega)⟩) ?_; simp only [Act.put, List.setIfInBounds_toArray, List.set_cons_zero, List.set_cons_succ])
  (refine At.take 1 (v := .int .u32 nr) rfl (by decide) (by kernel_rfl) (by kernel_rfl) HD.out (Or.inl ⟨by rfl, fun w hw => (by (repeat (obtain ⟨hw0, hw⟩ := hw)); go_simp; try (simp (disch := omega) only [IntWalk.i64_in, IntWalk.u8_in, IntWalk.u16_in, IntWalk.u32_in, IntWalk.u64_in]); try omega)⟩) ?_; simp only [Act.put, List.setIfInBounds_toArray, List.set_cons_zero, List.set_cons_succ])
  (refine At.take 3 (v := .pointer (some ⟨w.heap.size, 1, none⟩)) rfl (by decide) (by kernel_rfl) (by kernel_rfl) HD.out (Or.inl ⟨by rfl, fun w hw => (by (repeat (obtain ⟨hw0, hw⟩ := hw)); go_simp; try (simp (disch := omega) only [IntWalk.i64_in, IntWalk.u8_in, IntWalk.u16_in, IntWalk.u32_in, IntWalk.u64_in]); try omega)⟩) ?_; simp only [Act.put, List.setIfInBounds_toArray, List.set_cons_zero, List.set_cons_succ])
  (refine At.take 4 (v := .int .u32 arch) rfl (by decide) (by kernel_rfl) (by kernel_rfl) HD.out (Or.inl ⟨by rfl, fun w hw => (by (repeat (obtain ⟨hw0, hw⟩ := hw)); go_simp; try (simp (disch := omega) only [IntWalk.i64_in, IntWalk.u8_in, IntWalk.u16_in, IntWalk.u32_in, IntWalk.u64_in]); try omega)⟩) ?_; simp only [Act.put, List.setIfInBounds_toArray, List.set_cons_zero, List.set_cons_succ])
  (refine At.take 6 (v := .pointer (some ⟨w.heap.size, 2, none⟩)) rfl (by decide) (by kernel_rfl) (by kernel_rfl) HD.out (Or.inl ⟨by rfl, fun w hw => (by (repeat (obtain ⟨hw0, hw⟩ := hw)); go_simp; try (simp (disch := omega) only [IntWalk.i64_in, IntWalk.u8_in, IntWalk.u16_in, IntWalk.u32_in, IntWalk.u64_in]); try omega)⟩) ?_; simp only [Act.put, List.setIfInBounds_toArray, List.set_cons_zero, List.set_cons_succ])
  (refine At.take 7 (v := .int .u64 ip) rfl (by decide) (by kernel_rfl) (by kernel_rfl) HD.out (Or.inl ⟨by rfl, fun w hw => (by (repeat (obtain ⟨hw0, hw⟩ := hw)); go_simp; try (simp (disch := omega) only [IntWalk.i64_in, IntWalk.u8_in, IntWalk.u16_in, IntWalk.u32_in, IntWalk.u64_in]); try omega)⟩) ?_; simp only [Act.put, List.setIfInBounds_toArray, List.set_cons_zero, List.set_cons_succ])
  (refine At.force 2 rfl (by decide) (by kernel_rfl) ?_)
  gi_wp2_with (gi_at_call 80; refine (callsIn_wide.2 (P32.out none 0 [] nr _ ⟨fun h => absurd rfl h⟩ (by decide) Q.out.1)).mono ?_; rintro e w1 ⟨R1, c1, rfl, ho, hb⟩; have HO1 := Lib.hid ho; have HB1 := Lib.hid (Below.trans (show Below w0.heap.size w0 w0.drew by (repeat (first | with_reducible exact Below.refl _ _ | with_reducible assumption | ((with_reducible refine Below.setCell ?_ ?hp _); case hp => (first | omega | (simp only [World.size_alloc, World.size_setCell, World.size_drew]; omega) | (simp; done) | (simp; omega))) | ((with_reducible refine Below.alloc ?_ ?hp _); case hp => (first | omega | (simp only [World.size_alloc, World.size_setCell, World.size_drew]; omega) | (simp; done) | (simp; omega))) | with_reducible refine Below.drew ?_ | with_reducible refine below_drewN ?_ _))) (hb.mono (by (first | omega | (simp only [World.size_alloc, World.size_setCell, World.size_drew]; omega) | (simp; done) | (simp; omega))))); clear ho hb)
  refine thenS_normal (HS.out _ HB1.out) (fun _ => ?_)
  (refine At.force 5 rfl (by decide) (by kernel_rfl) ?_)
  gi_wp2_with (gi_at_call 80; refine (callsIn_wide.2 (P32.out R1 c1 _ arch _ HO1.out.rd (by simp [lowL_len]) Q.out.2.1)).mono ?_; rintro e w2 ⟨R2, c2, rfl, ho, hb⟩; have HO2 := Lib.hid (ho.mono HB1.out.size); have HB2 := Lib.hid (HB1.out.trans (hb.mono HB1.out.size)); clear ho hb)
  refine thenS_normal (HS.out _ HB2.out) (fun _ => ?_)
  refine At.tail (by kernel_rfl) ?_
  simp only [List.drop_succ_cons, List.drop_zero]
  gi_wp2_with (gi_at_call 150; refine (callsIn_wide.2 (P64.out R2 c2 _ ip _ HO2.out.rd (by simp [lowL_len]) Q.out.2.2.1)).mono ?_; rintro e w3 ⟨R3, c3, rfl, ho, hb⟩; have HO3 := Lib.hid (ho.mono HB2.out.size); have HB3 := Lib.hid (HB2.out.trans (hb.mono HB2.out.size)); clear ho hb)
  refine NoPanic.normal ?_
  have hb3 := (HB3.out.block _ hz0).trans HBX.out
  have k3 : w3.cell? ⟨w.heap.size, 3, none⟩ = some (.int .u64 a0) := cell_of_row _ _ _ _ _ _ hb3
  have k4 : w3.cell? ⟨w.heap.size, 4, none⟩ = some (.int .u64 a1) := cell_of_row _ _ _ _ _ _ hb3
  have k5 : w3.cell? ⟨w.heap.size, 5, none⟩ = some (.int .u64 a2) := cell_of_row _ _ _ _ _ _ hb3
  have k6 : w3.cell? ⟨w.heap.size, 6, none⟩ = some (.int .u64 a3) := cell_of_row _ _ _ _ _ _ hb3
  have k7 : w3.cell? ⟨w.heap.size, 7, none⟩ = some (.int .u64 a4) := cell_of_row _ _ _ _ _ _ hb3
  have k8 : w3.cell? ⟨w.heap.size, 8, none⟩ = some (.int .u64 a5) := cell_of_row _ _ _ _ _ _ hb3
  clear hb3
  go_wp2
  refine wp_loop_rounds 7 ?_
  rw [rounds_succ]
  go_wp2_with (go_at_call 150; refine (P64.out R3 c3 _ a0 _ HO3.out.rd (by simp [lowL_len]) Q.out.2.2.2.1).mono ?_; rintro e w4 ⟨R4, c4, rfl, ho, hb⟩; have HO4 := Lib.hid (ho.mono HB3.out.size); have HB4 := Lib.hid (HB3.out.trans (hb.mono HB3.out.size)); clear ho hb)
  rw [rounds_succ]
  go_wp2_with (go_at_call 150; refine (P64.out R4 c4 _ a1 _ HO4.out.rd (by simp [lowL_len]) Q.out.2.2.2.2.1).mono ?_; rintro e w5 ⟨R5, c5, rfl, ho, hb⟩; have HO5 := Lib.hid (ho.mono HB4.out.size); have HB5 := Lib.hid (HB4.out.trans (hb.mono HB4.out.size)); clear ho hb)
  rw [rounds_succ]
  go_wp2_with (go_at_call 150; refine (P64.out R5 c5 _ a2 _ HO5.out.rd (by simp [lowL_len]) Q.out.2.2.2.2.2.1).mono ?_; rintro e w6 ⟨R6, c6, rfl, ho, hb⟩; have HO6 := Lib.hid (ho.mono HB5.out.size); have HB6 := Lib.hid (HB5.out.trans (hb.mono HB5.out.size)); clear ho hb)
  rw [rounds_succ]
  go_wp2_with (go_at_call 150; refine (P64.out R6 c6 _ a3 _ HO6.out.rd (by simp [lowL_len]) Q.out.2.2.2.2.2.2.1).mono ?_; rintro e w7 ⟨R7, c7, rfl, ho, hb⟩; have HO7 := Lib.hid (ho.mono HB6.out.size); have HB7 := Lib.hid (HB6.out.trans (hb.mono HB6.out.size)); clear ho hb)
  rw [rounds_succ]
  go_wp2_with (go_at_call 150; refine (P64.out R7 c7 _ a4 _ HO7.out.rd (by simp [lowL_len]) Q.out.2.2.2.2.2.2.2.1).mono ?_; rintro e w8 ⟨R8, c8, rfl, ho, hb⟩; have HO8 := Lib.hid (ho.mono HB7.out.size); have HB8 := Lib.hid (HB7.out.trans (hb.mono HB7.out.size)); clear ho hb)
  rw [rounds_succ]
  go_wp2_with (go_at_call 150; refine (P64.out R8 c8 _ a5 _ HO8.out.rd (by simp [lowL_len]) Q.out.2.2.2.2.2.2.2.2).mono ?_; rintro e w9 ⟨R9, c9, rfl, ho, hb⟩; have HO9 := Lib.hid (ho.mono HB8.out.size); have HB9 := Lib.hid (HB8.out.trans (hb.mono HB8.out.size)); clear ho hb)
  rw [rounds_succ]
  go_wp2
  go_ret
  refine ⟨R9, c9, ?_, ?_, HB0.out.trans (HB9.out.mono (by omega))⟩
  · simp [lowL_len]
  · have := HO9.out.mono (show w.heap.size ≤ w0.heap.size by omega)
    rw [List.nil_append] at this
    exact this
end Go.Proofs.Ytfjbanfibmpalaa

/- Contracts: a reader of bytes. -/
set_option linter.unusedVariables false
set_option linter.unusedSimpArgs false
namespace Go.Proofs.Ytfjbanfibmpalaa
open Go.RowKit Go.Shelf

/-- A reader at a place of bytes. -/
structure Rdr (w : World) (B : Nat) (R : Option Addr) (c : Nat) (l : List Nat) (p : Nat) : Prop where
  box : w.heap[B]? = some (.cells #[.slice R l.length c, .int .i64 p, .int .i64 0] 187 (0, 0))
  row : ∃ g, R = some ⟨g, 0, none⟩ ∧ g < B ∧ EY.at_ w g 0 l

set_option maxHeartbeats 400000 in
theorem read_any (A : Option Addr) (c : Nat) (l : List Nat) (w : World) (hl : EY.Rd w A l) (hlen : l.length ≤ 1000) (hne : l ≠ []) :
    Calls Try.prog 125 #[.slice A l.length c] w fun e w' => ∃ B R c', e = .returned (.pointer (some ⟨B, 0, none⟩)) ∧ w.heap.size ≤ B ∧ B < w'.heap.size ∧ Rdr w' B R c' l 0 ∧ (∀ g, R = some ⟨g, 0, none⟩ → w.heap.size ≤ g) ∧ Below w.heap.size w w' := by
  have HC := Lib.hid (cloneb_any A c l w hl (by omega))
  clear hl
  go_enter Try.func125, Try.ntmps125
  go_wp2_with (go_at_call 149; refine HC.out.mono ?_; rintro e w1 ⟨R, c1, rfl, ho, hb1⟩; have HO1 := Lib.hid ho; have HB1 := Lib.hid hb1; clear ho hb1)
  go_ret
  obtain ⟨g, rfl, h1, h2⟩ := HO1.out.form hne
  refine ⟨w1.heap.size, some ⟨g, 0, none⟩, c1, rfl, HB1.out.size, by simp, ⟨heap_alloc_new w1 _, g, rfl, h2, HO1.out.at_.keep (fun o => ?_)⟩, fun g' e => by cases e; exact h1, HB1.out.alloc HB1.out.size _⟩
  exact (Below.alloc (Below.refl _ w1) (Nat.le_refl _) _).cell (p := ⟨g, o, none⟩) h2

theorem Rdr.c0 {w : World} {B : Nat} {R : Option Addr} {c : Nat} {l : List Nat} {p : Nat} (h : Rdr w B R c l p) : w.cell? ⟨B, 0, none⟩ = some (.slice R l.length c) := cell_of_row _ _ _ _ _ _ h.box
theorem Rdr.c1 {w : World} {B : Nat} {R : Option Addr} {c : Nat} {l : List Nat} {p : Nat} (h : Rdr w B R c l p) : w.cell? ⟨B, 1, none⟩ = some (.int .i64 p) := cell_of_row _ _ _ _ _ _ h.box
theorem Rdr.c2 {w : World} {B : Nat} {R : Option Addr} {c : Nat} {l : List Nat} {p : Nat} (h : Rdr w B R c l p) : w.cell? ⟨B, 2, none⟩ = some (.int .i64 0) := cell_of_row _ _ _ _ _ _ h.box
theorem Rdr.fz {w : World} {B : Nat} {R : Option Addr} {c : Nat} {l : List Nat} {p : Nat} (h : Rdr w B R c l p) (o : Nat) : w.frozen? ⟨B, o, none⟩ = false := by simp [World.frozen?, h.box]
theorem Rdr.lt {w : World} {B : Nat} {R : Option Addr} {c : Nat} {l : List Nat} {p : Nat} (h : Rdr w B R c l p) : B < w.heap.size := (Array.getElem?_eq_some_iff.1 h.box).1

set_option maxHeartbeats 400000 in
theorem err_any (B : Nat) (R : Option Addr) (c : Nat) (l : List Nat) (p : Nat) (w : World) (h : Rdr w B R c l p) :
    Calls Try.prog 171 #[.pointer (some ⟨B, 0, none⟩)] w fun e w' => e = .returned (.int .i64 0) ∧ w = w' := by
  have h2 := h.c2
  have h3 := h.lt
  clear h
  go_enter Try.func171, Try.ntmps171
  go_wp2
  go_ret
  exact ⟨rfl, rfl⟩

set_option maxRecDepth 100000 in
set_option maxHeartbeats 400000 in
theorem left_any (B : Nat) (R : Option Addr) (c : Nat) (l : List Nat) (p : Nat) (w : World) (h : Rdr w B R c l p) (hp : p ≤ l.length) (hl : l.length ≤ 1000) :
    Calls Try.prog 172 #[.pointer (some ⟨B, 0, none⟩)] w fun e w' => e = .returned (.int .i64 ((l.length - p : Nat) : Int)) ∧ ∃ m, w.drewN m = w' := by
  have h0 := h.c0
  have h1 := h.c1
  have h3 := h.lt
  clear h
  obtain ⟨d, hd⟩ : ∃ d, l.length = p + d := ⟨l.length - p, by omega⟩
  rw [hd] at h0 hl ⊢
  rw [Nat.add_sub_cancel_left]
  clear hd hp
  go_enter Try.func172, Try.ntmps172
  go_wp2_with fail
  go_quiet (fail)
  go_wp2
  go_ret
  refine ⟨?_, _, rfl⟩
  show Ending.returned (Value.int _ _) = _
  congr 2; omega

set_option maxRecDepth 100000 in
set_option maxHeartbeats 400000 in
theorem number1_any (X x b i : Nat) (w : World) (hX : w.heap[X]? = some (.cells #[.int .u64 x] 44 (0, 0))) (hi : i < 8) (hx : x < 256 ^ i) (hb : b < 256) :
    Calls Try.prog 162 #[.int .i64 i, .int .u8 b, .pointer (some ⟨X, 0, none⟩)] w fun e w' => (∃ v, e = .returned v) ∧ (w.setCell ⟨X, 0, none⟩ (.int .u64 ((x + b * 256 ^ i : Nat) : Int))).drew = w' := by
  have h0 : w.cell? ⟨X, 0, none⟩ = some (.int .u64 x) := cell_of_row _ _ _ _ _ _ hX
  have h1 := (Array.getElem?_eq_some_iff.1 hX).1
  have h2 : w.frozen? ⟨X, 0, none⟩ = false := by simp [World.frozen?, hX]
  clear hX
  go_enter Try.func162, Try.ntmps162
  have hwf : ∀ k, Fence.wide.fn k := fun _ => trivial
  have hwd : Fence.wide.depth = none := rfl
  have hp : 256 ^ i * 256 ≤ 18446744073709551616 := by
    have : 256 ^ (i + 1) ≤ 256 ^ 8 := Nat.pow_le_pow_right (by decide) (by omega)
    rw [Nat.pow_succ] at this; omega
  have hs : b * 256 ^ i < 18446744073709551616 := by
    have : b * 256 ^ i ≤ 255 * 256 ^ i := Nat.mul_le_mul_right _ (by omega)
    omega
  have hsum : x + b * 256 ^ i < 18446744073709551616 := by
    have : b * 256 ^ i ≤ 255 * 256 ^ i := Nat.mul_le_mul_right _ (by omega)
    omega
  have e8 : ((2 : Int) ^ (8 * (i : Int)).toNat) = ((256 ^ i : Nat) : Int) := by
    rw [show (8 * (i : Int)).toNat = 8 * i by omega, Int.pow_mul, Int.natCast_pow]; rfl
  have hsh : IntKind.u64.wrap ((b : Int) * 2 ^ (8 * (i : Int)).toNat) = ((b * 256 ^ i : Nat) : Int) := by
    rw [e8, ← Int.natCast_mul]
    exact IntWalk.u64_in _ (by omega)
  clear e8
  have HSH := Lib.hid hsh
  clear hsh
  generalize b * 256 ^ i = z at *
  have HD := Lib.hid (show w.drew.cell? ⟨X, 0, none⟩ = some (.int .u64 x) by simpa using h0)
  refine wp_region_noPanic ?_
  refine (wpIn_wide (n := 0)).1 ?_
  (refine region_at 7 (fun W => W.cell? ⟨X, 0, none⟩ = some (.int .u64 x)) (fun _ => trivial) (by kernel_rfl) (by kernel_rfl) (by kernel_rfl) (by kernel_rfl) (by kernel_rfl) (by kernel_rfl) (fun _ _ _ _ h => h) ?_)
  (refine At.take 0 (v := .int .u64 x) rfl (by decide) (by kernel_rfl) (by kernel_rfl) HD.out (Or.inl ⟨by rfl, fun w hw => (by go_simp; try (simp (disch := omega) only [IntWalk.i64_in, IntWalk.u8_in, IntWalk.u16_in, IntWalk.u32_in, IntWalk.u64_in]); try omega)⟩) ?_; simp only [Act.put, List.setIfInBounds_toArray, List.set_cons_zero, List.set_cons_succ])
  (refine At.take 1 (v := .int .u8 b) rfl (by decide) (by kernel_rfl) (by kernel_rfl) HD.out (Or.inl ⟨by rfl, fun w hw => (by go_simp; try (simp (disch := omega) only [IntWalk.i64_in, IntWalk.u8_in, IntWalk.u16_in, IntWalk.u32_in, IntWalk.u64_in]); try omega)⟩) ?_; simp only [Act.put, List.setIfInBounds_toArray, List.set_cons_zero, List.set_cons_succ])
  (refine At.take 2 (v := .int .u64 b) rfl (by decide) (by kernel_rfl) (by kernel_rfl) HD.out (Or.inl ⟨by rfl, fun w hw => (by go_simp; try (simp (disch := omega) only [IntWalk.i64_in, IntWalk.u8_in, IntWalk.u16_in, IntWalk.u32_in, IntWalk.u64_in]); try omega)⟩) ?_; simp only [Act.put, List.setIfInBounds_toArray, List.set_cons_zero, List.set_cons_succ])
  (refine At.take 3 (v := .int .i64 i) rfl (by decide) (by kernel_rfl) (by kernel_rfl) HD.out (Or.inl ⟨by rfl, fun w hw => (by go_simp; try (simp (disch := omega) only [IntWalk.i64_in, IntWalk.u8_in, IntWalk.u16_in, IntWalk.u32_in, IntWalk.u64_in]); try omega)⟩) ?_; simp only [Act.put, List.setIfInBounds_toArray, List.set_cons_zero, List.set_cons_succ])
  (refine At.take 4 (v := .int .i64 (8 * (i : Int))) rfl (by decide) (by kernel_rfl) (by kernel_rfl) HD.out (Or.inl ⟨by rfl, fun w hw => (by go_simp; try (simp (disch := omega) only [IntWalk.i64_in, IntWalk.u8_in, IntWalk.u16_in, IntWalk.u32_in, IntWalk.u64_in]); try omega)⟩) ?_; simp only [Act.put, List.setIfInBounds_toArray, List.set_cons_zero, List.set_cons_succ])
  (refine At.take 5 (v := .int .u64 z) rfl (by decide) (by kernel_rfl) (by kernel_rfl) HD.out (Or.inl ⟨by rfl, fun w hw => (by go_simp; exact HSH.out)⟩) ?_; simp only [Act.put, List.setIfInBounds_toArray, List.set_cons_zero, List.set_cons_succ])
  (refine At.take 6 (v := .int .u64 ((x : Int) + z)) rfl (by decide) (by kernel_rfl) (by kernel_rfl) HD.out (Or.inl ⟨by rfl, fun w hw => (by go_simp; try (simp (disch := omega) only [IntWalk.i64_in, IntWalk.u8_in, IntWalk.u16_in, IntWalk.u32_in, IntWalk.u64_in]); try omega)⟩) ?_; simp only [Act.put, List.setIfInBounds_toArray, List.set_cons_zero, List.set_cons_succ])
  refine At.tail (by kernel_rfl) ?_
  simp only [List.drop_succ_cons, List.drop_zero]
  gi_wp2
  refine NoPanic.normal ?_
  exact bodyPost_end (v := .tuple #[]) (results_none rfl _ _ _) rfl ⟨⟨_, rfl⟩, rfl⟩

theorem Rdr.step {N K : Nat} {w w' : World} {B : Nat} {R : Option Addr} {c : Nat} {l : List Nat} {p : Nat} (h : Rdr w B R c l p) (hs : Step N K w w') (hN : B < N) : Rdr w' B R c l p := by
  obtain ⟨g, e, hg, ha⟩ := h.row
  have hB := h.lt
  refine ⟨(hs.block _ hB (by omega)).trans h.box, g, e, hg, ha.keep (fun o => ?_)⟩
  have := hs.block g (by omega) (by omega)
  simp [World.cell?, this]
theorem Rdr.below {N : Nat} {w w' : World} {B : Nat} {R : Option Addr} {c : Nat} {l : List Nat} {p : Nat} (h : Rdr w B R c l p) (hs : Below N w w') (hN : B < N) : Rdr w' B R c l p :=
  h.step (N := N) (K := w.heap.size) ⟨hs.os, hs.tape, hs.output, hs.size, fun k hk hn => hs.block k (by omega)⟩ hN
theorem Rdr.byte {w : World} {B g : Nat} {c : Nat} {l : List Nat} {p : Nat} (h : Rdr w B (some ⟨g, 0, none⟩) c l p) (k : Nat) (hk : k < l.length) : w.cell? ⟨g, k, none⟩ = some (.int .u8 ((l.getD k 0 : Nat) : Int)) := by
  obtain ⟨g', e, hg, ha⟩ := h.row
  cases e
  have := ha k hk 0 _ rfl
  simpa [EY, hk] using this
theorem Rdr.put {w : World} {B : Nat} {R : Option Addr} {c : Nat} {l : List Nat} {p : Nat} (h : Rdr w B R c l p) (q : Nat) : Rdr (w.setCell ⟨B, 1, none⟩ (.int .i64 q)) B R c l q := by
  obtain ⟨g, e, hg, ha⟩ := h.row
  refine ⟨?_, g, e, hg, ha.keep (fun o => World.cell?_setCell_other _ _ _ _ (by intro e; injection e with e1; omega))⟩
  exact (heap_setCell_same w B 1 _ _ _ h.box).trans (by simp)

theorem Rdr.set_other {w : World} {B : Nat} {R : Option Addr} {c : Nat} {l : List Nat} {p : Nat} (h : Rdr w B R c l p) {q : Addr} (h1 : q.block ≠ B) (h2 : ∀ g, R = some ⟨g, 0, none⟩ → q.block ≠ g) (v : Value) : Rdr (w.setCell q v) B R c l p := by
  obtain ⟨g, e, hg, ha⟩ := h.row
  refine ⟨(Below.heap_setCell _ _ _ _ (fun e => h1 e.symm)).trans h.box, g, e, hg, ha.keep (fun o => World.cell?_setCell_other _ _ _ _ (by intro e2; exact h2 g e (by have := congrArg Addr.block e2; simpa [eq_comm] using this)))⟩

theorem numL_take (l : List Nat) (p k : Nat) (h : p + k < l.length) : numL ((l.drop p).take (k + 1)) = numL ((l.drop p).take k) + l.getD (p + k) 0 * 256 ^ k := by
  have e : min k (l.drop p).length = k := Nat.min_eq_left (by rw [List.length_drop]; omega)
  rw [List.take_succ_eq_append_getElem (by rw [List.length_drop]; omega), numL_snoc, List.length_take, e]
  simp [h]

set_option maxRecDepth 100000 in
set_option maxHeartbeats 1000000 in
theorem look_any (B : Nat) (R : Option Addr) (c : Nat) (l : List Nat) (p n X : Nat) (w : World) (h : Rdr w B R c l p) (hp : p + n ≤ l.length) (hl : l.length ≤ 1000) (hb : ∀ y ∈ l, y < 256) (hn : n ≤ 8) (hX : w.heap[X]? = some (.cells #[.int .u64 0] 44 (0, 0))) (hBX : B < X) :
    Calls Try.prog 161 #[.pointer (some ⟨B, 0, none⟩), .int .i64 n, .func (.func 162) #[] #[.pointer (some ⟨X, 0, none⟩)]] w fun e w' => (∃ v, e = .returned v) ∧ Rdr w' B R c l (p + n) ∧
      w'.heap[X]? = some (.cells #[.int .u64 ((numL ((l.drop p).take n) : Nat) : Int)] 44 (0, 0)) ∧ w'.os = w.os ∧ w'.tape = w.tape ∧ w'.output = w.output ∧ w.heap.size ≤ w'.heap.size ∧ ∀ k, k < w.heap.size → k ≠ B → k ≠ X → w'.heap[k]? = w.heap[k]? := by
  obtain ⟨g, rfl, hg, _⟩ := h.row
  have HE := Lib.hid (err_any B _ c l p w h)
  have HL := Lib.hid (left_any B _ c l p w h (by omega) hl)
  have HR := Lib.hid h
  have HX := Lib.hid hX
  have hXl := (Array.getElem?_eq_some_iff.1 hX).1
  have HBY := Lib.hid hb
  obtain ⟨d, hd⟩ : ∃ d, l.length - p = d := ⟨_, rfl⟩
  have HLE := Lib.hid hd
  rw [hd] at HL
  have t1 : ¬ ((d : Int) < n) := by omega
  have t2 : ¬ ((n : Int) < 0) := by omega
  have t3 : ¬ d < n := by omega
  have t4 : decide (d < n) = false := decide_eq_false t3
  clear h hX hb hd
  go_enter Try.func161, Try.ntmps161
  go_wp2_with (first
    | (go_at_call 171; refine HE.out.mono ?_; rintro e w1 ⟨rfl, rfl⟩)
    | (go_at_call 172; refine HL.out.mono ?_; rintro e w1 ⟨rfl, m, rfl⟩))
  obtain ⟨w0, hw0⟩ : ∃ w0, w.drewN m = w0 := ⟨_, rfl⟩
  rw [hw0]
  have HS0 := Lib.hid (show Step X (X + 1) w w0 by rw [← hw0]; exact ⟨rfl, rfl, rfl, Nat.le_refl _, fun _ _ _ => rfl⟩)
  have HX0 := Lib.hid (show w0.heap[X]? = some (.cells #[.int .u64 0] 44 (0, 0)) by rw [← hw0]; exact HX.out)
  clear hw0
  go_loopw [6, 23] (fun t6 i wr => ∃ k : Nat, k ≤ n ∧ i = .int .i64 k ∧ wr.heap[X]? = some (.cells #[.int .u64 ((numL ((l.drop p).take k) : Nat) : Int)] 44 (0, 0)) ∧ Step X (X + 1) w wr) (fun _ i _ => n - (intOf i).toNat)
  case atStart => exact ⟨0, by omega, rfl, by simpa [numL] using HX0.out, HS0.out⟩
  case round =>
    obtain ⟨k, hk, rfl, hx, hst⟩ := hrel
    have HR1 := Lib.hid (HR.out.step hst hBX)
    have HXk := Lib.hid hx
    have HSk := Lib.hid hst
    have hXr := (Array.getElem?_eq_some_iff.1 hx).1
    clear hx hst
    by_cases hlt : k < n
    · have HNX := Lib.hid (numL_take l p k (by omega))
      have hnl : numL ((l.drop p).take k) < 256 ^ k := by
        have := numL_lt ((l.drop p).take k) (fun y hy => HBY.out y (List.mem_of_mem_drop (List.mem_of_mem_take hy)))
        rw [List.length_take, List.length_drop, Nat.min_eq_left (by omega)] at this
        exact this
      have hbk : l.getD (p + k) 0 < 256 := by
        have : p + k < l.length := by omega
        rw [List.getD_eq_getElem?_getD, List.getElem?_eq_getElem this]; exact HBY.out _ (List.getElem_mem this)
      have HCB := Lib.hid (HR1.out.byte (p + k) (by omega))
      generalize l.getD (p + k) 0 = b at *
      generalize numL ((l.drop p).take k) = x at *
      have HNUM := Lib.hid (fun W (hW : W.heap[X]? = some (.cells #[.int .u64 x] 44 (0, 0))) => number1_any X x b k W hW (by omega) hnl hbk)
      have HD := Lib.hid (show wr.drew.cell? ⟨B, 0, none⟩ = some (.slice (some ⟨g, 0, none⟩) l.length c) ∧ wr.drew.cell? ⟨B, 1, none⟩ = some (.int .i64 p) ∧ wr.drew.cell? ⟨g, p + k, none⟩ = some (.int .u8 b) from ⟨by simpa using HR1.out.c0, by simpa using HR1.out.c1, by simpa using HCB.out⟩)
      have s1 : (p : Int) + k < l.length := by omega
      have s2 : 0 ≤ (p : Int) + k := by omega
      have s3 : ((p : Int) + k).toNat = p + k := by omega
      have hwf : ∀ k, Fence.wide.fn k := fun _ => trivial
      have hwd : Fence.wide.depth = none := rfl
      have hBs : B < wr.heap.size := HR1.out.lt
      have hgs : g < wr.heap.size := by omega
      go_wp2
      refine wp_region_noPanic ?_
      refine (wpIn_wide (n := 0)).1 ?_
      (refine region_at 16 (fun W => W.cell? ⟨B, 0, none⟩ = some (.slice (some ⟨g, 0, none⟩) l.length c) ∧ W.cell? ⟨B, 1, none⟩ = some (.int .i64 p) ∧ W.cell? ⟨g, p + k, none⟩ = some (.int .u8 b)) (fun _ => trivial) (by kernel_rfl) (by kernel_rfl) (by kernel_rfl) (by kernel_rfl) (by kernel_rfl) (by kernel_rfl) (fun _ _ _ _ h => h) ?_)
      (refine At.take 0 (v := .func (.func 162) #[] #[.pointer (some ⟨X, 0, none⟩)]) rfl (by decide) (by kernel_rfl) (by kernel_rfl) HD.out (Or.inl ⟨by rfl, fun w hw => (by go_simp)⟩) ?_; simp only [Act.put, List.setIfInBounds_toArray, List.set_cons_zero, List.set_cons_succ])
      (refine At.take 1 (v := .int .i64 k) rfl (by decide) (by kernel_rfl) (by kernel_rfl) HD.out (Or.inl ⟨by rfl, fun w hw => (by (repeat (obtain ⟨hw0, hw⟩ := hw)); go_simp; try (simp (disch := omega) only [IntWalk.i64_in, IntWalk.u8_in, IntWalk.u16_in, IntWalk.u32_in, IntWalk.u64_in]); try omega)⟩) ?_; simp only [Act.put, List.setIfInBounds_toArray, List.set_cons_zero, List.set_cons_succ])
      (refine At.take 2 (v := .pointer (some ⟨B, 0, none⟩)) rfl (by decide) (by kernel_rfl) (by kernel_rfl) HD.out (Or.inl ⟨by rfl, fun w hw => (by (repeat (obtain ⟨hw0, hw⟩ := hw)); go_simp; try (simp (disch := omega) only [IntWalk.i64_in, IntWalk.u8_in, IntWalk.u16_in, IntWalk.u32_in, IntWalk.u64_in]); try omega)⟩) ?_; simp only [Act.put, List.setIfInBounds_toArray, List.set_cons_zero, List.set_cons_succ])
      (refine At.take 3 (v := .pointer (some ⟨B, 0, none⟩)) rfl (by decide) (by kernel_rfl) (by kernel_rfl) HD.out (Or.inl ⟨by rfl, fun w hw => (by (repeat (obtain ⟨hw0, hw⟩ := hw)); go_simp; try (simp (disch := omega) only [IntWalk.i64_in, IntWalk.u8_in, IntWalk.u16_in, IntWalk.u32_in, IntWalk.u64_in]); try omega)⟩) ?_; simp only [Act.put, List.setIfInBounds_toArray, List.set_cons_zero, List.set_cons_succ])
      (refine At.take 4 (v := .pointer (some ⟨B, 0, none⟩)) rfl (by decide) (by kernel_rfl) (by kernel_rfl) HD.out (Or.inl ⟨by rfl, fun w hw => (by (repeat (obtain ⟨hw0, hw⟩ := hw)); go_simp; try (simp (disch := omega) only [IntWalk.i64_in, IntWalk.u8_in, IntWalk.u16_in, IntWalk.u32_in, IntWalk.u64_in]); try omega)⟩) ?_; simp only [Act.put, List.setIfInBounds_toArray, List.set_cons_zero, List.set_cons_succ])
      (refine At.take 5 (v := .pointer (some ⟨B, 0, none⟩)) rfl (by decide) (by kernel_rfl) (by kernel_rfl) HD.out (Or.inl ⟨by rfl, fun w hw => (by (repeat (obtain ⟨hw0, hw⟩ := hw)); go_simp; try (simp (disch := omega) only [IntWalk.i64_in, IntWalk.u8_in, IntWalk.u16_in, IntWalk.u32_in, IntWalk.u64_in]); try omega)⟩) ?_; simp only [Act.put, List.setIfInBounds_toArray, List.set_cons_zero, List.set_cons_succ])
      (refine At.take 6 (v := .slice (some ⟨g, 0, none⟩) l.length c) rfl (by decide) (by kernel_rfl) (by kernel_rfl) HD.out (Or.inl ⟨by rfl, fun w hw => (by (repeat (obtain ⟨hw0, hw⟩ := hw)); go_simp; try (simp (disch := omega) only [IntWalk.i64_in, IntWalk.u8_in, IntWalk.u16_in, IntWalk.u32_in, IntWalk.u64_in]); try omega)⟩) ?_; simp only [Act.put, List.setIfInBounds_toArray, List.set_cons_zero, List.set_cons_succ])
      (refine At.take 7 (v := .pointer (some ⟨B, 0, none⟩)) rfl (by decide) (by kernel_rfl) (by kernel_rfl) HD.out (Or.inl ⟨by rfl, fun w hw => (by (repeat (obtain ⟨hw0, hw⟩ := hw)); go_simp; try (simp (disch := omega) only [IntWalk.i64_in, IntWalk.u8_in, IntWalk.u16_in, IntWalk.u32_in, IntWalk.u64_in]); try omega)⟩) ?_; simp only [Act.put, List.setIfInBounds_toArray, List.set_cons_zero, List.set_cons_succ])
      (refine At.take 8 (v := .pointer (some ⟨B, 0, none⟩)) rfl (by decide) (by kernel_rfl) (by kernel_rfl) HD.out (Or.inl ⟨by rfl, fun w hw => (by (repeat (obtain ⟨hw0, hw⟩ := hw)); go_simp; try (simp (disch := omega) only [IntWalk.i64_in, IntWalk.u8_in, IntWalk.u16_in, IntWalk.u32_in, IntWalk.u64_in]); try omega)⟩) ?_; simp only [Act.put, List.setIfInBounds_toArray, List.set_cons_zero, List.set_cons_succ])
      (refine At.take 9 (v := .pointer (some ⟨B, 0, none⟩)) rfl (by decide) (by kernel_rfl) (by kernel_rfl) HD.out (Or.inl ⟨by rfl, fun w hw => (by (repeat (obtain ⟨hw0, hw⟩ := hw)); go_simp; try (simp (disch := omega) only [IntWalk.i64_in, IntWalk.u8_in, IntWalk.u16_in, IntWalk.u32_in, IntWalk.u64_in]); try omega)⟩) ?_; simp only [Act.put, List.setIfInBounds_toArray, List.set_cons_zero, List.set_cons_succ])
      (refine At.take 10 (v := .pointer (some ⟨B, 1, none⟩)) rfl (by decide) (by kernel_rfl) (by kernel_rfl) HD.out (Or.inl ⟨by rfl, fun w hw => (by (repeat (obtain ⟨hw0, hw⟩ := hw)); go_simp; try (simp (disch := omega) only [IntWalk.i64_in, IntWalk.u8_in, IntWalk.u16_in, IntWalk.u32_in, IntWalk.u64_in]); try omega)⟩) ?_; simp only [Act.put, List.setIfInBounds_toArray, List.set_cons_zero, List.set_cons_succ])
      (refine At.take 11 (v := .int .i64 p) rfl (by decide) (by kernel_rfl) (by kernel_rfl) HD.out (Or.inl ⟨by rfl, fun w hw => (by (repeat (obtain ⟨hw0, hw⟩ := hw)); go_simp; try (simp (disch := omega) only [IntWalk.i64_in, IntWalk.u8_in, IntWalk.u16_in, IntWalk.u32_in, IntWalk.u64_in]); try omega)⟩) ?_; simp only [Act.put, List.setIfInBounds_toArray, List.set_cons_zero, List.set_cons_succ])
      (refine At.take 12 (v := .int .i64 k) rfl (by decide) (by kernel_rfl) (by kernel_rfl) HD.out (Or.inl ⟨by rfl, fun w hw => (by (repeat (obtain ⟨hw0, hw⟩ := hw)); go_simp; try (simp (disch := omega) only [IntWalk.i64_in, IntWalk.u8_in, IntWalk.u16_in, IntWalk.u32_in, IntWalk.u64_in]); try omega)⟩) ?_; simp only [Act.put, List.setIfInBounds_toArray, List.set_cons_zero, List.set_cons_succ])
      (refine At.take 13 (v := .int .i64 ((p : Int) + k)) rfl (by decide) (by kernel_rfl) (by kernel_rfl) HD.out (Or.inl ⟨by rfl, fun w hw => (by (repeat (obtain ⟨hw0, hw⟩ := hw)); go_simp; try (simp (disch := omega) only [IntWalk.i64_in, IntWalk.u8_in, IntWalk.u16_in, IntWalk.u32_in, IntWalk.u64_in]); try omega)⟩) ?_; simp only [Act.put, List.setIfInBounds_toArray, List.set_cons_zero, List.set_cons_succ])
      (refine At.take 14 (v := .pointer (some ⟨g, p + k, none⟩)) rfl (by decide) (by kernel_rfl) (by kernel_rfl) HD.out (Or.inl ⟨by rfl, fun w hw => (by (repeat (obtain ⟨hw0, hw⟩ := hw)); go_simp; try (simp (disch := omega) only [IntWalk.i64_in, IntWalk.u8_in, IntWalk.u16_in, IntWalk.u32_in, IntWalk.u64_in]); try omega)⟩) ?_; simp only [Act.put, List.setIfInBounds_toArray, List.set_cons_zero, List.set_cons_succ])
      (refine At.take 15 (v := .int .u8 b) rfl (by decide) (by kernel_rfl) (by kernel_rfl) HD.out (Or.inl ⟨by rfl, fun w hw => (by (repeat (obtain ⟨hw0, hw⟩ := hw)); go_simp; try (simp (disch := omega) only [IntWalk.i64_in, IntWalk.u8_in, IntWalk.u16_in, IntWalk.u32_in, IntWalk.u64_in]); try omega)⟩) ?_; simp only [Act.put, List.setIfInBounds_toArray, List.set_cons_zero, List.set_cons_succ])
      refine At.tail (by kernel_rfl) ?_
      simp only [List.drop_succ_cons, List.drop_zero]
      gi_wp2_with (gi_at_call 162; refine (callsIn_wide.2 (HNUM.out wr.drew HXk.out)).mono ?_; rintro e' w' ⟨⟨v, rfl⟩, rfl⟩)
      refine NoPanic.normal ?_
      go_wp2
      go_roundw
      case rel =>
        refine ⟨k + 1, by omega, by go_num, ?_, ?_⟩
        · rw [HNX.out]
          exact (heap_setCell_same _ X 0 _ _ _ HXk.out).trans (by simp)
        · exact HSk.out.trans ⟨rfl, rfl, rfl, by simp, fun q hq hn => Below.heap_setCell _ _ _ _ (by show q ≠ X; omega)⟩
      case measure => simp [intOf]; omega
    · have hk' : k = n := by omega
      subst hk'
      have c0 := HR1.out.c0
      have c1 := HR1.out.c1
      have hBs : B < wr.heap.size := HR1.out.lt
      have fz := HR1.out.fz 1
      go_wp2
      refine bodyPost_end (v := .tuple #[]) (results_none rfl _ _ _) rfl ⟨⟨_, rfl⟩, ?_⟩
      refine ⟨HR1.out.put (p + k), ?_, HSk.out.os, HSk.out.tape, HSk.out.output, by simpa using HSk.out.size, fun q h1 h2 h3 => ?_⟩
      · exact (Below.heap_setCell _ _ _ _ (by show X ≠ B; omega)).trans HXk.out
      · exact (Below.heap_setCell _ _ _ _ h2).trans (HSk.out.block q h1 (by omega))
end Go.Proofs.Ytfjbanfibmpalaa

/- Contracts: numbers read; the words of data; the word at an offset. -/
set_option linter.unusedVariables false
set_option linter.unusedSimpArgs false
namespace Go.Proofs.Ytfjbanfibmpalaa
open Go.RowKit Go.Shelf

set_option maxHeartbeats 400000 in
theorem number_any (B : Nat) (R : Option Addr) (c : Nat) (l : List Nat) (p n : Nat) (w : World) (h : Rdr w B R c l p) (hp : p + n ≤ l.length) (hl : l.length ≤ 1000) (hb : ∀ y ∈ l, y < 256) (hn : n ≤ 8) :
    Calls Try.prog 151 #[.pointer (some ⟨B, 0, none⟩), .int .i64 n] w fun e w' => e = .returned (.int .u64 ((numL ((l.drop p).take n) : Nat) : Int)) ∧ Rdr w' B R c l (p + n) ∧ Step B (B + 1) w w' := by
  have hB := h.lt
  have HC := Lib.hid (fun W (hW : Rdr W B R c l p) (hX : W.heap[w.heap.size]? = some (.cells #[.int .u64 0] 44 (0, 0))) => look_any B R c l p n w.heap.size W hW hp hl hb hn hX hB)
  have HR := Lib.hid h
  generalize numL ((l.drop p).take n) = x at *
  clear h hp hl hb hn
  go_enter Try.func151, Try.ntmps151
  go_wp2_with (go_at_call 161; refine (HC.out _ (HR.out.below (N := w.heap.size) (by (repeat (first | with_reducible exact Below.refl _ _ | with_reducible assumption | ((with_reducible refine Below.setCell ?_ ?hp _); case hp => (first | omega | (simp only [World.size_alloc, World.size_setCell, World.size_drew]; omega) | (simp; done) | (simp; omega))) | ((with_reducible refine Below.alloc ?_ ?hp _); case hp => (first | omega | (simp only [World.size_alloc, World.size_setCell, World.size_drew]; omega) | (simp; done) | (simp; omega))) | with_reducible refine Below.drew ?_ | with_reducible refine below_drewN ?_ _))) hB) (heap_alloc_new w _)).mono ?_; rintro e w1 ⟨⟨v, rfl⟩, hr1, hx1, ho1, ht1, hp1, hs1, hk1⟩; have HR1 := Lib.hid hr1; have HX1 := Lib.hid hx1; have cx : w1.cell? ⟨w.heap.size, 0, none⟩ = some (.int .u64 x) := cell_of_row _ _ _ _ _ _ hx1; have HS1 := Lib.hid (show Step B (B + 1) w w1 from ⟨ho1, ht1, hp1, by (have := hs1; simp only [World.size_alloc] at this; omega), fun k hk hn => (hk1 k (by simp only [World.size_alloc]; omega) (by omega) (by omega)).trans (Below.heap_alloc w _ k hk)⟩); have hz : w.heap.size < w1.heap.size := (by have := hs1; simp only [World.size_alloc] at this; omega); clear hr1 hx1 ho1 ht1 hp1 hs1 hk1)
  go_ret
  exact ⟨rfl, HR1.out, HS1.out⟩

set_option maxRecDepth 100000 in
set_option maxHeartbeats 400000 in
theorem u32_any (B : Nat) (R : Option Addr) (c : Nat) (l : List Nat) (p : Nat) (w : World) (h : Rdr w B R c l p) (hp : p + 4 ≤ l.length) (hl : l.length ≤ 1000) (hb : ∀ y ∈ l, y < 256) :
    Calls Try.prog 127 #[.pointer (some ⟨B, 0, none⟩)] w fun e w' => e = .returned (.int .u32 ((numL ((l.drop p).take 4) : Nat) : Int)) ∧ Rdr w' B R c l (p + 4) ∧ Step B (B + 1) w w' := by
  have HC := Lib.hid (number_any B R c l p 4 w h hp hl hb (by omega))
  have hx : numL ((l.drop p).take 4) < 4294967296 := by
    have := numL_lt ((l.drop p).take 4) (fun y hy => hb y (List.mem_of_mem_drop (List.mem_of_mem_take hy)))
    rw [List.length_take, List.length_drop, Nat.min_eq_left (by omega)] at this
    exact this
  generalize numL ((l.drop p).take 4) = x at *
  have e1 : 0 ≤ (x : Int) := by omega
  have e2 : (x : Int) ≤ 4294967295 := by omega
  clear h hp hl hb hx
  go_enter Try.func127, Try.ntmps127
  go_wp2_with (go_at_call 151; refine HC.out.mono ?_; rintro e w1 ⟨rfl, hr1, hs1⟩)
  go_ret
  exact ⟨rfl, hr1, hs1⟩

set_option maxHeartbeats 400000 in
theorem u64_any (B : Nat) (R : Option Addr) (c : Nat) (l : List Nat) (p : Nat) (w : World) (h : Rdr w B R c l p) (hp : p + 8 ≤ l.length) (hl : l.length ≤ 1000) (hb : ∀ y ∈ l, y < 256) :
    Calls Try.prog 129 #[.pointer (some ⟨B, 0, none⟩)] w fun e w' => e = .returned (.int .u64 ((numL ((l.drop p).take 8) : Nat) : Int)) ∧ Rdr w' B R c l (p + 8) ∧ Step B (B + 1) w w' := by
  have HC := Lib.hid (number_any B R c l p 8 w h hp hl hb (by omega))
  generalize numL ((l.drop p).take 8) = x at *
  clear h hp hl hb
  go_enter Try.func129, Try.ntmps129
  go_wp2_with (go_at_call 151; refine HC.out.mono ?_; rintro e w1 ⟨rfl, hr1, hs1⟩)
  go_ret
  exact ⟨rfl, hr1, hs1⟩

/-- Sixteen words, the first k of them laid. -/
def wordsTo (d : Dt) (k : Nat) : Array Value := ((List.range 16).map fun i => Value.int .u32 ((if i < k then (wordsD d).getD i 0 else 0 : Nat) : Int)).toArray

theorem wordsTo_zero (d : Dt) : wordsTo d 0 = #[.int .u32 0, .int .u32 0, .int .u32 0, .int .u32 0, .int .u32 0, .int .u32 0, .int .u32 0, .int .u32 0, .int .u32 0, .int .u32 0, .int .u32 0, .int .u32 0, .int .u32 0, .int .u32 0, .int .u32 0, .int .u32 0] := by
  simp [wordsTo, List.range, List.range.loop]
theorem wordsTo_size (d : Dt) (k : Nat) : (wordsTo d k).size = 16 := by simp [wordsTo]
theorem wordsTo_set (d : Dt) (k : Nat) (hk : k < 16) : (wordsTo d k).setIfInBounds k (.int .u32 (((wordsD d).getD k 0 : Nat) : Int)) = wordsTo d (k + 1) := by
  refine Array.ext (by simp [wordsTo]) ?_
  intro i h1 h2
  rw [Array.getElem_setIfInBounds (by simpa using h1)]
  simp only [wordsTo, List.getElem_toArray, List.getElem_map, List.getElem_range]
  by_cases hi : k = i
  · subst hi; simp
  · rw [if_neg hi]
    have : i < k + 1 ↔ i < k := by omega
    simp only [this]

theorem below_row {B g : Nat} {w0 w : World} (hb : Below B w0 w) (hBg : B ≤ g) (cs : Array Value) : Below B w0 (w.setRow g cs) :=
  ⟨hb.os, hb.tape, hb.output, by simpa using hb.size, fun k hk => (setRow_other w g k cs (by omega)).trans (hb.block k hk)⟩

/-- An element of an array by value. -/
theorem run_index_arr {P : Program} (w : World) (t e : TypeId) (n : Nat) (cs : Array Value) (i : Nat) (v : Value) (z : Value) (h : P.underlying t = some (.array n e)) (hi : i < n) (he : (P.info? e).map (fun i => i.size) = some 1) (hagg : ∀ w, (isAgg e).run P w = .ok false w) (hv : cs[i]? = some v) :
    (Instr.index t (.agg cs) (.int .i64 i)).run P w = .ok v w := by
  cases hq : P.info? e with
  | none => simp [hq] at he
  | some inf =>
    have hs : inf.size = 1 := by simpa [hq] using he
    have h1 : (0 : Int) ≤ i := by omega
    have h2 : (i : Int) < n := by omega
    simp [Instr.index, run_underlying h, asIntOf, h1, h2, hi, sizeOf, typeInfo, hq, hs, part, hagg, hv, go_sem]

/-- The words as a value. -/
def wordsV (d : Dt) : Value := .agg (wordsTo d 16)

set_option maxRecDepth 100000 in
set_option maxHeartbeats 1000000 in
theorem words_any (d : Dt) (hd : d.Ok) (w : World) :
    Calls Try.prog 79 #[(Value.agg #[.int .u32 d.nr, .int .u32 d.arch, .int .u64 d.ip, .int .u64 d.a0, .int .u64 d.a1, .int .u64 d.a2, .int .u64 d.a3, .int .u64 d.a4, .int .u64 d.a5])] w fun e w' => e = .returned (wordsV d) ∧ Below w.heap.size w w' := by
  have HE := Lib.hid (fun W => encode_any d hd W)
  have HD := Lib.hid hd
  have HR := Lib.hid (fun A c W (h : EY.Rd W A (encL d)) => read_any A c (encL d) W h (by rw [encL_len]; decide) (fun e => by have := encL_len d; rw [e] at this; cases this))
  have HZ := Lib.hid (wordsTo_zero d)
  have HU := Lib.hid (fun B R c k W (h : Rdr W B R c (encL d) (4 * k)) (hk : k < 16) => u32_any B R c (encL d) (4 * k) W h (by rw [encL_len]; omega) (by rw [encL_len]; decide) (encL_lt d))
  have HL := Lib.hid (encL_len d)
  clear hd
  rw [HL.out] at HR
  go_enter Try.func79, Try.ntmps79
  go_wp2_with (first
    | (go_at_call 126; refine (HE.out _).mono ?_; rintro e w1 ⟨R1, c1, rfl, ho, hb⟩; have HO1 := Lib.hid ho; have hb1 := hb; have HB1 := Lib.hid hb; clear ho hb)
    | (go_at_call 125; refine (HR.out R1 c1 _ HO1.out.rd).mono ?_; rintro e w2 ⟨B, R2, c2, rfl, hB1, hB2, hr, hg2, hb⟩; have HG2 := Lib.hid hg2; clear hg2; have HR2 := Lib.hid hr; have HB2 := Lib.hid hb; clear hr hb))
  have hB3 : w.heap.size + 3 ≤ B := by have := HB1.out.size; simp at this; omega
  have hd1 : w2.heap[w.heap.size + 1]? = some (.cells #[.int .u32 0, .int .u32 0, .int .u32 0, .int .u32 0, .int .u32 0, .int .u32 0, .int .u32 0, .int .u32 0, .int .u32 0, .int .u32 0, .int .u32 0, .int .u32 0, .int .u32 0, .int .u32 0, .int .u32 0, .int .u32 0] 48 (0, 0)) := by
    rw [HB2.out.block _ (by have := HB1.out.size; simp at this; omega), HB1.out.block _ (by simp), Below.heap_alloc _ _ _ (by simp)]
    have := heap_alloc_new (w.alloc (.cells #[.int .u32 d.nr, .int .u32 d.arch, .int .u64 d.ip, .int .u64 d.a0, .int .u64 d.a1, .int .u64 d.a2, .int .u64 d.a3, .int .u64 d.a4, .int .u64 d.a5] 47)) (.cells #[.int .u32 0, .int .u32 0, .int .u32 0, .int .u32 0, .int .u32 0, .int .u32 0, .int .u32 0, .int .u32 0, .int .u32 0, .int .u32 0, .int .u32 0, .int .u32 0, .int .u32 0, .int .u32 0, .int .u32 0, .int .u32 0] 48)
    simpa using this
  have hd2 : w2.heap[w.heap.size + 2]? = some (.cells (wordsTo d 0) 48 (0, 0)) := by
    rw [HB2.out.block _ (by have := HB1.out.size; simp at this; omega), HB1.out.block _ (by simp), HZ.out]
    have := heap_alloc_new ((w.alloc (.cells #[.int .u32 d.nr, .int .u32 d.arch, .int .u64 d.ip, .int .u64 d.a0, .int .u64 d.a1, .int .u64 d.a2, .int .u64 d.a3, .int .u64 d.a4, .int .u64 d.a5] 47)).alloc (.cells #[.int .u32 0, .int .u32 0, .int .u32 0, .int .u32 0, .int .u32 0, .int .u32 0, .int .u32 0, .int .u32 0, .int .u32 0, .int .u32 0, .int .u32 0, .int .u32 0, .int .u32 0, .int .u32 0, .int .u32 0, .int .u32 0] 48)) (.cells #[.int .u32 0, .int .u32 0, .int .u32 0, .int .u32 0, .int .u32 0, .int .u32 0, .int .u32 0, .int .u32 0, .int .u32 0, .int .u32 0, .int .u32 0, .int .u32 0, .int .u32 0, .int .u32 0, .int .u32 0, .int .u32 0] 48)
    simpa using this
  have hbw : Below w.heap.size w w2 := ((((Below.refl _ w).alloc (Nat.le_refl _) _).alloc (by simp) _).alloc (by simp; omega) _).trans ((HB1.out.trans (HB2.out.mono HB1.out.size)).mono (by simp; omega))
  have HD1 := Lib.hid hd1
  have HD2 := Lib.hid hd2
  have HBW := Lib.hid hbw
  have HG3 := Lib.hid (fun g e => show w.heap.size + 2 ≠ g by have := HG2.out g e; have := HB1.out.size; simp at this; omega)
  clear hd1 hd2 hbw hb1 HB1 HB2 HG2
  go_loopw [5, 9] (fun t5 i wr => ∃ k : Nat, k ≤ 16 ∧ i = .int .i64 k ∧ wr.heap[w.heap.size + 1]? = some (.cells #[.int .u32 0, .int .u32 0, .int .u32 0, .int .u32 0, .int .u32 0, .int .u32 0, .int .u32 0, .int .u32 0, .int .u32 0, .int .u32 0, .int .u32 0, .int .u32 0, .int .u32 0, .int .u32 0, .int .u32 0, .int .u32 0] 48 (0, 0)) ∧ wr.heap[w.heap.size + 2]? = some (.cells (wordsTo d k) 48 (0, 0)) ∧ Rdr wr B R2 c2 (encL d) (4 * k) ∧ Below w.heap.size w wr) (fun _ i _ => 16 - (intOf i).toNat)
  case atStart => exact ⟨0, by omega, rfl, HD1.out, HD2.out, HR2.out, HBW.out⟩
  case round =>
    obtain ⟨k, hk, rfl, h1, h2, hr, hb⟩ := hrel
    have H1 := Lib.hid h1
    have H2 := Lib.hid h2
    have HRR := Lib.hid hr
    have HBB := Lib.hid hb
    have hBl := hr.lt
    clear h1 h2 hr hb
    by_cases hlt : k < 16
    · have HUK := Lib.hid (HU.out B R2 c2 k wr HRR.out hlt)
      rw [show numL (((encL d).drop (4 * k)).take 4) = (wordsD d).getD k 0 by rw [chunk_enc d k hlt]; exact numL_word (by
        rw [List.getD_eq_getElem?_getD, List.getElem?_eq_getElem (by rw [wordsD_len]; exact hlt)]; exact wordsD_lt HD.out _ (List.getElem_mem _))] at HUK
      have HST := Lib.hid (wordsTo_set d k hlt)
      generalize (wordsD d).getD k 0 = y at *
      go_wp2_with (go_at_call 127; refine HUK.out.mono ?_; rintro e w3 ⟨rfl, hr, hs⟩; have HR3 := Lib.hid hr; have HS3 := Lib.hid hs; have hx3 : w3.heap[w.heap.size + 2]? = some (.cells (wordsTo d k) 48 (0, 0)) := (hs.block _ (by omega) (by omega)).trans H2.out; have HX3 := Lib.hid hx3; have hf3 : w3.frozen? ⟨w.heap.size + 2, k, none⟩ = false := (by simp [World.frozen?, hx3]); have hz3 := hs.size; obtain ⟨v3, hc3⟩ : ∃ v, w3.cell? ⟨w.heap.size + 2, k, none⟩ = some v := ⟨_, (cell_of_row w3 _ k _ _ _ hx3).trans (Array.getElem?_eq_getElem (by rw [wordsTo_size]; exact hlt))⟩; clear hr hs hx3)
      go_roundw
      case rel =>
        refine ⟨k + 1, by omega, by go_num, ?_, ?_, ?_, ?_⟩
        · exact (Below.heap_setCell _ _ _ _ (by show w.heap.size + 1 ≠ w.heap.size + 1 + 1; omega)).trans ((HS3.out.block _ (by omega) (by omega)).trans H1.out)
        · rw [← HST.out]
          exact heap_setCell_same w3 (w.heap.size + 2) k _ _ _ HX3.out
        · exact HR3.out.set_other (by show w.heap.size + 1 + 1 ≠ B; omega) (fun g e => HG3.out g e) _
        · exact (HBB.out.trans (HS3.out.below (by omega) (by omega))).setCell (by show w.heap.size ≤ w.heap.size + 1 + 1; omega) _
      case measure => simp [intOf]; omega
    · have hk' : k = 16 := by omega
      subst hk'
      have hs1 := wordsTo_size d 16
      have hu : wordsTo d 16 = ((List.range 16).map fun i => Value.int .u32 ((if i < 16 then (wordsD d).getD i 0 else 0 : Nat) : Int)).toArray := rfl
      have hone : (wordsTo d 16).all (·.oneCell') = true := by
        rw [hu, List.all_toArray, List.all_eq_true]
        intro v hv
        obtain ⟨i, _, rfl⟩ := List.mem_map.1 hv
        rfl
      have HONE := Lib.hid hone
      have hi : (Try.prog.info? 48).map (·.size) = some (wordsTo d 16).size := by rw [hs1]; kernel_rfl
      have HI := Lib.hid hi
      clear hu hone hs1 hi
      go_wp2_with (first
        | (refine wpList_load_row rfl 48 (.tmp 3) rfl (w.heap.size + 2) rfl 48 (wordsTo d 16) (0, 0) _ H2.out Try.underlying48 rfl HI.out ?_; go_simp)
        | (refine wpList_store_row rfl 48 (.tmp 2) (.tmp 17) rfl (w.heap.size + 1) (wordsTo d 16) rfl rfl 48 _ H1.out HI.out (by rw [wordsTo_size]; rfl) HONE.out ?_; go_simp))
      exact bodyPost_ret (results_cell_row rfl _ _ (w.heap.size + 1) 48 (wordsTo d 16) (0, 0) _ rfl (setRow_heap _ _ _ _ _ _ H1.out) Try.underlying48 rfl HI.out) rfl ⟨rfl, below_row HBB.out (by omega) _⟩

set_option maxHeartbeats 400000 in
theorem place_good (k : Nat) (w : World) (hk : placeOk k = true) :
    Calls Try.prog 78 #[.int .u32 k] w fun e w' => e = .returned (.tuple #[.int .i64 ((k / 4 : Nat) : Int), .int .i64 0]) ∧ w = w' := by
  have hk' : k % 4 = 0 ∧ k ≤ 60 := by simpa [placeOk] using hk
  obtain ⟨j, rfl⟩ : ∃ j, k = 4 * j := ⟨k / 4, by omega⟩
  have t1 : ((4 * j : Nat) : Int) % 4 = 0 := by omega
  have t2 : ¬ (60 < ((4 * j : Nat) : Int)) := by omega
  have t3 : ((4 * j : Nat) : Int) / 4 = j := by omega
  have t4 : 4 * j / 4 = j := by omega
  have t5 : 0 ≤ (j : Int) := by omega
  rw [t4]
  have hj : j ≤ 15 := by omega
  clear hk' hk t4
  go_enter Try.func78, Try.ntmps78
  go_wp2
  go_ret2
  exact ⟨rfl, rfl⟩

set_option maxHeartbeats 400000 in
theorem place_bad (k : Nat) (w : World) (hk : placeOk k = false) :
    Calls Try.prog 78 #[.int .u32 k] w fun e w' => e = .returned (.tuple #[.int .i64 0, .int .i64 2]) ∧ w = w' := by
  have hk' : k % 4 ≠ 0 ∨ 60 < k := by
    have : ¬ (k % 4 = 0 ∧ k ≤ 60) := by simpa [placeOk] using hk
    omega
  clear hk
  go_enter Try.func78, Try.ntmps78
  go_wp2
  all_goals
    go_ret2
    exact ⟨rfl, rfl⟩

theorem isAgg_u32 (w : World) : (isAgg 33).run Try.prog w = .ok false w := by
  unfold isAgg
  rw [Sem.run_bind, run_underlying Try.underlying33 w]
  rfl

theorem words_at (d : Dt) (j : Nat) (hj : j < 16) (w : World) : (Instr.index 48 (wordsV d) (.int .i64 j)).run Try.prog w = .ok (.int .u32 (((wordsD d).getD j 0 : Nat) : Int)) w :=
  run_index_arr w _ 33 16 _ j _ undef Try.underlying48 hj (by kernel_rfl) isAgg_u32 (by simp [wordsTo, hj])

set_option maxHeartbeats 400000 in
theorem word_good (d : Dt) (hd : d.Ok) (k : Nat) (w : World) (hk : placeOk k = true) :
    Calls Try.prog 43 #[(Value.agg #[.int .u32 d.nr, .int .u32 d.arch, .int .u64 d.ip, .int .u64 d.a0, .int .u64 d.a1, .int .u64 d.a2, .int .u64 d.a3, .int .u64 d.a4, .int .u64 d.a5]), .int .u32 k] w fun e w' => e = .returned (.tuple #[.int .u32 ((wordD d k : Nat) : Int), .int .i64 0]) ∧ Below w.heap.size w w' := by
  have HP := Lib.hid (fun W => place_good k W hk)
  have HW := Lib.hid (fun W => words_any d hd W)
  have hk' : k % 4 = 0 ∧ k ≤ 60 := by simpa [placeOk] using hk
  have HI := words_at d (k / 4) (by omega)
  have HD := Lib.hid (show (wordsD d).getD (k / 4) 0 = wordD d k from rfl)
  rw [HD.out] at HI
  generalize wordD d k = y at *
  generalize k / 4 = j at *
  generalize wordsV d = v at *
  clear hd hk hk' HD
  go_enter Try.func43, Try.ntmps43
  go_wp2_with (first
    | (go_at_call 78; refine (HP.out _).mono ?_; rintro e w1 ⟨rfl, rfl⟩)
    | (go_at_call 79; refine (HW.out _).mono ?_; rintro e w2 ⟨rfl, hb⟩; have HB2 := Lib.hid hb; clear hb))
  go_ret2
  exact ⟨rfl, Below.trans (by (repeat (first | with_reducible exact Below.refl _ _ | with_reducible assumption | ((with_reducible refine Below.setCell ?_ ?hp _); case hp => (first | omega | (simp only [World.size_alloc, World.size_setCell, World.size_drew]; omega) | (simp; done) | (simp; omega))) | ((with_reducible refine Below.alloc ?_ ?hp _); case hp => (first | omega | (simp only [World.size_alloc, World.size_setCell, World.size_drew]; omega) | (simp; done) | (simp; omega))) | with_reducible refine Below.drew ?_ | with_reducible refine below_drewN ?_ _))) (HB2.out.mono (by simp))⟩

set_option maxHeartbeats 400000 in
theorem word_bad (d : Dt) (k : Nat) (w : World) (hk : placeOk k = false) :
    Calls Try.prog 43 #[(Value.agg #[.int .u32 d.nr, .int .u32 d.arch, .int .u64 d.ip, .int .u64 d.a0, .int .u64 d.a1, .int .u64 d.a2, .int .u64 d.a3, .int .u64 d.a4, .int .u64 d.a5]), .int .u32 k] w fun e w' => e = .returned (.tuple #[.int .u32 0, .int .i64 2]) ∧ Below w.heap.size w w' := by
  have HP := Lib.hid (fun W => place_bad k W hk)
  clear hk
  go_enter Try.func43, Try.ntmps43
  go_wp2_with (go_at_call 78; refine (HP.out _).mono ?_; rintro e w1 ⟨rfl, rfl⟩)
  go_ret2
  exact ⟨rfl, by (repeat (first | with_reducible exact Below.refl _ _ | with_reducible assumption | ((with_reducible refine Below.setCell ?_ ?hp _); case hp => (first | omega | (simp only [World.size_alloc, World.size_setCell, World.size_drew]; omega) | (simp; done) | (simp; omega))) | ((with_reducible refine Below.alloc ?_ ?hp _); case hp => (first | omega | (simp only [World.size_alloc, World.size_setCell, World.size_drew]; omega) | (simp; done) | (simp; omega))) | with_reducible refine Below.drew ?_ | with_reducible refine below_drewN ?_ _))⟩
end Go.Proofs.Ytfjbanfibmpalaa

/- Words: whole rows loaded and stored within a fence. -/
set_option linter.unusedVariables false
set_option linter.unusedSimpArgs false
namespace Go.Proofs.Ytfjbanfibmpalaa
open Go.RowKit Go.Shelf

section
variable {P : Program} {F : Fence} {n : Nat}
theorem wpListIn_load_row {ops : Array Oper} {rest : List Oper} {o : Oper} {a : Act} {w : World} {Q : Exit → Act → World → Prop} (hgd : o.guard = none) (ty : TypeId) (x : Operand) (ho : o.op = .load ty x)
    (g : Nat) (hx : a.eval x = .pointer (some ⟨g, 0, none⟩)) (t : TypeId) (cs : Array Value) (fr : Nat × Nat) (d : TypeDesc) (hg : w.heap[g]? = some (.cells cs t fr))
    (hu : P.underlying ty = some d) (hd : (match d with | .struct _ | .array _ _ => true | _ => false) = true) (hi : (P.info? ty).map (·.size) = some cs.size)
    (h : wpListIn F n P ops Q rest (a.put o.dst (.agg cs)) w) : wpListIn F n P ops Q (o :: rest) a w := by
  refine wpListIn_plain hgd fun K hK => ⟨fun f hf => ?_, ?_⟩
  · simp [Oper.about, ho] at hf
  · rw [Oper.semAt_eq _ _ _ (by intro c hc; rw [ho] at hc; cases hc)]
    unfold execOp
    simp only [ho, hx, Instr.loadAt, Instr.sureAddr, Sem.run_bind, Sem.run_pure, Result.andThen_ok, run_loadVar_row w g t ty cs fr d hg hu hd hi]
    exact hK _ _ h

theorem wpListIn_store_row {ops : Array Oper} {rest : List Oper} {o : Oper} {a : Act} {w : World} {Q : Exit → Act → World → Prop} (hgd : o.guard = none) (ty : TypeId) (x y : Operand) (ho : o.op = .store ty x y)
    (g : Nat) (cells : Array Value) (hx : a.eval x = .pointer (some ⟨g, 0, none⟩)) (hy : a.eval y = .agg cells)
    (t : TypeId) (old : Array Value) (hg : w.heap[g]? = some (.cells old t (0, 0))) (hi : (P.info? ty).map (·.size) = some cells.size)
    (hold : old.size = cells.size) (h1 : cells.all (·.oneCell') = true)
    (h : wpListIn F n P ops Q rest (a.put o.dst undef) (w.setRow g cells)) : wpListIn F n P ops Q (o :: rest) a w := by
  refine wpListIn_plain hgd fun K hK => ⟨fun f hf => ?_, ?_⟩
  · simp [Oper.about, ho] at hf
  · rw [Oper.semAt_eq _ _ _ (by intro c hc; rw [ho] at hc; cases hc)]
    unfold execOp
    simp only [ho, hx, hy, Instr.storeAt, Instr.sureAddr, Sem.run_bind, Sem.run_pure, Result.andThen_ok, run_storeVar_row w g t ty old cells hg hi hold h1]
    exact hK _ _ h
theorem exec_load_row {o : Oper} {a : Act} {w : World} (ty : TypeId) (x : Operand) (ho : o.op = .load ty x) (g : Nat) (hx : a.eval x = .pointer (some ⟨g, 0, none⟩)) (t : TypeId) (cs : Array Value) (fr : Nat × Nat) (d : TypeDesc)
    (hg : w.heap[g]? = some (.cells cs t fr)) (hu : P.underlying ty = some d) (hd : (match d with | .struct _ | .array _ _ => true | _ => false) = true) (hi : (P.info? ty).map (·.size) = some cs.size) :
    (execOp a.eval o).run P w = .ok (.value (.agg cs)) w := by
  unfold execOp
  simp only [ho, hx, Instr.loadAt, Instr.sureAddr, Sem.run_bind, Sem.run_pure, Result.andThen_ok, run_loadVar_row w g t ty cs fr d hg hu hd hi]
end
end Go.Proofs.Ytfjbanfibmpalaa

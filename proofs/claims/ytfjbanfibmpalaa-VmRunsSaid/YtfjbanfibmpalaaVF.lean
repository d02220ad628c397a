/- VF -/
import Derived.Test.YtfjbanfibmpalaaVA
import Derived.Test.YtfjbanfibmpalaaVB
import Derived.Deep.RegionHeld3
import Derived.BigQuiet
import Derived.Deep.QuietTactic
import Derived.Test.YtfjbanfibmpalaaVD

/- Contracts: the reference's numbers as bytes, and bytes as a number. -/
set_option linter.unusedVariables false
set_option linter.unusedSimpArgs false
namespace Go.Proofs.Ytfjbanfibmpalaa
open Go.RowKit Go.Shelf

theorem byte_at (x k : Nat) : (x : Int) / 2 ^ (8 * k) % 256 = ((x / 256 ^ k % 256 : Nat) : Int) := by
  rw [Int.pow_mul, show ((2 : Int) ^ 8) = 256 by decide]
  simp

set_option maxRecDepth 100000 in
set_option maxHeartbeats 400000 in
theorem rlow_any (x n : Nat) (w : World) (hx : x < 18446744073709551616) (hn : n ≤ 8) :
    Calls Try.prog 148 #[.int .u64 x, .int .i64 n] w fun e w' => ∃ A c, e = .returned (.slice A n c) ∧ EY.Own 5 w' w.heap.size A c (lowL n x) ∧ Below w.heap.size w w' := by
  go_enter Try.func148, Try.ntmps148
  go_wp2
  go_loopw [5, 6] (fun out i wr => ∃ (k : Nat) (R : Option Addr) (c : Nat), k ≤ n ∧ i = .int .i64 k ∧ out = .slice R (lowL k x).length c ∧ EY.Own 5 wr w.heap.size R c (lowL k x) ∧ Below w.heap.size w wr) (fun _ i _ => n - (intOf i).toNat)
  case atStart => exact ⟨0, none, 0, by omega, rfl, rfl, Enc.Own.nil, Below.refl _ _⟩
  case round =>
    obtain ⟨k, R, c, hk, rfl, rfl, ho, hb⟩ := hrel
    have HO := Lib.hid ho
    have HB := Lib.hid hb
    have hsz := hb.size
    clear ho hb
    by_cases hlt : k < n
    · have HS := Lib.hid (show lowL (k + 1) x = lowL k x ++ [x / 256 ^ k % 256] from lowL_snoc k x)
      have hll : (lowL k x).length ≤ 8 := by rw [lowL_len]; omega
      generalize lowL k x = q at *
      have HE := Lib.hid (show #[Value.int IntKind.u8 ((x : Int) / 2 ^ (8 * k) % 256)] = (EY.enc (x / 256 ^ k % 256)).toArray by
        show #[Value.int IntKind.u8 ((x : Int) / 2 ^ (8 * k) % 256)] = #[Value.int IntKind.u8 ((x / 256 ^ k % 256 : Nat) : Int)]
        rw [byte_at])
      go_wp2_with (at_builtin; refine wpList_append_L EY 5 122 rfl (.tmp 12) (.tmp 18) rfl _ 1 Try.underlying122 info_byte rfl (by decide) _ w.heap.size R c q rfl (HO.out.below (by (repeat (first | with_reducible exact Below.refl _ _ | with_reducible assumption | ((with_reducible refine Below.setCell ?_ ?hp _); case hp => (first | omega | (simp only [World.size_alloc, World.size_setCell, World.size_drew]; omega) | (simp; done) | (simp; omega))) | ((with_reducible refine Below.alloc ?_ ?hp _); case hp => (first | omega | (simp only [World.size_alloc, World.size_setCell, World.size_drew]; omega) | (simp; done) | (simp; omega))) | with_reducible refine Below.drew ?_ | with_reducible refine below_drewN ?_ _))) (Nat.le_refl _)) (some ⟨wr.heap.size, 0, none⟩) 1 [x / 256 ^ k % 256] rfl (Enc.Rd.one_at EY _ _ _ _ HE.out _ rfl) (by show q.length + 1 ≤ _; omega) (by decide) (by simp only [World.size_alloc]; omega) ?_; intro R' c' w3 hown3 hg hat)
      go_roundw
      case rel =>
        refine ⟨k + 1, R', c', by omega, by go_num, ?_, ?_, ?_⟩
        · rw [HS.out]; simp
        · rw [HS.out]; exact hown3
        · exact below_append (HB.out.alloc hsz _) (HO.out.below (by (repeat (first | with_reducible exact Below.refl _ _ | with_reducible assumption | ((with_reducible refine Below.setCell ?_ ?hp _); case hp => (first | omega | (simp only [World.size_alloc, World.size_setCell, World.size_drew]; omega) | (simp; done) | (simp; omega))) | ((with_reducible refine Below.alloc ?_ ?hp _); case hp => (first | omega | (simp only [World.size_alloc, World.size_setCell, World.size_drew]; omega) | (simp; done) | (simp; omega))) | with_reducible refine Below.drew ?_ | with_reducible refine below_drewN ?_ _))) (Nat.le_refl _)) hg (by (first | omega | (simp only [World.size_alloc, World.size_setCell, World.size_drew]; omega) | (simp; done) | (simp; omega)))
      case measure => simp [intOf]; omega
    · have hk' : k = n := by omega
      subst hk'
      go_wp2
      go_ret
      refine ⟨R, c, ?_, HO.out, HB.out⟩
      show Ending.returned (Value.slice R (lowL k x).length c) = _
      rw [lowL_len]

set_option maxRecDepth 100000 in
set_option maxHeartbeats 400000 in
theorem rboth_any (A B : Option Addr) (c d : Nat) (l m : List Nat) (w : World) (hl : EY.Rd w A l) (hm : EY.Rd w B m) (h1 : l.length ≤ 1000) (h2 : m.length ≤ 1000) :
    Calls Try.prog 147 #[.slice A l.length c, .slice B m.length d] w fun e w' => ∃ R q, e = .returned (.slice R (l.length + m.length) q) ∧ EY.Own 5 w' w.heap.size R q (l ++ m) ∧ Below w.heap.size w w' := by
  have HL := Lib.hid (hl.below (B := w.heap.size) (w' := w.alloc (.cells #[] 5)) (by (repeat (first | with_reducible exact Below.refl _ _ | with_reducible assumption | ((with_reducible refine Below.setCell ?_ ?hp _); case hp => (first | omega | (simp only [World.size_alloc, World.size_setCell, World.size_drew]; omega) | (simp; done) | (simp; omega))) | ((with_reducible refine Below.alloc ?_ ?hp _); case hp => (first | omega | (simp only [World.size_alloc, World.size_setCell, World.size_drew]; omega) | (simp; done) | (simp; omega))) | with_reducible refine Below.drew ?_ | with_reducible refine below_drewN ?_ _))) (Nat.le_refl _))
  have HM := Lib.hid (fun W (h : Below w.heap.size w W) => hm.below h (Nat.le_refl _))
  clear hl hm
  go_enter Try.func147, Try.ntmps147
  go_wp2_with (first
    | (at_builtin; refine wpList_append_L EY 5 122 rfl (.tmp 5) (.tmp 6) rfl _ 1 Try.underlying122 info_byte rfl (by decide) _ w.heap.size (some ⟨w.heap.size, 0, none⟩) 0 [] rfl (Enc.Own.fresh EY w _) A c l rfl HL.out (by simp; omega) (by decide) (by simp) ?_; intro R1 c1 w1 hown hg hat; have HB1 := Lib.hid (below_append (show Below w.heap.size w _ by (repeat (first | with_reducible exact Below.refl _ _ | with_reducible assumption | ((with_reducible refine Below.setCell ?_ ?hp _); case hp => (first | omega | (simp only [World.size_alloc, World.size_setCell, World.size_drew]; omega) | (simp; done) | (simp; omega))) | ((with_reducible refine Below.alloc ?_ ?hp _); case hp => (first | omega | (simp only [World.size_alloc, World.size_setCell, World.size_drew]; omega) | (simp; done) | (simp; omega))) | with_reducible refine Below.drew ?_ | with_reducible refine below_drewN ?_ _))) (Enc.Own.fresh EY w _) hg (by simp)); have HO1 := Lib.hid hown; clear hown hg hat)
    | (at_builtin; refine wpList_append_L EY 5 122 rfl (.tmp 7) (.tmp 8) rfl _ 1 Try.underlying122 info_byte rfl (by decide) _ w.heap.size R1 c1 ([] ++ l) rfl HO1.out B d m rfl (HM.out _ HB1.out) (by simp; omega) (by decide) (HB1.out.size) ?_; intro R2 c2 w2 hown hg hat; have HB2 := Lib.hid (below_append HB1.out HO1.out hg HB1.out.size); have HO2 := Lib.hid hown; clear hown hg hat))
  go_ret
  refine ⟨R2, c2, ?_, HO2.out, HB2.out⟩
  simp

theorem numL_cons (b : Nat) (l : List Nat) : numL (b :: l) = b + 256 * numL l := rfl

set_option maxRecDepth 100000 in
set_option maxHeartbeats 400000 in
theorem rnumber_any (b o c : Nat) (l : List Nat) (w : World) (hl : EY.at_ w b o l) (h1 : l.length ≤ 8) (hb : ∀ y ∈ l, y < 256) :
    Calls Try.prog 120 #[.slice (some ⟨b, o, none⟩) l.length c] w fun e w' => e = .returned (.int .u64 (numL l : Int)) ∧ w = w' := by
  have HL := Lib.hid hl
  have HB := Lib.hid hb
  clear hl hb
  go_enter Try.func120, Try.ntmps120
  go_wp2
  go_loop [3, 4] (fun x i => ∃ k : Nat, k ≤ l.length ∧ i = .int .i64 ((k : Int) - 1) ∧ x = .int .u64 (numL (l.drop k) : Int)) (fun _ i => (intOf i + 1).toNat)
  case atStart => exact ⟨l.length, by omega, rfl, by simp [numL]⟩
  case round =>
    obtain ⟨k, hk, rfl, rfl⟩ := hrel
    by_cases hlt : 0 < k
    · obtain ⟨j, rfl⟩ : ∃ j, k = j + 1 := ⟨k - 1, by omega⟩
      have hj : j < l.length := by omega
      have hcell : w.cell? ⟨b, o + j, none⟩ = some (.int .u8 (l[j] : Int)) := by
        have := HL.out j hj 0 _ rfl
        rw [show o + j * EY.size + 0 = o + j by show o + j * 1 + 0 = _; omega] at this
        exact this
      have HD := Lib.hid (show numL (l.drop j) = l[j] + 256 * numL (l.drop (j + 1)) by rw [List.drop_eq_getElem_cons hj]; rfl)
      have hy := HB.out l[j] (List.getElem_mem hj)
      have hz : numL (l.drop (j + 1)) < 72057594037927936 := by
        refine Nat.lt_of_lt_of_le (numL_lt _ (fun y hy => HB.out y (List.mem_of_mem_drop hy))) ?_
        have : (l.drop (j + 1)).length ≤ 7 := by rw [List.length_drop]; omega
        calc 256 ^ (l.drop (j + 1)).length ≤ 256 ^ 7 := Nat.pow_le_pow_right (by decide) this
          _ = 72057594037927936 := by decide
      generalize numL (l.drop (j + 1)) = z at *
      generalize l[j] = y at *
      go_wp2
      go_round
      case rel => exact ⟨j, by omega, rfl, by rw [HD.out]; congr 1; omega⟩
      case measure => simp [intOf]
    · obtain rfl : k = 0 := by omega
      go_wp2
      go_ret
      exact ⟨rfl, rfl⟩
end Go.Proofs.Ytfjbanfibmpalaa

/- Contracts: the reference's data as bytes, and a word of it. -/
set_option linter.unusedVariables false
set_option linter.unusedSimpArgs false
namespace Go.Proofs.Ytfjbanfibmpalaa
open Go.RowKit Go.Shelf

set_option maxRecDepth 100000 in
set_option maxHeartbeats 1000000 in
theorem rbytes_any (d : Dt) (hd : d.Ok) (w : World) :
    Calls Try.prog 121 #[(Value.agg #[.int .u32 d.nr, .int .u32 d.arch, .int .u64 d.ip, .int .u64 d.a0, .int .u64 d.a1, .int .u64 d.a2, .int .u64 d.a3, .int .u64 d.a4, .int .u64 d.a5])] w fun e w' => ∃ A c, e = .returned (.slice A 64 c) ∧ EY.Own 5 w' w.heap.size A c (encL d) ∧ Below w.heap.size w w' := by
  obtain ⟨q0, q1, q2, q3, q4, q5, q6, q7, q8⟩ := hd
  have PL := Lib.hid (fun (x n : Nat) (w : World) hx hn => rlow_any x n w hx hn)
  have PB := Lib.hid (fun (A B : Option Addr) (c d : Nat) (l m : List Nat) (w : World) => rboth_any A B c d l m w)
  have hwf : ∀ k, Fence.wide.fn k := fun _ => trivial
  have hwd : Fence.wide.depth = none := rfl
  have Q := Lib.hid (And.intro q0 (And.intro q1 (And.intro q2 (And.intro q3 (And.intro q4 (And.intro q5 (And.intro q6 (And.intro q7 q8))))))))
  have n0 : (d.nr : Int) ≤ 18446744073709551615 := by omega
  have n1 : (d.arch : Int) ≤ 18446744073709551615 := by omega
  have n2 : (0 : Int) ≤ (d.nr : Int) := by omega
  have n3 : (0 : Int) ≤ (d.arch : Int) := by omega
  obtain ⟨nr, arch, ip, a0, a1, a2, a3, a4, a5⟩ := d
  clear q0 q1 q2 q3 q4 q5 q6 q7 q8
  go_enter Try.func121, Try.ntmps121
  go_wp2
  obtain ⟨w0, hw0⟩ : ∃ w0, w.alloc (.cells #[.int .u32 nr, .int .u32 arch, .int .u64 ip, .int .u64 a0, .int .u64 a1, .int .u64 a2, .int .u64 a3, .int .u64 a4, .int .u64 a5] 47) = w0 := ⟨_, rfl⟩
  have hbx : w0.heap[w.heap.size]? = some (.cells #[.int .u32 nr, .int .u32 arch, .int .u64 ip, .int .u64 a0, .int .u64 a1, .int .u64 a2, .int .u64 a3, .int .u64 a4, .int .u64 a5] 47 (0, 0)) := by rw [← hw0]; exact heap_alloc_new w _
  have hs0 : w0.heap.size = w.heap.size + 1 := by rw [← hw0]; simp
  have hb0 : Below w.heap.size w w0 := by rw [← hw0]; (repeat (first | with_reducible exact Below.refl _ _ | with_reducible assumption | ((with_reducible refine Below.setCell ?_ ?hp _); case hp => (first | omega | (simp only [World.size_alloc, World.size_setCell, World.size_drew]; omega) | (simp; done) | (simp; omega))) | ((with_reducible refine Below.alloc ?_ ?hp _); case hp => (first | omega | (simp only [World.size_alloc, World.size_setCell, World.size_drew]; omega) | (simp; done) | (simp; omega))) | with_reducible refine Below.drew ?_ | with_reducible refine below_drewN ?_ _))
  have HS := Lib.hid (fun W (h : Below w0.heap.size w0 W) => (show W.cell? ⟨w.heap.size, 0, none⟩ = some (.int .u32 nr) ∧ W.cell? ⟨w.heap.size, 1, none⟩ = some (.int .u32 arch) from
    ⟨cell_of_row _ _ _ _ _ _ ((h.block _ (by omega)).trans hbx), cell_of_row _ _ _ _ _ _ ((h.block _ (by omega)).trans hbx)⟩))
  have HBX := Lib.hid hbx
  have HB0 := Lib.hid hb0
  clear hbx hb0
  rw [hw0]
  clear hw0
  have HD := Lib.hid (HS.out w0.drew (by (repeat (first | with_reducible exact Below.refl _ _ | with_reducible assumption | ((with_reducible refine Below.setCell ?_ ?hp _); case hp => (first | omega | (simp only [World.size_alloc, World.size_setCell, World.size_drew]; omega) | (simp; done) | (simp; omega))) | ((with_reducible refine Below.alloc ?_ ?hp _); case hp => (first | omega | (simp only [World.size_alloc, World.size_setCell, World.size_drew]; omega) | (simp; done) | (simp; omega))) | with_reducible refine Below.drew ?_ | with_reducible refine below_drewN ?_ _))))
  have hz0 : w.heap.size < w0.heap.size := by omega
  refine wp_region_noPanic ?_
  refine (wpIn_wide (n := 0)).1 ?_
  (refine region_at 9 (fun W => W.cell? ⟨w.heap.size, 0, none⟩ = some (.int .u32 nr) ∧ W.cell? ⟨w.heap.size, 1, none⟩ = some (.int .u32 arch)) (fun _ => trivial) (by kernel_rfl) (by kernel_rfl) (by kernel_rfl) (by kernel_rfl) (by kernel_rfl) (by kernel_rfl) (fun _ _ _ _ h => h) ?_)
  (refine At.take 0 (v := .pointer (some ⟨w.heap.size, 0, none⟩)) rfl (by decide) (by kernel_rfl) (by kernel_rfl) HD.out (Or.inl ⟨by rfl, fun w hw => (by (repeat (obtain ⟨hw0, hw⟩ := hw)); go_simp; try (simp (disch := omega) only [IntWalk.i64_in, IntWalk.u8_in, IntWalk.u16_in, IntWalk.u32_in, IntWalk.u64_in]); try omega)⟩) ?_; simp only [Act.put, List.setIfInBounds_toArray, List.set_cons_zero, List.set_cons_succ])
  (refine At.take 1 (v := .int .u32 nr) rfl (by decide) (by kernel_rfl) (by kernel_rfl) HD.out (Or.inl ⟨by rfl, fun w hw => (by (repeat (obtain ⟨hw0, hw⟩ := hw)); go_simp; try (simp (disch := omega) only [IntWalk.i64_in, IntWalk.u8_in, IntWalk.u16_in, IntWalk.u32_in, IntWalk.u64_in]); try omega)⟩) ?_; simp only [Act.put, List.setIfInBounds_toArray, List.set_cons_zero, List.set_cons_succ])
  (refine At.take 2 (v := .int .u64 nr) rfl (by decide) (by kernel_rfl) (by kernel_rfl) HD.out (Or.inl ⟨by rfl, fun w hw => (by (repeat (obtain ⟨hw0, hw⟩ := hw)); go_simp; try (simp (disch := omega) only [IntWalk.i64_in, IntWalk.u8_in, IntWalk.u16_in, IntWalk.u32_in, IntWalk.u64_in]); try omega)⟩) ?_; simp only [Act.put, List.setIfInBounds_toArray, List.set_cons_zero, List.set_cons_succ])
  (refine At.take 4 (v := .pointer (some ⟨w.heap.size, 1, none⟩)) rfl (by decide) (by kernel_rfl) (by kernel_rfl) HD.out (Or.inl ⟨by rfl, fun w hw => (by (repeat (obtain ⟨hw0, hw⟩ := hw)); go_simp; try (simp (disch := omega) only [IntWalk.i64_in, IntWalk.u8_in, IntWalk.u16_in, IntWalk.u32_in, IntWalk.u64_in]); try omega)⟩) ?_; simp only [Act.put, List.setIfInBounds_toArray, List.set_cons_zero, List.set_cons_succ])
  (refine At.take 5 (v := .int .u32 arch) rfl (by decide) (by kernel_rfl) (by kernel_rfl) HD.out (Or.inl ⟨by rfl, fun w hw => (by (repeat (obtain ⟨hw0, hw⟩ := hw)); go_simp; try (simp (disch := omega) only [IntWalk.i64_in, IntWalk.u8_in, IntWalk.u16_in, IntWalk.u32_in, IntWalk.u64_in]); try omega)⟩) ?_; simp only [Act.put, List.setIfInBounds_toArray, List.set_cons_zero, List.set_cons_succ])
  (refine At.take 6 (v := .int .u64 arch) rfl (by decide) (by kernel_rfl) (by kernel_rfl) HD.out (Or.inl ⟨by rfl, fun w hw => (by (repeat (obtain ⟨hw0, hw⟩ := hw)); go_simp; try (simp (disch := omega) only [IntWalk.i64_in, IntWalk.u8_in, IntWalk.u16_in, IntWalk.u32_in, IntWalk.u64_in]); try omega)⟩) ?_; simp only [Act.put, List.setIfInBounds_toArray, List.set_cons_zero, List.set_cons_succ])
  (refine At.force 3 rfl (by decide) (by kernel_rfl) ?_)
  gi_wp2_with (gi_at_call 148; refine (callsIn_wide.2 (PL.out nr 4 _ (by have := Q.out.1; omega) (by decide))).mono ?_; rintro e w1 ⟨R1, c1, rfl, ho, hb⟩; have HO1 := Lib.hid ho; have HB1 := Lib.hid (Below.trans (show Below w0.heap.size w0 w0.drew by (repeat (first | with_reducible exact Below.refl _ _ | with_reducible assumption | ((with_reducible refine Below.setCell ?_ ?hp _); case hp => (first | omega | (simp only [World.size_alloc, World.size_setCell, World.size_drew]; omega) | (simp; done) | (simp; omega))) | ((with_reducible refine Below.alloc ?_ ?hp _); case hp => (first | omega | (simp only [World.size_alloc, World.size_setCell, World.size_drew]; omega) | (simp; done) | (simp; omega))) | with_reducible refine Below.drew ?_ | with_reducible refine below_drewN ?_ _))) (hb.mono (by (first | omega | (simp only [World.size_alloc, World.size_setCell, World.size_drew]; omega) | (simp; done) | (simp; omega))))); clear ho hb)
  refine thenS_normal (HS.out _ HB1.out) (fun _ => ?_)
  (refine At.force 7 rfl (by decide) (by kernel_rfl) ?_)
  gi_wp2_with (gi_at_call 148; refine (callsIn_wide.2 (PL.out arch 4 _ (by have := Q.out.2.1; omega) (by decide))).mono ?_; rintro e w2 ⟨R2, c2, rfl, ho, hb⟩; have HO2 := Lib.hid ho; have HO1b := Lib.hid (HO1.out.below hb (Nat.le_refl _)); have HB2 := Lib.hid (HB1.out.trans (hb.mono HB1.out.size)); clear ho hb)
  refine thenS_normal (HS.out _ HB2.out) (fun _ => ?_)
  (refine At.force 8 rfl (by decide) (by kernel_rfl) ?_)
  gi_wp2_with (gi_at_call 147; refine (callsIn_wide.2 (PB.out R1 R2 c1 c2 _ _ _ HO1b.out.rd HO2.out.rd (by simp [lowL_len]) (by simp [lowL_len]))).mono ?_; rintro e w3 ⟨R3, c3, rfl, ho, hb⟩; have HO3 := Lib.hid ho; have HB3 := Lib.hid (HB2.out.trans (hb.mono HB2.out.size)); clear ho hb)
  refine thenS_normal (HS.out _ HB3.out) (fun _ => ?_)
  refine At.tail (by kernel_rfl) ?_
  simp only [List.drop_succ_cons, List.drop_zero]
  gi_wp2
  refine NoPanic.normal ?_
  have hb3 := (HB3.out.block _ hz0).trans HBX.out
  have k0 : w3.cell? ⟨w.heap.size, 2, none⟩ = some (.int .u64 ip) := cell_of_row _ _ _ _ _ _ hb3
  have k1 : w3.cell? ⟨w.heap.size, 3, none⟩ = some (.int .u64 a0) := cell_of_row _ _ _ _ _ _ hb3
  have k2 : w3.cell? ⟨w.heap.size, 4, none⟩ = some (.int .u64 a1) := cell_of_row _ _ _ _ _ _ hb3
  have k3 : w3.cell? ⟨w.heap.size, 5, none⟩ = some (.int .u64 a2) := cell_of_row _ _ _ _ _ _ hb3
  have k4 : w3.cell? ⟨w.heap.size, 6, none⟩ = some (.int .u64 a3) := cell_of_row _ _ _ _ _ _ hb3
  have k5 : w3.cell? ⟨w.heap.size, 7, none⟩ = some (.int .u64 a4) := cell_of_row _ _ _ _ _ _ hb3
  have k6 : w3.cell? ⟨w.heap.size, 8, none⟩ = some (.int .u64 a5) := cell_of_row _ _ _ _ _ _ hb3
  clear hb3
  go_wp2_with (first
    | (go_at_call 148; refine (PL.out ip 8 _ Q.out.2.2.1 (by decide)).mono ?_; rintro e w4 ⟨R4, c4, rfl, ho, hb⟩; have HO4 := Lib.hid ho; have HP4 := Lib.hid (HO3.out.below hb (Nat.le_refl _)); have HB4 := Lib.hid (HB3.out.trans (hb.mono HB3.out.size)); clear ho hb)
    | (go_at_call 147; refine (PB.out R3 R4 c3 c4 _ _ _ HP4.out.rd HO4.out.rd (by simp [lowL_len]) (by simp [lowL_len])).mono ?_; rintro e w5 ⟨R5, c5, rfl, ho, hb⟩; have HO5 := Lib.hid ho; have HB5 := Lib.hid (HB4.out.trans (hb.mono HB4.out.size)); clear ho hb))
  refine wp_loop_rounds 7 ?_
  have kk : w5.cell? ⟨w.heap.size, 3, none⟩ = some (.int .u64 a0) := cell_of_row _ _ _ _ _ _ ((HB5.out.block _ hz0).trans HBX.out)
  rw [rounds_succ]
  go_wp2_with (first
    | (go_at_call 148; refine (PL.out a0 8 _ Q.out.2.2.2.1 (by decide)).mono ?_; rintro e w6 ⟨R6, c6, rfl, ho, hb⟩; have HO6 := Lib.hid ho; have HP6 := Lib.hid (HO5.out.below hb (Nat.le_refl _)); have HB6 := Lib.hid (HB5.out.trans (hb.mono HB5.out.size)); clear ho hb)
    | (go_at_call 147; refine (PB.out R5 R6 c5 c6 _ _ _ HP6.out.rd HO6.out.rd (by simp [lowL_len]) (by simp [lowL_len])).mono ?_; rintro e w7 ⟨R7, c7, rfl, ho, hb⟩; have HO7 := Lib.hid ho; have HB7 := Lib.hid (HB6.out.trans (hb.mono HB6.out.size)); clear ho hb))
  clear kk
  have kk : w7.cell? ⟨w.heap.size, 4, none⟩ = some (.int .u64 a1) := cell_of_row _ _ _ _ _ _ ((HB7.out.block _ hz0).trans HBX.out)
  rw [rounds_succ]
  go_wp2_with (first
    | (go_at_call 148; refine (PL.out a1 8 _ Q.out.2.2.2.2.1 (by decide)).mono ?_; rintro e w8 ⟨R8, c8, rfl, ho, hb⟩; have HO8 := Lib.hid ho; have HP8 := Lib.hid (HO7.out.below hb (Nat.le_refl _)); have HB8 := Lib.hid (HB7.out.trans (hb.mono HB7.out.size)); clear ho hb)
    | (go_at_call 147; refine (PB.out R7 R8 c7 c8 _ _ _ HP8.out.rd HO8.out.rd (by simp [lowL_len]) (by simp [lowL_len])).mono ?_; rintro e w9 ⟨R9, c9, rfl, ho, hb⟩; have HO9 := Lib.hid ho; have HB9 := Lib.hid (HB8.out.trans (hb.mono HB8.out.size)); clear ho hb))
  clear kk
  have kk : w9.cell? ⟨w.heap.size, 5, none⟩ = some (.int .u64 a2) := cell_of_row _ _ _ _ _ _ ((HB9.out.block _ hz0).trans HBX.out)
  rw [rounds_succ]
  go_wp2_with (first
    | (go_at_call 148; refine (PL.out a2 8 _ Q.out.2.2.2.2.2.1 (by decide)).mono ?_; rintro e w10 ⟨R10, c10, rfl, ho, hb⟩; have HO10 := Lib.hid ho; have HP10 := Lib.hid (HO9.out.below hb (Nat.le_refl _)); have HB10 := Lib.hid (HB9.out.trans (hb.mono HB9.out.size)); clear ho hb)
    | (go_at_call 147; refine (PB.out R9 R10 c9 c10 _ _ _ HP10.out.rd HO10.out.rd (by simp [lowL_len]) (by simp [lowL_len])).mono ?_; rintro e w11 ⟨R11, c11, rfl, ho, hb⟩; have HO11 := Lib.hid ho; have HB11 := Lib.hid (HB10.out.trans (hb.mono HB10.out.size)); clear ho hb))
  clear kk
  have kk : w11.cell? ⟨w.heap.size, 6, none⟩ = some (.int .u64 a3) := cell_of_row _ _ _ _ _ _ ((HB11.out.block _ hz0).trans HBX.out)
  rw [rounds_succ]
  go_wp2_with (first
    | (go_at_call 148; refine (PL.out a3 8 _ Q.out.2.2.2.2.2.2.1 (by decide)).mono ?_; rintro e w12 ⟨R12, c12, rfl, ho, hb⟩; have HO12 := Lib.hid ho; have HP12 := Lib.hid (HO11.out.below hb (Nat.le_refl _)); have HB12 := Lib.hid (HB11.out.trans (hb.mono HB11.out.size)); clear ho hb)
    | (go_at_call 147; refine (PB.out R11 R12 c11 c12 _ _ _ HP12.out.rd HO12.out.rd (by simp [lowL_len]) (by simp [lowL_len])).mono ?_; rintro e w13 ⟨R13, c13, rfl, ho, hb⟩; have HO13 := Lib.hid ho; have HB13 := Lib.hid (HB12.out.trans (hb.mono HB12.out.size)); clear ho hb))
  clear kk
  have kk : w13.cell? ⟨w.heap.size, 7, none⟩ = some (.int .u64 a4) := cell_of_row _ _ _ _ _ _ ((HB13.out.block _ hz0).trans HBX.out)
  rw [rounds_succ]
  go_wp2_with (first
    | (go_at_call 148; refine (PL.out a4 8 _ Q.out.2.2.2.2.2.2.2.1 (by decide)).mono ?_; rintro e w14 ⟨R14, c14, rfl, ho, hb⟩; have HO14 := Lib.hid ho; have HP14 := Lib.hid (HO13.out.below hb (Nat.le_refl _)); have HB14 := Lib.hid (HB13.out.trans (hb.mono HB13.out.size)); clear ho hb)
    | (go_at_call 147; refine (PB.out R13 R14 c13 c14 _ _ _ HP14.out.rd HO14.out.rd (by simp [lowL_len]) (by simp [lowL_len])).mono ?_; rintro e w15 ⟨R15, c15, rfl, ho, hb⟩; have HO15 := Lib.hid ho; have HB15 := Lib.hid (HB14.out.trans (hb.mono HB14.out.size)); clear ho hb))
  clear kk
  have kk : w15.cell? ⟨w.heap.size, 8, none⟩ = some (.int .u64 a5) := cell_of_row _ _ _ _ _ _ ((HB15.out.block _ hz0).trans HBX.out)
  rw [rounds_succ]
  go_wp2_with (first
    | (go_at_call 148; refine (PL.out a5 8 _ Q.out.2.2.2.2.2.2.2.2 (by decide)).mono ?_; rintro e w16 ⟨R16, c16, rfl, ho, hb⟩; have HO16 := Lib.hid ho; have HP16 := Lib.hid (HO15.out.below hb (Nat.le_refl _)); have HB16 := Lib.hid (HB15.out.trans (hb.mono HB15.out.size)); clear ho hb)
    | (go_at_call 147; refine (PB.out R15 R16 c15 c16 _ _ _ HP16.out.rd HO16.out.rd (by simp [lowL_len]) (by simp [lowL_len])).mono ?_; rintro e w17 ⟨R17, c17, rfl, ho, hb⟩; have HO17 := Lib.hid ho; have HB17 := Lib.hid (HB16.out.trans (hb.mono HB16.out.size)); clear ho hb))
  clear kk
  rw [rounds_succ]
  go_wp2
  go_ret
  refine ⟨R17, c17, ?_, ?_, HB0.out.trans (HB17.out.mono (by omega))⟩
  · simp [lowL_len]
  · exact HO17.out.mono (by have := HB16.out.size; omega)

theorem Enc.Own.cap {α : Type} {E : Enc α} {e : TypeId} {w : World} {base : Nat} {A : Option Addr} {c : Nat} {l : List α} (h : E.Own e w base A c l) : l.length ≤ c ∧ c ≤ 9223372036854775807 := by
  rcases h.2 with ⟨h1, h2⟩ | ⟨g, cap, cur, h1, _, _, h4, h5, _⟩
  · injection h1 with _ h3 h4
    omega
  · injection h1 with _ h3 h6
    subst h6
    unfold maxLen at h5
    exact ⟨h4, h5⟩

theorem rright_any (k : Nat) (hk : k < 4294967296) (w : World) :
    Calls Try.prog 119 #[.int .u32 k] w fun e w' => e = .returned (.bool (placeOk k)) ∧ w = w' := by
  by_cases h1 : k ≤ 60
  · have e1 : (k : Int) ≤ 60 := by omega
    by_cases h2 : k % 4 = 0
    · have e2 : (k : Int) % 4 = 0 := by omega
      have e3 : placeOk k = true := by simp [placeOk, h1, h2]
      rw [e3]
      go_enter Try.func119, Try.ntmps119
      go_wp2
      go_ret
      exact ⟨rfl, rfl⟩
    · have e2 : ((k : Int) % 4 == 0) = false := by rw [beq_eq_false_iff_ne]; omega
      have e3 : placeOk k = false := by simp [placeOk, h2]
      rw [e3]
      go_enter Try.func119, Try.ntmps119
      go_wp2
      go_ret
      exact ⟨rfl, rfl⟩
  · have e1 : ¬ (k : Int) ≤ 60 := by omega
    have e3 : placeOk k = false := by simp [placeOk]; omega
    rw [e3]
    go_enter Try.func119, Try.ntmps119
    go_wp2
    go_ret
    exact ⟨rfl, rfl⟩

set_option maxHeartbeats 400000 in
theorem rword_bad (d : Dt) (k : Nat) (hk : k < 4294967296) (w : World) (h : placeOk k = false) :
    Calls Try.prog 71 #[(Value.agg #[.int .u32 d.nr, .int .u32 d.arch, .int .u64 d.ip, .int .u64 d.a0, .int .u64 d.a1, .int .u64 d.a2, .int .u64 d.a3, .int .u64 d.a4, .int .u64 d.a5]), .int .u32 k] w fun e w' => e = .returned (.tuple #[.int .u32 0, .int .i64 2]) ∧ Below w.heap.size w w' := by
  have HR := Lib.hid (fun W => rright_any k hk W)
  rw [h] at HR
  clear h
  go_enter Try.func71, Try.ntmps71
  go_wp2_with (go_at_call 119; refine (HR.out _).mono ?_; rintro e w1 ⟨rfl, rfl⟩)
  go_ret2
  exact ⟨rfl, by (repeat (first | with_reducible exact Below.refl _ _ | with_reducible assumption | ((with_reducible refine Below.setCell ?_ ?hp _); case hp => (first | omega | (simp only [World.size_alloc, World.size_setCell, World.size_drew]; omega) | (simp; done) | (simp; omega))) | ((with_reducible refine Below.alloc ?_ ?hp _); case hp => (first | omega | (simp only [World.size_alloc, World.size_setCell, World.size_drew]; omega) | (simp; done) | (simp; omega))) | with_reducible refine Below.drew ?_ | with_reducible refine below_drewN ?_ _))⟩

theorem bytes_part {w : World} {b o : Nat} {l : List Nat} (h : EY.at_ w b o l) (k m : Nat) : EY.at_ w b (o + k) ((l.drop k).take m) := by
  intro i hi r u hu
  have hi' : k + i < l.length := by rw [List.length_take, List.length_drop] at hi; omega
  have e : ((l.drop k).take m)[i] = l[k + i] := by simp
  rw [e] at hu
  have := h (k + i) hi' r u hu
  rw [show o + (k + i) * EY.size + r = o + k + i * EY.size + r by show o + (k + i) * 1 + r = o + k + i * 1 + r; omega] at this
  exact this

set_option maxRecDepth 100000 in
set_option maxHeartbeats 400000 in
theorem rword_good (d : Dt) (hd : d.Ok) (k : Nat) (w : World) (h : placeOk k = true) :
    Calls Try.prog 71 #[(Value.agg #[.int .u32 d.nr, .int .u32 d.arch, .int .u64 d.ip, .int .u64 d.a0, .int .u64 d.a1, .int .u64 d.a2, .int .u64 d.a3, .int .u64 d.a4, .int .u64 d.a5]), .int .u32 k] w fun e w' => e = .returned (.tuple #[.int .u32 (wordD d k : Int), .int .i64 0]) ∧ Below w.heap.size w w' := by
  have hk : k % 4 = 0 ∧ k ≤ 60 := by simpa [placeOk] using h
  have HR := Lib.hid (fun W => rright_any k (by omega) W)
  rw [h] at HR
  have HB := Lib.hid (fun W => rbytes_any d hd W)
  have hwl := wordD_lt hd k
  have e1 : (0 : Int) ≤ (k : Int) := by omega
  have e2 : (k : Int) ≤ 60 := by omega
  have HE := Lib.hid (show ((encL d).drop k).take 4 = lowL 4 ((wordsD d).getD (k / 4) 0) by
    have := chunk_enc d (k / 4) (by omega)
    rw [show 4 * (k / 4) = k by omega] at this
    exact this)
  have HN := Lib.hid (show numL (((encL d).drop k).take 4) = wordD d k by rw [HE.out]; exact numL_word hwl)
  have HNUM := Lib.hid (fun (g q : Nat) (W : World) (h : EY.at_ W g 0 (encL d)) => (show Calls Try.prog 120 #[.slice (some ⟨g, k, none⟩) 4 q] W fun e w' => e = .returned (.int .u64 (wordD d k : Int)) ∧ W = w' by
    have h1 := bytes_part h k 4
    rw [Nat.zero_add] at h1
    have h2 := rnumber_any g k q _ W h1 (by rw [List.length_take]; omega) (fun y hy => encL_lt d y (List.mem_of_mem_drop (List.mem_of_mem_take hy)))
    rw [HN.out, show (((encL d).drop k).take 4).length = 4 by rw [HE.out, lowL_len]] at h2
    exact h2))
  clear h
  go_enter Try.func71, Try.ntmps71
  go_wp2_with (first
    | (go_at_call 119; refine (HR.out _).mono ?_; rintro e w1 ⟨rfl, rfl⟩)
    | (go_at_call 120; refine (HNUM.out g _ _ HO.out.at_).mono ?_; rintro e w3 ⟨rfl, rfl⟩)
    | (refine wpList_load_row rfl 47 (.tmp 2) rfl w.heap.size rfl 47 #[.int .u32 d.nr, .int .u32 d.arch, .int .u64 d.ip, .int .u64 d.a0, .int .u64 d.a1, .int .u64 d.a2, .int .u64 d.a3, .int .u64 d.a4, .int .u64 d.a5] (0, 0) _ (heap_alloc_new w _) Try.underlying47 rfl (by kernel_rfl) ?_; go_simp)
    | (go_at_call 121; refine (HB.out _).mono ?_; rintro e w2 ⟨R, c, rfl, ho, hb⟩; obtain ⟨hc1, hc2⟩ := ho.cap; rw [encL_len] at hc1; obtain ⟨g, rfl, hg1, hg2⟩ := ho.form (by intro e; have := encL_len d; rw [e] at this; simp at this); have HO := Lib.hid ho; have HB2 := Lib.hid hb; clear ho hb))
  go_ret2
  exact ⟨rfl, Below.trans (by (repeat (first | with_reducible exact Below.refl _ _ | with_reducible assumption | ((with_reducible refine Below.setCell ?_ ?hp _); case hp => (first | omega | (simp only [World.size_alloc, World.size_setCell, World.size_drew]; omega) | (simp; done) | (simp; omega))) | ((with_reducible refine Below.alloc ?_ ?hp _); case hp => (first | omega | (simp only [World.size_alloc, World.size_setCell, World.size_drew]; omega) | (simp; done) | (simp; omega))) | with_reducible refine Below.drew ?_ | with_reducible refine below_drewN ?_ _))) (HB2.out.mono (by simp))⟩

theorem rword_any (d : Dt) (hd : d.Ok) (k : Nat) (hk : k < 4294967296) (w : World) :
    Calls Try.prog 71 #[(Value.agg #[.int .u32 d.nr, .int .u32 d.arch, .int .u64 d.ip, .int .u64 d.a0, .int .u64 d.a1, .int .u64 d.a2, .int .u64 d.a3, .int .u64 d.a4, .int .u64 d.a5]), .int .u32 k] w fun e w' => (∃ q, e = .returned (.tuple #[.int .u32 ((datL d k : Nat) : Int), .int .i64 q])) ∧ Below w.heap.size w w' := by
  by_cases h : placeOk k = true
  · refine (rword_good d hd k w h).mono ?_
    rintro e w' ⟨rfl, hb⟩
    exact ⟨⟨0, by rw [datL, if_pos h]⟩, hb⟩
  · refine (rword_bad d k hk w (by simpa using h)).mono ?_
    rintro e w' ⟨rfl, hb⟩
    exact ⟨⟨2, by rw [datL, if_neg h]; rfl⟩, hb⟩
end Go.Proofs.Ytfjbanfibmpalaa

/- Contracts: the reference's names and their parts. -/
set_option linter.unusedVariables false
set_option linter.unusedSimpArgs false
namespace Go.Proofs.Ytfjbanfibmpalaa
open Go.RowKit Go.Shelf

/-- Where the first point stands. -/
def dotAt (s : ByteArray) : Nat := s.data.toList.findIdx (· == 46)
def headB (s : ByteArray) : ByteArray := if dotAt s < s.size then s.extract 0 (dotAt s) else s
def tailB (s : ByteArray) : ByteArray := if dotAt s < s.size then s.extract (dotAt s + 1) s.size else ⟨#[]⟩

theorem dotAt_not (s : ByteArray) (k : Nat) (h : k < dotAt s) (hk : k < s.size) : ((s[k].toNat : Int) == 46) = false := by
  have := List.not_of_lt_findIdx h
  rw [beq_eq_false_iff_ne]
  intro e
  apply absurd this
  have e2 : s[k] = 46 := by
    apply UInt8.toNat_inj.1
    show s[k].toNat = 46
    omega
  simp
  exact e2
theorem dotAt_is (s : ByteArray) (h : dotAt s < s.size) : ((s[dotAt s].toNat : Int) == 46) = true := by
  have h' : s.data.toList.findIdx (· == 46) < s.data.toList.length := h
  have := List.findIdx_getElem (w := h')
  have e2 : s.data.toList[s.data.toList.findIdx (· == 46)] = 46 := eq_of_beq this
  have e3 : s[dotAt s] = 46 := e2
  have e4 : s[dotAt s].toNat = 46 := congrArg UInt8.toNat e3
  rw [beq_iff_eq]
  omega

set_option maxHeartbeats 400000 in
theorem rsplit_any (s : ByteArray) (hs : s.size ≤ 1000) (w : World) :
    Calls Try.prog 70 #[.string s] w fun e w' => e = .returned (.tuple #[.string (headB s), .string (tailB s)]) ∧ ∃ n, w' = w.drewN n := by
  have hd : dotAt s ≤ s.size := List.findIdx_le_length
  have HN := Lib.hid (dotAt_not s)
  have HI := Lib.hid (dotAt_is s)
  have HH := Lib.hid (show (dotAt s < s.size → headB s = s.extract 0 (dotAt s) ∧ tailB s = s.extract (dotAt s + 1) s.size) ∧ (¬ dotAt s < s.size → headB s = s ∧ tailB s = ⟨#[]⟩) from
    ⟨fun h => ⟨if_pos h, if_pos h⟩, fun h => ⟨if_neg h, if_neg h⟩⟩)
  go_enter Try.func70, Try.ntmps70
  go_wp2
  go_loop [4] (fun i => ∃ k : Nat, k ≤ dotAt s ∧ i = .int .i64 k) (fun i => s.size - (intOf i).toNat)
  case atStart => exact ⟨0, by omega, rfl⟩
  case round =>
    obtain ⟨k, hk, rfl⟩ := hrel
    by_cases hlt : k < s.size
    · by_cases hkd : k < dotAt s
      · have e1 := HN.out k hkd hlt
        go_wp2
        go_round
        case rel => exact ⟨k + 1, by omega, by go_num⟩
        case measure => simp [intOf]; omega
      · obtain rfl : k = dotAt s := by omega
        have e1 := HI.out hlt
        go_wp2
        go_quiet (fail)
        go_wp2
        go_ret2
        exact ⟨by rw [(HH.out.1 hlt).1, (HH.out.1 hlt).2]; rfl, _, rfl⟩
    · obtain ⟨q1, q2⟩ := HH.out.2 (by omega)
      have Q := Lib.hid (And.intro q1 q2)
      clear q1 q2
      go_wp2
      go_ret2
      exact ⟨by rw [Q.out.1, Q.out.2]; rfl, 0, rfl⟩

/-- The name's parts. -/
def headL (c : Nat) : ByteArray := headB (nameOf c)
def tailL (c : Nat) : ByteArray := tailB (nameOf c)
end Go.Proofs.Ytfjbanfibmpalaa

/- Words: the rows of the reference's step; the names' parts, by classes of codes. -/
set_option linter.unusedVariables false
set_option linter.unusedSimpArgs false
namespace Go.Proofs.Ytfjbanfibmpalaa
open Go.RowKit Go.Shelf


/-- The rows of the reference's step. -/
structure SRows (N : Nat) (y : Insn) (d : Dt) (pc : Int) (r : Rg) (W : World) : Prop where
  d : W.heap[N]? = some (.cells #[.int .u32 d.nr, .int .u32 d.arch, .int .u64 d.ip, .int .u64 d.a0, .int .u64 d.a1, .int .u64 d.a2, .int .u64 d.a3, .int .u64 d.a4, .int .u64 d.a5] 47 (0, 0))
  m : W.heap[N + 1]? = some (.cells (vmA pc r) 50 (0, 0))
  o : W.heap[N + 1 + 1]? = some (.cells #[.int .i64 0, .int .u32 0, .int .u32 0, .int .u32 0, .int .u32 0, .int .u32 0, .int .u32 0, .int .u32 0, .int .u32 0, .int .u32 0, .int .u32 0, .int .u32 0, .int .u32 0, .int .u32 0, .int .u32 0, .int .u32 0, .int .u32 0, .int .u32 0, .int .u32 0] 50 (0, 0))
  x : W.heap[N + 1 + 1 + 1]? = some (.cells #[.int .u16 y.code, .int .u8 y.jt, .int .u8 y.jf, .int .u32 y.k] 36 (0, 0))
  sz : N + 4 ≤ W.heap.size
theorem SRows.below {N : Nat} {y : Insn} {d : Dt} {pc : Int} {r : Rg} {W W' : World} (h : SRows N y d pc r W) (hb : Below W.heap.size W W') : SRows N y d pc r W' :=
  have hs := h.sz
  ⟨(hb.block _ (by omega)).trans h.d, (hb.block _ (by omega)).trans h.m, (hb.block _ (by omega)).trans h.o, (hb.block _ (by omega)).trans h.x, Nat.le_trans hs hb.size⟩
theorem SRows.new (w : World) (y : Insn) (d : Dt) (pc : Int) (r : Rg) : SRows w.heap.size y d pc r ((((w.alloc (.cells #[.int .u32 d.nr, .int .u32 d.arch, .int .u64 d.ip, .int .u64 d.a0, .int .u64 d.a1, .int .u64 d.a2, .int .u64 d.a3, .int .u64 d.a4, .int .u64 d.a5] 47)).alloc (.cells (vmA pc r) 50)).alloc (.cells #[.int .i64 0, .int .u32 0, .int .u32 0, .int .u32 0, .int .u32 0, .int .u32 0, .int .u32 0, .int .u32 0, .int .u32 0, .int .u32 0, .int .u32 0, .int .u32 0, .int .u32 0, .int .u32 0, .int .u32 0, .int .u32 0, .int .u32 0, .int .u32 0, .int .u32 0] 50)).alloc (.cells #[.int .u16 y.code, .int .u8 y.jt, .int .u8 y.jf, .int .u32 y.k] 36)) := by
  have h := heap5 w (.cells #[.int .u32 d.nr, .int .u32 d.arch, .int .u64 d.ip, .int .u64 d.a0, .int .u64 d.a1, .int .u64 d.a2, .int .u64 d.a3, .int .u64 d.a4, .int .u64 d.a5] 47) (.cells (vmA pc r) 50) (.cells #[.int .i64 0, .int .u32 0, .int .u32 0, .int .u32 0, .int .u32 0, .int .u32 0, .int .u32 0, .int .u32 0, .int .u32 0, .int .u32 0, .int .u32 0, .int .u32 0, .int .u32 0, .int .u32 0, .int .u32 0, .int .u32 0, .int .u32 0, .int .u32 0, .int .u32 0] 50) (.cells #[.int .u16 y.code, .int .u8 y.jt, .int .u8 y.jf, .int .u32 y.k] 36) (.cells #[] 36)
  have hz : ((((w.alloc (.cells #[.int .u32 d.nr, .int .u32 d.arch, .int .u64 d.ip, .int .u64 d.a0, .int .u64 d.a1, .int .u64 d.a2, .int .u64 d.a3, .int .u64 d.a4, .int .u64 d.a5] 47)).alloc (.cells (vmA pc r) 50)).alloc (.cells #[.int .i64 0, .int .u32 0, .int .u32 0, .int .u32 0, .int .u32 0, .int .u32 0, .int .u32 0, .int .u32 0, .int .u32 0, .int .u32 0, .int .u32 0, .int .u32 0, .int .u32 0, .int .u32 0, .int .u32 0, .int .u32 0, .int .u32 0, .int .u32 0, .int .u32 0] 50)).alloc (.cells #[.int .u16 y.code, .int .u8 y.jt, .int .u8 y.jf, .int .u32 y.k] 36)).heap.size = w.heap.size + 4 := by simp
  have q := fun (k : Nat) (hk : k < w.heap.size + 4) => Below.heap_alloc ((((w.alloc (.cells #[.int .u32 d.nr, .int .u32 d.arch, .int .u64 d.ip, .int .u64 d.a0, .int .u64 d.a1, .int .u64 d.a2, .int .u64 d.a3, .int .u64 d.a4, .int .u64 d.a5] 47)).alloc (.cells (vmA pc r) 50)).alloc (.cells #[.int .i64 0, .int .u32 0, .int .u32 0, .int .u32 0, .int .u32 0, .int .u32 0, .int .u32 0, .int .u32 0, .int .u32 0, .int .u32 0, .int .u32 0, .int .u32 0, .int .u32 0, .int .u32 0, .int .u32 0, .int .u32 0, .int .u32 0, .int .u32 0, .int .u32 0] 50)).alloc (.cells #[.int .u16 y.code, .int .u8 y.jt, .int .u8 y.jf, .int .u32 y.k] 36)) (.cells #[] 36) k (by rw [hz]; exact hk)
  exact ⟨(q _ (by omega)).symm.trans h.1, (q _ (by omega)).symm.trans h.2.1, (q _ (by omega)).symm.trans h.2.2.1, (q _ (by omega)).symm.trans h.2.2.2.1, by rw [hz]; exact Nat.le_refl _⟩


/-- And the machine's that is to come. -/
structure TRows (N M : Nat) (y : Insn) (d : Dt) (pc q : Int) (r s : Rg) (W : World) : Prop where
  rows : SRows N y d pc r W
  n : W.heap[M]? = some (.cells (vmA q s) 50 (0, 0))
  h : N + 4 ≤ M
  z : M < W.heap.size
theorem TRows.below {N M : Nat} {y : Insn} {d : Dt} {pc q : Int} {r s : Rg} {W W' : World} (h : TRows N M y d pc q r s W) (hb : Below W.heap.size W W') : TRows N M y d pc q r s W' :=
  ⟨h.rows.below hb, (hb.block _ h.z).trans h.n, h.h, Nat.lt_of_lt_of_le h.z hb.size⟩
theorem TRows.set {N M : Nat} {y : Insn} {d : Dt} {pc q : Int} {r s : Rg} {W : World} (h : TRows N M y d pc q r s W) (j : Nat) (v : Value) {q' : Int} {s' : Rg} (hv : (vmA q s).setIfInBounds j v = vmA q' s') : TRows N M y d pc q' r s' (W.setCell ⟨M, j, none⟩ v) := by
  have hh := h.h
  refine ⟨⟨(Below.heap_setCell _ _ _ _ (by show N ≠ M; omega)).trans h.rows.d, (Below.heap_setCell _ _ _ _ (by show N + 1 ≠ M; omega)).trans h.rows.m, (Below.heap_setCell _ _ _ _ (by show N + 1 + 1 ≠ M; omega)).trans h.rows.o, (Below.heap_setCell _ _ _ _ (by show N + 1 + 1 + 1 ≠ M; omega)).trans h.rows.x, by simpa using h.rows.sz⟩, ?_, hh, by simpa using h.z⟩
  rw [← hv]
  exact heap_setCell_same W M j _ _ _ h.n
theorem TRows.facts {N M : Nat} {y : Insn} {d : Dt} {pc q : Int} {r s : Rg} {W : World} (h : TRows N M y d pc q r s W) :
    (W.cell? ⟨N + 1 + 1 + 1, 0, none⟩ = some (.int .u16 y.code) ∧ W.cell? ⟨N + 1 + 1 + 1, 1, none⟩ = some (.int .u8 y.jt) ∧ W.cell? ⟨N + 1 + 1 + 1, 2, none⟩ = some (.int .u8 y.jf) ∧ W.cell? ⟨N + 1 + 1 + 1, 3, none⟩ = some (.int .u32 y.k)) ∧
    (W.cell? ⟨N + 1, 0, none⟩ = some (.int .i64 pc) ∧ W.cell? ⟨N + 1, 1, none⟩ = some (.int .u32 r.a) ∧ W.cell? ⟨N + 1, 2, none⟩ = some (.int .u32 r.x)) ∧ W.cell? ⟨M, 0, none⟩ = some (.int .i64 q) ∧ (∀ j, W.frozen? ⟨M, j, none⟩ = false) := by
  obtain ⟨⟨h1, h2, h3, h4, h5⟩, h6, h7, h8⟩ := h
  exact ⟨⟨cell_of_row _ _ _ _ _ _ h4, cell_of_row _ _ _ _ _ _ h4, cell_of_row _ _ _ _ _ _ h4, cell_of_row _ _ _ _ _ _ h4⟩, ⟨(cell_of_row _ _ _ _ _ _ h2).trans (vmA_0 _ _), (cell_of_row _ _ _ _ _ _ h2).trans (vmA_1 _ _), (cell_of_row _ _ _ _ _ _ h2).trans (vmA_2 _ _)⟩, (cell_of_row _ _ _ _ _ _ h6).trans (vmA_0 _ _), fun j => by simp [World.frozen?, h6]⟩
/-- The machine's row, copied. -/
theorem TRows.new {N : Nat} {y : Insn} {d : Dt} {pc : Int} {r : Rg} {w : World} (nn : Nat) (h : SRows N y d pc r w) : TRows N w.heap.size y d pc pc r r (((w.drewN nn).alloc (.cells #[.int .i64 0, .int .u32 0, .int .u32 0, .int .u32 0, .int .u32 0, .int .u32 0, .int .u32 0, .int .u32 0, .int .u32 0, .int .u32 0, .int .u32 0, .int .u32 0, .int .u32 0, .int .u32 0, .int .u32 0, .int .u32 0, .int .u32 0, .int .u32 0, .int .u32 0] 50)).setRow w.heap.size (vmA pc r)) := by
  have hs := h.sz
  have q : ∀ k, k < w.heap.size → (((w.drewN nn).alloc (.cells #[.int .i64 0, .int .u32 0, .int .u32 0, .int .u32 0, .int .u32 0, .int .u32 0, .int .u32 0, .int .u32 0, .int .u32 0, .int .u32 0, .int .u32 0, .int .u32 0, .int .u32 0, .int .u32 0, .int .u32 0, .int .u32 0, .int .u32 0, .int .u32 0, .int .u32 0] 50)).setRow w.heap.size (vmA pc r)).heap[k]? = w.heap[k]? := fun k hk =>
    (setRow_other _ _ _ _ (by omega)).trans (Below.heap_alloc (w.drewN nn) _ k hk)
  exact ⟨⟨(q _ (by omega)).trans h.d, (q _ (by omega)).trans h.m, (q _ (by omega)).trans h.o, (q _ (by omega)).trans h.x, by simp [World.drewN]; omega⟩, setRow_heap _ _ _ _ _ _ (heap_alloc_new (w.drewN nn) _), hs, by simp [World.drewN]⟩


/-- Which of the tails, which of the heads it is. -/
def tailsOf (s : ByteArray) : List Bool := [s.toList == [120], s.toList == [97, 98, 115], s.toList == [108, 101, 110], s.toList == [105, 109, 109], s.toList == [109, 101, 109], s.toList == [97]]
def headsOf (s : ByteArray) : List Bool := [s.toList == [108, 100], s.toList == [108, 100, 120], s.toList == [115, 116], s.toList == [115, 116, 120], s.toList == [116, 97, 120], s.toList == [116, 120, 97], s.toList == [106, 97], s.toList == [106, 101, 113], s.toList == [106, 103, 116], s.toList == [106, 103, 101], s.toList == [106, 115, 101, 116], s.toList == [114, 101, 116]]
def onehot (n i : Nat) : List Bool := (List.range n).map (· == i)
/-- Which tail, which head it is by the code (past the last: none of them). -/
def tailIx (c : Nat) : Nat :=
  if c % 8 = 0 ∨ c % 8 = 1 then (if c / 32 % 8 = 0 then 3 else if c / 32 % 8 = 1 then 1 else if c / 32 % 8 = 3 then 4 else 2)
  else if c % 8 = 4 ∨ c % 8 = 5 then (if c / 8 % 2 = 1 then 0 else 9)
  else if c % 8 = 6 then (if c / 16 % 2 = 1 then 5 else 9) else 9
def headIx (c : Nat) : Nat :=
  if c % 8 = 4 then 20 else if c % 8 = 5 then (if c / 16 % 16 = 0 then 6 else c / 16 % 16 + 6)
  else if c % 8 = 6 then 11 else if c % 8 = 7 then (if c / 128 % 2 = 1 then 5 else 4) else c % 8
theorem parts_all : ∀ c : Fin 256, 0 ≤ form c.val → headsOf (headB (nameOf c.val)) = onehot 12 (headIx c.val) ∧ tailsOf (tailB (nameOf c.val)) = onehot 6 (tailIx c.val) ∧ (nameOf c.val).size ≤ 1000 := by decide +kernel
theorem parts {c : Nat} (h : 0 ≤ form c) : headsOf (headB (nameOf c)) = onehot 12 (headIx c) ∧ tailsOf (tailB (nameOf c)) = onehot 6 (tailIx c) := 
  have q := parts_all ⟨c, (code_facts h).1⟩ h
  ⟨q.1, q.2.1⟩
theorem name_len {c : Nat} (h : 0 ≤ form c) : (nameOf c).size ≤ 1000 := (parts_all ⟨c, (code_facts h).1⟩ h).2.2
theorem code_cls {c : Nat} (h : 0 ≤ form c) : (c % 8 = 0 → c = 0 ∨ c = 32 ∨ c = 96 ∨ c = 128) ∧ (c % 8 = 1 → c = 1 ∨ c = 97 ∨ c = 129) ∧ (c % 8 = 2 → c = 2) ∧ (c % 8 = 3 → c = 3) ∧ (c % 8 = 4 → c / 16 % 16 ≤ 8 ∨ c / 16 % 16 = 10) ∧ (c % 8 = 5 → c / 16 % 16 ≤ 4) ∧ (c % 8 = 6 → c = 6 ∨ c = 22) ∧ (c % 8 = 7 → c = 7 ∨ c = 135) := by
  have : ∀ c : Fin 256, 0 ≤ form c.val → (c.val % 8 = 0 → c.val = 0 ∨ c.val = 32 ∨ c.val = 96 ∨ c.val = 128) ∧ (c.val % 8 = 1 → c.val = 1 ∨ c.val = 97 ∨ c.val = 129) ∧ (c.val % 8 = 2 → c.val = 2) ∧ (c.val % 8 = 3 → c.val = 3) ∧ (c.val % 8 = 4 → c.val / 16 % 16 ≤ 8 ∨ c.val / 16 % 16 = 10) ∧ (c.val % 8 = 5 → c.val / 16 % 16 ≤ 4) ∧ (c.val % 8 = 6 → c.val = 6 ∨ c.val = 22) ∧ (c.val % 8 = 7 → c.val = 7 ∨ c.val = 135) := by decide +kernel
  exact this ⟨c, (code_facts h).1⟩ h
theorem ja_code {c : Nat} (h : 0 ≤ form c) : c % 8 = 5 → c / 16 % 16 = 0 → c = 5 := by
  have : ∀ c : Fin 256, 0 ≤ form c.val → c.val % 8 = 5 → c.val / 16 % 16 = 0 → c.val = 5 := by decide +kernel
  exact this ⟨c, (code_facts h).1⟩ h
theorem jx_code {c : Nat} (h : 0 ≤ form c) : c % 8 = 5 → c / 8 % 2 = 1 → c / 16 % 16 ≠ 0 := by
  have : ∀ c : Fin 256, 0 ≤ form c.val → c.val % 8 = 5 → c.val / 8 % 2 = 1 → c.val / 16 % 16 ≠ 0 := by decide +kernel
  exact this ⟨c, (code_facts h).1⟩ h
theorem src_k {c : Nat} (h : c % 8 = 4 ∨ c % 8 = 5) (hx : tailIx c ≠ 0) : c / 8 % 2 = 0 ∧ tailIx c = 9 := by
  have h0 : ¬ (c % 8 = 0 ∨ c % 8 = 1) := by omega
  have hs : c / 8 % 2 = 0 ∨ c / 8 % 2 = 1 := by omega
  unfold tailIx at *
  rw [if_neg h0, if_pos h] at *
  rcases hs with e | e
  · rw [e]; exact ⟨rfl, rfl⟩
  · rw [e] at hx; exact absurd rfl hx
theorem src_x {c : Nat} (hx : tailIx c = 0) : (c % 8 = 4 ∨ c % 8 = 5) ∧ c / 8 % 2 = 1 := by
  unfold tailIx at hx
  repeat' split at hx
  all_goals first
    | omega
    | (rename_i h1 h2 h3; exact ⟨h2, h3⟩)
/-- The facts one by one. -/
theorem heads_facts {s : ByteArray} {i : Nat} (h : headsOf s = onehot 12 i) : ((s.toList == [108, 100]) = (0 == i) ∧ (s.toList == [108, 100, 120]) = (1 == i) ∧ (s.toList == [115, 116]) = (2 == i) ∧ (s.toList == [115, 116, 120]) = (3 == i) ∧ (s.toList == [116, 97, 120]) = (4 == i) ∧ (s.toList == [116, 120, 97]) = (5 == i) ∧ (s.toList == [106, 97]) = (6 == i) ∧ (s.toList == [106, 101, 113]) = (7 == i) ∧ (s.toList == [106, 103, 116]) = (8 == i) ∧ (s.toList == [106, 103, 101]) = (9 == i) ∧ (s.toList == [106, 115, 101, 116]) = (10 == i) ∧ (s.toList == [114, 101, 116]) = (11 == i)) := by
  simp only [headsOf, onehot, List.range, List.range.loop, List.map_cons, List.map_nil, List.cons.injEq] at h
  obtain ⟨h0, h1, h2, h3, h4, h5, h6, h7, h8, h9, h10, h11, _⟩ := h
  exact ⟨h0, h1, h2, h3, h4, h5, h6, h7, h8, h9, h10, h11⟩
theorem tails_facts {s : ByteArray} {i : Nat} (h : tailsOf s = onehot 6 i) : ((s.toList == [120]) = (0 == i) ∧ (s.toList == [97, 98, 115]) = (1 == i) ∧ (s.toList == [108, 101, 110]) = (2 == i) ∧ (s.toList == [105, 109, 109]) = (3 == i) ∧ (s.toList == [109, 101, 109]) = (4 == i) ∧ (s.toList == [97]) = (5 == i)) := by
  simp only [tailsOf, onehot, List.range, List.range.loop, List.map_cons, List.map_nil, List.cons.injEq] at h
  obtain ⟨h0, h1, h2, h3, h4, h5, _⟩ := h
  exact ⟨h0, h1, h2, h3, h4, h5⟩
end Go.Proofs.Ytfjbanfibmpalaa

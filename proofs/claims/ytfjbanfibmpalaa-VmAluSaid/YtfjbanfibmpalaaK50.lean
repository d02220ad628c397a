/- Contracts: numbers laid behind bytes. -/
import Derived.Test.YtfjbanfibmpalaaKS
import Derived.Test.YtfjbanfibmpalaaP9
set_option linter.unusedVariables false
set_option linter.unusedSimpArgs false
namespace Go.Proofs.Ytfjbanfibmpalaa
open Go.RowKit Go.Shelf

/-- Bytes in cells. -/
def EY : Enc Nat := ⟨fun n => [.int .u8 (n : Int)], 1, fun _ => rfl, fun x u hu => by simp at hu; subst hu; rfl⟩

theorem info_byte : (Try.prog.info? 5).map (fun i => (i.zero, i.size, i.bytes)) = some (some (.int .u8 0), EY.size, 1) := by kernel_rfl

set_option maxHeartbeats 400000 in
theorem cloneb_any (A : Option Addr) (c : Nat) (l : List Nat) (w : World) (hl : EY.Rd w A l) (hlen : l.length ≤ 1000000) :
    Calls Try.prog 149 #[.slice A l.length c] w fun e w' => ∃ A' c', e = .returned (.slice A' l.length c') ∧ EY.Own 5 w' w.heap.size A' c' l ∧ Below w.heap.size w w' := by
  have hl1 : EY.Rd (w.alloc (.cells #[] 5)) A l := hl.below (B := w.heap.size) (by (repeat (first | with_reducible exact Below.refl _ _ | with_reducible assumption | ((with_reducible refine Below.setCell ?_ ?hp _); case hp => (first | omega | (simp only [World.size_alloc, World.size_setCell, World.size_drew]; omega) | (simp; done) | (simp; omega))) | ((with_reducible refine Below.alloc ?_ ?hp _); case hp => (first | omega | (simp only [World.size_alloc, World.size_setCell, World.size_drew]; omega) | (simp; done) | (simp; omega))) | with_reducible refine Below.drew ?_ | with_reducible refine below_drewN ?_ _))) (Nat.le_refl _)
  have HL := Lib.hid hl1
  cases A with
  | none =>
    have h0 : l = [] := Classical.byContradiction fun h => by obtain ⟨b, o, h1, _⟩ := hl.at_ h; cases h1
    subst h0
    clear hl hl1
    have hnil := fun (w : World) => Lib.run_eql_slice_nil (P := Try.prog) w 122 5 none 0 c 0 0 Try.underlying122
    go_enter Try.func149, Try.ntmps149
    go_wp2
    go_ret
    exact ⟨none, 0, rfl, Enc.Own.nil, Below.refl _ _⟩
  | some ad =>
    clear hl hl1
    have hnil := fun (w : World) => Lib.run_eql_slice_nil (P := Try.prog) w 122 5 (some ad) l.length c 0 0 Try.underlying122
    go_enter Try.func149, Try.ntmps149
    go_wp2_with (at_builtin; refine wpList_append_L EY 5 122 rfl (.tmp 5) (.tmp 6) rfl _ 1 Try.underlying122 info_byte rfl (by decide) _ w.heap.size (some ⟨w.heap.size, 0, none⟩) 0 [] rfl (Enc.Own.fresh EY w _) (some ad) c l rfl HL.out (by simp; omega) (by decide) (by simp) ?_; intro A' c' w' hown hg hat)
    go_ret
    exact ⟨A', c', rfl, hown, below_append (by (repeat (first | with_reducible exact Below.refl _ _ | with_reducible assumption | ((with_reducible refine Below.setCell ?_ ?hp _); case hp => (first | omega | (simp only [World.size_alloc, World.size_setCell, World.size_drew]; omega) | (simp; done) | (simp; omega))) | ((with_reducible refine Below.alloc ?_ ?hp _); case hp => (first | omega | (simp only [World.size_alloc, World.size_setCell, World.size_drew]; omega) | (simp; done) | (simp; omega))) | with_reducible refine Below.drew ?_ | with_reducible refine below_drewN ?_ _))) (Enc.Own.fresh EY w _) hg (by simp)⟩

theorem mod_u8 (y : Nat) : ((y : Int) % 256) = ((y % 256 : Nat) : Int) := by omega

set_option maxRecDepth 100000 in
set_option maxHeartbeats 400000 in
theorem put_any (A : Option Addr) (c : Nat) (l : List Nat) (x n : Nat) (w : World) (hl : EY.Rd w A l) (hlen : l.length ≤ 1000) (hx : x < 18446744073709551616) (hn : n ≤ 8) :
    Calls Try.prog 128 #[.slice A l.length c, .int .u64 x, .int .i64 n] w fun e w' => ∃ A' c', e = .returned (.slice A' (l.length + n) c') ∧ EY.Own 5 w' w.heap.size A' c' (l ++ lowL n x) ∧ Below w.heap.size w w' := by
  have HC := Lib.hid (cloneb_any A c l w hl (by omega))
  clear hl
  go_enter Try.func128, Try.ntmps128
  go_wp2_with (go_at_call 149; refine HC.out.mono ?_; rintro e w1 ⟨R, c1, rfl, ho, hb1⟩; have HO1 := Lib.hid ho; have HB1 := Lib.hid hb1; clear ho hb1)
  go_loopw [1, 7, 11] (fun v out i wr => ∃ (k : Nat) (R : Option Addr) (c : Nat), k ≤ n ∧ i = .int .i64 k ∧ v = .int .u64 ((x / 256 ^ k : Nat) : Int) ∧ out = .slice R (l ++ lowL k x).length c ∧ EY.Own 5 wr w.heap.size R c (l ++ lowL k x) ∧ Below w.heap.size w wr) (fun _ _ i _ => n - (intOf i).toNat)
  case atStart => exact ⟨0, R, c1, by omega, rfl, by simp, by simp [lowL], by simpa [lowL] using HO1.out, HB1.out⟩
  case round =>
    obtain ⟨k, R, c, hk, rfl, rfl, rfl, ho, hb⟩ := hrel
    have HO := Lib.hid ho
    have HB := Lib.hid hb
    have hsz := hb.size
    clear ho hb
    have hy : x / 256 ^ k < 18446744073709551616 := Nat.lt_of_le_of_lt (Nat.div_le_self _ _) hx
    by_cases hlt : k < n
    · have HS := Lib.hid (show l ++ lowL (k + 1) x = (l ++ lowL k x) ++ [x / 256 ^ k % 256] by rw [lowL_snoc, List.append_assoc])
      have HD := Lib.hid (show x / 256 ^ (k + 1) = x / 256 ^ k / 256 by rw [Nat.pow_succ, Nat.div_div_eq_div_mul])
      have hll : (l ++ lowL k x).length ≤ 1008 := by rw [List.length_append, lowL_len]; omega
      generalize l ++ lowL k x = q at *
      generalize x / 256 ^ k = y at *
      have e2 : 0 ≤ (y : Int) % 256 := by omega
      have e3 : (y : Int) % 256 ≤ 255 := by omega
      go_wp2_with (at_builtin; refine wpList_append_L EY 5 122 rfl (.tmp 13) (.tmp 17) rfl _ 1 Try.underlying122 info_byte rfl (by decide) _ w.heap.size R c q rfl (HO.out.below (by (repeat (first | with_reducible exact Below.refl _ _ | with_reducible assumption | ((with_reducible refine Below.setCell ?_ ?hp _); case hp => (first | omega | (simp only [World.size_alloc, World.size_setCell, World.size_drew]; omega) | (simp; done) | (simp; omega))) | ((with_reducible refine Below.alloc ?_ ?hp _); case hp => (first | omega | (simp only [World.size_alloc, World.size_setCell, World.size_drew]; omega) | (simp; done) | (simp; omega))) | with_reducible refine Below.drew ?_ | with_reducible refine below_drewN ?_ _))) (Nat.le_refl _)) (some ⟨wr.heap.size, 0, none⟩) 1 [y % 256] rfl (Enc.Rd.one_at EY _ _ (y % 256) _ (by rfl) _ rfl) (by show q.length + 1 ≤ _; omega) (by decide) (by simp only [World.size_alloc]; omega) ?_; intro R' c' w3 hown3 hg hat)
      go_roundw
      case rel =>
        refine ⟨k + 1, R', c', by omega, by go_num, ?_, ?_, ?_, ?_⟩
        · rw [HD.out]; congr 1
        · rw [HS.out]; simp
        · rw [HS.out]; exact hown3
        · exact below_append (HB.out.alloc hsz _) (HO.out.below (by (repeat (first | with_reducible exact Below.refl _ _ | with_reducible assumption | ((with_reducible refine Below.setCell ?_ ?hp _); case hp => (first | omega | (simp only [World.size_alloc, World.size_setCell, World.size_drew]; omega) | (simp; done) | (simp; omega))) | ((with_reducible refine Below.alloc ?_ ?hp _); case hp => (first | omega | (simp only [World.size_alloc, World.size_setCell, World.size_drew]; omega) | (simp; done) | (simp; omega))) | with_reducible refine Below.drew ?_ | with_reducible refine below_drewN ?_ _))) (Nat.le_refl _)) hg (by (first | omega | (simp only [World.size_alloc, World.size_setCell, World.size_drew]; omega) | (simp; done) | (simp; omega)))
      case measure => simp [intOf]; omega
    · have hk' : k = n := by omega
      subst hk'
      go_wp2
      go_ret
      refine ⟨R, c, ?_, HO.out, HB.out⟩
      show Ending.returned (Value.slice R (l ++ lowL k x).length c) = _
      rw [List.length_append, lowL_len]

set_option maxHeartbeats 400000 in
theorem put32_any (A : Option Addr) (c : Nat) (l : List Nat) (x : Nat) (w : World) (hl : EY.Rd w A l) (hlen : l.length ≤ 1000) (hx : x < 4294967296) :
    Calls Try.prog 80 #[.slice A l.length c, .int .u32 x] w fun e w' => ∃ A' c', e = .returned (.slice A' (l.length + 4) c') ∧ EY.Own 5 w' w.heap.size A' c' (l ++ lowL 4 x) ∧ Below w.heap.size w w' := by
  have HC := Lib.hid (put_any A c l x 4 w hl hlen (by omega) (by omega))
  have e2 : 0 ≤ (x : Int) := by omega
  have e3 : (x : Int) ≤ 18446744073709551615 := by omega
  clear hl hx
  go_enter Try.func80, Try.ntmps80
  go_wp2_with (go_at_call 128; refine HC.out.mono ?_; rintro e w1 ⟨R, c1, rfl, ho, hb1⟩)
  go_ret
  exact ⟨R, c1, rfl, ho, hb1⟩

set_option maxHeartbeats 400000 in
theorem put64_any (A : Option Addr) (c : Nat) (l : List Nat) (x : Nat) (w : World) (hl : EY.Rd w A l) (hlen : l.length ≤ 1000) (hx : x < 18446744073709551616) :
    Calls Try.prog 150 #[.slice A l.length c, .int .u64 x] w fun e w' => ∃ A' c', e = .returned (.slice A' (l.length + 8) c') ∧ EY.Own 5 w' w.heap.size A' c' (l ++ lowL 8 x) ∧ Below w.heap.size w w' := by
  have HC := Lib.hid (put_any A c l x 8 w hl hlen hx (by omega))
  clear hl hx
  go_enter Try.func150, Try.ntmps150
  go_wp2_with (go_at_call 128; refine HC.out.mono ?_; rintro e w1 ⟨R, c1, rfl, ho, hb1⟩)
  go_ret
  exact ⟨R, c1, rfl, ho, hb1⟩
end Go.Proofs.Ytfjbanfibmpalaa

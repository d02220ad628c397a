/- Contracts: the machine's loads and steps. -/
import Derived.Test.YtfjbanfibmpalaaK56
set_option linter.unusedVariables false
set_option linter.unusedSimpArgs false
namespace Go.Proofs.Ytfjbanfibmpalaa
open Go.RowKit Go.Shelf

/-- A machine's cells. -/
def vmA (pc : Int) (r : Rg) : Array Value := (Value.int .i64 pc :: Value.int .u32 r.a :: Value.int .u32 r.x :: r.mem.map fun (m : Nat) => Value.int .u32 (m : Int)).toArray
structure Rg.Ok (r : Rg) : Prop where
  a : r.a < 4294967296
  x : r.x < 4294967296
  len : r.mem.length = 16
  mem : ∀ m ∈ r.mem, m < 4294967296

theorem vmA_size (pc : Int) (r : Rg) (h : r.Ok) : (vmA pc r).size = 19 := by simp [vmA, h.len]
theorem vmA_0 (pc : Int) (r : Rg) : (vmA pc r)[0]? = some (.int .i64 pc) := by simp [vmA]
theorem vmA_1 (pc : Int) (r : Rg) : (vmA pc r)[1]? = some (.int .u32 r.a) := by simp [vmA]
theorem vmA_2 (pc : Int) (r : Rg) : (vmA pc r)[2]? = some (.int .u32 r.x) := by simp [vmA]
theorem vmA_m (pc : Int) (r : Rg) (h : r.Ok) (k : Nat) (hk : k < 16) : (vmA pc r)[3 + k]? = some (.int .u32 ((r.mem.getD k 0 : Nat) : Int)) := by
  have : k < r.mem.length := by rw [h.len]; exact hk
  rw [show 3 + k = k + 1 + 1 + 1 by omega]
  simp [vmA, this]
theorem vmA_one (pc : Int) (r : Rg) : (vmA pc r).all (·.oneCell') = true := by
  rw [vmA, List.all_toArray]
  simp only [List.all_cons, List.all_map]
  simp [Value.oneCell', Function.comp_def]
theorem vmA_pc (pc q : Int) (r : Rg) : (vmA pc r).setIfInBounds 0 (.int .i64 q) = vmA q r := by simp [vmA]
theorem vmA_a (pc : Int) (r : Rg) (v : Nat) : (vmA pc r).setIfInBounds 1 (.int .u32 v) = vmA pc { r with a := v } := by simp [vmA]
theorem vmA_x (pc : Int) (r : Rg) (v : Nat) : (vmA pc r).setIfInBounds 2 (.int .u32 v) = vmA pc { r with x := v } := by simp [vmA]
theorem vmA_mem (pc : Int) (r : Rg) (k v : Nat) : (vmA pc r).setIfInBounds (3 + k) (.int .u32 v) = vmA pc { r with mem := r.mem.set k v } := by
  rw [show 3 + k = k + 1 + 1 + 1 by omega]
  simp [vmA, List.map_set]

/-- What is loaded at an offset. -/
def datL (d : Dt) (k : Nat) : Nat := if placeOk k then wordD d k else 0
theorem datL_lt {d : Dt} (h : d.Ok) (k : Nat) : datL d k < 4294967296 := by
  unfold datL; split
  · exact wordD_lt h k
  · decide
theorem word_any (d : Dt) (hd : d.Ok) (k : Nat) (w : World) :
    Calls Try.prog 43 #[(Value.agg #[.int .u32 d.nr, .int .u32 d.arch, .int .u64 d.ip, .int .u64 d.a0, .int .u64 d.a1, .int .u64 d.a2, .int .u64 d.a3, .int .u64 d.a4, .int .u64 d.a5]), .int .u32 k] w fun e w' => (∃ q, e = .returned (.tuple #[.int .u32 ((datL d k : Nat) : Int), .int .i64 q])) ∧ Below w.heap.size w w' := by
  by_cases hk : placeOk k = true
  · refine (word_good d hd k w hk).mono ?_
    rintro e w' ⟨rfl, hb⟩
    exact ⟨⟨0, by rw [datL, if_pos hk]⟩, hb⟩
  · refine (word_bad d k w (by simpa using hk)).mono ?_
    rintro e w' ⟨rfl, hb⟩
    exact ⟨⟨2, by rw [datL, if_neg hk]; rfl⟩, hb⟩

set_option maxRecDepth 100000 in
set_option maxHeartbeats 400000 in
theorem loaded_any (y : Insn) (hy : y.Ok) (d : Dt) (hd : d.Ok) (pc : Int) (r : Rg) (hr : r.Ok) (hk : y.code / 32 % 8 = 3 → y.k < 16) (w : World) :
    Calls Try.prog 117 #[(Value.agg #[.int .u16 y.code, .int .u8 y.jt, .int .u8 y.jf, .int .u32 y.k]), (Value.agg #[.int .u32 d.nr, .int .u32 d.arch, .int .u64 d.ip, .int .u64 d.a0, .int .u64 d.a1, .int .u64 d.a2, .int .u64 d.a3, .int .u64 d.a4, .int .u64 d.a5]), .agg (vmA pc r)] w fun e w' => e = .returned (.int .u32 ((loadL y (datL d) r : Nat) : Int)) ∧ Below w.heap.size w w' := by
  have hm := u16_224 y.code hy.code
  have hi : y.code / 32 % 8 < 8 := Nat.mod_lt _ (by decide)
  have HW := Lib.hid (fun k W => word_any d hd k W)
  have HR := Lib.hid hr
  have HD := Lib.hid (fun k => datL_lt hd k)
  unfold loadL
  generalize y.code / 32 % 8 = i at *
  generalize datL d = dd at *
  by_cases h0 : i = 0
  · subst h0
    have hm0 : bits .and .u16 (y.code : Int) 224 = 0 := by rw [hm]; rfl
    clear hm hi hk
    go_enter Try.func117, Try.ntmps117
    go_wp2
    go_ret
    exact ⟨rfl, by (repeat (first | with_reducible exact Below.refl _ _ | with_reducible assumption | ((with_reducible refine Below.setCell ?_ ?hp _); case hp => (first | omega | (simp only [World.size_alloc, World.size_setCell, World.size_drew]; omega) | (simp; done) | (simp; omega))) | ((with_reducible refine Below.alloc ?_ ?hp _); case hp => (first | omega | (simp only [World.size_alloc, World.size_setCell, World.size_drew]; omega) | (simp; done) | (simp; omega))) | with_reducible refine Below.drew ?_ | with_reducible refine below_drewN ?_ _))⟩
  by_cases h1 : i = 1
  · subst h1
    have hm0 : bits .and .u16 (y.code : Int) 224 = 32 := by rw [hm]; rfl
    clear hm hi hk
    go_enter Try.func117, Try.ntmps117
    go_wp2_with (go_at_call 43; refine (HW.out _ _).mono ?_; rintro e w1 ⟨⟨q, rfl⟩, hb1⟩)
    go_ret
    exact ⟨rfl, Below.trans (by (repeat (first | with_reducible exact Below.refl _ _ | with_reducible assumption | ((with_reducible refine Below.setCell ?_ ?hp _); case hp => (first | omega | (simp only [World.size_alloc, World.size_setCell, World.size_drew]; omega) | (simp; done) | (simp; omega))) | ((with_reducible refine Below.alloc ?_ ?hp _); case hp => (first | omega | (simp only [World.size_alloc, World.size_setCell, World.size_drew]; omega) | (simp; done) | (simp; omega))) | with_reducible refine Below.drew ?_ | with_reducible refine below_drewN ?_ _))) (hb1.mono (by simp; omega))⟩
  by_cases h3 : i = 3
  · subst h3
    have hm0 : bits .and .u16 (y.code : Int) 224 = 96 := by rw [hm]; rfl
    have hk' := hk rfl
    have hv := vmA_m pc r hr y.k hk'
    have i1 : ((y.k : Nat) : Int) < 16 := by omega
    have i2 : (0 : Int) ≤ ((y.k : Nat) : Int) := by omega
    clear hm hi hk
    rw [if_neg (by omega), if_neg (by omega), if_pos rfl]
    generalize r.mem.getD y.k 0 = z at *
    generalize vmA pc r = va at *
    go_enter Try.func117, Try.ntmps117
    go_wp2
    go_ret
    exact ⟨rfl, by (repeat (first | with_reducible exact Below.refl _ _ | with_reducible assumption | ((with_reducible refine Below.setCell ?_ ?hp _); case hp => (first | omega | (simp only [World.size_alloc, World.size_setCell, World.size_drew]; omega) | (simp; done) | (simp; omega))) | ((with_reducible refine Below.alloc ?_ ?hp _); case hp => (first | omega | (simp only [World.size_alloc, World.size_setCell, World.size_drew]; omega) | (simp; done) | (simp; omega))) | with_reducible refine Below.drew ?_ | with_reducible refine below_drewN ?_ _))⟩
  · have hm0 : ((bits .and .u16 (y.code : Int) 224 == 0) = false) ∧ ((bits .and .u16 (y.code : Int) 224 == 32) = false) ∧ ((bits .and .u16 (y.code : Int) 224 == 96) = false) := by
      rw [hm]; simp; omega
    obtain ⟨m0, m1, m2⟩ := hm0
    rw [if_neg h0, if_neg h1, if_neg h3]
    clear hm hi hk
    go_enter Try.func117, Try.ntmps117
    go_wp2
    go_ret
    exact ⟨rfl, by (repeat (first | with_reducible exact Below.refl _ _ | with_reducible assumption | ((with_reducible refine Below.setCell ?_ ?hp _); case hp => (first | omega | (simp only [World.size_alloc, World.size_setCell, World.size_drew]; omega) | (simp; done) | (simp; omega))) | ((with_reducible refine Below.alloc ?_ ?hp _); case hp => (first | omega | (simp only [World.size_alloc, World.size_setCell, World.size_drew]; omega) | (simp; done) | (simp; omega))) | with_reducible refine Below.drew ?_ | with_reducible refine below_drewN ?_ _))⟩

theorem results_cell3 {P : Program} {fn : Func} {p t u : Tmp} {ty : TypeId} (h : fn.results = #[.cell p ty, .tmp t, .tmp u]) (tmps : Array Value) (w : World) (g : Nat) (tt : TypeId) (cs : Array Value) (fr : Nat × Nat) (d : TypeDesc)
    (hp : tmps.getD p undef = .pointer (some ⟨g, 0, none⟩)) (hg : w.heap[g]? = some (.cells cs tt fr))
    (hu : P.underlying ty = some d) (hd : (match d with | .struct _ | .array _ _ => true | _ => false) = true) (hi : (P.info? ty).map (·.size) = some cs.size) :
    (results fn tmps).run P w = .ok (.tuple #[.agg cs, tmps.getD t undef, tmps.getD u undef]) w := by
  have hp' : tmps[p]?.getD undef = .pointer (some ⟨g, 0, none⟩) := by simpa using hp
  simp [results, h, hp', asAddr, run_loadVar_row w g tt ty cs fr d hg hu hd hi]

theorem info_vm (pc : Int) (r : Rg) (h : r.Ok) : (Try.prog.info? 50).map (·.size) = some (vmA pc r).size := by rw [vmA_size pc r h]; kernel_rfl

/-- A machine of noughts. -/
theorem vmA_zero : vmA 0 rg0 = #[.int .i64 0, .int .u32 0, .int .u32 0, .int .u32 0, .int .u32 0, .int .u32 0, .int .u32 0, .int .u32 0, .int .u32 0, .int .u32 0, .int .u32 0, .int .u32 0, .int .u32 0, .int .u32 0, .int .u32 0, .int .u32 0, .int .u32 0, .int .u32 0, .int .u32 0] := rfl
theorem rg0_ok : rg0.Ok := ⟨by decide, by decide, rfl, by intro m hm; have := List.eq_of_mem_replicate hm; omega⟩

/-- What a step comes to. -/
def stepV (y : Insn) (dd : Nat → Nat) (pc : Int) (r : Rg) : Value :=
  match endsL y r with
  | some v => .tuple #[.agg (vmA pc r), .int .u32 (v : Nat), .bool true]
  | none => .tuple #[.agg (vmA (pc + 1 + offL y r) (effL y dd r)), .int .u32 0, .bool false]
end Go.Proofs.Ytfjbanfibmpalaa

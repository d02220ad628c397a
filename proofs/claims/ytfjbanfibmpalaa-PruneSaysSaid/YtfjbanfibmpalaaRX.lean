/- RX -/
import Derived.Test.YtfjbanfibmpalaaRC
import Derived.Test.YtfjbanfibmpalaaVB
import Derived.Deep.MidRow

/- Words: arguments that are structs by value (a call's data, a machine), opened. -/
set_option linter.unusedVariables false
set_option linter.unusedSimpArgs false
set_option maxRecDepth 100000
namespace Go.Proofs.Ytfjbanfibmpalaa
open Go.ChangeShapes Go.WideShapes Go.ChangeAt Go.RowKit Go.Deep

section
variable {H : Type} {enc : TypeId × Value → H} {W : World}

/-- An array of whole numbers reads as a list. -/
theorem open_arr {t e : TypeId} {n : Nat} {k : IntKind} (ht : Try.prog.underlying t = some (.array n e)) (he : Try.prog.underlying e = some (.int k)) (hc : Try.prog.cellsOf e = 1) (hct : Try.prog.cellsOf t = n) {fuel : Nat} {cs : List Value} {x : DataW H × List MemPlace}
    (h : DataW.trod enc Try.prog W 0 (fun _ => true) true fuel t cs = some x) : ∃ zs : List Int, zs.length = n ∧ (∀ z ∈ zs, (Lit.int k z).wf = true) ∧ cs = zs.map (Value.int k) := by
  obtain ⟨xs, m, _, _, hl, hx, hi⟩ := DataW.trod_array ht h
  rw [hc] at hi
  rw [hct] at hl
  have hz : ∀ i, ∃ z : Int, i < n → cs[i]? = some (.int k z) ∧ (Lit.int k z).wf = true := by
    intro i
    by_cases hin : i < n
    · have h1 := hi i hin
      rw [Nat.mul_one, List.getElem?_eq_getElem (by omega)] at h1
      obtain ⟨z, e, _, w⟩ := DataW.trod_int he h1
      refine ⟨z, fun _ => ⟨?_, w⟩⟩
      have : ((cs.drop i).take 1)[0]? = some (.int k z) := by rw [e]; rfl
      rw [List.getElem?_take, if_pos (by decide), List.getElem?_drop, Nat.add_zero] at this
      exact this
    · exact ⟨0, fun q => absurd q hin⟩
  obtain ⟨f, hf⟩ := Classical.axiomOfChoice hz
  refine ⟨(List.range n).map f, by simp, ?_, ?_⟩
  · intro z hzm
    obtain ⟨i, hi, rfl⟩ := List.mem_map.1 hzm
    exact (hf i (List.mem_range.1 hi)).2
  · refine List.ext_getElem? (fun i => ?_)
    by_cases hin : i < n
    · rw [(hf i hin).1]; simp [hin]
    · rw [List.getElem?_eq_none (by omega)]; simp [Nat.not_lt.1 hin]

theorem nat_of {k : IntKind} {zs : List Int} (h : ∀ z ∈ zs, 0 ≤ z) : zs.map (Value.int k) = (zs.map Int.toNat).map (fun (m : Nat) => Value.int k (m : Int)) := by
  rw [List.map_map]
  refine List.map_congr_left (fun z hz => ?_)
  have := h z hz
  show Value.int k z = Value.int k ((z.toNat : Nat) : Int)
  rw [Int.toNat_of_nonneg this]

set_option maxRecDepth 100000 in
/-- A machine that came in. -/
theorem vm_of {base : Nat} {v : Value} {d : DataW H} {p : List MemPlace} (hv : Value.okWide Try.prog W .any base 50 v) (h : DataW.Trod enc Try.prog W 0 (fun _ => true) true 50 v d p) :
    ∃ (pc : Int) (r : Rg), -9223372036854775808 ≤ pc ∧ pc ≤ 9223372036854775807 ∧ r.Ok ∧ v = .agg (vmA pc r) := by
  obtain ⟨cs, rfl, hsz⟩ := okWide_struct Try.underlying50 hv
  obtain ⟨fuel, hf⟩ := h
  obtain ⟨y0, y1, y2, y3, n, _, hl, h0, h1, h2, h3⟩ := Go.Joins.trod_struct4 Try.underlying50 hf
  have kk : Try.prog.cellsOf 50 = 19 := by kernel_rfl
  rw [kk] at hl
  obtain ⟨l⟩ := cs
  have k0 : Try.prog.cellsOf 3 = 1 := by kernel_rfl
  have k1 : Try.prog.cellsOf 33 = 1 := by kernel_rfl
  have k3 : Try.prog.cellsOf 48 = 16 := by kernel_rfl
  match l, hl with
  | c0 :: c1 :: c2 :: rest, hl =>
    obtain ⟨n0, e0, _, w0⟩ := DataW.trod_int Try.underlying3 h0
    obtain ⟨n1, e1, _, w1⟩ := DataW.trod_int Try.underlying33 h1
    obtain ⟨n2, e2, _, w2⟩ := DataW.trod_int Try.underlying33 h2
    obtain ⟨zs, hzl, hzw, e3⟩ := open_arr Try.underlying48 Try.underlying33 k1 k3 h3
    have hrl : rest.length = 16 := by simpa [Value.cells] using hl
    simp [k0, k1, k3, Value.cells] at e0 e1 e2 e3
    rw [List.take_of_length_le (by omega)] at e3
    subst e0; subst e1; subst e2; subst e3
    have b0 := bounds_i64 w0
    have b1 := bounds_u32 w1
    have b2 := bounds_u32 w2
    have hz0 : ∀ z ∈ zs, 0 ≤ z := fun z hz => (bounds_u32 (hzw z hz)).1
    refine ⟨n0, ⟨n1.toNat, n2.toNat, zs.map Int.toNat⟩, b0.1, b0.2, ⟨by show n1.toNat < _; omega, by show n2.toNat < _; omega, by simp [hzl], ?_⟩, ?_⟩
    · intro m hm
      obtain ⟨z, hz, rfl⟩ := List.mem_map.1 hm
      have := bounds_u32 (hzw z hz); omega
    · have q1 : ((n1.toNat : Nat) : Int) = n1 := by omega
      have q2 : ((n2.toNat : Nat) : Int) = n2 := by omega
      unfold vmA
      simp only [q1, q2]
      rw [nat_of hz0]

set_option maxRecDepth 100000 in
theorem open_data {fuel : Nat} {cs : List Value} {x : DataW H × List MemPlace} (hf : DataW.trod enc Try.prog W 0 (fun _ => true) true fuel 47 cs = some x) :
    ∃ y : Dt, y.Ok ∧ cs = [.int .u32 y.nr, .int .u32 y.arch, .int .u64 y.ip, .int .u64 y.a0, .int .u64 y.a1, .int .u64 y.a2, .int .u64 y.a3, .int .u64 y.a4, .int .u64 y.a5] := by
  obtain ⟨y0, y1, y2, y3, n, _, hl, h0, h1, h2, h3⟩ := Go.Joins.trod_struct4 Try.underlying47 hf
  have kk : Try.prog.cellsOf 47 = 9 := by kernel_rfl
  rw [kk] at hl
  have k1 : Try.prog.cellsOf 33 = 1 := by kernel_rfl
  have k2 : Try.prog.cellsOf 44 = 1 := by kernel_rfl
  have k3 : Try.prog.cellsOf 45 = 6 := by kernel_rfl
  match cs, hl with
  | c0 :: c1 :: c2 :: rest, hl =>
    obtain ⟨n0, e0, _, w0⟩ := DataW.trod_int Try.underlying33 h0
    obtain ⟨n1, e1, _, w1⟩ := DataW.trod_int Try.underlying33 h1
    obtain ⟨n2, e2, _, w2⟩ := DataW.trod_int Try.underlying44 h2
    obtain ⟨zs, hzl, hzw, e3⟩ := open_arr Try.underlying45 Try.underlying44 k2 k3 h3
    have hrl : rest.length = 6 := by simpa [Value.cells] using hl
    simp [k1, k2, k3, Value.cells] at e0 e1 e2 e3
    rw [List.take_of_length_le (by omega)] at e3
    subst e0; subst e1; subst e2; subst e3
    have b0 := bounds_u32 w0
    have b1 := bounds_u32 w1
    have b2 := bounds_u64 w2
    match zs, hzl with
    | [z0, z1, z2, z3, z4, z5], _ =>
      have g0 := bounds_u64 (hzw z0 (by simp))
      have g1 := bounds_u64 (hzw z1 (by simp))
      have g2 := bounds_u64 (hzw z2 (by simp))
      have g3 := bounds_u64 (hzw z3 (by simp))
      have g4 := bounds_u64 (hzw z4 (by simp))
      have g5 := bounds_u64 (hzw z5 (by simp))
      refine ⟨⟨n0.toNat, n1.toNat, n2.toNat, z0.toNat, z1.toNat, z2.toNat, z3.toNat, z4.toNat, z5.toNat⟩, ⟨by show n0.toNat < _; omega, by show n1.toNat < _; omega, by show n2.toNat < _; omega, by show z0.toNat < _; omega, by show z1.toNat < _; omega, by show z2.toNat < _; omega,
        by show z3.toNat < _; omega, by show z4.toNat < _; omega, by show z5.toNat < _; omega⟩, ?_⟩
      simp only [List.map_cons, List.map_nil, Int.toNat_of_nonneg b0.1, Int.toNat_of_nonneg b1.1, Int.toNat_of_nonneg b2.1, Int.toNat_of_nonneg g0.1, Int.toNat_of_nonneg g1.1, Int.toNat_of_nonneg g2.1, Int.toNat_of_nonneg g3.1, Int.toNat_of_nonneg g4.1, Int.toNat_of_nonneg g5.1]

/-- A call's data that came in. -/
theorem data_of {base : Nat} {v : Value} {d : DataW H} {p : List MemPlace} (hv : Value.okWide Try.prog W .any base 47 v) (h : DataW.Trod enc Try.prog W 0 (fun _ => true) true 47 v d p) :
    ∃ y : Dt, y.Ok ∧ v = (Value.agg #[.int .u32 y.nr, .int .u32 y.arch, .int .u64 y.ip, .int .u64 y.a0, .int .u64 y.a1, .int .u64 y.a2, .int .u64 y.a3, .int .u64 y.a4, .int .u64 y.a5]) := by
  obtain ⟨cs, rfl, hsz⟩ := okWide_struct Try.underlying47 hv
  obtain ⟨fuel, hf⟩ := h
  obtain ⟨y, hy, e⟩ := open_data hf
  refine ⟨y, hy, ?_⟩
  congr 1
  exact Array.ext' e
end
end Go.Proofs.Ytfjbanfibmpalaa

/- Words: a slice of data that came in. -/
set_option linter.unusedVariables false
set_option linter.unusedSimpArgs false
namespace Go.Proofs.Ytfjbanfibmpalaa
open Go.ChangeShapes Go.WideShapes Go.ChangeAt Go.RowKit Go.Deep

/-- Data in cells. -/
def dtC (d : Dt) : List Value := [.int .u32 d.nr, .int .u32 d.arch, .int .u64 d.ip, .int .u64 d.a0, .int .u64 d.a1, .int .u64 d.a2, .int .u64 d.a3, .int .u64 d.a4, .int .u64 d.a5]
/-- A slice that reads as data. -/
structure RdD (w : World) (A : Option Addr) (l : List Dt) : Prop where
  ok : ∀ y ∈ l, y.Ok
  at_ : l ≠ [] → ∃ b o, A = some ⟨b, o, none⟩ ∧ b < w.heap.size ∧ ∀ i (h : i < l.length), w.rangeAt b (o + i * 9) (dtC (l[i]'h))
theorem RdD.below {w w' : World} {A : Option Addr} {l : List Dt} (h : RdD w A l) {B : Nat} (hb : Below B w w') (hB : w.heap.size ≤ B) : RdD w' A l :=
  ⟨h.ok, fun hn => by
    obtain ⟨b, o, e, hlt, hc⟩ := h.at_ hn
    exact ⟨b, o, e, Nat.lt_of_lt_of_le hlt hb.size, fun i hi j v hv => (hb.cell (p := ⟨b, _, none⟩) (Nat.lt_of_lt_of_le hlt hB)).trans (hc i hi j v hv)⟩⟩

section
variable {H : Type} {enc : TypeId × Value → H} {W : World}
theorem datas_of {fuel : Nat} {a : Option Addr} {len cap : Nat} {x : DataW H × List MemPlace} (h : DataW.trod enc Try.prog W 0 (fun _ => true) true fuel 87 [.slice a len cap] = some x) :
    ∃ l : List Dt, l.length = len ∧ RdD W a l ∧ len ≤ 9223372036854775807 := by
  have k9 : Try.prog.cellsOf 47 = 9 := by kernel_rfl
  rcases open_slice Try.underlying87 h with ⟨hcs, hx⟩ | ⟨ad, len', cap', m, n, D, Pl, hcs, hb, hl, hm, hmm, hx, hi⟩
  · injection hcs with hcs _
    injection hcs with h1 h2 h3
    subst h2
    exact ⟨[], rfl, ⟨by simp, fun hn => absurd rfl hn⟩, by omega⟩
  · injection hcs with hcs _
    injection hcs with h1 h2 h3
    subst h1; subst h2; subst h3
    simp only [if_true] at hmm
    subst hmm
    rw [k9] at hi
    have hy : ∀ i, ∃ y : Dt, i < len → y.Ok ∧ W.cells? 0 (ad.add (i * 9)) 9 = some (dtC y) := by
      intro i
      by_cases him : i < len
      · obtain ⟨cs', hc, ht⟩ := hi i (by omega)
        obtain ⟨y, hok, e⟩ := open_data ht
        exact ⟨y, fun _ => ⟨hok, by rw [hc, e]; rfl⟩⟩
      · exact ⟨⟨0, 0, 0, 0, 0, 0, 0, 0, 0⟩, fun q => absurd q him⟩
    obtain ⟨f, hf⟩ := Classical.axiomOfChoice hy
    refine ⟨(List.range len).map f, by simp, ⟨?_, ?_⟩, by unfold maxLen at hm; omega⟩
    · intro y hy
      obtain ⟨i, hi, rfl⟩ := List.mem_map.1 hy
      exact (hf i (List.mem_range.1 hi)).1
    · intro hne
      have hpos : 0 < len := by
        rcases Nat.eq_zero_or_pos len with h0 | h0
        · subst h0; simp at hne
        · exact h0
      have hc0 := (World.cells?_some (hf 0 hpos).2).2.2
      have hs0 := hc0 0 (by omega)
      obtain ⟨b, off, spot⟩ := ad
      have hspot : spot = none := by
        have := World.cell?_spot (w := W) (a := (⟨b, off, spot⟩ : Addr).add (0 * 9) |>.add 0) (v := .int .u32 (f 0).nr) (by rw [hs0]; rfl)
        simpa [Addr.add] using this
      subst hspot
      have hcell : ∀ i, i < len → ∀ j u, (dtC (f i))[j]? = some u → W.cell? ⟨b, off + i * 9 + j, none⟩ = some u := by
        intro i hi j u hu
        have hj : j < 9 := by
          rcases Nat.lt_or_ge j 9 with h | h
          · exact h
          · rw [List.getElem?_eq_none (by show (dtC (f i)).length ≤ j; exact h)] at hu; cases hu
        have := (World.cells?_some (hf i hi).2).2.2 j hj
        rw [hu] at this
        rw [← this]
        congr 1
        unfold Addr.add
        split <;> split <;> simp_all
      refine ⟨b, off, rfl, World.block_lt_of_cell? W ⟨b, off + 0 * 9 + 0, none⟩ (hcell 0 hpos 0 _ rfl), fun i hi => ?_⟩
      have hi' : i < len := by simpa using hi
      simp only [List.getElem_map, List.getElem_range]
      exact fun j v hv => hcell i hi' j v hv
end
end Go.Proofs.Ytfjbanfibmpalaa

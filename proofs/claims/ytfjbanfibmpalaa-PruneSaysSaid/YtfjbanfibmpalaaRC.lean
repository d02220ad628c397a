/- RC -/
import Derived.Test.YtfjbanfibmpalaaRows
import Derived.Test.YtfjbanfibmpalaaKA
import Derived.ProofKit
import Derived.SizedLaws
import Derived.Lib.SmallJoins
import Derived.Deep.Slices

/- Words: an argument that is a slice of instructions, opened; a law's end. -/
set_option linter.unusedVariables false
set_option linter.unusedSimpArgs false
namespace Go.Proofs.Ytfjbanfibmpalaa
open Go.ChangeShapes Go.WideShapes Go.ChangeAt Go.RowKit Go.Deep

theorem Try.own : ownKnob Try.prog.godebug = none := by kernel_rfl
theorem Try.laidOut : laidOutB Try.prog = true := by kernel_rfl
theorem cells_insn : Try.prog.cellsOf 36 = 4 := by kernel_rfl
theorem bytes_insn : Try.prog.bytesOf 36 = 8 := by kernel_rfl


section
variable {H : Type} {enc : TypeId × Value → H} {W : World}

set_option maxRecDepth 100000 in
theorem open_insn {fuel : Nat} {cs : List Value} {x : DataW H × List MemPlace} (h : DataW.trod enc Try.prog W 0 (fun _ => true) true fuel 36 cs = some x) : ∃ y : Insn, y.Ok ∧ cs = y.cells := by
  obtain ⟨y0, y1, y2, y3, n, _, hl, h0, h1, h2, h3⟩ := Go.Joins.trod_struct4 Try.underlying36 h
  rw [cells_insn] at hl
  match cs, hl with
  | [c0, c1, c2, c3], _ =>
    obtain ⟨n0, e0, _, w0⟩ := DataW.trod_int Try.underlying34 h0
    obtain ⟨n1, e1, _, w1⟩ := DataW.trod_int Try.underlying5 h1
    obtain ⟨n2, e2, _, w2⟩ := DataW.trod_int Try.underlying5 h2
    obtain ⟨n3, e3, _, w3⟩ := DataW.trod_int Try.underlying33 h3
    have k0 : Try.prog.cellsOf 34 = 1 := by kernel_rfl
    have k1 : Try.prog.cellsOf 5 = 1 := by kernel_rfl
    have k2 : Try.prog.cellsOf 33 = 1 := by kernel_rfl
    simp [k0, k1, k2] at e0 e1 e2 e3
    subst e0; subst e1; subst e2; subst e3
    have b0 := bounds_u16 w0
    have b1 := bounds_u8 w1
    have b2 := bounds_u8 w2
    have b3 := bounds_u32 w3
    refine ⟨⟨n0.toNat, n1.toNat, n2.toNat, n3.toNat⟩, ⟨by show n0.toNat < _; omega, by show n1.toNat < _; omega, by show n2.toNat < _; omega, by show n3.toNat < _; omega⟩, ?_⟩
    have q0 : ((n0.toNat : Nat) : Int) = n0 := by omega
    have q1 : ((n1.toNat : Nat) : Int) = n1 := by omega
    have q2 : ((n2.toNat : Nat) : Int) = n2 := by omega
    have q3 : ((n3.toNat : Nat) : Int) = n3 := by omega
    simp only [Insn.cells, q0, q1, q2, q3]

/-- A slice of instructions that came in reads as a list. -/
theorem open_insns {fuel : Nat} {a : Option Addr} {len cap : Nat} {x : DataW H × List MemPlace} (h : DataW.trod enc Try.prog W 0 (fun _ => true) true fuel 24 [.slice a len cap] = some x) :
    ∃ l : List Insn, l.length = len ∧ (∀ y ∈ l, y.Ok) ∧ (l ≠ [] → ∃ b o, a = some ⟨b, o, none⟩ ∧ b < W.heap.size ∧ ∀ i (h : i < l.length), IAt W b (o + i * 4) (l[i]'h)) ∧ len ≤ cap ∧
      (cap = 0 ∨ ∃ E S, x.1 = .slice E S ∧ E.length + S.length = cap) := by
  rcases open_slice Try.underlying24 h with ⟨hcs, hx⟩ | ⟨ad, len', cap', m, n, D, Pl, hcs, hb, hl, hm, hmm, hx, hi⟩
  · injection hcs with hcs _
    injection hcs with h1 h2 h3
    subst h2; subst h3
    exact ⟨[], rfl, by simp, fun hn => absurd rfl hn, Nat.le_refl _, .inl rfl⟩
  · injection hcs with hcs _
    injection hcs with h1 h2 h3
    subst h1; subst h2; subst h3
    simp only [if_true] at hmm
    subst hmm
    rw [cells_insn] at hi
    have hy : ∀ i, ∃ y : Insn, i < len → y.Ok ∧ W.cells? 0 (ad.add (i * 4)) 4 = some y.cells := by
      intro i
      by_cases him : i < len
      · obtain ⟨cs', hc, ht⟩ := hi i (by omega)
        obtain ⟨y, hok, rfl⟩ := open_insn ht
        exact ⟨y, fun _ => ⟨hok, hc⟩⟩
      · exact ⟨default, fun q => absurd q him⟩
    obtain ⟨f, hf⟩ := Classical.axiomOfChoice hy
    refine ⟨(List.range len).map f, by simp, ?_, ?_, hl, .inr ⟨_, _, by rw [hx], by simp; omega⟩⟩
    · intro y hy
      obtain ⟨i, hi, rfl⟩ := List.mem_map.1 hy
      exact (hf i (List.mem_range.1 hi)).1
    · intro hne
      have hpos : 0 < len := by
        rcases Nat.eq_zero_or_pos len with h0 | h0
        · subst h0; simp at hne
        · exact h0
      have hc0 := (World.cells?_some (hf 0 hpos).2).2.2
      have hs0 := hc0 0 (by omega)
      obtain ⟨b, off, spot⟩ := ad
      have hspot : spot = none := by
        have := World.cell?_spot (w := W) (a := (⟨b, off, spot⟩ : Addr).add (0 * 4) |>.add 0) (v := .int .u16 (f 0).code) (by rw [hs0]; rfl)
        simpa [Addr.add] using this
      subst hspot
      have hcell : ∀ i, i < len → ∀ j u, (f i).cells[j]? = some u → W.cell? ⟨b, off + i * 4 + j, none⟩ = some u := by
        intro i hi j u hu
        have hj : j < 4 := by
          rcases Nat.lt_or_ge j 4 with h | h
          · exact h
          · rw [List.getElem?_eq_none (by show (f i).cells.length ≤ j; exact h)] at hu; cases hu
        have := (World.cells?_some (hf i hi).2).2.2 j hj
        rw [hu] at this
        rw [← this]
        congr 1
        unfold Addr.add
        split <;> split <;> simp_all
      refine ⟨b, off, rfl, World.block_lt_of_cell? W ⟨b, off + 0 * 4 + 0, none⟩ (hcell 0 hpos 0 _ rfl), fun i hi => ?_⟩
      have hi' : i < len := by simpa using hi
      simp only [List.getElem_map, List.getElem_range]
      exact ⟨hcell i hi' 0 _ rfl, hcell i hi' 1 _ rfl, hcell i hi' 2 _ rfl, hcell i hi' 3 _ rfl⟩
end
end Go.Proofs.Ytfjbanfibmpalaa

/- Words: a law's end; what came in. -/
set_option linter.unusedVariables false
set_option linter.unusedSimpArgs false
namespace Go.Proofs.Ytfjbanfibmpalaa
open Go.ChangeShapes Go.WideShapes Go.ChangeAt Go.RowKit Go.Deep

/-- What came in, and its reach. -/
structure In (w : World) (A : Option Addr) (c : Nat) (l : List Insn) : Prop where
  rd : RdP w A l
  cap : l.length ≤ c
  cap2 : c ≤ 17592186044416

theorem In.later {w w' : World} {A : Option Addr} {c : Nat} {l : List Insn} (h : In w A c l) (hb : Below w.heap.size w w') : In w' A c l := ⟨h.rd.below hb (Nat.le_refl _), h.cap, h.cap2⟩
/-- What came in is as it was; true comes back. -/
theorem law_post {H : Type} {enc : TypeId × Value → H} {f : Func} {s : ChangeSpec} {W W' : World} {args : Array Value} {ds : List (DataW H)} {before : List MemPlace}
    (hr : f.resultTypes = #[4]) (hs : s.vars = []) (hres : (s.fn H (ds ++ [])).results = [.lit (.bool true)]) (harg : (s.fn H (ds ++ [])).args = ds) (hvar : (s.fn H (ds ++ [])).vars = [])
    (hW : DataW.Whole enc Try.prog f.params.toList s.vars false W args.toList ds [] before)
    (hA : DataW.TrodAll enc Try.prog W 0 (fun _ => true) true f.params.toList args.toList ds before)
    (hargs : ∀ sp : Nat → Bool, (∀ p ∈ before, sp p.block = true) → DataW.TrodAll enc Try.prog W' 0 sp true f.params.toList args.toList ds before) (hb : Below W.heap.size W W') :
    s.post enc Try.prog f false true false false W args (.bool true) W' := by
  have hlt : ∀ p ∈ before, p.block < W.heap.size := fun p hp => hW.lt p hp
  have hold : ∀ p ∈ before, (fun b => decide (b < W.heap.size)) p.block = true := fun p hp => by simpa using hlt p hp
  refine ⟨ds, [], before, [], before, [], hW, ?_, by rw [harg]; exact hargs _ hold, ?_, World.keptBut_mono (fun p hp => ⟨hp, .inr (by simpa using hp)⟩) (hb.frame (· ∈ before)), fun h => by cases h⟩
  · rw [hr, hres]
    exact trodAll_mk1 (shut_bool Try.underlying4 true)
  · rw [hvar, hs]; exact rfl

theorem in_of {H : Type} {enc : TypeId × Value → H} {W : World} {fuel : Nat} {a : Option Addr} {len cap : Nat} {x : DataW H × List MemPlace} (h : DataW.trod enc Try.prog W 0 (fun _ => true) true fuel 24 [.slice a len cap] = some x)
    (hr : ∀ E S, x.1 = .slice E S → (E.length + S.length) * Try.prog.bytesOf 36 ≤ reachBytes) : ∃ l : List Insn, l.length = len ∧ In W a cap l := by
  obtain ⟨l, h1, h2, h3, h4, h5⟩ := open_insns h
  have hc : cap ≤ 17592186044416 := by
    rcases h5 with h5 | ⟨E, S, h5, h6⟩
    · omega
    · have := hr E S h5
      rw [bytes_insn] at this
      unfold reachBytes at this
      omega
  exact ⟨l, h1, ⟨⟨by omega, h2, h3⟩, by omega, hc⟩⟩


set_option maxRecDepth 100000 in
/-- An instruction that came in. -/
theorem insn_of {H : Type} {enc : TypeId × Value → H} {W : World} {base : Nat} {v : Value} {d : DataW H} {p : List MemPlace} (hv : Value.okWide Try.prog W .any base 36 v) (h : DataW.Trod enc Try.prog W 0 (fun _ => true) true 36 v d p) :
    ∃ y : Insn, y.Ok ∧ v = (Value.agg #[.int .u16 y.code, .int .u8 y.jt, .int .u8 y.jf, .int .u32 y.k]) := by
  obtain ⟨cs, rfl, hsz⟩ := okWide_struct Try.underlying36 hv
  obtain ⟨fuel, hf⟩ := h
  obtain ⟨y, hy, e⟩ := open_insn hf
  refine ⟨y, hy, ?_⟩
  have : cs.toList = y.cells := e
  congr 1
  exact Array.ext' this
end Go.Proofs.Ytfjbanfibmpalaa

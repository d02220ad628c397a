/- Words: a law's end; what came in. -/
import Derived.Test.YtfjbanfibmpalaaK40
import Derived.Test.YtfjbanfibmpalaaK9
set_option linter.unusedVariables false
set_option linter.unusedSimpArgs false
namespace Go.Proofs.Ytfjbanfibmpalaa
open Go.ChangeShapes Go.WideShapes Go.ChangeAt Go.RowKit Go.Deep

/-- What came in, and its reach. -/
structure In (w : World) (A : Option Addr) (c : Nat) (l : List Insn) : Prop where
  rd : RdP w A l
  cap : l.length ≤ c
  cap2 : c ≤ 17592186044416

theorem In.later {w w' : World} {A : Option Addr} {c : Nat} {l : List Insn} (h : In w A c l) (hb : Below w.heap.size w w') : In w' A c l := ⟨h.rd.below hb (Nat.le_refl _), h.cap, h.cap2⟩
/-- What came in is as it was; true comes back. -/
theorem law_post {H : Type} {enc : TypeId × Value → H} {f : Func} {s : ChangeSpec} {W W' : World} {args : Array Value} {ds : List (DataW H)} {before : List MemPlace}
    (hr : f.resultTypes = #[4]) (hs : s.vars = []) (hres : (s.fn H (ds ++ [])).results = [.lit (.bool true)]) (harg : (s.fn H (ds ++ [])).args = ds) (hvar : (s.fn H (ds ++ [])).vars = [])
    (hW : DataW.Whole enc Try.prog f.params.toList s.vars false W args.toList ds [] before)
    (hA : DataW.TrodAll enc Try.prog W 0 (fun _ => true) true f.params.toList args.toList ds before)
    (hargs : ∀ sp : Nat → Bool, (∀ p ∈ before, sp p.block = true) → DataW.TrodAll enc Try.prog W' 0 sp true f.params.toList args.toList ds before) (hb : Below W.heap.size W W') :
    s.post enc Try.prog f false true false false W args (.bool true) W' := by
  have hlt : ∀ p ∈ before, p.block < W.heap.size := fun p hp => hW.lt p hp
  have hold : ∀ p ∈ before, (fun b => decide (b < W.heap.size)) p.block = true := fun p hp => by simpa using hlt p hp
  refine ⟨ds, [], before, [], before, [], hW, ?_, by rw [harg]; exact hargs _ hold, ?_, World.keptBut_mono (fun p hp => ⟨hp, .inr (by simpa using hp)⟩) (hb.frame (· ∈ before)), fun h => by cases h⟩
  · rw [hr, hres]
    exact trodAll_mk1 (shut_bool Try.underlying4 true)
  · rw [hvar, hs]; exact rfl

theorem in_of {H : Type} {enc : TypeId × Value → H} {W : World} {fuel : Nat} {a : Option Addr} {len cap : Nat} {x : DataW H × List MemPlace} (h : DataW.trod enc Try.prog W 0 (fun _ => true) true fuel 24 [.slice a len cap] = some x)
    (hr : ∀ E S, x.1 = .slice E S → (E.length + S.length) * Try.prog.bytesOf 36 ≤ reachBytes) : ∃ l : List Insn, l.length = len ∧ In W a cap l := by
  obtain ⟨l, h1, h2, h3, h4, h5⟩ := open_insns h
  have hc : cap ≤ 17592186044416 := by
    rcases h5 with h5 | ⟨E, S, h5, h6⟩
    · omega
    · have := hr E S h5
      rw [bytes_insn] at this
      unfold reachBytes at this
      omega
  exact ⟨l, h1, ⟨⟨by omega, h2, h3⟩, by omega, hc⟩⟩


set_option maxRecDepth 100000 in
/-- An instruction that came in. -/
theorem insn_of {H : Type} {enc : TypeId × Value → H} {W : World} {base : Nat} {v : Value} {d : DataW H} {p : List MemPlace} (hv : Value.okWide Try.prog W .any base 36 v) (h : DataW.Trod enc Try.prog W 0 (fun _ => true) true 36 v d p) :
    ∃ y : Insn, y.Ok ∧ v = (Value.agg #[.int .u16 y.code, .int .u8 y.jt, .int .u8 y.jf, .int .u32 y.k]) := by
  obtain ⟨cs, rfl, hsz⟩ := okWide_struct Try.underlying36 hv
  obtain ⟨fuel, hf⟩ := h
  obtain ⟨y, hy, e⟩ := open_insn hf
  refine ⟨y, hy, ?_⟩
  have : cs.toList = y.cells := e
  congr 1
  exact Array.ext' this
end Go.Proofs.Ytfjbanfibmpalaa

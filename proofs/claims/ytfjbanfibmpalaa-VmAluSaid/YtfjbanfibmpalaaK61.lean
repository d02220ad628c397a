/- Contracts: the machine's step, whole. -/
import Derived.Test.YtfjbanfibmpalaaK60
set_option linter.unusedVariables false
set_option linter.unusedSimpArgs false
namespace Go.Proofs.Ytfjbanfibmpalaa
open Go.RowKit Go.Shelf

/-- Scratch words that there are. -/
def MemOk (y : Insn) : Prop := (y.code % 8 = 0 ∨ y.code % 8 = 1 → y.code / 32 % 8 = 3 → y.k < 16) ∧ (y.code % 8 = 2 ∨ y.code % 8 = 3 → y.k < 16)

theorem step_any (y : Insn) (hy : y.Ok) (d : Dt) (hd : d.Ok) (pc : Int) (hp1 : 0 ≤ pc) (hp2 : pc ≤ 1000000) (r : Rg) (hr : r.Ok) (hm : MemOk y) (w : World) :
    Calls Try.prog 68 #[(Value.agg #[.int .u16 y.code, .int .u8 y.jt, .int .u8 y.jf, .int .u32 y.k]), (Value.agg #[.int .u32 d.nr, .int .u32 d.arch, .int .u64 d.ip, .int .u64 d.a0, .int .u64 d.a1, .int .u64 d.a2, .int .u64 d.a3, .int .u64 d.a4, .int .u64 d.a5]), .agg (vmA pc r)] w fun e w' => e = .returned (stepV y (datL d) pc r) ∧ Below w.heap.size w w' := by
  have h8 : y.code % 8 < 8 := Nat.mod_lt _ (by decide)
  have hs : y.code / 8 % 2 = 0 ∨ y.code / 8 % 2 = 1 := by omega
  have h16 : y.code / 16 % 2 = 0 ∨ y.code / 16 % 2 = 1 := by omega
  have h128 : y.code / 128 % 2 = 0 ∨ y.code / 128 % 2 = 1 := by omega
  rcases (show y.code % 8 = 0 ∨ y.code % 8 = 1 ∨ y.code % 8 = 2 ∨ y.code % 8 = 3 ∨ y.code % 8 = 4 ∨ y.code % 8 = 5 ∨ y.code % 8 = 6 ∨ y.code % 8 = 7 by omega) with hc | hc | hc | hc | hc | hc | hc | hc
  · exact step_0 y hy d hd pc hp1 hp2 r hr hc (hm.1 (.inl hc)) w
  · exact step_1 y hy d hd pc hp1 hp2 r hr hc (hm.1 (.inr hc)) w
  · exact step_2 y hy d hd pc hp1 hp2 r hr hc (hm.2 (.inl hc)) w
  · exact step_3 y hy d hd pc hp1 hp2 r hr hc (hm.2 (.inr hc)) w
  · rcases hs with hs | hs <;> cases hok : (aluL (y.code / 16 % 16) r.a (otherL y r)).2
    · exact step_400 y hy d hd pc hp1 hp2 r hr hc hs hok w
    · exact step_401 y hy d hd pc hp1 hp2 r hr hc hs hok w
    · exact step_410 y hy d hd pc hp1 hp2 r hr hc hs hok w
    · exact step_411 y hy d hd pc hp1 hp2 r hr hc hs hok w
  · by_cases hj : y.code / 16 % 16 = 0
    · exact step_5j y hy d hd pc hp1 hp2 r hr hc hj w
    · rcases hs with hs | hs <;> cases hh : holdsL (y.code / 16 % 16) r.a (otherL y r)
      · exact step_500 y hy d hd pc hp1 hp2 r hr hc hj hs hh w
      · exact step_501 y hy d hd pc hp1 hp2 r hr hc hj hs hh w
      · exact step_510 y hy d hd pc hp1 hp2 r hr hc hj hs hh w
      · exact step_511 y hy d hd pc hp1 hp2 r hr hc hj hs hh w
  · rcases h16 with hb | hb
    · exact step_6k y hy d hd pc hp1 hp2 r hr hc hb w
    · exact step_6a y hy d hd pc hp1 hp2 r hr hc hb w
  · rcases h128 with hb | hb
    · exact step_70 y hy d hd pc hp1 hp2 r hr hc hb w
    · exact step_71 y hy d hd pc hp1 hp2 r hr hc hb w

theorem effL_ok {y : Insn} (hy : y.Ok) {d : Nat → Nat} (hd : ∀ k, d k < 4294967296) {r : Rg} (hr : r.Ok) : (effL y d r).Ok := by
  unfold effL
  repeat' split
  · exact hr.setA (loadL_lt hy hd hr)
  · exact hr.setX (loadL_lt hy hd hr)
  · exact hr.setM _ hr.a
  · exact hr.setM _ hr.x
  · exact hr.setA (aluL_lt hr.a (otherL_lt hy hr))
  · exact hr.setA hr.x
  · exact hr.setX hr.a
  · exact hr
end Go.Proofs.Ytfjbanfibmpalaa

/- Contract: wicketgateref22.leads. -/
import Derived.Test.YtfjbanfibmpalaaK24
set_option linter.unusedVariables false
set_option linter.unusedSimpArgs false
namespace Go.Proofs.Ytfjbanfibmpalaa
open Go.RowKit Go.Shelf

set_option maxHeartbeats 400000 in
theorem leads_any (A : Option Addr) (cap : Nat) (l : List Insn) (i d : Nat) (w : World) (hl : RdP w A l) (hg : Good l) (hi : i + 1 + d < l.length) :
    Calls Try.prog 103 #[.slice A l.length cap, .int .i64 i, .int .u8 d] w fun e w' => e = .returned (.int .u8 (lead1 l i d)) ∧ w = w' := by
  have hlen := hg.len
  have h1 := endOf_lt hg hi
  have h2 := endOf_ge hg hi
  have HE := Lib.hid (lead1_eq hg i d hi)
  have HR := Lib.hid (rend_any A cap l (i + 1 + d) w hl hg hi)
  clear hl hg
  generalize endOf l (i + 1 + d) = n at *
  obtain ⟨m, rfl⟩ : ∃ m, n = i + 1 + m := ⟨n - i - 1, by omega⟩
  have e2 : i + 1 + m - i - 1 = m := by omega
  rw [e2] at HE
  go_enter Try.func103, Try.ntmps103
  go_wp2_with (go_at_call 102; refine HR.out.mono ?_; rintro e w' ⟨rfl, rfl⟩)
  go_ret
  refine ⟨?_, rfl⟩
  rw [HE.out]
  show Ending.returned (Value.int _ _) = _
  congr 2
  first | rfl | omega
end Go.Proofs.Ytfjbanfibmpalaa

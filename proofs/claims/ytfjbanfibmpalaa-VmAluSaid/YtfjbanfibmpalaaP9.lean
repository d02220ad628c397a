/- Plain: a call's data as bytes and as words. -/
import Derived.Test.YtfjbanfibmpalaaP8
set_option linter.unusedVariables false
set_option linter.unusedSimpArgs false
namespace Go.Proofs.Ytfjbanfibmpalaa

/-- The bytes of a number, the least one first. -/
def lowL : Nat → Nat → List Nat
  | 0, _ => []
  | n + 1, x => x % 256 :: lowL n (x / 256)

theorem lowL_len : ∀ n x, (lowL n x).length = n
  | 0, _ => rfl
  | n + 1, x => by simp [lowL, lowL_len n]
theorem lowL_snoc : ∀ n x, lowL (n + 1) x = lowL n x ++ [x / 256 ^ n % 256]
  | 0, x => by simp [lowL]
  | n + 1, x => by
    rw [lowL, lowL_snoc n, lowL, List.cons_append, Nat.div_div_eq_div_mul, Nat.pow_succ, Nat.mul_comm (256 ^ n)]
theorem lowL_lt : ∀ n x, ∀ y ∈ lowL n x, y < 256
  | 0, _, y, h => by simp [lowL] at h
  | n + 1, x, y, h => by
    rw [lowL] at h
    rcases List.mem_cons.1 h with rfl | h
    · exact Nat.mod_lt _ (by decide)
    · exact lowL_lt n _ y h

/-- The number of bytes, the least one first. -/
def numL : List Nat → Nat
  | [] => 0
  | b :: l => b + 256 * numL l
theorem numL_low : ∀ n x, numL (lowL n x) = x % 256 ^ n
  | 0, x => by simp [lowL, numL, Nat.mod_one]
  | n + 1, x => by
    rw [lowL, numL, numL_low n, Nat.pow_succ, Nat.mul_comm (256 ^ n), Nat.mod_mul]
theorem numL_snoc : ∀ (l : List Nat) b, numL (l ++ [b]) = numL l + b * 256 ^ l.length
  | [], b => by simp [numL]
  | a :: l, b => by
    rw [List.cons_append, numL, numL_snoc l, numL, List.length_cons, Nat.pow_succ, Nat.mul_add, Nat.add_assoc, ← Nat.mul_assoc, Nat.mul_comm 256 b, Nat.mul_assoc, Nat.mul_comm 256 (256 ^ l.length), Nat.mul_comm 256 (numL l)]
    try omega
theorem numL_lt : ∀ (l : List Nat), (∀ y ∈ l, y < 256) → numL l < 256 ^ l.length
  | [], _ => by simp [numL]
  | a :: l, h => by
    have h1 := numL_lt l (fun y hy => h y (List.mem_cons_of_mem _ hy))
    have h2 := h a List.mem_cons_self
    rw [numL, List.length_cons, Nat.pow_succ]
    omega

/-- A call's data. -/
structure Dt where
  nr : Nat
  arch : Nat
  ip : Nat
  a0 : Nat
  a1 : Nat
  a2 : Nat
  a3 : Nat
  a4 : Nat
  a5 : Nat

structure Dt.Ok (d : Dt) : Prop where
  nr : d.nr < 4294967296
  arch : d.arch < 4294967296
  ip : d.ip < 18446744073709551616
  a0 : d.a0 < 18446744073709551616
  a1 : d.a1 < 18446744073709551616
  a2 : d.a2 < 18446744073709551616
  a3 : d.a3 < 18446744073709551616
  a4 : d.a4 < 18446744073709551616
  a5 : d.a5 < 18446744073709551616

/-- As bytes. -/
def encL (d : Dt) : List Nat := lowL 4 d.nr ++ lowL 4 d.arch ++ lowL 8 d.ip ++ lowL 8 d.a0 ++ lowL 8 d.a1 ++ lowL 8 d.a2 ++ lowL 8 d.a3 ++ lowL 8 d.a4 ++ lowL 8 d.a5

theorem encL_len (d : Dt) : (encL d).length = 64 := by simp [encL, lowL_len]
theorem encL_lt (d : Dt) : ∀ y ∈ encL d, y < 256 := by
  intro y hy
  simp only [encL, List.mem_append] at hy
  rcases hy with ((((((((h | h) | h) | h) | h) | h) | h) | h) | h) <;> exact lowL_lt _ _ _ h

/-- As words. -/
def wordsD (d : Dt) : List Nat :=
  [d.nr, d.arch, d.ip % 4294967296, d.ip / 4294967296, d.a0 % 4294967296, d.a0 / 4294967296, d.a1 % 4294967296, d.a1 / 4294967296, d.a2 % 4294967296, d.a2 / 4294967296, d.a3 % 4294967296, d.a3 / 4294967296,
   d.a4 % 4294967296, d.a4 / 4294967296, d.a5 % 4294967296, d.a5 / 4294967296]
theorem wordsD_len (d : Dt) : (wordsD d).length = 16 := rfl
theorem wordsD_lt {d : Dt} (h : d.Ok) : ∀ y ∈ wordsD d, y < 4294967296 := by
  obtain ⟨h0, h1, h2, h3, h4, h5, h6, h7, h8⟩ := h
  intro y hy
  simp only [wordsD, List.mem_cons, List.not_mem_nil, or_false] at hy
  rcases hy with rfl | rfl | rfl | rfl | rfl | rfl | rfl | rfl | rfl | rfl | rfl | rfl | rfl | rfl | rfl | rfl <;> omega

theorem low8 (x : Nat) : lowL 8 x = lowL 4 (x % 4294967296) ++ lowL 4 (x / 4294967296) := by
  simp only [lowL, List.cons_append, List.nil_append, Nat.div_div_eq_div_mul, Nat.reduceMul]
  congr 1 <;> first | omega | (congr 1 <;> first | omega | (congr 1 <;> first | omega | (congr 1; omega)))
theorem encL_words (d : Dt) : encL d = (wordsD d).flatMap (lowL 4) := by
  simp only [encL, low8, wordsD, List.flatMap_cons, List.flatMap_nil, List.append_assoc, List.append_nil]

/-- The four bytes from a word's place on. -/
theorem chunk_flat : ∀ (l : List Nat) (i : Nat), i < l.length → ((l.flatMap (lowL 4)).drop (4 * i)).take 4 = lowL 4 (l.getD i 0)
  | [], i, h => by simp at h
  | a :: l, 0, _ => by
    rw [List.flatMap_cons, Nat.mul_zero, List.drop_zero, List.take_append_of_le_length (by rw [lowL_len]; exact Nat.le_refl 4), List.take_of_length_le (by rw [lowL_len]; exact Nat.le_refl 4)]
    rfl
  | a :: l, i + 1, h => by
    rw [List.flatMap_cons, show 4 * (i + 1) = (lowL 4 a).length + 4 * i by rw [lowL_len]; omega, List.drop_append]
    rw [show (lowL 4 a).drop ((lowL 4 a).length + 4 * i) = [] from List.drop_of_length_le (by omega), List.nil_append, Nat.add_sub_cancel_left]
    rw [chunk_flat l i (by simp at h; omega)]
    rfl
theorem chunk_enc (d : Dt) (i : Nat) (hi : i < 16) : ((encL d).drop (4 * i)).take 4 = lowL 4 ((wordsD d).getD i 0) := by
  rw [encL_words]; exact chunk_flat _ i (by rw [wordsD_len]; exact hi)
theorem byte_enc (d : Dt) (i j : Nat) (hi : i < 16) (hj : j < 4) : (encL d).getD (4 * i + j) 0 = (lowL 4 ((wordsD d).getD i 0)).getD j 0 := by
  rw [← chunk_enc d i hi]
  simp only [List.getD_eq_getElem?_getD, List.getElem?_take, List.getElem?_drop]
  rw [if_pos hj]
theorem numL_word {x : Nat} (h : x < 4294967296) : numL (lowL 4 x) = x := by
  rw [numL_low]; exact Nat.mod_eq_of_lt h

/-- The word at an offset; the fault. -/
def wordD (d : Dt) (k : Nat) : Nat := (wordsD d).getD (k / 4) 0
def placeOk (k : Nat) : Bool := decide (k % 4 = 0 ∧ k ≤ 60)
theorem wordD_lt {d : Dt} (h : d.Ok) (k : Nat) : wordD d k < 4294967296 := by
  unfold wordD
  rw [List.getD_eq_getElem?_getD]
  rcases Nat.lt_or_ge (k / 4) (wordsD d).length with h1 | h1
  · rw [List.getElem?_eq_getElem h1]; exact wordsD_lt h _ (List.getElem_mem h1)
  · rw [List.getElem?_eq_none h1]; decide
end Go.Proofs.Ytfjbanfibmpalaa

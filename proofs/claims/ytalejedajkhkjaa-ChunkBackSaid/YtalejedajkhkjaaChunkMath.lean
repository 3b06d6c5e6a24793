/-
  Plain laws on code words behind their bytes: which bit is turned where. No program in sight.
-/
import Derived.Test.YtalejedajkhkjaaHamMore
namespace Go.Proofs.Ytalejedajkhkjaa.ChunkMath
open Go.RowKit Go.Proofs.Ytalejedajkhkjaa.CrcMath Go.Proofs.Ytalejedajkhkjaa.BitsMath Go.Proofs.Ytalejedajkhkjaa.LenMath Go.Proofs.Ytalejedajkhkjaa.HamMath
/-- bytes, and a word behind them, the lower byte first -/
def encW (l : List Nat) (w : Nat) : List Nat := l ++ [w % 256, w / 256]
theorem encW_length (l : List Nat) (w : Nat) : (encW l w).length = l.length + 2 := by
  unfold encW
  rw [List.length_append]
  rfl
theorem encW_lt {l : List Nat} {w : Nat} (h : ∀ b ∈ l, b < 256) (hw : w < 65536) : ∀ b ∈ encW l w, b < 256 := by
  intro b hb
  unfold encW at hb
  rcases List.mem_append.1 hb with hb | hb
  · exact h b hb
  · simp only [List.mem_cons, List.not_mem_nil, or_false] at hb
    omega
theorem encW_take (l : List Nat) (w : Nat) : (encW l w).take l.length = l := by
  unfold encW
  rw [List.take_left]
theorem encW_low (l : List Nat) (w : Nat) : (encW l w).getD l.length 0 = w % 256 := by
  unfold encW
  rw [List.getD_eq_getElem?_getD, List.getElem?_append_right (Nat.le_refl _), Nat.sub_self]
  rfl
theorem encW_high (l : List Nat) (w : Nat) : (encW l w).getD (l.length + 1) 0 = w / 256 := by
  unfold encW
  rw [List.getD_eq_getElem?_getD, List.getElem?_append_right (by omega), show l.length + 1 - l.length = 1 by omega]
  rfl
theorem flip_data {l : List Nat} {w i : Nat} (hi : i < 8 * l.length) : flip1 (encW l w) (i : Int) = encW (flip1 l (i : Int)) w := by
  have hq : i / 8 < l.length := by omega
  unfold flip1
  rw [if_pos (by rw [encW_length]; omega), if_pos (by omega), Int.toNat_natCast]
  unfold encW
  rw [List.set_append_left _ _ hq, List.getD_eq_getElem?_getD, List.getElem?_append_left hq, ← List.getD_eq_getElem?_getD]
theorem xor_byte (w j : Nat) : (w ^^^ 2 ^ j) % 256 = w % 256 ^^^ 2 ^ j % 256 := Nat.xor_mod_two_pow (n := 8)
theorem xor_top (w j : Nat) : (w ^^^ 2 ^ j) / 256 = w / 256 ^^^ 2 ^ j / 256 := by
  have := Nat.shiftRight_xor_distrib (a := w) (b := 2 ^ j) (i := 8)
  rwa [Nat.shiftRight_eq_div_pow, Nat.shiftRight_eq_div_pow, Nat.shiftRight_eq_div_pow] at this
theorem flip_word {l : List Nat} {w j : Nat} (hj : j < 16) : flip1 (encW l w) ((8 * l.length + j : Nat) : Int) = encW l (w ^^^ 2 ^ j) := by
  have hlen := encW_length l w
  have hq : (8 * l.length + j) / 8 = l.length + j / 8 := by omega
  have hr : (8 * l.length + j) % 8 = j % 8 := by omega
  unfold flip1
  rw [if_pos (by omega), Int.toNat_natCast, hq, hr]
  by_cases h8 : j < 8
  · rw [show j / 8 = 0 by omega, Nat.add_zero, encW_low, show j % 8 = j by omega]
    have p1 : 2 ^ j % 256 = 2 ^ j := Nat.mod_eq_of_lt (Nat.pow_lt_pow_right (n := 8) (by decide) h8)
    have p2 : 2 ^ j / 256 = 0 := Nat.div_eq_of_lt (Nat.pow_lt_pow_right (n := 8) (by decide) h8)
    unfold encW
    rw [xor_byte, xor_top, p1, p2, Nat.xor_zero, List.set_append_right _ _ (Nat.le_refl _), Nat.sub_self]
    rfl
  · rw [show j / 8 = 1 by omega, encW_high]
    have e : 2 ^ j = 256 * 2 ^ (j % 8) := by
      rw [show (256 : Nat) = 2 ^ 8 from rfl, ← Nat.pow_add]
      congr 1
      omega
    have p1 : 2 ^ j % 256 = 0 := by rw [e, Nat.mul_mod_right]
    have p2 : 2 ^ j / 256 = 2 ^ (j % 8) := by rw [e, Nat.mul_div_cancel_left _ (by decide)]
    unfold encW
    rw [xor_byte, xor_top, p1, p2, Nat.xor_zero, List.set_append_right _ _ (by omega), show l.length + 1 - l.length = 1 by omega]
    rfl
end Go.Proofs.Ytalejedajkhkjaa.ChunkMath

/-
  Bitwise words on numbers of the program: exclusive or, and, of unsigned numbers, as Nat's own.
-/
import Derived.Test.YtpabehkdedhncaaEv
import Derived.Laws.BitsLemmas
namespace Go.Proofs.Ytpabehkdedhncaa.BitsKit
open Go.RowKit Go.Proofs.Ytpabehkdedhncaa.EvKit
theorem xor_nat (k : IntKind) (j : Nat) (hj : j ≤ k.bits) (hk : ∀ n : Int, 0 ≤ n → n < 2 ^ j → k.wrap n = n) (a b : Nat) (ha : a < 2 ^ j) (hb : b < 2 ^ j) : Go.bits .xor k a b = ((a ^^^ b : Nat) : Int) := by
  have hp : 2 ^ j ≤ 2 ^ k.bits := Nat.pow_le_pow_right (by decide) hj
  have ha' : a % 2 ^ k.bits = a := Nat.mod_eq_of_lt (Nat.lt_of_lt_of_le ha hp)
  have hb' : b % 2 ^ k.bits = b := Nat.mod_eq_of_lt (Nat.lt_of_lt_of_le hb hp)
  simp only [Go.bits, BitVec.ofInt_natCast, BitVec.toNat_xor, BitVec.toNat_ofNat, ha', hb']
  refine hk _ (Int.natCast_nonneg _) ?_
  have := Nat.xor_lt_two_pow ha hb
  exact_mod_cast this
theorem wu8 (n : Int) (h₀ : 0 ≤ n) (h₁ : n < 2 ^ 8) : IntKind.u8.wrap n = n := w_u8 n h₀ (by simpa using h₁)
theorem wu16 (n : Int) (h₀ : 0 ≤ n) (h₁ : n < 2 ^ 16) : IntKind.u16.wrap n = n := w_u16 n h₀ (by simpa using h₁)
theorem wu32 (n : Int) (h₀ : 0 ≤ n) (h₁ : n < 2 ^ 32) : IntKind.u32.wrap n = n := w_u32 n h₀ (by simpa using h₁)
theorem wu64 (n : Int) (h₀ : 0 ≤ n) (h₁ : n < 2 ^ 64) : IntKind.u64.wrap n = n := w_u64 n h₀ (by simpa using h₁)
theorem xor_u8 {a b : Nat} (ha : a < 256) (hb : b < 256) : Go.bits .xor .u8 a b = ((a ^^^ b : Nat) : Int) := xor_nat .u8 8 (by decide) wu8 a b ha hb
theorem xor_u16 {a b : Nat} (ha : a < 65536) (hb : b < 65536) : Go.bits .xor .u16 a b = ((a ^^^ b : Nat) : Int) := xor_nat .u16 16 (by decide) wu16 a b ha hb
theorem xor_u32 {a b : Nat} (ha : a < 4294967296) (hb : b < 4294967296) : Go.bits .xor .u32 a b = ((a ^^^ b : Nat) : Int) := xor_nat .u32 32 (by decide) wu32 a b ha hb
theorem and_u8 {a b : Nat} (ha : a < 256) (hb : b < 256) : Go.bits .and .u8 a b = ((a &&& b : Nat) : Int) := (bits_nat .u8 8 (by decide) wu8 a b ha hb).1
theorem and_u16 {a b : Nat} (ha : a < 65536) (hb : b < 65536) : Go.bits .and .u16 a b = ((a &&& b : Nat) : Int) := (bits_nat .u16 16 (by decide) wu16 a b ha hb).1
theorem and_u32 {a b : Nat} (ha : a < 4294967296) (hb : b < 4294967296) : Go.bits .and .u32 a b = ((a &&& b : Nat) : Int) := (bits_nat .u32 32 (by decide) wu32 a b ha hb).1
theorem or_u16 {a b : Nat} (ha : a < 65536) (hb : b < 65536) : Go.bits .or .u16 a b = ((a ||| b : Nat) : Int) := (bits_nat .u16 16 (by decide) wu16 a b ha hb).2
end Go.Proofs.Ytpabehkdedhncaa.BitsKit

/-
  Plain laws on checksums: a register behind a byte, of the program and of the document; what is linear in it, and that nothing is lost. No program in sight.
-/
import Derived.Test.YtpabehkdedhncaaBits
namespace Go.Proofs.Ytpabehkdedhncaa.CrcMath
/-- one round of the register -/
def round (c : Nat) : Nat := c / 2 ^^^ (if c % 2 = 1 then 3988292384 else 0)
def rounds : Nat → Nat → Nat
  | 0, c => c
  | n + 1, c => rounds n (round c)
def crcStep (c b : Nat) : Nat := rounds 8 (c ^^^ b)
/-- one bit, as the document takes it in -/
def bitStep (c x : Nat) : Nat := c / 2 ^^^ (if c % 2 = x then 0 else 3988292384)
def run (c : Nat) (l : List Nat) : Nat := l.foldl crcStep c
def sum (l : List Nat) : Nat := 4294967295 ^^^ run 4294967295 l

theorem xor_lt32 {a b : Nat} (ha : a < 4294967296) (hb : b < 4294967296) : a ^^^ b < 4294967296 := Nat.xor_lt_two_pow (n := 32) ha hb
theorem round_lt {c : Nat} (h : c < 4294967296) : round c < 4294967296 := by
  unfold round
  refine xor_lt32 (by omega) ?_
  split <;> decide
theorem rounds_lt : ∀ (n : Nat) {c : Nat}, c < 4294967296 → rounds n c < 4294967296
  | 0, _, h => h
  | n + 1, _, h => rounds_lt n (round_lt h)
theorem step_lt {c b : Nat} (hc : c < 4294967296) (hb : b < 256) : crcStep c b < 4294967296 := rounds_lt 8 (xor_lt32 hc (by omega))
theorem run_lt : ∀ {l : List Nat} {c : Nat}, c < 4294967296 → (∀ b ∈ l, b < 256) → run c l < 4294967296
  | [], _, h, _ => h
  | b :: l, c, h, hl => run_lt (l := l) (c := crcStep c b) (step_lt h (hl b (by simp))) fun x hx => hl x (by simp [hx])
theorem sum_lt {l : List Nat} (hl : ∀ b ∈ l, b < 256) : sum l < 4294967296 := xor_lt32 (by decide) (run_lt (by decide) hl)
theorem xor_mod2 (a b : Nat) : (a ^^^ b) % 2 = (a % 2 + b % 2) % 2 := by
  have h : ∀ n : Nat, n % 2 = (if n.testBit 0 then 1 else 0) := fun n => by
    rw [Nat.testBit_zero]
    rcases Nat.mod_two_eq_zero_or_one n with e | e <;> simp [e]
  rw [h (a ^^^ b), h a, h b, Nat.testBit_xor]
  cases a.testBit 0 <;> cases b.testBit 0 <;> rfl
theorem xor_div2 (a b : Nat) : (a ^^^ b) / 2 = a / 2 ^^^ b / 2 := by
  have := Nat.shiftRight_xor_distrib (a := a) (b := b) (i := 1)
  rw [Nat.shiftRight_eq_div_pow, Nat.shiftRight_eq_div_pow, Nat.shiftRight_eq_div_pow] at this
  exact this
theorem xor_swap (a b c d : Nat) : (a ^^^ b) ^^^ (c ^^^ d) = (a ^^^ c) ^^^ (b ^^^ d) := by
  rw [Nat.xor_assoc, ← Nat.xor_assoc b c d, Nat.xor_comm b c, Nat.xor_assoc c b d, ← Nat.xor_assoc]
theorem round_xor (a b : Nat) : round (a ^^^ b) = round a ^^^ round b := by
  unfold round
  rw [xor_div2, xor_mod2, xor_swap]
  congr 1
  rcases Nat.mod_two_eq_zero_or_one a with ha | ha <;> rcases Nat.mod_two_eq_zero_or_one b with hb | hb <;> simp [ha, hb]
theorem rounds_xor : ∀ (n a b : Nat), rounds n (a ^^^ b) = rounds n a ^^^ rounds n b
  | 0, _, _ => rfl
  | n + 1, a, b => by simp only [rounds]; rw [round_xor, rounds_xor n]
theorem step_xor (a b x y : Nat) : crcStep (a ^^^ b) (x ^^^ y) = crcStep a x ^^^ crcStep b y := by
  unfold crcStep
  rw [xor_swap, rounds_xor]
/-- the lowest bit of a byte goes in, the others stay beside the register -/
theorem round_bit (c b : Nat) : round (c ^^^ b) = bitStep c (b % 2) ^^^ b / 2 := by
  unfold round bitStep
  rw [xor_div2, xor_mod2]
  rw [Nat.xor_assoc, Nat.xor_assoc, Nat.xor_comm (b / 2)]
  congr 2
  rcases Nat.mod_two_eq_zero_or_one c with hc | hc <;> rcases Nat.mod_two_eq_zero_or_one b with hb | hb <;> simp [hc, hb]
/-- a byte's bits, the lowest first -/
def bitsOf : Nat → Nat → List Nat
  | 0, _ => []
  | n + 1, b => b % 2 :: bitsOf n (b / 2)
theorem rounds_bits : ∀ (n c b : Nat), rounds n (c ^^^ b) = (bitsOf n b).foldl bitStep c ^^^ b / 2 ^ n
  | 0, c, b => by simp [rounds, bitsOf]
  | n + 1, c, b => by
    simp only [rounds, bitsOf, List.foldl_cons]
    rw [round_bit, rounds_bits n, Nat.div_div_eq_div_mul, Nat.pow_succ, Nat.mul_comm (2 ^ n)]
theorem step_bits {c b : Nat} (hb : b < 256) : crcStep c b = (bitsOf 8 b).foldl bitStep c := by
  unfold crcStep
  rw [rounds_bits, Nat.div_eq_of_lt (by simpa using hb)]
  simp
theorem run_bits : ∀ (l : List Nat) (c : Nat), (∀ b ∈ l, b < 256) → run c l = (l.flatMap (bitsOf 8)).foldl bitStep c
  | [], _, _ => rfl
  | b :: l, c, h => by
    simp only [run, List.foldl_cons, List.flatMap_cons, List.foldl_append]
    rw [step_bits (h b (by simp))]
    exact run_bits l _ fun x hx => h x (by simp [hx])
theorem bitStep_lt {c x : Nat} (h : c < 4294967296) : bitStep c x < 4294967296 := by
  unfold bitStep
  refine xor_lt32 (by omega) ?_
  split <;> decide
/-- nothing is lost in a round -/
def back (d : Nat) : Nat := if d < 2147483648 then 2 * d else 2 * (d ^^^ 3988292384) + 1
theorem xor_high {a : Nat} (h : a < 2147483648) : 2147483648 ≤ a ^^^ 3988292384 := by
  have h1 : (a ^^^ 3988292384).testBit 31 = true := by
    rw [Nat.testBit_xor]
    rw [Nat.testBit_lt_two_pow (x := a) (i := 31) h]
    decide
  exact Nat.ge_two_pow_of_testBit h1
theorem back_round {c : Nat} (h : c < 4294967296) : back (round c) = c := by
  unfold round back
  rcases Nat.mod_two_eq_zero_or_one c with hc | hc
  · have e : c / 2 ^^^ (if c % 2 = 1 then 3988292384 else 0) = c / 2 := by rw [if_neg (by omega), Nat.xor_zero]
    rw [e, if_pos (by omega)]
    omega
  · have e : c / 2 ^^^ (if c % 2 = 1 then 3988292384 else 0) = c / 2 ^^^ 3988292384 := by rw [if_pos hc]
    have hh := xor_high (a := c / 2) (by omega)
    rw [e, if_neg (by omega), Nat.xor_assoc, Nat.xor_self, Nat.xor_zero]
    omega
theorem round_inj {c d : Nat} (hc : c < 4294967296) (hd : d < 4294967296) (h : round c = round d) : c = d := by
  rw [← back_round hc, ← back_round hd, h]
theorem rounds_inj : ∀ (n : Nat) {c d : Nat}, c < 4294967296 → d < 4294967296 → rounds n c = rounds n d → c = d
  | 0, _, _, _, _, h => h
  | n + 1, _, _, hc, hd, h => round_inj hc hd (rounds_inj n (round_lt hc) (round_lt hd) h)
theorem xor_cancel {a b c : Nat} (h : a ^^^ c = b ^^^ c) : a = b := by
  have := congrArg (· ^^^ c) h
  simpa [Nat.xor_assoc] using this
theorem step_inj {c d b : Nat} (hc : c < 4294967296) (hd : d < 4294967296) (hb : b < 256) (h : crcStep c b = crcStep d b) : c = d :=
  xor_cancel (rounds_inj 8 (xor_lt32 hc (by omega)) (xor_lt32 hd (by omega)) h)
theorem step_inj_byte {c b b' : Nat} (hc : c < 4294967296) (hb : b < 256) (hb' : b' < 256) (h : crcStep c b = crcStep c b') : b = b' := by
  have := rounds_inj 8 (xor_lt32 hc (by omega)) (xor_lt32 hc (by omega)) h
  rw [Nat.xor_comm c, Nat.xor_comm c] at this
  exact xor_cancel this
theorem run_inj : ∀ {l : List Nat} {c d : Nat}, c < 4294967296 → d < 4294967296 → (∀ b ∈ l, b < 256) → run c l = run d l → c = d
  | [], _, _, _, _, _, h => h
  | b :: l, _, _, hc, hd, hl, h =>
    step_inj hc hd (hl b (by simp)) (run_inj (l := l) (step_lt hc (hl b (by simp))) (step_lt hd (hl b (by simp))) (fun x hx => hl x (by simp [hx])) h)
end Go.Proofs.Ytpabehkdedhncaa.CrcMath
namespace Go.Proofs.Ytpabehkdedhncaa.CrcMath
/-- bit i of bytes, the lowest of each first -/
def bitAt (l : List Nat) (i : Nat) : Nat := l.getD (i / 8) 0 / 2 ^ (i % 8) % 2
def bitList (l : List Nat) : List Nat := (List.range (8 * l.length)).map (bitAt l)
theorem bits_eight (b : Nat) : (List.range 8).map (fun i => b / 2 ^ i % 2) = bitsOf 8 b := by
  simp [List.range, List.range.loop, bitsOf, Nat.div_div_eq_div_mul]
theorem bitList_eq : ∀ l : List Nat, bitList l = l.flatMap (bitsOf 8)
  | [] => rfl
  | b :: l => by
    rw [List.flatMap_cons, ← bitList_eq l, ← bits_eight b]
    unfold bitList
    rw [List.length_cons, Nat.mul_add, Nat.mul_one, Nat.add_comm, List.range_add, List.map_append, List.map_map]
    have e1 : (List.range 8).map (bitAt (b :: l)) = (List.range 8).map (fun i => b / 2 ^ i % 2) := by
      refine List.map_congr_left fun i hi => ?_
      have hi := List.mem_range.1 hi
      unfold bitAt
      rw [Nat.div_eq_of_lt hi, Nat.mod_eq_of_lt hi]
      rfl
    rw [e1]
    congr 1
    · refine List.map_congr_left fun i hi => ?_
      show bitAt (b :: l) (8 + i) = bitAt l i
      unfold bitAt
      rw [show (8 + i) / 8 = i / 8 + 1 by omega, show (8 + i) % 8 = i % 8 by omega, List.getD_cons_succ]
theorem run_bitList {l : List Nat} (c : Nat) (h : ∀ b ∈ l, b < 256) : run c l = (bitList l).foldl bitStep c := by
  rw [bitList_eq, run_bits l c h]
theorem not_xor {r : Nat} (h : r < 4294967296) : 4294967295 - r = 4294967295 ^^^ r := by
  apply Nat.eq_of_testBit_eq
  intro i
  have e1 : 4294967295 - r = 2 ^ 32 - (r + 1) := by omega
  have e2 : (4294967295 : Nat) = 2 ^ 32 - 1 := by decide
  rw [Nat.testBit_xor, e1, Nat.testBit_two_pow_sub_succ (by simpa using h), e2, Nat.testBit_two_pow_sub_one]
  by_cases hi : i < 32
  · simp [hi]
  · have : r.testBit i = false := Nat.testBit_lt_two_pow (Nat.lt_of_lt_of_le (m := 2 ^ 32) (by simpa using h) (Nat.pow_le_pow_right (by decide) (by omega)))
    simp [hi, this]
theorem run_append (c : Nat) (a b : List Nat) : run c (a ++ b) = run (run c a) b := List.foldl_append
end Go.Proofs.Ytpabehkdedhncaa.CrcMath

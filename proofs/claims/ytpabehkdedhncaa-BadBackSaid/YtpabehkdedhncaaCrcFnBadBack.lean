/-
  What crc.Sum, crc.Bytes and crc.Check come to.
-/
import Derived.Test.YtpabehkdedhncaaNatKit
import Derived.Test.YtpabehkdedhncaaQBadBackx
namespace Go.Proofs.Ytpabehkdedhncaa.PureBadBack
open Go.RowKit Go.Proofs.Ytpabehkdedhncaa.QBadBack Go.Proofs.YtpabehkdedhncaaW.PrintWords Go.Proofs.YtpabehkdedhncaaW.PrintLast Go.Proofs.YtpabehkdedhncaaW.PrintMore Go.Proofs.Ytpabehkdedhncaa.EvKit Go.Proofs.Ytpabehkdedhncaa.BitsKit Go.Proofs.Ytpabehkdedhncaa.CrcMath Go.Proofs.Ytpabehkdedhncaa.NatKit

theorem round_eq {c : Nat} (h : c < 4294967296) : Go.bits .xor .u32 ((c : Int) / 2) (Go.bits .and .u32 3988292384 ((-(Go.bits .and .u32 (c : Int) 1)) % 4294967296)) = ((round c : Nat) : Int) := by
  have e1 : Go.bits .and .u32 (c : Int) 1 = ((c % 2 : Nat) : Int) := by
    have := and_u32 (a := c) (b := 1) h (by decide)
    rw [Nat.and_one_is_mod] at this
    exact this
  rw [e1, show (c : Int) / 2 = ((c / 2 : Nat) : Int) from by omega]
  unfold round
  rcases Nat.mod_two_eq_zero_or_one c with hc | hc
  · rw [hc, if_neg (by decide)]
    have e2 : Go.bits .and .u32 3988292384 ((-((0 : Nat) : Int)) % 4294967296) = ((0 : Nat) : Int) := by
      have := and_u32 (a := 3988292384) (b := 0) (by decide) (by decide)
      rw [Nat.and_zero] at this
      exact this
    rw [e2, xor_u32 (by omega) (by decide)]
  · rw [hc, if_pos rfl]
    have e2 : Go.bits .and .u32 3988292384 ((-((1 : Nat) : Int)) % 4294967296) = ((3988292384 : Nat) : Int) := by
      have := and_u32 (a := 3988292384) (b := 4294967295) (by decide) (by decide)
      exact this
    rw [e2, xor_u32 (by omega) (by decide)]
theorem step_l0 (d : Nat) : ∀ (c i : Nat), c < 4294967296 → i + d = 8 → Ev (fun k => crc_step.l0 k (c : Int) (i : Int)) ((rounds d c : Nat) : Int) := by
  induction d with
  | zero =>
    intro c i hc hi
    refine Ev.step (fun k => crc_step.l0.eq_2 ..) ?_
    exact Ev.neg (by omega) (Ev.ret rfl)
  | succ d ih =>
    intro c i hc hi
    refine Ev.step (fun k => crc_step.l0.eq_2 ..) ?_
    refine Ev.pos (by omega) ?_
    rw [round_eq hc, w64_succ (by omega)]
    exact ih (round c) (i + 1) (round_lt hc) (by omega)
theorem step_ev {c b : Nat} (hc : c < 4294967296) (hb : b < 256) : Ev (fun k => crc_step.f k (c : Int) (b : Int)) ((crcStep c b : Nat) : Int) := by
  refine Ev.congr (fun k => by rw [crc_step.f]) ?_
  rw [show ((b : Int)) % 4294967296 = (b : Int) from by omega, xor_u32 hc (by omega)]
  exact step_l0 8 _ 0 (xor_lt32 hc (by omega)) (by omega)
/-- of rows of bytes: all bytes in a row -/
def AllBytes (ls : List (List Int)) : Prop := ∀ l ∈ ls, ∀ x ∈ l, 0 ≤ x ∧ x < 256
theorem sum_l1 {ls : List (List Int)} {len i : Int} {row : List Int} {r : Int} (hrow : ∀ x ∈ row, 0 ≤ x ∧ x < 256) (hl : row.length < 1000000000) (d : Nat) : ∀ (c j : Nat), c < 4294967296 → j + d = row.length →
    Ev (fun k => crc_Sum.l0 k ((run c ((nats row).drop j) : Nat) : Int) ls len (wrap64 (i + 1))) r → Ev (fun k => crc_Sum.l1 k (c : Int) ls len i row (row.length : Int) (j : Int)) r := by
  induction d with
  | zero =>
    intro c j hc hj h
    refine Ev.step (fun k => crc_Sum.l1.eq_2 ..) ?_
    refine Ev.neg (by omega) ?_
    rw [List.drop_of_length_le (by rw [nats_length]; omega)] at h
    exact h
  | succ d ih =>
    intro c j hc hj h
    have hx := hrow _ (rd_mem (l := row) (i := (j : Int)) (by omega) (by omega))
    have hr := rd_nats (l := row) (fun x hx => (hrow x hx).1) j
    have hb : (nats row).getD j 0 < 256 := by omega
    refine Ev.step (fun k => crc_Sum.l1.eq_2 ..) ?_
    refine Ev.pos (by omega) ?_
    refine Ev.pos (by omega) ?_
    refine Ev.pos (by omega) ?_
    rw [hr]
    refine Ev.bind (step_ev hc hb) ?_
    rw [w64_succ (by omega)]
    refine ih _ (j + 1) (step_lt hc hb) (by omega) ?_
    have hj' : j < (nats row).length := by rw [nats_length]; omega
    rw [List.drop_eq_getElem_cons hj'] at h
    rw [List.getD_eq_getElem?_getD, List.getElem?_eq_getElem hj']
    exact h
theorem sum_l0 {ls : List (List Int)} (hls : AllBytes ls) (hn : ls.length < 1000000000) (hl : ∀ l ∈ ls, l.length < 1000000000) (d : Nat) : ∀ (c i : Nat), c < 4294967296 → i + d = ls.length →
    Ev (fun k => crc_Sum.l0 k (c : Int) ls (ls.length : Int) (i : Int)) ((4294967295 ^^^ run c (nats (ls.drop i).flatten) : Nat) : Int) := by
  induction d with
  | zero =>
    intro c i hc hi
    refine Ev.step (fun k => crc_Sum.l0.eq_2 ..) ?_
    refine Ev.neg (by omega) (Ev.ret ?_)
    rw [List.drop_of_length_le (by omega)]
    exact xor_u32 (by decide) hc
  | succ d ih =>
    intro c i hc hi
    have hil : i < ls.length := by omega
    have hrd : rd_L3 ls (i : Int) = ls[i] := by
      unfold rd_L3
      rw [Int.toNat_natCast, List.getD_eq_getElem?_getD, List.getElem?_eq_getElem hil]
      rfl
    have hm : ls[i] ∈ ls := List.getElem_mem hil
    refine Ev.step (fun k => crc_Sum.l0.eq_2 ..) ?_
    refine Ev.pos (by omega) ?_
    refine Ev.pos (by omega) ?_
    refine Ev.pos (by omega) ?_
    rw [hrd, List.drop_eq_getElem_cons hil, List.flatten_cons, nats_append, run_append]
    refine sum_l1 (row := ls[i]) (hls _ hm) (hl _ hm) ls[i].length c 0 hc (by omega) ?_
    rw [List.drop_zero, w64_succ (by omega)]
    exact ih _ (i + 1) (run_lt hc (nats_lt (hls _ hm))) (by omega)
theorem sum_ev {ls : List (List Int)} (hls : AllBytes ls) (hn : ls.length < 1000000000) (hl : ∀ l ∈ ls, l.length < 1000000000) : Ev (fun k => crc_Sum.f k ls) ((CrcMath.sum (nats ls.flatten) : Nat) : Int) := by
  refine Ev.congr (fun k => by rw [crc_Sum.f]) ?_
  have := sum_l0 hls hn hl ls.length 4294967295 0 (by decide) (by omega)
  unfold CrcMath.sum
  simpa using this
theorem sum_one {l : List Int} (hl : ∀ x ∈ l, 0 ≤ x ∧ x < 256) (hn : l.length < 1000000000) : Ev (fun k => crc_Sum.f k [l]) ((CrcMath.sum (nats l) : Nat) : Int) := by
  have := sum_ev (ls := [l]) (by intro r hr; rw [List.mem_singleton.1 hr]; exact hl) (by simp) (by intro r hr; rw [List.mem_singleton.1 hr]; exact hn)
  simpa using this
/-- a number's four bytes, the lowest first -/
def four (n : Nat) : List Int := [((n % 256 : Nat) : Int), ((n / 256 % 256 : Nat) : Int), ((n / 65536 % 256 : Nat) : Int), ((n / 16777216 % 256 : Nat) : Int)]
theorem four_byte (n : Nat) : ∀ x ∈ four n, 0 ≤ x ∧ x < 256 := by
  intro x hx
  simp only [four, List.mem_cons, List.not_mem_nil, or_false] at hx
  omega
theorem shift_at (n i : Nat) (hi : i < 4) : shr .u32 (n : Int) (IntKind.u64.wrap (wrap64 (8 * (i : Int)))) % 256 = ((n / 256 ^ i % 256 : Nat) : Int) := by
  rw [w64_id (x := 8 * (i : Int)) (by omega) (by omega), w_u64 _ (by omega) (by omega)]
  have : i = 0 ∨ i = 1 ∨ i = 2 ∨ i = 3 := by omega
  rcases this with rfl | rfl | rfl | rfl
  · rw [show shr .u32 (n : Int) (8 * ((0 : Nat) : Int)) = n / 1 from by simp [shr]]
    simp
  · rw [show shr .u32 (n : Int) (8 * ((1 : Nat) : Int)) = n / 256 from by simp [shr, IntKind.bits]]
    omega
  · rw [show shr .u32 (n : Int) (8 * ((2 : Nat) : Int)) = n / 65536 from by simp [shr, IntKind.bits], show 256 ^ 2 = 65536 from rfl]
    omega
  · rw [show shr .u32 (n : Int) (8 * ((3 : Nat) : Int)) = n / 16777216 from by simp [shr, IntKind.bits], show 256 ^ 3 = 16777216 from rfl]
    omega
theorem bytes_l0 (n : Nat) (d : Nat) : ∀ (i : Nat) (l : List Int), i + d = 4 → l.length = 4 → Ev (fun k => crc_Bytes.l0 k (n : Int) l 4 (i : Int)) ((List.range 4).map fun j => if i ≤ j then ((n / 256 ^ j % 256 : Nat) : Int) else l.getD j 0) := by
  induction d with
  | zero =>
    intro i l hi hl
    refine Ev.step (fun k => crc_Bytes.l0.eq_2 ..) ?_
    refine Ev.neg (by omega) (Ev.ret ?_)
    obtain ⟨a, b, c, e, rfl⟩ : ∃ a b c e, l = [a, b, c, e] := by
      match l, hl with
      | [a, b, c, e], _ => exact ⟨a, b, c, e, rfl⟩
    have : i = 4 := by omega
    subst this
    rfl
  | succ d ih =>
    intro i l hi hl
    refine Ev.step (fun k => crc_Bytes.l0.eq_2 ..) ?_
    refine Ev.pos (by omega) ?_
    have hw : 0 ≤ IntKind.u64.wrap (wrap64 (8 * (i : Int))) := by rw [w64_id (by omega) (by omega), w_u64 _ (by omega) (by omega)]; omega
    refine Ev.pos hw ?_
    refine Ev.pos (by omega) ?_
    refine Ev.pos (by omega) ?_
    rw [shift_at n i (by omega), w64_succ (by omega)]
    refine Ev.eq (ih (i + 1) _ (by omega) (by rw [List.length_set]; exact hl)) ?_
    refine List.map_congr_left fun j hj => ?_
    have hj := List.mem_range.1 hj
    rw [Int.toNat_natCast, List.getD_eq_getElem?_getD, List.getElem?_set]
    by_cases h1 : i = j
    · subst h1
      rw [if_neg (by omega), if_pos (Nat.le_refl _), if_pos rfl, if_pos (by omega)]
      rfl
    · rw [if_neg h1]
      by_cases h2 : i + 1 ≤ j
      · rw [if_pos h2, if_pos (by omega)]
      · rw [if_neg h2, if_neg (by omega), List.getD_eq_getElem?_getD]
theorem bytes_ev (n : Nat) : Ev (fun k => crc_Bytes.f k (n : Int)) (four n) := by
  refine Ev.congr (fun k => by rw [crc_Bytes.f]) ?_
  refine Ev.pos (by decide) ?_
  simp only [Option.bind_some]
  refine Ev.eq (bytes_l0 n 4 0 [0, 0, 0, 0] (by omega) rfl) ?_
  simp [List.range, List.range.loop, four]
end Go.Proofs.Ytpabehkdedhncaa.PureBadBack

/-
  What hamming.Word and hamming.Judge come to.
-/
import Derived.Test.YtalejedajkhkjaaGatherChunkBack
import Derived.Test.YtalejedajkhkjaaHamMore
namespace Go.Proofs.Ytalejedajkhkjaa.PureChunkBack
open Go.RowKit Go.Proofs.Ytalejedajkhkjaa.QChunkBack Go.Proofs.YtalejedajkhkjaaW.PrintWords Go.Proofs.YtalejedajkhkjaaW.PrintLast Go.Proofs.YtalejedajkhkjaaW.PrintMore Go.Proofs.Ytalejedajkhkjaa.EvKit Go.Proofs.Ytalejedajkhkjaa.BitsKit Go.Proofs.Ytalejedajkhkjaa.CrcMath Go.Proofs.Ytalejedajkhkjaa.NatKit Go.Proofs.Ytalejedajkhkjaa.BitsMath Go.Proofs.Ytalejedajkhkjaa.LenMath Go.Proofs.Ytalejedajkhkjaa.HamMath
theorem tab_ones : ∀ b : Nat, b < 256 → bt (⟨#[0, 1, 1, 2, 1, 2, 2, 3, 1, 2, 2, 3, 2, 3, 3, 4, 1, 2, 2, 3, 2, 3, 3, 4, 2, 3, 3, 4, 3, 4, 4, 5, 1, 2, 2, 3, 2, 3, 3, 4, 2, 3, 3, 4, 3, 4, 4, 5, 2, 3, 3, 4, 3, 4, 4, 5, 3, 4, 4, 5, 4, 5, 5, 6, 1, 2, 2, 3, 2, 3, 3, 4, 2, 3, 3, 4, 3, 4, 4, 5, 2, 3, 3, 4, 3, 4, 4, 5, 3, 4, 4, 5, 4, 5, 5, 6, 2, 3, 3, 4, 3, 4, 4, 5, 3, 4, 4, 5, 4, 5, 5, 6, 3, 4, 4, 5, 4, 5, 5, 6, 4, 5, 5, 6, 5, 6, 6, 7, 1, 2, 2, 3, 2, 3, 3, 4, 2, 3, 3, 4, 3, 4, 4, 5, 2, 3, 3, 4, 3, 4, 4, 5, 3, 4, 4, 5, 4, 5, 5, 6, 2, 3, 3, 4, 3, 4, 4, 5, 3, 4, 4, 5, 4, 5, 5, 6, 3, 4, 4, 5, 4, 5, 5, 6, 4, 5, 5, 6, 5, 6, 6, 7, 2, 3, 3, 4, 3, 4, 4, 5, 3, 4, 4, 5, 4, 5, 5, 6, 3, 4, 4, 5, 4, 5, 5, 6, 4, 5, 5, 6, 5, 6, 6, 7, 3, 4, 4, 5, 4, 5, 5, 6, 4, 5, 5, 6, 5, 6, 6, 7, 4, 5, 5, 6, 5, 6, 6, 7, 5, 6, 6, 7, 6, 7, 7, 8]⟩ : ByteArray) (b : Int) = ((ones b : Nat) : Int) := by
  decide +kernel
theorem low_and {a : Nat} (n m : Nat) (hm : m = 2 ^ n - 1) (ha : a < 65536) (hm' : m < 65536) : Go.bits .and .u16 (a : Int) (m : Int) = ((a % 2 ^ n : Nat) : Int) := by
  rw [and_u16 ha hm', hm, Nat.and_two_pow_sub_one_eq_mod]
theorem odd_eq {a : Nat} (ha : a < 65536) : hamming_odd.f (a : Int) = some (par a) := by
  have e1 : Go.bits .and .u16 (a : Int) 255 = ((a % 256 : Nat) : Int) := low_and 8 255 (by decide) ha (by decide)
  have e2 : (a : Int) / 256 = ((a / 256 : Nat) : Int) := by omega
  have h1 := ones_le (a / 256)
  have h2 := ones_le (a % 256)
  have h3 : (Go.bits .and .i64 (((ones (a / 256) + ones (a % 256) : Nat) : Int)) 1 == 1) = par a := by
    have := and_i64 (a := ones (a / 256) + ones (a % 256)) (b := 1) (by omega) (by decide)
    rw [show ((1 : Nat) : Int) = 1 from rfl] at this
    rw [this, Nat.and_one_is_mod, par_ones]
    rcases Nat.mod_two_eq_zero_or_one (ones (a / 256) + ones (a % 256)) with h | h <;> rw [h] <;> rfl
  unfold hamming_odd.f bits_OnesCount16.f
  rw [e1, e2, if_pos (by omega), if_pos (by omega), if_pos (by omega), if_pos (by omega), tab_ones _ (by omega), tab_ones _ (by omega)]
  have e3 : (((ones (a / 256) : Nat) : Int) + ((ones (a % 256) : Nat) : Int)) % 256 = ((ones (a / 256) + ones (a % 256) : Nat) : Int) := by omega
  rw [e3, Option.bind_some, h3]
theorem or_bit {x : Nat} (n m : Nat) (hm : m = 2 ^ n) (hx : x < m) (h : m < 65536) : Go.bits .or .u16 (x : Int) (m : Int) = ((x + m : Nat) : Int) := by
  subst hm
  rw [or_u16 (by omega) h]
  have := Nat.two_pow_add_eq_or_of_lt hx 1
  rw [Nat.mul_one] at this
  rw [Nat.or_comm, ← this, Nat.add_comm]
theorem or_pad {x : Nat} (hx : x < 16384) : Go.bits .or .u16 (x : Int) 49152 = ((x + 49152 : Nat) : Int) := by
  have e : Go.bits .or .u16 (x : Int) ((49152 : Nat) : Int) = _ := or_u16 (a := x) (b := 49152) (by omega) (by omega)
  have h := Nat.two_pow_add_eq_or_of_lt (i := 14) (b := x) (by omega) 3
  have h3 : 2 ^ 14 * 3 = 49152 := by decide
  rw [h3] at h
  rw [Nat.or_comm, ← h, Nat.add_comm] at e
  exact e
theorem word_or1 {x : Nat} (hx : x < 8192) : Go.bits .or .u16 (Go.bits .or .u16 (x : Int) 8192) 49152 = ((x + 8192 * 1 + 49152 : Nat) : Int) := by
  have e : Go.bits .or .u16 (x : Int) ((8192 : Nat) : Int) = ((x + 8192 : Nat) : Int) := or_bit (x := x) 13 8192 (by decide) hx (by decide)
  have e' : Go.bits .or .u16 (x : Int) 8192 = ((x + 8192 : Nat) : Int) := e
  rw [e', or_pad (by omega)]
theorem word_or0 {x : Nat} (hx : x < 8192) : Go.bits .or .u16 (x : Int) 49152 = ((x + 8192 * 0 + 49152 : Nat) : Int) := by
  have e := or_pad (x := x) (by omega)
  rw [e]
theorem wordN_of {l : List Nat} {x : Nat} {o : Bool} (hx : gx l (8 * l.length) = x) (ho : go l (8 * l.length) = o) : wordN l = x + 8192 * (if o != par x then 1 else 0) + 49152 := by
  unfold wordN chk
  rw [hx, ho]
theorem word_ev {l : List Int} (hl : ∀ x ∈ l, 0 ≤ x ∧ x < 256) (hn : l.length ≤ 512) : Ev (fun k => hamming_Word.f k l) (((wordN (nats l) : Nat) : Int), 0) := by
  have hx := gx_lt (nats l) (8 * l.length) (by omega)
  have hlen := nats_length l
  have hw : ∀ x o, gx (nats l) (8 * l.length) = x → go (nats l) (8 * l.length) = o → wordN (nats l) = x + 8192 * (if o != par x then 1 else 0) + 49152 := fun x o h1 h2 => wordN_of (by rw [hlen]; exact h1) (by rw [hlen]; exact h2)
  have hw := hw _ _ rfl rfl
  refine Ev.congr (fun k => by rw [hamming_Word.f]) ?_
  refine Ev.neg (by omega) ?_
  refine Ev.bind (gather_ev hl (by omega)) ?_
  refine Ev.bindv (odd_eq (by omega)) ?_
  rw [hw]
  clear hw
  generalize gx (nats l) (8 * l.length) = x at hx ⊢
  generalize go (nats l) (8 * l.length) = o
  dsimp only
  cases hc : (o != par x)
  · refine Ev.neg (by decide) (Ev.ret ?_)
    rw [word_or0 hx, if_neg (by decide)]
  · refine Ev.pos rfl (Ev.ret ?_)
    rw [word_or1 hx, if_pos rfl]
theorem not_pad {w : Nat} (hw : w < 65536) : Go.bits .andNot .u16 (w : Int) 49152 = ((w % 16384 : Nat) : Int) := by
  have e := low_and (a := w) 14 16383 (by decide) hw (by decide)
  rw [show 2 ^ 14 = 16384 from rfl] at e
  rw [← e]
  rfl
/-- what a word says of bytes -/
def judgeN (l : List Nat) (w : Nat) : Int × Int × Int :=
  if single l w = false then (if wrongN l w = 0 then (0, 0, 0) else (3, 0, 0))
  else if wrongN l w = 0 ∨ isPow (wrongN l w) = true then (2, 0, 0)
  else if wrongN l w - 1 - len (wrongN l w) < 8 * l.length then (1, ((wrongN l w - 1 - len (wrongN l w) : Nat) : Int), 0) else (3, 0, 0)
theorem pow_none {p : Nat} (hp : p < 8192) : (Go.bits .and .i64 (p : Int) (wrap64 ((p : Int) - 1)) = 0) ↔ (p = 0 ∨ isPow p = true) := by
  rcases Nat.eq_zero_or_pos p with e | h0
  · subst e
    refine ⟨fun _ => Or.inl rfl, fun _ => ?_⟩
    have e : wrap64 (((0 : Nat) : Int) - 1) = -1 := by rw [w64_id (by omega) (by omega)]; omega
    rw [e]
    decide +kernel
  · rw [pow_test h0 (by omega)]
    exact ⟨fun h => Or.inr h, fun h => h.resolve_left (by omega)⟩
theorem place_far {p : Nat} (h0 : p ≠ 0) (hp : isPow p = false) (hlt : p < 8192) : IsPlace (p - 1 - len p) p := by
  have h3 : 3 ≤ p := by
    rcases Nat.lt_or_ge p 3 with h | h
    · obtain rfl | rfl : p = 1 ∨ p = 2 := by omega
      · exact absurd hp (by decide)
      · exact absurd hp (by decide)
    · exact h
  obtain ⟨n, hn⟩ := place_of hp h3
  have := hn.2.1
  have e : p - 1 - len p = n := by omega
  rw [e]
  exact hn
theorem judge_ev {l : List Int} (hl : ∀ x ∈ l, 0 ≤ x ∧ x < 256) (hn : l.length ≤ 512) {w : Nat} (hw : w < 65536) : Ev (fun k => hamming_Judge.f k l (w : Int)) (judgeN (nats l) w) := by
  have hlen := nats_length l
  have hx := gx_lt (nats l) (8 * l.length) (by omega)
  have hwr := wrongN_lt (nats l) w
  have e1 : wrap64 (Go.bits .and .u16 (Go.bits .xor .u16 ((gx (nats l) (8 * l.length) : Nat) : Int) (w : Int)) 8191) = ((wrongN (nats l) w : Nat) : Int) := by
    have hxl : gx (nats l) (8 * l.length) ^^^ w < 65536 := Nat.xor_lt_two_pow (n := 16) (by omega) (by omega)
    have e := low_and (a := gx (nats l) (8 * l.length) ^^^ w) 13 8191 (by decide) hxl (by decide)
    rw [show ((8191 : Nat) : Int) = 8191 from rfl, show 2 ^ 13 = 8192 from rfl] at e
    rw [xor_u16 (by omega) hw, e, w64_id (by omega) (by omega)]
    unfold wrongN
    rw [hlen]
  have e2 : (go (nats l) (8 * l.length) != par (w % 16384)) = single (nats l) w := by
    unfold single
    rw [hlen]
  refine Ev.congr (fun k => by rw [hamming_Judge.f]) ?_
  refine Ev.neg (by omega) ?_
  refine Ev.bind (gather_ev hl (by omega)) ?_
  rw [not_pad hw]
  refine Ev.bindv (odd_eq (by omega)) ?_
  rw [e1, e2]
  clear e1 e2
  unfold judgeN
  rw [hlen]
  generalize wrongN (nats l) w = p at hwr ⊢
  cases hs : single (nats l) w
  · refine Ev.neg (by decide) ?_
    rw [if_pos rfl]
    refine Ev.step (fun k => hamming_Judge.j0.eq_2 ..) ?_
    refine Ev.ite (fun h => Ev.ret ?_) (fun h => ?_)
    · rw [if_pos (by have := beq_iff_eq.1 h; omega)]
    · refine Ev.neg (by decide) (Ev.ret ?_)
      rw [if_neg (fun e => h (by rw [e]; rfl))]
  · refine Ev.pos rfl ?_
    rw [if_neg (by decide)]
    refine Ev.step (fun k => hamming_Judge.j0.eq_2 ..) ?_
    refine Ev.neg (by decide) (Ev.pos rfl ?_)
    refine Ev.ite (fun h => Ev.ret ?_) (fun h => ?_)
    · rw [if_pos ((pow_none hwr).1 h)]
    · have h' : ¬ (p = 0 ∨ isPow p = true) := fun e => h ((pow_none hwr).2 e)
      rw [if_neg h']
      have hpl := place_far (fun e => h' (Or.inl e)) (by simpa using fun e => h' (Or.inr e)) hwr
      refine Ev.bind (bit_place hpl (by omega)) (Ev.pos rfl ?_)
      rw [w64_id (x := 8 * (l.length : Int)) (by omega) (by omega)]
      refine Ev.ite (fun h2 => Ev.ret ?_) (fun h2 => Ev.ret ?_)
      · rw [if_pos (by omega)]
      · rw [if_neg (by omega)]
end Go.Proofs.Ytalejedajkhkjaa.PureChunkBack

import Derived.Test.YtmehbabchakkpaaMPageDecodesx18
import Derived.Laws.Strings
namespace Go.Proofs.Ytmehbabchakkpaa.PurePageDecodes
open Go.RowKit Go.Proofs.Ytmehbabchakkpaa.QPageDecodes Go.Proofs.YtmehbabchakkpaaW.PrintWords Go.Proofs.YtmehbabchakkpaaW.PrintLast Go.Proofs.YtmehbabchakkpaaW.PrintMore Go.Proofs.Ytmehbabchakkpaa.EvKit Go.Proofs.Ytmehbabchakkpaa.BitsKit Go.Proofs.Ytmehbabchakkpaa.CrcMath Go.Proofs.Ytmehbabchakkpaa.NatKit Go.Proofs.Ytmehbabchakkpaa.BitsMath Go.Proofs.Ytmehbabchakkpaa.LenMath Go.Proofs.Ytmehbabchakkpaa.HamMath
theorem tab_ones : ∀ b : Nat, b < 256 → bt (⟨#[0, 1, 1, 2, 1, 2, 2, 3, 1, 2, 2, 3, 2, 3, 3, 4, 1, 2, 2, 3, 2, 3, 3, 4, 2, 3, 3, 4, 3, 4, 4, 5, 1, 2, 2, 3, 2, 3, 3, 4, 2, 3, 3, 4, 3, 4, 4, 5, 2, 3, 3, 4, 3, 4, 4, 5, 3, 4, 4, 5, 4, 5, 5, 6, 1, 2, 2, 3, 2, 3, 3, 4, 2, 3, 3, 4, 3, 4, 4, 5, 2, 3, 3, 4, 3, 4, 4, 5, 3, 4, 4, 5, 4, 5, 5, 6, 2, 3, 3, 4, 3, 4, 4, 5, 3, 4, 4, 5, 4, 5, 5, 6, 3, 4, 4, 5, 4, 5, 5, 6, 4, 5, 5, 6, 5, 6, 6, 7, 1, 2, 2, 3, 2, 3, 3, 4, 2, 3, 3, 4, 3, 4, 4, 5, 2, 3, 3, 4, 3, 4, 4, 5, 3, 4, 4, 5, 4, 5, 5, 6, 2, 3, 3, 4, 3, 4, 4, 5, 3, 4, 4, 5, 4, 5, 5, 6, 3, 4, 4, 5, 4, 5, 5, 6, 4, 5, 5, 6, 5, 6, 6, 7, 2, 3, 3, 4, 3, 4, 4, 5, 3, 4, 4, 5, 4, 5, 5, 6, 3, 4, 4, 5, 4, 5, 5, 6, 4, 5, 5, 6, 5, 6, 6, 7, 3, 4, 4, 5, 4, 5, 5, 6, 4, 5, 5, 6, 5, 6, 6, 7, 4, 5, 5, 6, 5, 6, 6, 7, 5, 6, 6, 7, 6, 7, 7, 8]⟩ : ByteArray) (b : Int) = ((ones b : Nat) : Int) := by
 decide +kernel
theorem low_and {a : Nat} (n m : Nat) (hm : m = 2 ^ n - 1) (ha : a < 65536) (hm' : m < 65536) : Go.bits .and .u16 (a : Int) (m : Int) = ((a % 2 ^ n : Nat) : Int) := by
 rw [and_u16 ha hm', hm, Nat.and_two_pow_sub_one_eq_mod]
theorem odd_eq {a : Nat} (ha : a < 65536) : hamming_odd.f (a : Int) = some (par a) := by
 have e1 : Go.bits .and .u16 (a : Int) 255 = ((a % 256 : Nat) : Int) := low_and 8 255 (by decide) ha (by decide)
 have e2 : (a : Int) / 256 = ((a / 256 : Nat) : Int) := by omega
 have h1 := ones_le (a / 256)
 have h2 := ones_le (a % 256)
 have h3 : (Go.bits .and .i64 (((ones (a / 256) + ones (a % 256) : Nat) : Int)) 1 == 1) = par a := by
  have := and_i64 (a := ones (a / 256) + ones (a % 256)) (b := 1) (by omega) (by decide)
  rw [show ((1 : Nat) : Int) = 1 from rfl] at this
  rw [this, Nat.and_one_is_mod, par_ones]
  rcases Nat.mod_two_eq_zero_or_one (ones (a / 256) + ones (a % 256)) with h | h <;> rw [h] <;> rfl
 unfold hamming_odd.f bits_OnesCount16.f
 rw [e1, e2, if_pos (by omega), if_pos (by omega), if_pos (by omega), if_pos (by omega), tab_ones _ (by omega), tab_ones _ (by omega)]
 have e3 : (((ones (a / 256) : Nat) : Int) + ((ones (a % 256) : Nat) : Int)) % 256 = ((ones (a / 256) + ones (a % 256) : Nat) : Int) := by omega
 rw [e3, Option.bind_some, h3]
theorem or_bit {x : Nat} (n m : Nat) (hm : m = 2 ^ n) (hx : x < m) (h : m < 65536) : Go.bits .or .u16 (x : Int) (m : Int) = ((x + m : Nat) : Int) := by
 subst hm
 rw [or_u16 (by omega) h]
 have := Nat.two_pow_add_eq_or_of_lt hx 1
 rw [Nat.mul_one] at this
 rw [Nat.or_comm, ← this, Nat.add_comm]
theorem or_pad {x : Nat} (hx : x < 16384) : Go.bits .or .u16 (x : Int) 49152 = ((x + 49152 : Nat) : Int) := by
 have e : Go.bits .or .u16 (x : Int) ((49152 : Nat) : Int) = _ := or_u16 (a := x) (b := 49152) (by omega) (by omega)
 have h := Nat.two_pow_add_eq_or_of_lt (i := 14) (b := x) (by omega) 3
 have h3 : 2 ^ 14 * 3 = 49152 := by decide
 rw [h3] at h
 rw [Nat.or_comm, ← h, Nat.add_comm] at e
 exact e
theorem word_or1 {x : Nat} (hx : x < 8192) : Go.bits .or .u16 (Go.bits .or .u16 (x : Int) 8192) 49152 = ((x + 8192 * 1 + 49152 : Nat) : Int) := by
 have e : Go.bits .or .u16 (x : Int) ((8192 : Nat) : Int) = ((x + 8192 : Nat) : Int) := or_bit (x := x) 13 8192 (by decide) hx (by decide)
 have e' : Go.bits .or .u16 (x : Int) 8192 = ((x + 8192 : Nat) : Int) := e
 rw [e', or_pad (by omega)]
theorem word_or0 {x : Nat} (hx : x < 8192) : Go.bits .or .u16 (x : Int) 49152 = ((x + 8192 * 0 + 49152 : Nat) : Int) := by
 have e := or_pad (x := x) (by omega)
 rw [e]
theorem wordN_of {l : List Nat} {x : Nat} {o : Bool} (hx : gx l (8 * l.length) = x) (ho : go l (8 * l.length) = o) : wordN l = x + 8192 * (if o != par x then 1 else 0) + 49152 := by
 unfold wordN chk
 rw [hx, ho]
theorem word_ev {l : List Int} (hl : ∀ x ∈ l, 0 ≤ x ∧ x < 256) (hn : l.length ≤ 512) : Ev (fun k => hamming_Word.f k l) (((wordN (nats l) : Nat) : Int), 0) := by
 have hx := gx_lt (nats l) (8 * l.length) (by omega)
 have hlen := nats_length l
 have hw : ∀ x o, gx (nats l) (8 * l.length) = x → go (nats l) (8 * l.length) = o → wordN (nats l) = x + 8192 * (if o != par x then 1 else 0) + 49152 := fun x o h1 h2 => wordN_of (by rw [hlen]; exact h1) (by rw [hlen]; exact h2)
 have hw := hw _ _ rfl rfl
 refine Ev.congr (fun k => by rw [hamming_Word.f]) ?_
 refine Ev.neg (by omega) ?_
 refine Ev.bind (gather_ev hl (by omega)) ?_
 refine Ev.bindv (odd_eq (by omega)) ?_
 rw [hw]
 clear hw
 generalize gx (nats l) (8 * l.length) = x at hx ⊢
 generalize go (nats l) (8 * l.length) = o
 dsimp only
 cases hc : (o != par x)
 ·refine Ev.neg (by decide) (Ev.ret ?_)
  rw [word_or0 hx, if_neg (by decide)]
 ·refine Ev.pos rfl (Ev.ret ?_)
  rw [word_or1 hx, if_pos rfl]
theorem not_pad {w : Nat} (hw : w < 65536) : Go.bits .andNot .u16 (w : Int) 49152 = ((w % 16384 : Nat) : Int) := by
 have e := low_and (a := w) 14 16383 (by decide) hw (by decide)
 rw [show 2 ^ 14 = 16384 from rfl] at e
 rw [← e]
 rfl
def judgeN (l : List Nat) (w : Nat) : Int × Int × Int :=
 if single l w = false then (if wrongN l w = 0 then (0, 0, 0) else (3, 0, 0))
 else if wrongN l w = 0 ∨ isPow (wrongN l w) = true then (2, 0, 0)
 else if wrongN l w - 1 - len (wrongN l w) < 8 * l.length then (1, ((wrongN l w - 1 - len (wrongN l w) : Nat) : Int), 0) else (3, 0, 0)
theorem pow_none {p : Nat} (hp : p < 8192) : (Go.bits .and .i64 (p : Int) (wrap64 ((p : Int) - 1)) = 0) ↔ (p = 0 ∨ isPow p = true) := by
 rcases Nat.eq_zero_or_pos p with e | h0
 ·subst e
  refine ⟨fun _ => Or.inl rfl, fun _ => ?_⟩
  have e : wrap64 (((0 : Nat) : Int) - 1) = -1 := by rw [w64_id (by omega) (by omega)]; omega
  rw [e]
  decide +kernel
 ·rw [pow_test h0 (by omega)]
  exact ⟨fun h => Or.inr h, fun h => h.resolve_left (by omega)⟩
theorem place_far {p : Nat} (h0 : p ≠ 0) (hp : isPow p = false) (hlt : p < 8192) : IsPlace (p - 1 - len p) p := by
 have h3 : 3 ≤ p := by
  rcases Nat.lt_or_ge p 3 with h | h
  ·obtain rfl | rfl : p = 1 ∨ p = 2 := by omega
   ·exact absurd hp (by decide)
   ·exact absurd hp (by decide)
  ·exact h
 obtain ⟨n, hn⟩ := place_of hp h3
 have := hn.2.1
 have e : p - 1 - len p = n := by omega
 rw [e]
 exact hn
theorem judge_ev {l : List Int} (hl : ∀ x ∈ l, 0 ≤ x ∧ x < 256) (hn : l.length ≤ 512) {w : Nat} (hw : w < 65536) : Ev (fun k => hamming_Judge.f k l (w : Int)) (judgeN (nats l) w) := by
 have hlen := nats_length l
 have hx := gx_lt (nats l) (8 * l.length) (by omega)
 have hwr := wrongN_lt (nats l) w
 have e1 : wrap64 (Go.bits .and .u16 (Go.bits .xor .u16 ((gx (nats l) (8 * l.length) : Nat) : Int) (w : Int)) 8191) = ((wrongN (nats l) w : Nat) : Int) := by
  have hxl : gx (nats l) (8 * l.length) ^^^ w < 65536 := Nat.xor_lt_two_pow (n := 16) (by omega) (by omega)
  have e := low_and (a := gx (nats l) (8 * l.length) ^^^ w) 13 8191 (by decide) hxl (by decide)
  rw [show ((8191 : Nat) : Int) = 8191 from rfl, show 2 ^ 13 = 8192 from rfl] at e
  rw [xor_u16 (by omega) hw, e, w64_id (by omega) (by omega)]
  unfold wrongN
  rw [hlen]
 have e2 : (go (nats l) (8 * l.length) != par (w % 16384)) = single (nats l) w := by
  unfold single
  rw [hlen]
 refine Ev.congr (fun k => by rw [hamming_Judge.f]) ?_
 refine Ev.neg (by omega) ?_
 refine Ev.bind (gather_ev hl (by omega)) ?_
 rw [not_pad hw]
 refine Ev.bindv (odd_eq (by omega)) ?_
 rw [e1, e2]
 clear e1 e2
 unfold judgeN
 rw [hlen]
 generalize wrongN (nats l) w = p at hwr ⊢
 cases hs : single (nats l) w
 ·refine Ev.neg (by decide) ?_
  rw [if_pos rfl]
  refine Ev.step (fun k => hamming_Judge.j0.eq_2 ..) ?_
  refine Ev.ite (fun h => Ev.ret ?_) (fun h => ?_)
  ·rw [if_pos (by have := beq_iff_eq.1 h; omega)]
  ·refine Ev.neg (by decide) (Ev.ret ?_)
   rw [if_neg (fun e => h (by rw [e]; rfl))]
 ·refine Ev.pos rfl ?_
  rw [if_neg (by decide)]
  refine Ev.step (fun k => hamming_Judge.j0.eq_2 ..) ?_
  refine Ev.neg (by decide) (Ev.pos rfl ?_)
  refine Ev.ite (fun h => Ev.ret ?_) (fun h => ?_)
  ·rw [if_pos ((pow_none hwr).1 h)]
  ·have h' : ¬ (p = 0 ∨ isPow p = true) := fun e => h ((pow_none hwr).2 e)
   rw [if_neg h']
   have hpl := place_far (fun e => h' (Or.inl e)) (by simpa using fun e => h' (Or.inr e)) hwr
   refine Ev.bind (bit_place hpl (by omega)) (Ev.pos rfl ?_)
   rw [w64_id (x := 8 * (l.length : Int)) (by omega) (by omega)]
   refine Ev.ite (fun h2 => Ev.ret ?_) (fun h2 => Ev.ret ?_)
   ·rw [if_pos (by omega)]
   ·rw [if_neg (by omega)]
end Go.Proofs.Ytmehbabchakkpaa.PurePageDecodes
namespace Go.Proofs.Ytmehbabchakkpaa.PurePageDecodes
open Go.RowKit Go.Proofs.Ytmehbabchakkpaa.QPageDecodes Go.Proofs.YtmehbabchakkpaaW.PrintWords Go.Proofs.Ytmehbabchakkpaa.EvKit Go.Proofs.Ytmehbabchakkpaa.BitsKit Go.Proofs.Ytmehbabchakkpaa.CrcMath Go.Proofs.Ytmehbabchakkpaa.NatKit Go.Proofs.Ytmehbabchakkpaa.BitsMath Go.Proofs.Ytmehbabchakkpaa.LenMath Go.Proofs.Ytmehbabchakkpaa.HamMath
end Go.Proofs.Ytmehbabchakkpaa.PurePageDecodes
namespace Go.Proofs.Ytmehbabchakkpaa.PurePageDecodes
open Go.RowKit Go.Proofs.Ytmehbabchakkpaa.QPageDecodes Go.Proofs.YtmehbabchakkpaaW.PrintWords Go.Proofs.YtmehbabchakkpaaW.PrintLast Go.Proofs.YtmehbabchakkpaaW.PrintMore Go.Proofs.Ytmehbabchakkpaa.EvKit Go.Proofs.Ytmehbabchakkpaa.BitsKit Go.Proofs.Ytmehbabchakkpaa.CrcMath Go.Proofs.Ytmehbabchakkpaa.NatKit Go.Proofs.Ytmehbabchakkpaa.BitsMath
theorem shl_one {r : Nat} (h : r < 8) : shl .u8 1 (r : Int) = ((2 ^ r : Nat) : Int) := by
 have : r = 0 ∨ r = 1 ∨ r = 2 ∨ r = 3 ∨ r = 4 ∨ r = 5 ∨ r = 6 ∨ r = 7 := by omega
 rcases this with rfl | rfl | rfl | rfl | rfl | rfl | rfl | rfl <;> decide
theorem flip_l0 {at_ : List Int} (ha : ∀ i ∈ at_, i ≤ 9223372036854775807) (hn : at_.length < 1000000) (d : Nat) : ∀ (i : Nat) (l : List Nat), i + d = at_.length → (∀ b ∈ l, b < 256) → l.length < 1000000 →
  Ev (fun k => bits_Flip.l0 k (ints l) at_ (at_.length : Int) (i : Int)) (ints (flips l (at_.drop i))) := by
 induction d with
 | zero =>
  intro i l hi hl hln
  refine Ev.step (fun k => bits_Flip.l0.eq_2 ..) ?_
  refine Ev.neg (by omega) (Ev.ret ?_)
  rw [List.drop_of_length_le (by omega)]
  rfl
 | succ d ih =>
  intro i l hi hl hln
  refine Ev.step (fun k => bits_Flip.l0.eq_2 ..) ?_
  refine Ev.pos (by omega) ?_
  refine Ev.pos (by omega) ?_
  refine Ev.pos (by omega) ?_
  have hmax := ha _ (rd_mem (l := at_) (i := (i : Int)) (by omega) (by omega))
  rw [drop_rd (l := at_) (i := i) (by omega), w64_succ (by omega)]
  have next := fun v => ih (i + 1) (flip1 l v) (by omega) (flip1_lt hl v) (by rw [flip1_length]; exact hln)
  generalize rd at_ (i : Int) = a at hmax ⊢
  have next := next a
  show Ev _ (ints (flips (flip1 l a) (at_.drop (i + 1))))
  have hself : ¬ (0 ≤ a ∧ a / 8 < (l.length : Int)) → flip1 l a = l := fun h => by unfold flip1; rw [if_neg h]
  refine Ev.ite (fun h0 => ?_) (fun h0 => ?_)
  ·obtain ⟨m, rfl⟩ := Int.eq_ofNat_of_zero_le h0
   have hw : wrap64 (Int.tdiv (m : Int) 8) = ((m / 8 : Nat) : Int) := by
    rw [Int.tdiv_eq_ediv_of_nonneg h0]
    exact w64_id (by omega) (by omega)
   have hs : IntKind.u64.wrap (Int.tmod (m : Int) 8) = ((m % 8 : Nat) : Int) := by
    rw [Int.tmod_eq_emod_of_nonneg h0]
    exact w_u64 _ (by omega) (by omega)
   rw [hw, hs, ints_length]
   clear hw hs
   refine Ev.ite (fun h1 => ?_) (fun h1 => ?_)
   ·refine Ev.pos (by omega) ?_
    refine Ev.pos (by omega) ?_
    have hlt : m / 8 < l.length := by omega
    have hb := hl _ (List.getElem_mem hlt)
    have hp : 2 ^ (m % 8) < 256 := Nat.pow_lt_pow_right (n := 8) (a := 2) (by decide) (Nat.mod_lt _ (by decide))
    rw [rd_ints_lt hlt, shl_one (Nat.mod_lt _ (by decide)), xor_u8 hb hp, Int.toNat_natCast, ints_set]
    have e : flip1 l (m : Int) = l.set (m / 8) (l[m / 8] ^^^ 2 ^ (m % 8)) := by
     unfold flip1
     rw [if_pos (by omega), Int.toNat_natCast, List.getD_eq_getElem?_getD, List.getElem?_eq_getElem hlt, Option.getD_some]
    rw [← e]
    exact next
   ·rw [hself (by omega)] at next ⊢
    exact next
  ·rw [hself (by omega)] at next ⊢
   exact next
theorem flip_ev {l at_ : List Int} (hl : ∀ x ∈ l, 0 ≤ x ∧ x < 256) (hln : l.length < 1000000) (ha : ∀ i ∈ at_, i ≤ 9223372036854775807) (hn : at_.length < 1000000) : Ev (fun k => bits_Flip.f k l at_) (ints (flips (nats l) at_)) := by
 refine Ev.congr (fun k => by rw [bits_Flip.f]) ?_
 refine Ev.bindv (a := l) ?_ ?_
 ·unfold slices_Clone_byte_byte.f
  rw [if_pos (by omega)]
 ·have := flip_l0 ha hn at_.length 0 (nats l) (by omega) (nats_lt hl) (by rw [nats_length]; exact hln)
  rw [ints_nats fun x hx => (hl x hx).1] at this
  exact this
end Go.Proofs.Ytmehbabchakkpaa.PurePageDecodes
namespace Go.Proofs.Ytmehbabchakkpaa.PurePageDecodes
open Go.RowKit Go.Proofs.Ytmehbabchakkpaa.QPageDecodes Go.Proofs.YtmehbabchakkpaaW.PrintWords Go.Proofs.YtmehbabchakkpaaW.PrintLast Go.Proofs.Ytmehbabchakkpaa.EvKit
theorem same_l0 (a b : List Int) (hl : a.length = b.length) (hb : a.length < 1000000000) (d : Nat) : ∀ i : Nat, i + d = a.length →
  Ev (fun k => incunableref01_Same.l0 k a b (i : Int)) (decide (a.drop i = b.drop i)) := by
 induction d with
 | zero =>
  intro i hi
  refine Ev.step (fun k => incunableref01_Same.l0.eq_2 ..) ?_
  refine Ev.neg (by omega) (Ev.ret ?_)
  rw [List.drop_of_length_le (by omega), List.drop_of_length_le (by omega)]
  rfl
 | succ d ih =>
  intro i hi
  refine Ev.step (fun k => incunableref01_Same.l0.eq_2 ..) ?_
  refine Ev.pos (by omega) (Ev.pos (by omega) (Ev.pos (by omega) ?_))
  rw [drop_rd (l := a) (i := i) (by omega), drop_rd (l := b) (i := i) (by omega)]
  refine Ev.ite (fun h => ?_) (fun h => Ev.ret ?_)
  ·rw [w64_succ (by omega), h]
   refine Ev.eq (ih (i + 1) (by omega)) ?_
   simp
  ·simp [h]
theorem same_ev (a b : List Int) (hb : a.length < 1000000000) : Ev (fun k => incunableref01_Same.f k a b) (decide (a = b)) := by
 refine Ev.congr (fun k => by rw [incunableref01_Same.f]) ?_
 refine Ev.ite (fun h => ?_) (fun h => Ev.ret ?_)
 ·exact same_l0 a b (by omega) hb a.length 0 (by omega)
 ·have : a ≠ b := fun e => h (by rw [e])
  simp [this]
end Go.Proofs.Ytmehbabchakkpaa.PurePageDecodes
namespace Go.Proofs.Ytmehbabchakkpaa.ChunkMath
open Go.RowKit Go.Proofs.Ytmehbabchakkpaa.CrcMath Go.Proofs.Ytmehbabchakkpaa.BitsMath Go.Proofs.Ytmehbabchakkpaa.LenMath Go.Proofs.Ytmehbabchakkpaa.HamMath
def encW (l : List Nat) (w : Nat) : List Nat := l ++ [w % 256, w / 256]
theorem encW_length (l : List Nat) (w : Nat) : (encW l w).length = l.length + 2 := by
 unfold encW
 rw [List.length_append]
 rfl
end Go.Proofs.Ytmehbabchakkpaa.ChunkMath
namespace Go.Proofs.Ytmehbabchakkpaa.PurePageDecodes
open Go.RowKit Go.Proofs.Ytmehbabchakkpaa.QPageDecodes Go.Proofs.YtmehbabchakkpaaW.PrintWords Go.Proofs.YtmehbabchakkpaaW.PrintLast Go.Proofs.YtmehbabchakkpaaW.PrintMore Go.Proofs.Ytmehbabchakkpaa.EvKit Go.Proofs.Ytmehbabchakkpaa.BitsKit Go.Proofs.Ytmehbabchakkpaa.CrcMath Go.Proofs.Ytmehbabchakkpaa.NatKit Go.Proofs.Ytmehbabchakkpaa.BitsMath Go.Proofs.Ytmehbabchakkpaa.LenMath Go.Proofs.Ytmehbabchakkpaa.HamMath Go.Proofs.Ytmehbabchakkpaa.ChunkMath
def encN (l : List Nat) : List Nat := encW l (wordN l)
theorem encode_ev {l : List Int} (hl : ∀ x ∈ l, 0 ≤ x ∧ x < 256) (h0 : 0 < l.length) (hn : l.length ≤ 512) : Ev (fun k => chunk_Encode.f k l) (ints (encN (nats l)), 0) := by
 have hw := wordN_lt (l := nats l) (by rw [nats_length]; omega)
 refine Ev.congr (fun k => by rw [chunk_Encode.f]) ?_
 refine Ev.neg (by omega) ?_
 rw [decide_eq_false (by omega)]
 refine Ev.step (fun k => chunk_Encode.j0.eq_2 ..) ?_
 refine Ev.neg (by decide) ?_
 refine Ev.bind (word_ev hl hn) (Ev.pos rfl ?_)
 generalize hww : wordN (nats l) = w at hw ⊢
 refine Ev.bindv rfl (Ev.pos (by rw [List.length_nil]; omega) (Ev.bindv rfl (Ev.bindv rfl (Ev.pos ?_ (Ev.ret ?_)))))
 ·rw [List.nil_append, List.length_cons, List.length_singleton]
  omega
 ·unfold encN encW
  rw [hww, List.nil_append]
  have e : ints (nats l ++ [w % 256, w / 256]) = l ++ [((w % 256 : Nat) : Int), ((w / 256 : Nat) : Int)] := by
   unfold ints
   rw [List.map_append]
   have h := ints_nats (l := l) fun x hx => (hl x hx).1
   unfold ints at h
   rw [h]
   rfl
  rw [e, show (w : Int) % 256 = ((w % 256 : Nat) : Int) from by omega, show (w : Int) / 256 % 256 = ((w / 256 : Nat) : Int) from by omega]
def decOf (d : List Nat) (j : Int × Int × Int) : List Int × Int × Int :=
 if j.1 = 0 then (ints d, 0, 0) else if j.1 = 1 then (ints (flips d [j.2.1]), 1, 0) else if j.1 = 2 then (ints d, 1, 0) else ([], 0, 14)
def decN (r : List Nat) : List Int × Int × Int :=
 if r.length < 3 ∨ 514 < r.length then ([], 0, 2) else decOf (r.take (r.length - 2)) (judgeN (r.take (r.length - 2)) (r.getD (r.length - 2) 0 + 256 * r.getD (r.length - 1) 0))
theorem or_word {a b : Nat} (ha : a < 256) (hb : b < 256) : Go.bits .or .u16 (IntKind.u16.wrap (a : Int)) (IntKind.u16.wrap (IntKind.u16.wrap (b : Int) * 256)) = ((a + 256 * b : Nat) : Int) := by
 rw [w_u16 (a : Int) (by omega) (by omega), w_u16 (b : Int) (by omega) (by omega), w_u16 _ (by omega) (by omega), show (b : Int) * 256 = ((256 * b : Nat) : Int) by omega, or_u16 (by omega) (by omega)]
 have := Nat.two_pow_add_eq_or_of_lt (i := 8) (b := a) (by omega) b
 rw [show 2 ^ 8 = 256 from rfl] at this
 rw [Nat.or_comm, ← this, Nat.add_comm]
theorem judgeN_states (l : List Nat) (w : Nat) : (judgeN l w).2.2 = 0 ∧ ((judgeN l w).1 = 0 ∨ (judgeN l w).1 = 1 ∨ (judgeN l w).1 = 2 ∨ (judgeN l w).1 = 3) ∧ (judgeN l w).2.1 ≤ 8192 := by
 have := wrongN_lt l w
 unfold judgeN
 split
 ·split
  ·exact ⟨rfl, Or.inl rfl, by show (0 : Int) ≤ 8192; omega⟩
  ·exact ⟨rfl, Or.inr (Or.inr (Or.inr rfl)), by show (0 : Int) ≤ 8192; omega⟩
 ·split
  ·exact ⟨rfl, Or.inr (Or.inr (Or.inl rfl)), by show (0 : Int) ≤ 8192; omega⟩
  ·split
   ·refine ⟨rfl, Or.inr (Or.inl rfl), ?_⟩
    show ((wrongN l w - 1 - len (wrongN l w) : Nat) : Int) ≤ 8192
    omega
   ·exact ⟨rfl, Or.inr (Or.inr (Or.inr rfl)), by show (0 : Int) ≤ 8192; omega⟩
theorem decode_ev {r : List Int} (hr : ∀ x ∈ r, 0 ≤ x ∧ x < 256) (hn : r.length < 1000000) : Ev (fun k => chunk_Decode.f k r) (decN (nats r)) := by
 have hlen := nats_length r
 have e1 : wrap64 ((r.length : Int) - 2) = (r.length : Int) - 2 := w64_id (by omega) (by omega)
 refine Ev.congr (fun k => by rw [chunk_Decode.f]) ?_
 rw [e1]
 clear e1
 unfold decN
 rw [hlen]
 have hj : Ev (fun k => chunk_Decode.j0 k r ((r.length : Int) - 2) true) ([], 0, 2) := Ev.step (fun k => chunk_Decode.j0.eq_2 ..) (Ev.pos rfl (Ev.ret rfl))
 refine Ev.ite (fun h => ?_) (fun h => ?_)
 ·rw [if_pos (by omega)]
  exact hj
 by_cases h512 : (r.length : Int) - 2 > 512
 ·rw [decide_eq_true h512, if_pos (by omega)]
  exact hj
 rw [decide_eq_false h512, if_neg (by omega)]
 clear hj
 obtain ⟨n, hn2⟩ : ∃ n, r.length = n + 2 := ⟨r.length - 2, by omega⟩
 have e2 : (r.length : Int) - 2 = (n : Int) := by omega
 rw [e2, hn2, show n + 2 - 2 = n by omega, show n + 2 - 1 = n + 1 by omega]
 refine Ev.step (fun k => chunk_Decode.j0.eq_2 ..) ?_
 refine Ev.neg (by decide) ?_
 try refine Ev.step (fun k => chunk_Decode.j1.eq_2 ..) ?_
 rw [w64_succ (by omega), Int.toNat_natCast]
 refine (Ev.pos (by omega) (Ev.pos (by omega) (Ev.pos (by omega) (Ev.pos (by omega) (Ev.pos (by omega) ?_)))))
 have b1 := hr _ (rd_mem (l := r) (i := (n : Int)) (by omega) (by omega))
 have b2 := hr _ (rd_mem (l := r) (i := ((n + 1 : Nat) : Int)) (by omega) (by omega))
 have r1 := rd_nats (l := r) (fun x hx => (hr x hx).1) n
 have r2 := rd_nats (l := r) (fun x hx => (hr x hx).1) (n + 1)
 rw [r1] at b1 ⊢
 rw [r2] at b2 ⊢
 rw [or_word (by omega) (by omega)]
 have hd : ∀ x ∈ r.take n, 0 ≤ x ∧ x < 256 := fun x hx => hr x (List.mem_of_mem_take hx)
 have hdl : (r.take n).length = n := by rw [List.length_take]; omega
 refine Ev.bind (judge_ev hd (by omega) (by omega)) ?_
 rw [nats_take]
 have hst := judgeN_states ((nats r).take n) ((nats r).getD n 0 + 256 * (nats r).getD (n + 1) 0)
 generalize judgeN ((nats r).take n) ((nats r).getD n 0 + 256 * (nats r).getD (n + 1) 0) = j at hst ⊢
 obtain ⟨s, b, e⟩ := j
 obtain ⟨h1, h2, h3⟩ := hst
 dsimp only at h1 h2 h3 ⊢
 refine Ev.pos h1 ?_
 try refine Ev.step (fun k => chunk_Decode.j2.eq_2 ..) ?_
 try rw [Int.toNat_natCast]
 unfold decOf
 have hf0 := flip_ev (l := r.take n) (at_ := []) hd (by omega) (by intro i hi; exact absurd hi (by simp)) (by simp)
 have hf1 := flip_ev (l := r.take n) (at_ := [b]) hd (by omega) (by intro i hi; rw [List.mem_singleton.1 hi]; omega) (by simp)
 rw [nats_take] at hf0 hf1
 dsimp only
 refine Ev.ite (fun hs => ?_) (fun hs => ?_)
 ·rw [if_pos hs]
  first | exact Ev.bind hf0 (Ev.ret rfl) | exact Ev.pos (by omega) (Ev.pos (by omega) (Ev.bind hf0 (Ev.ret rfl)))
 rw [if_neg hs]
 refine Ev.ite (fun hs => ?_) (fun hs => ?_)
 ·rw [if_pos hs]
  first | exact Ev.bind hf1 (Ev.ret rfl) | exact Ev.pos (by omega) (Ev.pos (by omega) (Ev.bind hf1 (Ev.ret rfl)))
 rw [if_neg hs]
 refine Ev.ite (fun hs => ?_) (fun hs => ?_)
 ·rw [if_pos hs]
  first | exact Ev.bind hf0 (Ev.ret rfl) | exact Ev.pos (by omega) (Ev.pos (by omega) (Ev.bind hf0 (Ev.ret rfl)))
 rw [if_neg hs]
 exact Ev.ret rfl
end Go.Proofs.Ytmehbabchakkpaa.PurePageDecodes
namespace Go.Proofs.Ytmehbabchakkpaa.PurePageDecodes
open Go.RowKit Go.Proofs.Ytmehbabchakkpaa.QPageDecodes Go.Proofs.YtmehbabchakkpaaW.PrintWords Go.Proofs.YtmehbabchakkpaaW.PrintLast Go.Proofs.YtmehbabchakkpaaW.PrintMore Go.Proofs.Ytmehbabchakkpaa.EvKit Go.Proofs.Ytmehbabchakkpaa.BitsKit Go.Proofs.Ytmehbabchakkpaa.CrcMath Go.Proofs.Ytmehbabchakkpaa.NatKit Go.Proofs.Ytmehbabchakkpaa.BitsMath
theorem ones_eq {b : Nat} (hb : b < 256) : bits_OnesCount8.f (b : Int) = some ((ones b : Nat) : Int) := by
 unfold bits_OnesCount8.f
 rw [if_pos (by omega), if_pos (by omega)]
 congr 1
 rw [ones_table b hb]
 have key : ∀ b : Nat, b < 256 → bt (⟨#[0, 1, 1, 2, 1, 2, 2, 3, 1, 2, 2, 3, 2, 3, 3, 4, 1, 2, 2, 3, 2, 3, 3, 4, 2, 3, 3, 4, 3, 4, 4, 5, 1, 2, 2, 3, 2, 3, 3, 4, 2, 3, 3, 4, 3, 4, 4, 5, 2, 3, 3, 4, 3, 4, 4, 5, 3, 4, 4, 5, 4, 5, 5, 6, 1, 2, 2, 3, 2, 3, 3, 4, 2, 3, 3, 4, 3, 4, 4, 5, 2, 3, 3, 4, 3, 4, 4, 5, 3, 4, 4, 5, 4, 5, 5, 6, 2, 3, 3, 4, 3, 4, 4, 5, 3, 4, 4, 5, 4, 5, 5, 6, 3, 4, 4, 5, 4, 5, 5, 6, 4, 5, 5, 6, 5, 6, 6, 7, 1, 2, 2, 3, 2, 3, 3, 4, 2, 3, 3, 4, 3, 4, 4, 5, 2, 3, 3, 4, 3, 4, 4, 5, 3, 4, 4, 5, 4, 5, 5, 6, 2, 3, 3, 4, 3, 4, 4, 5, 3, 4, 4, 5, 4, 5, 5, 6, 3, 4, 4, 5, 4, 5, 5, 6, 4, 5, 5, 6, 5, 6, 6, 7, 2, 3, 3, 4, 3, 4, 4, 5, 3, 4, 4, 5, 4, 5, 5, 6, 3, 4, 4, 5, 4, 5, 5, 6, 4, 5, 5, 6, 5, 6, 6, 7, 3, 4, 4, 5, 4, 5, 5, 6, 4, 5, 5, 6, 5, 6, 6, 7, 4, 5, 5, 6, 5, 6, 6, 7, 5, 6, 6, 7, 6, 7, 7, 8]⟩ : ByteArray) (b : Int) = (([0, 1, 1, 2, 1, 2, 2, 3, 1, 2, 2, 3, 2, 3, 3, 4, 1, 2, 2, 3, 2, 3, 3, 4, 2, 3, 3, 4, 3, 4, 4, 5, 1, 2, 2, 3, 2, 3, 3, 4, 2, 3, 3, 4, 3, 4, 4, 5, 2, 3, 3, 4, 3, 4, 4, 5, 3, 4, 4, 5, 4, 5, 5, 6, 1, 2, 2, 3, 2, 3, 3, 4, 2, 3, 3, 4, 3, 4, 4, 5, 2, 3, 3, 4, 3, 4, 4, 5, 3, 4, 4, 5, 4, 5, 5, 6, 2, 3, 3, 4, 3, 4, 4, 5, 3, 4, 4, 5, 4, 5, 5, 6, 3, 4, 4, 5, 4, 5, 5, 6, 4, 5, 5, 6, 5, 6, 6, 7, 1, 2, 2, 3, 2, 3, 3, 4, 2, 3, 3, 4, 3, 4, 4, 5, 2, 3, 3, 4, 3, 4, 4, 5, 3, 4, 4, 5, 4, 5, 5, 6, 2, 3, 3, 4, 3, 4, 4, 5, 3, 4, 4, 5, 4, 5, 5, 6, 3, 4, 4, 5, 4, 5, 5, 6, 4, 5, 5, 6, 5, 6, 6, 7, 2, 3, 3, 4, 3, 4, 4, 5, 3, 4, 4, 5, 4, 5, 5, 6, 3, 4, 4, 5, 4, 5, 5, 6, 4, 5, 5, 6, 5, 6, 6, 7, 3, 4, 4, 5, 4, 5, 5, 6, 4, 5, 5, 6, 5, 6, 6, 7, 4, 5, 5, 6, 5, 6, 6, 7, 5, 6, 6, 7, 6, 7, 7, 8].getD b 0 : Nat) : Int) := by
  decide +kernel
 rw [key b hb]
 have h8 := ones_le b
 rw [ones_table b hb] at h8
 exact w64_id (by omega) (by omega)
theorem count_l0 {l : List Int} (hl : ∀ x ∈ l, 0 ≤ x ∧ x < 256) (hn : l.length < 1000000) (d : Nat) : ∀ (n i : Nat), i + d = l.length → n ≤ 8 * i → Ev (fun k => bits_Count.l0 k (n : Int) l (l.length : Int) (i : Int)) ((n + count ((nats l).drop i) : Nat) : Int) := by
 induction d with
 | zero =>
  intro n i hi h8
  refine Ev.step (fun k => bits_Count.l0.eq_2 ..) ?_
  refine Ev.neg (by omega) (Ev.ret ?_)
  rw [List.drop_of_length_le (by rw [nats_length]; omega)]
  rfl
 | succ d ih =>
  intro n i hi h8
  have hx := hl _ (rd_mem (l := l) (i := (i : Int)) (by omega) (by omega))
  have hr := rd_nats (l := l) (fun x hx => (hl x hx).1) i
  have hb : (nats l).getD i 0 < 256 := by omega
  have ho := ones_le ((nats l).getD i 0)
  refine Ev.step (fun k => bits_Count.l0.eq_2 ..) ?_
  refine Ev.pos (by omega) ?_
  refine Ev.pos (by omega) ?_
  refine Ev.pos (by omega) ?_
  rw [hr]
  refine Ev.bindv (ones_eq hb) ?_
  clear hr hx
  rw [w64_id (by omega) (by omega), w64_succ (by omega), ← Int.natCast_add]
  refine Ev.eq (ih _ (i + 1) (by omega) (by omega)) ?_
  have hj' : i < (nats l).length := by rw [nats_length]; omega
  rw [List.drop_eq_getElem_cons hj']
  have e : (nats l).getD i 0 = (nats l)[i] := by rw [List.getD_eq_getElem?_getD, List.getElem?_eq_getElem hj']; rfl
  rw [e]
  unfold count
  rw [List.map_cons, List.sum_cons, Nat.add_assoc]
theorem count_ev {l : List Int} (hl : ∀ x ∈ l, 0 ≤ x ∧ x < 256) (hn : l.length < 1000000) : Ev (fun k => bits_Count.f k l) ((count (nats l) : Nat) : Int) := by
 refine Ev.congr (fun k => by rw [bits_Count.f]) ?_
 refine Ev.eq (count_l0 hl hn l.length 0 0 (by omega) (by omega)) ?_
 simp
theorem zeros_ev {l : List Int} (hl : ∀ x ∈ l, 0 ≤ x ∧ x < 256) (hn : l.length < 1000000) : Ev (fun k => bits_Zeros.f k l) ((8 * l.length - count (nats l) : Nat) : Int) := by
 refine Ev.congr (fun k => by rw [bits_Zeros.f]) ?_
 refine Ev.bind (count_ev hl hn) (Ev.ret ?_)
 have := count_le (nats l)
 rw [nats_length] at this
 rw [w64_id (x := 8 * (l.length : Int)) (by omega) (by omega), w64_id (by omega) (by omega)]
 omega
end Go.Proofs.Ytmehbabchakkpaa.PurePageDecodes
namespace Go.Proofs.Ytmehbabchakkpaa.PurePageDecodes
open Go.RowKit Go.Proofs.Ytmehbabchakkpaa.QPageDecodes Go.Proofs.YtmehbabchakkpaaW.PrintWords Go.Proofs.YtmehbabchakkpaaW.PrintLast Go.Proofs.YtmehbabchakkpaaW.PrintMore Go.Proofs.Ytmehbabchakkpaa.EvKit Go.Proofs.Ytmehbabchakkpaa.PackMath Go.Proofs.Ytmehbabchakkpaa.TagMath Go.Proofs.Ytmehbabchakkpaa.CrcMath Go.Proofs.Ytmehbabchakkpaa.NatKit Go.Proofs.Ytmehbabchakkpaa.BitsMath Go.Proofs.Ytmehbabchakkpaa.ChunkMath
def encI (l : List Int) : List Int := ints (encN (nats l))
theorem encI_len (l : List Int) : (encI l).length = l.length + 2 := by
 unfold encI ints encN
 rw [List.length_map, encW_length, nats_length]
def cutG (b : List Int) (S i : Nat) : List Int := (b.take ((i + 1) * S)).drop (i * S)
theorem cutG_le (b : List Int) (S i : Nat) : (cutG b S i).length ≤ S := by
 unfold cutG
 rw [List.length_drop, List.length_take, Nat.succ_mul]
 omega
theorem cutG_len {b : List Int} {S i : Nat} (h : (i + 1) * S ≤ b.length) : (cutG b S i).length = S := by
 unfold cutG
 rw [List.length_drop, List.length_take, Nat.min_eq_left h, Nat.succ_mul]
 omega
def chunksP (b : List Int) (S i : Nat) : List Int := (List.range i).flatMap fun j => encI (cutG b S j)
theorem chunksP_succ (b : List Int) (S i : Nat) : chunksP b S (i + 1) = chunksP b S i ++ encI (cutG b S i) := by
 unfold chunksP
 rw [List.range_succ, List.flatMap_append]
 simp
theorem chunksP_le (b : List Int) {S : Nat} (hS : S ≤ 512) : ∀ i, (chunksP b S i).length ≤ 600 * i
 | 0 => Nat.le_refl _
 | i + 1 => by
  have := chunksP_le b hS i
  have h2 := cutG_le b S i
  rw [chunksP_succ, List.length_append, encI_len]
  omega
def tailP (b t : List Int) : List Int := encI (t ++ four (CrcMath.sum (nats (b ++ t)))) ++ [255]
def rawP (b : List Int) (S C : Nat) (t : List Int) : List Int := chunksP b S C ++ tailP b t
theorem wmul {i S : Nat} (h : i * S ≤ 100000) : wrap64 ((i : Int) * (S : Int)) = ((i * S : Nat) : Int) := by
 rw [← Int.natCast_mul]
 exact w64_id (by omega) (by omega)
theorem sub_byte {b c : List Int} (hb : ∀ x ∈ b, 0 ≤ x ∧ x < 256) (h : ∀ x ∈ c, x ∈ b) : ∀ x ∈ c, 0 ≤ x ∧ x < 256 := fun x hx => hb x (h x hx)
theorem cutG_byte {b : List Int} (hb : ∀ x ∈ b, 0 ≤ x ∧ x < 256) (S i : Nat) : ∀ x ∈ cutG b S i, 0 ≤ x ∧ x < 256 := sub_byte hb fun _ hx => List.mem_of_mem_take (List.mem_of_mem_drop hx)
theorem app_byte {a b : List Int} (ha : ∀ x ∈ a, 0 ≤ x ∧ x < 256) (hb : ∀ x ∈ b, 0 ≤ x ∧ x < 256) : ∀ x ∈ a ++ b, 0 ≤ x ∧ x < 256 := fun x hx => by
 rcases List.mem_append.1 hx with h | h
 ·exact ha x h
 ·exact hb x h
theorem page_l0 {b t : List Int} {S C : Nat} {q0 q1 q2 q5 q6 q7 : Int} (hb : ∀ x ∈ b, 0 ≤ x ∧ x < 256) (ht : ∀ x ∈ t, 0 ≤ x ∧ x < 256) (htl : t.length = 24) (hS0 : 4 ≤ S) (hS : S ≤ 512) (hC : C ≤ 16) (hl : b.length = C * S) (d : Nat) : ∀ i : Nat, i + d = C →
  Ev (fun k => page_Encode.l0 k b t (chunksP b S i) (C : Int) (i : Int) q0 q1 q2 (C : Int) (S : Int) q5 q6 q7) (rawP b S C t, 0) := by
 have hbl : b.length ≤ 8192 := by
  rw [hl]
  exact Nat.mul_le_mul hC hS
 induction d with
 | zero =>
  intro i hi
  have hlen := chunksP_le b hS i
  obtain rfl : i = C := by omega
  refine Ev.step (fun k => page_Encode.l0.eq_2 ..) ?_
  refine Ev.neg (by omega) ?_
  have hs := sum_ev (ls := [b, t]) (fun l hl => by
   rcases List.mem_cons.1 hl with rfl | hl
   ·exact hb
   ·rcases List.mem_cons.1 hl with rfl | hl
    ·exact ht
    ·cases hl) (by show 2 < 1000000000; decide) (fun l hl => by
   rcases List.mem_cons.1 hl with rfl | hl
   ·omega
   ·rcases List.mem_cons.1 hl with rfl | hl
    ·omega
    ·cases hl)
  have ef : [b, t].flatten = b ++ t := by simp
  rw [ef] at hs
  refine Ev.bind hs (Ev.bind (bytes_ev _) ?_)
  unfold rawP tailP
  generalize hn : four (CrcMath.sum (nats (b ++ t))) = f
  have hfl : f.length = 4 := by rw [← hn]; rfl
  have hfb : ∀ x ∈ f, 0 ≤ x ∧ x < 256 := by rw [← hn]; exact four_byte _
  refine Ev.pos (by omega) ?_
  refine Ev.bind (encode_ev (l := t ++ f) (app_byte ht hfb) (by rw [List.length_append]; omega) (by rw [List.length_append]; omega)) ?_
  have he : (encI (t ++ f)).length = 30 := by rw [encI_len, List.length_append]; omega
  refine Ev.pos (by show (chunksP b S i).length + (encI (t ++ f)).length < _; omega) (Ev.bindv rfl (Ev.pos ?_ (Ev.ret ?_)))
  ·show (chunksP b S i ++ encI (t ++ f)).length < _
   rw [List.length_append]
   omega
  ·show (chunksP b S i ++ encI (t ++ f) ++ [255], (0 : Int)) = _
   rw [List.append_assoc]
 | succ d ih =>
  intro i hi
  have h2 : (i + 1) * S ≤ C * S := Nat.mul_le_mul_right S (by omega)
  have h1 : i * S ≤ (i + 1) * S := Nat.mul_le_mul_right S (by omega)
  have hlen := chunksP_le b hS i
  have hcl := cutG_len (b := b) (S := S) (i := i) (by omega)
  have b1 : i * S ≤ 100000 := by omega
  have b2 : (i + 1) * S ≤ 100000 := by omega
  have b3 : i < 9000000000000000000 := by omega
  have e1 : wrap64 ((i : Int) * (S : Int)) = ((i * S : Nat) : Int) := wmul b1
  have e2 : wrap64 (wrap64 ((i : Int) + 1) * (S : Int)) = (((i + 1) * S : Nat) : Int) := by
   rw [w64_succ b3]
   exact wmul b2
  have e3 : wrap64 ((i : Int) + 1) = ((i + 1 : Nat) : Int) := w64_succ b3
  refine Ev.step (fun k => page_Encode.l0.eq_2 ..) ?_
  refine Ev.pos (by omega) ?_
  refine Ev.step (fun k => page_Encode.j3.eq_2 ..) ?_
  rw [e1, e2, e3, Int.toNat_natCast, Int.toNat_natCast]
  clear e1 e2 e3
  refine Ev.pos (by omega) (Ev.pos (by omega) (Ev.pos (by omega) ?_))
  refine Ev.bind (encode_ev (l := cutG b S i) (cutG_byte hb S i) (by omega) (by omega)) ?_
  have he := encI_len (cutG b S i)
  refine Ev.pos (by show (chunksP b S i).length + (encI (cutG b S i)).length < _; omega) ?_
  have e := ih (i + 1) (by omega)
  rw [chunksP_succ] at e
  exact e
end Go.Proofs.Ytmehbabchakkpaa.PurePageDecodes
namespace Go.Proofs.Ytmehbabchakkpaa.PurePageDecodes
open Go.RowKit Go.Proofs.Ytmehbabchakkpaa.QPageDecodes Go.Proofs.YtmehbabchakkpaaW.PrintWords Go.Proofs.YtmehbabchakkpaaW.PrintLast Go.Proofs.YtmehbabchakkpaaW.PrintMore Go.Proofs.Ytmehbabchakkpaa.EvKit Go.Proofs.Ytmehbabchakkpaa.PackMath Go.Proofs.Ytmehbabchakkpaa.TagMath Go.Proofs.Ytmehbabchakkpaa.CrcMath Go.Proofs.Ytmehbabchakkpaa.NatKit Go.Proofs.Ytmehbabchakkpaa.BitsMath Go.Proofs.Ytmehbabchakkpaa.ChunkMath
theorem tag_fits {a b c d : Int} (h : mayTag a b c d = true) : ∃ x, pkPut sizes [0, a, b, c, d, 0] = (x, 0) ∧ x.length = 24 ∧ ∀ y ∈ x, 0 ≤ y ∧ y < 256 := by
 simp only [mayTag, between, Bool.and_eq_true, decide_eq_true_eq] at h
 have hok : okSizes sizes = true := by decide
 have p2 : (256 : Int) ^ (2 : Int).toNat = 65536 := by decide
 have p1 : (256 : Int) ^ (1 : Int).toNat = 256 := by decide
 have p4 : (256 : Int) ^ (4 : Int).toNat = 4294967296 := by decide
 have p8 : (256 : Int) ^ (8 : Int).toNat = 18446744073709551616 := by decide
 have p5 : (256 : Int) ^ (5 : Int).toNat = 1099511627776 := by decide
 have f0 : pkFits 0 2 = true := by decide
 have f1 : pkFits a 1 = true := fits_iff.2 ⟨by decide, by decide, by omega, by omega, by rw [p1]; omega⟩
 have f2 : pkFits b 4 = true := fits_iff.2 ⟨by decide, by decide, by omega, by omega, by rw [p4]; omega⟩
 have f3 : pkFits c 8 = true := fits_iff.2 ⟨by decide, by decide, by omega, by omega, by rw [p8]; omega⟩
 have f4 : pkFits d 4 = true := fits_iff.2 ⟨by decide, by decide, by omega, by omega, by rw [p4]; omega⟩
 have f5 : pkFits 0 5 = true := by decide
 have e : ∃ x, putGo sizes [0, a, b, c, d, 0] = some x := by
  simp only [sizes, putGo, f0, f1, f2, f3, f4, f5, if_true]
  exact ⟨_, rfl⟩
 obtain ⟨x, hx⟩ := e
 have e2 : pkPut sizes [0, a, b, c, d, 0] = (x, 0) := by
  unfold pkPut
  rw [if_pos hok, hx]
  simp [endPut]
 obtain ⟨_, _, b3, b4, _⟩ := back_put e2
 have hs : sizes.sum = 24 := by decide
 exact ⟨x, e2, by omega, b3⟩
def encP (b : List Int) (a0 a1 a2 a3 a4 a5 a6 t0 t1 t2 t3 : Int) : List Int × Int :=
 if okG a0 a1 a2 a3 a4 a5 a6 ∧ mayTag t0 t1 t2 t3 = true ∧ (b.length : Int) = a3 * a4 then (rawP b a4.toNat a3.toNat (pkPut sizes [0, t0, t1, t2, t3, 0]).1, 0) else ([], 2)
theorem pe_ev {b : List Int} (hb : ∀ x ∈ b, 0 ≤ x ∧ x < 256) (a0 a1 a2 a3 a4 a5 a6 t0 t1 t2 t3 : Int) : Ev (fun k => page_Encode.f k a0 a1 a2 a3 a4 a5 a6 b t0 t1 t2 t3) (encP b a0 a1 a2 a3 a4 a5 a6 t0 t1 t2 t3) := by
 refine Ev.congr (fun k => by rw [page_Encode.f]) ?_
 refine Ev.bindv of_eq (Ev.bind (tput_ev t0 t1 t2 t3) ?_)
 dsimp only
 have hbad : ∀ (x : List Int) (q0 q1 q2 q3 q4 q5 q6 q7 : Int), ¬ (okG a0 a1 a2 a3 a4 a5 a6 ∧ mayTag t0 t1 t2 t3 = true ∧ (b.length : Int) = a3 * a4) → Ev (fun k => page_Encode.j0 k b x true q0 q1 q2 q3 q4 q5 q6 q7) (encP b a0 a1 a2 a3 a4 a5 a6 t0 t1 t2 t3) := fun x q0 q1 q2 q3 q4 q5 q6 q7 h => by
  refine Ev.step (fun k => page_Encode.j0.eq_2 ..) (Ev.pos rfl (Ev.ret ?_))
  unfold encP
  rw [if_neg h]
 by_cases hg : okG a0 a1 a2 a3 a4 a5 a6
 ·refine Ev.pos (decide_eq_true hg) ?_
  by_cases hm : mayTag t0 t1 t2 t3 = true
  ·obtain ⟨x, hx, hxl, hxb⟩ := tag_fits hm
   have hp : putTag t0 t1 t2 t3 = (x, 0) := by
    unfold putTag
    rw [if_pos hm, hx]
   rw [hp]
   refine Ev.pos rfl (Ev.bindv (data_eq hg) ?_)
   by_cases hl : (b.length : Int) = a3 * a4
   ·have e : ((b.length : Int) != a3 * a4) = false := bne_eq_false_iff_eq.2 hl
    rw [e]
    refine Ev.step (fun k => page_Encode.j0.eq_2 ..) (Ev.neg (by decide) ?_)
    refine Ev.step (fun k => page_Encode.j1.eq_2 ..) ?_
    unfold encP
    rw [if_pos ⟨hg, hm, hl⟩, hx]
    obtain ⟨h3, h4⟩ := okG_bounds hg
    obtain ⟨C, rfl⟩ := Int.eq_ofNat_of_zero_le (a := a3) (by omega)
    obtain ⟨S, rfl⟩ := Int.eq_ofNat_of_zero_le (a := a4) (by omega)
    rw [Int.toNat_natCast, Int.toNat_natCast]
    have hbl : b.length = C * S := by
     rw [← Int.natCast_mul] at hl
     exact_mod_cast hl
    exact page_l0 hb hxb hxl (by omega) (by omega) (by omega) hbl C 0 (by omega)
   ·have e : ((b.length : Int) != a3 * a4) = true := bne_iff_ne.2 hl
    rw [e]
    exact hbad _ _ _ _ _ _ _ _ _ (fun z => hl z.2.2)
  ·have hp : putTag t0 t1 t2 t3 = ([], 2) := by
    unfold putTag
    rw [if_neg hm]
   rw [hp]
   exact Ev.neg (by decide) (hbad _ _ _ _ _ _ _ _ _ (fun z => hm z.2.1))
 ·rw [decide_eq_false hg]
  exact Ev.neg (by decide) (hbad _ _ _ _ _ _ _ _ _ (fun z => hg z.1))
theorem page_awake_ev : Ev (fun k => incunablelaw08_awake.f k) true := by
 refine Ev.congr (fun k => by rw [incunablelaw08_awake.f]) ?_
 have hg : okG 1 2 4 1 4 1 1 := by decide
 have e : encP [1, 2, 3, 4] 1 2 4 1 4 1 1 1 0 0 0 = (rawP [1, 2, 3, 4] 4 1 (pkPut sizes [0, 1, 0, 0, 0, 0]).1, 0) := by
  unfold encP
  rw [if_pos ⟨hg, by decide, by decide⟩]
  rfl
 have hl : (rawP [1, 2, 3, 4] 4 1 (pkPut sizes [0, 1, 0, 0, 0, 0]).1).length = 37 := by decide +kernel
 have hr : rd (rawP [1, 2, 3, 4] 4 1 (pkPut sizes [0, 1, 0, 0, 0, 0]).1) 36 = 255 := by decide +kernel
 refine Ev.bind (pe_ev (b := [1, 2, 3, 4]) (by decide) 1 2 4 1 4 1 1 1 0 0 0) ?_
 rw [e]
 dsimp only
 rw [hl, hr]
 exact Ev.pos rfl (Ev.pos rfl (Ev.pos (by decide) (Ev.ret rfl)))
end Go.Proofs.Ytmehbabchakkpaa.PurePageDecodes
namespace Go.Proofs.Ytmehbabchakkpaa.PurePageDecodes
open Go.RowKit Go.Proofs.Ytmehbabchakkpaa.QPageDecodes Go.Proofs.YtmehbabchakkpaaW.PrintWords Go.Proofs.YtmehbabchakkpaaW.PrintLast Go.Proofs.YtmehbabchakkpaaW.PrintMore Go.Proofs.Ytmehbabchakkpaa.EvKit Go.Proofs.Ytmehbabchakkpaa.BitsKit Go.Proofs.Ytmehbabchakkpaa.LenMath
theorem power_ev (n : Nat) : 0 < n → n < 4194304 → Ev (fun k => incunableref05_Power.f k (n : Int)) (isPow n) := by
 induction n using Nat.strongRecOn with
 | _ n ih =>
  intro h0 hn
  refine Ev.congr (fun k => by rw [incunableref05_Power.f]) ?_
  refine Ev.step (fun k => incunableref05_Power.l0.eq_2 ..) ?_
  refine Ev.ite (fun h1 => ?_) (fun h1 => Ev.ret ?_)
  ·have hm : Int.tmod (n : Int) 2 = ((n % 2 : Nat) : Int) := rfl
   have hd : Int.tdiv (n : Int) 2 = ((n / 2 : Nat) : Int) := rfl
   rw [hm, hd, w64_id (by omega) (by omega)]
   refine Ev.ite (fun h2 => ?_) (fun h2 => Ev.ret ?_)
   ·refine Ev.eq ?_ (isPow_half (by omega) (by omega))
    exact Ev.congr (fun k => by rw [incunableref05_Power.f]) (ih (n / 2) (by omega) (by omega) (by omega))
   ·rw [isPow_odd (by omega) (by omega), beq_eq_false_iff_ne]
    omega
  ·have : n = 1 := by omega
   subst this
   decide
def rowOk (out : List Int) : Prop := ∀ j : Nat, j < out.length → ∃ q : Nat, rd out (j : Int) = (q : Int) ∧ IsPlace j q
theorem places_l0 {n : Nat} (hn : n ≤ 5000) (d : Nat) : ∀ (p : Nat) (out : List Int), p + d = n + 30 → 3 ≤ p → out.length + len (p - 1) = p - 1 → out.length ≤ n → rowOk out →
  ∃ r : List Int, Ev (fun k => incunableref05_Places.l0 k (n : Int) out (p : Int)) r ∧ rowOk r ∧ r.length = n := by
 induction d with
 | zero =>
  intro p out hd h3 ho hle _
  have := len_le22 (p := p - 1) (by omega)
  omega
 | succ d ih =>
  intro p out hd h3 ho hle hok
  have hs := len_succ (p := p - 1) (by omega)
  rw [show p - 1 + 1 = p by omega] at hs
  have hl := len_le22 (p := p - 1) (by omega)
  by_cases he : out.length < n
  ·by_cases hp : isPow p = true
   ·rw [if_pos hp] at hs
    obtain ⟨r, hr, h⟩ := ih (p + 1) out (by omega) (by omega) (by rw [show p + 1 - 1 = p by omega]; omega) hle hok
    refine ⟨r, ?_, h⟩
    refine Ev.step (fun k => incunableref05_Places.l0.eq_2 ..) ?_
    refine Ev.pos (by omega) (Ev.bind (power_ev p (by omega) (by omega)) ?_)
    rw [w64_succ (by omega)]
    exact Ev.pos hp hr
   ·rw [if_neg hp] at hs
    obtain ⟨r, hr, h⟩ := ih (p + 1) (out ++ [(p : Int)]) (by omega) (by omega) (by rw [show p + 1 - 1 = p by omega, List.length_append, List.length_singleton]; omega) (by rw [List.length_append, List.length_singleton]; omega) (by
     intro j hj
     rw [List.length_append, List.length_singleton] at hj
     by_cases hjl : j < out.length
     ·obtain ⟨q, h1, h2⟩ := hok j hjl
      refine ⟨q, ?_, h2⟩
      rw [← h1, rd_nat hjl, rd_nat (by rw [List.length_append, List.length_singleton]; omega), List.getElem_append_left hjl]
     ·have : j = out.length := by omega
      subst this
      refine ⟨p, ?_, by simpa using hp, by omega, h3⟩
      rw [rd_nat (by rw [List.length_append, List.length_singleton]; omega), List.getElem_append_right (Nat.le_refl _)]
      simp)
    refine ⟨r, ?_, h⟩
    refine Ev.step (fun k => incunableref05_Places.l0.eq_2 ..) ?_
    refine Ev.pos (by omega) (Ev.bind (power_ev p (by omega) (by omega)) ?_)
    rw [w64_succ (by omega)]
    exact Ev.neg hp (Ev.pos (by omega) hr)
  ·refine ⟨out, ?_, hok, by omega⟩
   refine Ev.step (fun k => incunableref05_Places.l0.eq_2 ..) ?_
   exact Ev.neg (by omega) (Ev.ret rfl)
theorem places_ev {n : Nat} (hn : n ≤ 5000) : ∃ r : List Int, Ev (fun k => incunableref05_Places.f k (n : Int)) r ∧ rowOk r ∧ r.length = n := by
 obtain ⟨r, hr, h⟩ := places_l0 hn (n + 27) 3 [] (by omega) (by omega) (by decide) (by simp) (fun j hj => absurd hj (by simp))
 refine ⟨r, ?_, h⟩
 exact Ev.congr (fun k => by rw [incunableref05_Places.f]; rfl) hr
end Go.Proofs.Ytmehbabchakkpaa.PurePageDecodes
namespace Go.Proofs.Ytmehbabchakkpaa.PurePageDecodes
open Go.RowKit Go.Proofs.Ytmehbabchakkpaa.QPageDecodes Go.Proofs.YtmehbabchakkpaaW.PrintWords Go.Proofs.YtmehbabchakkpaaW.PrintLast Go.Proofs.YtmehbabchakkpaaW.PrintMore Go.Proofs.Ytmehbabchakkpaa.EvKit Go.Proofs.Ytmehbabchakkpaa.BitsKit Go.Proofs.Ytmehbabchakkpaa.CrcMath Go.Proofs.Ytmehbabchakkpaa.NatKit
theorem bit_l0 {i : Int} (h0 : 0 ≤ i) (d : Nat) : ∀ (n j : Nat), (j : Int) + d = i % 8 → n < 256 → Ev (fun k => incunableref01_Bit.l0 k i (n : Int) (j : Int)) ((n / 2 ^ d % 2 : Nat) : Int) := by
 induction d with
 | zero =>
  intro n j hj hn
  refine Ev.step (fun k => incunableref01_Bit.l0.eq_2 ..) ?_
  rw [Int.tmod_eq_emod_of_nonneg h0]
  refine Ev.neg (by omega) (Ev.ret ?_)
  rw [Int.tmod_eq_emod_of_nonneg (Int.natCast_nonneg _), Nat.pow_zero, Nat.div_one]
  omega
 | succ d ih =>
  intro n j hj hn
  refine Ev.step (fun k => incunableref01_Bit.l0.eq_2 ..) ?_
  rw [Int.tmod_eq_emod_of_nonneg h0]
  refine Ev.pos (by omega) ?_
  rw [Int.tdiv_eq_ediv_of_nonneg (Int.natCast_nonneg _), w64_id (by omega) (by omega), w64_succ (by omega), show (n : Int) / 2 = ((n / 2 : Nat) : Int) from by omega]
  refine Ev.eq (ih (n / 2) (j + 1) (by omega) (by omega)) ?_
  rw [Nat.div_div_eq_div_mul, Nat.pow_succ, Nat.mul_comm (2 ^ d)]
def bitVal (l : List Int) (i : Int) : Int := if 0 ≤ i ∧ i / 8 < (l.length : Int) then ((bitAt (nats l) i.toNat : Nat) : Int) else -1
theorem bit_ev {l : List Int} (hl : ∀ x ∈ l, 0 ≤ x ∧ x < 256) {i : Int} (hi : i ≤ 9223372036854775807) : Ev (fun k => incunableref01_Bit.f k l i) (bitVal l i) := by
 refine Ev.congr (fun k => by rw [incunableref01_Bit.f]) ?_
 unfold bitVal
 refine Ev.ite (fun h => ?_) (fun h => ?_)
 ·refine Ev.step (fun k => incunableref01_Bit.j0.eq_2 ..) ?_
  refine Ev.pos rfl (Ev.ret ?_)
  rw [if_neg (by omega)]
 ·have h0 : 0 ≤ i := by omega
  have hw : wrap64 (Int.tdiv i 8) = i / 8 := by rw [Int.tdiv_eq_ediv_of_nonneg h0]; exact w64_id (by omega) (by omega)
  rw [hw]
  refine Ev.step (fun k => incunableref01_Bit.j0.eq_2 ..) ?_
  rw [hw]
  clear hw
  by_cases hin : i / 8 ≥ (l.length : Int)
  ·refine Ev.pos (decide_eq_true hin) (Ev.ret ?_)
   rw [if_neg (by omega)]
  ·refine Ev.neg (by rw [decide_eq_false hin]; decide) ?_
   refine Ev.pos (by omega) ?_
   refine Ev.pos (by omega) ?_
   rw [if_pos (by omega)]
   have hr := rd_nats (l := l) (fun x hx => (hl x hx).1) (i / 8).toNat
   have hb := hl _ (rd_mem (l := l) (i := i / 8) (by omega) (by omega))
   rw [show (((i / 8).toNat : Nat) : Int) = i / 8 from by omega] at hr
   rw [hr] at hb ⊢
   have hb2 : (nats l).getD (i / 8).toNat 0 < 256 := by omega
   rw [w64_id (by omega) (by omega)]
   refine Ev.eq (bit_l0 h0 (i.toNat % 8) _ 0 (by omega) hb2) ?_
   unfold bitAt
   rw [show (i / 8).toNat = i.toNat / 8 from by omega]
theorem list_l0 {l : List Int} (hl : ∀ x ∈ l, 0 ≤ x ∧ x < 256) (hn : l.length < 1000000) (d : Nat) : ∀ (i : Nat) (out : List Int), i + d = 8 * l.length → out = ints ((List.range i).map (bitAt (nats l))) →
  Ev (fun k => incunableref01_List.l0 k l out (i : Int)) (ints (bitList (nats l))) := by
 have hw : wrap64 (8 * (l.length : Int)) = 8 * (l.length : Int) := w64_id (by omega) (by omega)
 induction d with
 | zero =>
  intro i out hi ho
  refine Ev.step (fun k => incunableref01_List.l0.eq_2 ..) ?_
  rw [hw]
  refine Ev.neg (by clear hw; omega) (Ev.ret ?_)
  rw [ho]
  unfold bitList
  rw [nats_length, show i = 8 * l.length by clear hw; omega]
 | succ d ih =>
  intro i out hi ho
  refine Ev.step (fun k => incunableref01_List.l0.eq_2 ..) ?_
  rw [hw]
  refine Ev.pos (by clear hw; omega) ?_
  refine Ev.bind (bit_ev hl (by clear hw; omega)) ?_
  have hlen : out.length = i := by rw [ho]; simp [ints]
  have hlim : out.length < 17592186044416 := by clear hw; omega
  refine Ev.pos hlim ?_
  rw [w64_succ (by clear hw; omega)]
  refine ih (i + 1) _ (by clear hw; omega) ?_
  rw [ho, List.range_succ, List.map_append]
  unfold ints
  rw [List.map_append]
  congr 1
  unfold bitVal
  rw [if_pos (by clear hw; omega), Int.toNat_natCast]
  rfl
theorem list_ev {l : List Int} (hl : ∀ x ∈ l, 0 ≤ x ∧ x < 256) (hn : l.length < 1000000) : Ev (fun k => incunableref01_List.f k l) (ints (bitList (nats l))) := by
 refine Ev.congr (fun k => by rw [incunableref01_List.f]) ?_
 exact list_l0 hl hn (8 * l.length) 0 [] (by omega) rfl
end Go.Proofs.Ytmehbabchakkpaa.PurePageDecodes
namespace Go.Proofs.Ytmehbabchakkpaa.PurePageDecodes
open Go.RowKit Go.Proofs.Ytmehbabchakkpaa.QPageDecodes Go.Proofs.YtmehbabchakkpaaW.PrintWords Go.Proofs.YtmehbabchakkpaaW.PrintLast Go.Proofs.YtmehbabchakkpaaW.PrintMore Go.Proofs.Ytmehbabchakkpaa.EvKit Go.Proofs.Ytmehbabchakkpaa.BitsKit Go.Proofs.Ytmehbabchakkpaa.CrcMath Go.Proofs.Ytmehbabchakkpaa.NatKit Go.Proofs.Ytmehbabchakkpaa.BitsMath Go.Proofs.Ytmehbabchakkpaa.LenMath Go.Proofs.Ytmehbabchakkpaa.HamMath
theorem rxor_l0 (d : Nat) : ∀ (a b n s i : Nat), i + d = 13 → s * 2 ^ d = 8192 → n < s → a < 8192 → b < 8192 →
  Ev (fun k => incunableref05_xor.l0 k (a : Int) (b : Int) (n : Int) (s : Int) (i : Int)) ((n + s * ((a ^^^ b) % 2 ^ d) : Nat) : Int) := by
 induction d with
 | zero =>
  intro a b n s i hi hs hn ha hb
  refine Ev.step (fun k => incunableref05_xor.l0.eq_2 ..) ?_
  refine Ev.neg (by omega) (Ev.ret ?_)
  rw [Nat.pow_zero, Nat.mod_one, Nat.mul_zero, Nat.add_zero]
 | succ d ih =>
  intro a b n s i hi hs hn ha hb
  have hs2 : s * 2 * 2 ^ d = 8192 := by rw [Nat.mul_assoc, ← Nat.pow_succ']; exact hs
  have hsl : s * 2 ≤ 8192 := by
   rw [← hs2]
   exact Nat.le_mul_of_pos_right _ (Nat.two_pow_pos d)
  have e : (a ^^^ b) % 2 ^ (d + 1) = (a % 2 + b % 2) % 2 + 2 * ((a / 2 ^^^ b / 2) % 2 ^ d) := by
   rw [Nat.pow_succ', Nat.mod_mul, xor_mod2, xor_div2]
  rw [e]
  clear e hs
  have ma : Int.tmod (a : Int) 2 = ((a % 2 : Nat) : Int) := rfl
  have mb : Int.tmod (b : Int) 2 = ((b % 2 : Nat) : Int) := rfl
  have da : wrap64 (Int.tdiv (a : Int) 2) = ((a / 2 : Nat) : Int) := by
   rw [show Int.tdiv (a : Int) 2 = ((a / 2 : Nat) : Int) from rfl]
   exact w64_id (by omega) (by omega)
  have db : wrap64 (Int.tdiv (b : Int) 2) = ((b / 2 : Nat) : Int) := by
   rw [show Int.tdiv (b : Int) 2 = ((b / 2 : Nat) : Int) from rfl]
   exact w64_id (by omega) (by omega)
  have d2 : wrap64 ((s : Int) * 2) = ((s * 2 : Nat) : Int) := by
   rw [w64_id (by omega) (by omega)]
   omega
  have dn : wrap64 ((n : Int) + (s : Int)) = ((n + s : Nat) : Int) := by
   rw [w64_id (by omega) (by omega)]
   omega
  refine Ev.step (fun k => incunableref05_xor.l0.eq_2 ..) ?_
  refine Ev.pos (by omega) ?_
  rw [ma, mb, da, db, d2, dn, w64_succ (by omega)]
  clear ma mb da db d2 dn
  have ih0 := ih (a / 2) (b / 2) n (s * 2) (i + 1) (by omega) hs2 (by omega) (by omega) (by omega)
  have ih1 := ih (a / 2) (b / 2) (n + s) (s * 2) (i + 1) (by omega) hs2 (by omega) (by omega) (by omega)
  generalize (a / 2 ^^^ b / 2) % 2 ^ d = x at ih0 ih1 ⊢
  refine Ev.ite (fun h => Ev.eq ih0 ?_) (fun h => Ev.eq ih1 ?_)
  ·rw [show (a % 2 + b % 2) % 2 = 0 by omega, Nat.zero_add, Nat.mul_assoc]
  ·rw [show (a % 2 + b % 2) % 2 = 1 by omega, Nat.mul_add, Nat.mul_one, Nat.mul_assoc, Nat.add_assoc]
theorem rxor_ev {a b : Nat} (ha : a < 8192) (hb : b < 8192) : Ev (fun k => incunableref05_xor.f k (a : Int) (b : Int)) ((a ^^^ b : Nat) : Int) := by
 refine Ev.congr (fun k => by rw [incunableref05_xor.f]) ?_
 refine Ev.eq (rxor_l0 13 a b 0 1 0 (by omega) (by decide) (by decide) ha hb) ?_
 rw [Nat.mod_eq_of_lt (Nat.xor_lt_two_pow (n := 13) ha hb), Nat.zero_add, Nat.one_mul]
theorem sum_bits_zero : ∀ n : Nat, (bitsOf n 0).sum = 0
 | 0 => rfl
 | n + 1 => by
  unfold bitsOf
  rw [List.sum_cons]
  exact (congrArg (0 + ·) (sum_bits_zero n))
theorem sum_bits_le : ∀ n x : Nat, (bitsOf n x).sum ≤ n
 | 0, _ => Nat.le_refl _
 | n + 1, x => by
  have := sum_bits_le n (x / 2)
  unfold bitsOf
  rw [List.sum_cons]
  omega
theorem rones_l0 (n : Nat) : ∀ (x c : Nat), n ≤ 16 → x < 2 ^ n → c + n ≤ 1000000 → Ev (fun k => incunableref05_ones.l0 k (x : Int) (c : Int)) ((c + (bitsOf n x).sum : Nat) : Int) := by
 induction n with
 | zero =>
  intro x c _ hx _
  have : x = 0 := by simpa using hx
  subst this
  refine Ev.step (fun k => incunableref05_ones.l0.eq_2 ..) ?_
  exact Ev.neg (by decide) (Ev.ret rfl)
 | succ n ih =>
  intro x c hn hx hc
  have hp : 2 ^ (n + 1) ≤ 2 ^ 16 := Nat.pow_le_pow_right (by decide) hn
  have hx2 : x < 65536 := Nat.lt_of_lt_of_le hx hp
  have hx3 : x / 2 < 2 ^ n := by rw [Nat.pow_succ] at hx; omega
  clear hx hp
  refine Ev.step (fun k => incunableref05_ones.l0.eq_2 ..) ?_
  by_cases h0 : x = 0
  ·subst h0
   refine Ev.neg (by decide) (Ev.ret ?_)
   rw [sum_bits_zero]
   rfl
  ·refine Ev.pos (by omega) ?_
   have da : wrap64 (Int.tdiv (x : Int) 2) = ((x / 2 : Nat) : Int) := by
    rw [show Int.tdiv (x : Int) 2 = ((x / 2 : Nat) : Int) from rfl]
    exact w64_id (by omega) (by omega)
   have db : wrap64 ((c : Int) + Int.tmod (x : Int) 2) = ((c + x % 2 : Nat) : Int) := by
    rw [show Int.tmod (x : Int) 2 = ((x % 2 : Nat) : Int) from rfl, w64_id (by omega) (by omega)]
    omega
   rw [da, db]
   clear da db
   refine Ev.eq (ih (x / 2) (c + x % 2) (by omega) hx3 (by omega)) ?_
   rw [show bitsOf (n + 1) x = x % 2 :: bitsOf n (x / 2) from rfl, List.sum_cons, Nat.add_assoc]
theorem rones_ev {x : Nat} (hx : x < 65536) : Ev (fun k => incunableref05_ones.f k (x : Int)) (((bitsOf 16 x).sum : Nat) : Int) := by
 refine Ev.congr (fun k => by rw [incunableref05_ones.f]) ?_
 refine Ev.eq (rones_l0 16 x 0 (by omega) hx (by omega)) ?_
 rw [Nat.zero_add]
def cn (l : List Nat) : Nat → Nat
 | 0 => 0
 | m + 1 => if bitAt l m = 1 then cn l m + 1 else cn l m
theorem cn_succ (l : List Nat) (m : Nat) : cn l (m + 1) = if bitAt l m = 1 then cn l m + 1 else cn l m := rfl
theorem cn_le (l : List Nat) : ∀ m, cn l m ≤ m
 | 0 => Nat.le_refl _
 | m + 1 => by
  have := cn_le l m
  rw [cn_succ]
  split <;> omega
theorem go_cn (l : List Nat) : ∀ m, go l m = decide (cn l m % 2 = 1)
 | 0 => rfl
 | m + 1 => by
  have ih := go_cn l m
  rw [cn_succ, go_succ, ih]
  split
  ·by_cases h : cn l m % 2 = 1
   ·rw [decide_eq_true h, decide_eq_false (by omega)]
    rfl
   ·rw [decide_eq_false h, decide_eq_true (by omega)]
    rfl
  ·rfl
theorem row_place {r : List Int} {n j : Nat} (hn : n ≤ 5000) (hok : rowOk r) (hl : r.length = n) (hj : j < n) : rd r (j : Int) = ((place j : Nat) : Int) := by
 obtain ⟨q, hq, hp⟩ := hok j (by omega)
 rw [hq, place_same hp (isPlace_place (by omega))]
theorem rgather_l0 {l : List Nat} {r : List Int} (hn : l.length ≤ 600) (hok : rowOk r) (hl : r.length = 8 * l.length) (d : Nat) : ∀ i : Nat, i + d = 8 * l.length →
  Ev (fun k => incunableref05_gather.l0 k (ints (bitList l)) r ((gx l i : Nat) : Int) ((cn l i : Nat) : Int) (i : Int)) (((gx l (8 * l.length) : Nat) : Int), ((cn l (8 * l.length) : Nat) : Int)) := by
 induction d with
 | zero =>
  intro i hi
  refine Ev.step (fun k => incunableref05_gather.l0.eq_2 ..) ?_
  rw [ints_length, bitList_length]
  refine Ev.neg (by omega) (Ev.ret ?_)
  rw [show i = 8 * l.length by omega]
 | succ d ih =>
  intro i hi
  have next := ih (i + 1) (by omega)
  have hg := gx_lt l i (by omega)
  have hc := cn_le l i
  have hp := place_lt (n := i) (by omega)
  have hrd := row_place (j := i) (by omega) hok hl (by omega)
  have hbit : rd (ints (bitList l)) (i : Int) = ((bitAt l i : Nat) : Int) := by
   rw [rd_ints, List.getD_eq_getElem?_getD, bitList_get (by omega), Option.getD_some]
  rw [gx_succ, cn_succ] at next
  refine Ev.step (fun k => incunableref05_gather.l0.eq_2 ..) ?_
  rw [ints_length, bitList_length, hl, hbit, hrd, w64_succ (by omega), w64_succ (by omega)]
  clear hbit hrd
  refine Ev.pos (by omega) (Ev.pos (by omega) ?_)
  refine Ev.ite (fun h => ?_) (fun h => ?_)
  ·rw [if_pos (by omega), if_pos (by omega)] at next
   refine Ev.pos (by omega) (Ev.bind (rxor_ev hg hp) ?_)
   exact next
  ·rw [if_neg (by omega), if_neg (by omega)] at next
   exact next
theorem rgather_ev {l : List Int} (hb : ∀ x ∈ l, 0 ≤ x ∧ x < 256) (hn : l.length ≤ 600) : Ev (fun k => incunableref05_gather.f k l) (((gx (nats l) (8 * (nats l).length) : Nat) : Int), ((cn (nats l) (8 * (nats l).length) : Nat) : Int)) := by
 have hlen := nats_length l
 refine Ev.congr (fun k => by rw [incunableref05_gather.f]) ?_
 refine Ev.bind (list_ev hb (by omega)) ?_
 rw [ints_length, bitList_length]
 obtain ⟨r, hr, hok, hl⟩ := places_ev (n := 8 * (nats l).length) (by omega)
 refine Ev.bind hr ?_
 exact rgather_l0 (by omega) hok hl (8 * (nats l).length) 0 (by omega)
theorem odd_sum {l : List Nat} {x : Nat} (m : Nat) : decide ((cn l m + (bitsOf 16 x).sum) % 2 = 1) = (go l m != par x) := by
 rw [go_cn]
 unfold par
 have e1 := Nat.mod_two_eq_zero_or_one (cn l m)
 have e2 := Nat.mod_two_eq_zero_or_one (bitsOf 16 x).sum
 rcases e1 with e1 | e1 <;> rcases e2 with e2 | e2 <;> rw [Nat.add_mod, e1, e2] <;> decide
theorem search_hit {r : List Int} {N p k0 : Nat} (hN : N ≤ 5000) (hok : rowOk r) (hl : r.length = N) (hk : k0 < N) (hp : place k0 = p) (d : Nat) : ∀ i : Nat, i + d = k0 →
  Ev (fun k => incunableref05_Judge.l0 k (p : Int) r (i : Int)) (1, (k0 : Int)) := by
 induction d with
 | zero =>
  intro i hi
  refine Ev.step (fun k => incunableref05_Judge.l0.eq_2 ..) ?_
  have hrd := row_place (j := i) hN hok hl (by omega)
  rw [hrd]
  have : i = k0 := by omega
  subst this
  exact Ev.pos (by omega) (Ev.pos (by omega) (Ev.pos (by rw [hp]) (Ev.ret rfl)))
 | succ d ih =>
  intro i hi
  refine Ev.step (fun k => incunableref05_Judge.l0.eq_2 ..) ?_
  have hrd := row_place (j := i) hN hok hl (by omega)
  rw [hrd, w64_succ (by omega)]
  refine Ev.pos (by omega) (Ev.pos (by omega) (Ev.neg (fun h => ?_) (ih (i + 1) (by omega))))
  have := place_inj (i := i) (j := k0) (by omega) (by omega) (by omega)
  omega
theorem search_miss {r : List Int} {N p : Nat} (hN : N ≤ 5000) (hok : rowOk r) (hl : r.length = N) (hp : ∀ j, j < N → place j ≠ p) (d : Nat) : ∀ i : Nat, i + d = N →
  Ev (fun k => incunableref05_Judge.l0 k (p : Int) r (i : Int)) (3, 0) := by
 induction d with
 | zero =>
  intro i hi
  refine Ev.step (fun k => incunableref05_Judge.l0.eq_2 ..) ?_
  exact Ev.neg (by omega) (Ev.ret rfl)
 | succ d ih =>
  intro i hi
  refine Ev.step (fun k => incunableref05_Judge.l0.eq_2 ..) ?_
  have hrd := row_place (j := i) hN hok hl (by omega)
  have hne := hp i (by omega)
  rw [hrd, w64_succ (by omega)]
  exact Ev.pos (by omega) (Ev.pos (by omega) (Ev.neg (by omega) (ih (i + 1) (by omega))))
theorem rjudge_j1 {l : List Int} (hn : l.length ≤ 512) {p : Nat} (hp : p < 8192) :
  Ev (fun k => incunableref05_Judge.j1 k l (p : Int) (decide (p = 0 ∨ isPow p = true))) (if p = 0 ∨ isPow p = true then (2, 0) else if p - 1 - len p < 8 * l.length then (1, ((p - 1 - len p : Nat) : Int)) else (3, 0)) := by
 refine Ev.step (fun k => incunableref05_Judge.j1.eq_2 ..) ?_
 by_cases h : p = 0 ∨ isPow p = true
 ·rw [decide_eq_true h, if_pos h]
  exact Ev.pos rfl (Ev.ret rfl)
 ·rw [decide_eq_false h, if_neg h]
  refine Ev.neg (by decide) ?_
  rw [w64_id (x := 8 * (l.length : Int)) (by omega) (by omega), show 8 * (l.length : Int) = ((8 * l.length : Nat) : Int) by omega]
  obtain ⟨r, hr, hok, hl⟩ := places_ev (n := 8 * l.length) (by omega)
  refine Ev.bind hr ?_
  have hpl := place_far (fun e => h (Or.inl e)) (by simpa using fun e => h (Or.inr e)) hp
  have h2 := hpl.2.1
  have hk : p - 1 - len p ≤ 1048576 := by omega
  have he := place_same (isPlace_place hk) hpl
  by_cases hlt : p - 1 - len p < 8 * l.length
  ·rw [if_pos hlt]
   exact search_hit (by omega) hok hl hlt he _ 0 (Nat.zero_add _)
  ·rw [if_neg hlt]
   refine search_miss (N := 8 * l.length) (by omega) hok hl (fun j hj e => ?_) _ 0 (Nat.zero_add _)
   have := place_inj (i := j) (j := p - 1 - len p) (by omega) hk (by omega)
   omega
theorem rjudge_ev {l : List Int} (hb : ∀ x ∈ l, 0 ≤ x ∧ x < 256) (hn : l.length ≤ 512) {w : Nat} (_ : w < 65536) : Ev (fun k => incunableref05_Judge.f k l (w : Int)) ((judgeN (nats l) w).1, (judgeN (nats l) w).2.1) := by
 have hlen := nats_length l
 have hg := gx_lt (nats l) (8 * (nats l).length) (by omega)
 have hc := cn_le (nats l) (8 * (nats l).length)
 have hs := sum_bits_le 16 (w % 16384)
 have ho := odd_sum (l := nats l) (x := w % 16384) (8 * (nats l).length)
 have hwr := wrongN_lt (nats l) w
 refine Ev.congr (fun k => by rw [incunableref05_Judge.f]) ?_
 refine Ev.bind (rgather_ev hb (by omega)) ?_
 rw [show Int.tmod (w : Int) 8192 = ((w % 8192 : Nat) : Int) from rfl, show Int.tmod (w : Int) 16384 = ((w % 16384 : Nat) : Int) from rfl]
 refine Ev.bind (rxor_ev hg (by omega)) ?_
 refine Ev.bind (rones_ev (by omega)) ?_
 have e1 : gx (nats l) (8 * (nats l).length) ^^^ w % 8192 = wrongN (nats l) w := by
  unfold wrongN
  rw [xor_mod13, Nat.mod_eq_of_lt hg]
 have e2 : (go (nats l) (8 * (nats l).length) != par (w % 16384)) = single (nats l) w := rfl
 rw [e2] at ho
 rw [e1]
 unfold judgeN
 rw [← ho, hlen] at *
 clear e1 e2 ho
 generalize wrongN (nats l) w = p at hwr ⊢
 generalize cn (nats l) (8 * l.length) = c at hc ⊢
 generalize (bitsOf 16 (w % 16384)).sum = s at hs ⊢
 dsimp only
 have e : Int.tmod (wrap64 ((c : Int) + (s : Int))) 2 = (((c + s) % 2 : Nat) : Int) := by
  rw [w64_id (by omega) (by omega)]
  rfl
 rw [e]
 clear e
 by_cases h : (c + s) % 2 = 1
 ·rw [decide_eq_true h]
  refine Ev.pos (by omega) ?_
  rw [h, show (((1 : Nat) : Int) == 1) = true from rfl, if_neg (by decide)]
  refine Ev.step (fun k => incunableref05_Judge.j0.eq_2 ..) ?_
  refine Ev.neg (by decide) (Ev.pos rfl ?_)
  have hj := rjudge_j1 hn hwr
  have fin : (if p = 0 ∨ isPow p = true then ((2, 0) : Int × Int) else if p - 1 - len p < 8 * l.length then (1, ((p - 1 - len p : Nat) : Int)) else (3, 0)) = ((if p = 0 ∨ isPow p = true then ((2, 0, 0) : Int × Int × Int) else if p - 1 - len p < 8 * l.length then (1, ((p - 1 - len p : Nat) : Int), 0) else (3, 0, 0)).1, (if p = 0 ∨ isPow p = true then ((2, 0, 0) : Int × Int × Int) else if p - 1 - len p < 8 * l.length then (1, ((p - 1 - len p : Nat) : Int), 0) else (3, 0, 0)).2.1) := by
   split
   ·rfl
   ·split <;> rfl
  refine Ev.eq (?_ : Ev _ _) fin
  by_cases h0 : p = 0
  ·subst h0
   exact Ev.pos rfl hj
  ·refine Ev.neg (by omega) (Ev.bind (power_ev p (by omega) (by omega)) ?_)
   have : decide (p = 0 ∨ isPow p = true) = isPow p := by
    cases hp : isPow p
    ·exact decide_eq_false (by simp [h0])
    ·exact decide_eq_true (Or.inr rfl)
   rw [this] at hj
   exact hj
 ·rw [decide_eq_false h]
  refine Ev.neg (by omega) ?_
  rw [show (c + s) % 2 = 0 by omega, show (((0 : Nat) : Int) == 1) = false from rfl, if_pos rfl]
  refine Ev.step (fun k => incunableref05_Judge.j0.eq_2 ..) ?_
  refine Ev.ite (fun h => Ev.ret ?_) (fun h => Ev.neg (by decide) (Ev.ret ?_))
  ·rw [if_pos (by have := beq_iff_eq.1 h; omega)]
  ·rw [if_neg (fun e => h (by rw [e]; rfl))]
end Go.Proofs.Ytmehbabchakkpaa.PurePageDecodes
namespace Go.Proofs.Ytmehbabchakkpaa.PurePageDecodes
open Go.RowKit Go.Proofs.Ytmehbabchakkpaa.QPageDecodes Go.Proofs.YtmehbabchakkpaaW.PrintWords Go.Proofs.YtmehbabchakkpaaW.PrintLast Go.Proofs.YtmehbabchakkpaaW.PrintMore Go.Proofs.Ytmehbabchakkpaa.EvKit Go.Proofs.Ytmehbabchakkpaa.BitsKit Go.Proofs.Ytmehbabchakkpaa.CrcMath Go.Proofs.Ytmehbabchakkpaa.NatKit Go.Proofs.Ytmehbabchakkpaa.BitsMath
theorem of_l1 {l : List Nat} {out : List Int} {q : Nat} {r : List Int} (hq : q < l.length) (hl : ∀ b ∈ l, b < 256) (hln : l.length < 1000000) (ho : out.length < 140737488355328)
  (h : Ev (fun k => incunableref01_Of.l0 k (ints (bitList l)) (out ++ [((l[q] : Nat) : Int)]) (wrap64 ((8 * q : Nat) + 8))) r) (d : Nat) :
  ∀ (k' : Int), k' + 1 = d → d ≤ 8 → Ev (fun k => incunableref01_Of.l1 k (ints (bitList l)) out ((8 * q : Nat) : Int) ((l[q] / 2 ^ d : Nat) : Int) k') r := by
 have hb := hl _ (List.getElem_mem hq)
 induction d with
 | zero =>
  intro k' hk hd
  refine Ev.step (fun k => incunableref01_Of.l1.eq_2 ..) ?_
  refine Ev.neg (by omega) ?_
  refine Ev.pos ho ?_
  rw [Nat.pow_zero, Nat.div_one, show ((l[q] : Nat) : Int) % 256 = ((l[q] : Nat) : Int) from by omega]
  exact h
 | succ d ih =>
  intro k' hk hd
  have hk' : k' = (d : Int) := by omega
  subst hk'
  have hw : wrap64 (((8 * q : Nat) : Int) + (d : Int)) = ((8 * q + d : Nat) : Int) := by
   rw [← Int.natCast_add]
   exact w64_id (by omega) (by omega)
  have hlt : 8 * q + d < 8 * l.length := by omega
  have hbit : rd (ints (bitList l)) ((8 * q + d : Nat) : Int) = ((l[q] / 2 ^ d % 2 : Nat) : Int) := by
   rw [rd_ints, List.getD_eq_getElem?_getD, bitList_get hlt, Option.getD_some]
   unfold bitAt
   rw [show (8 * q + d) / 8 = q by omega, show (8 * q + d) % 8 = d by omega, List.getD_eq_getElem?_getD, List.getElem?_eq_getElem hq, Option.getD_some]
  have hdiv : l[q] / 2 ^ (d + 1) = l[q] / 2 ^ d / 2 := by rw [Nat.pow_succ, Nat.div_div_eq_div_mul]
  have hdl : l[q] / 2 ^ d ≤ l[q] := Nat.div_le_self _ _
  have next := ih ((d : Int) - 1) (by omega) (by omega)
  refine Ev.step (fun k => incunableref01_Of.l1.eq_2 ..) ?_
  refine Ev.pos (by omega) ?_
  rw [hw, hbit, hdiv, ints_length, bitList_length]
  clear hw hbit hdiv
  refine Ev.pos (by omega) ?_
  refine Ev.pos (by omega) ?_
  generalize l[q] / 2 ^ d = x at hdl next ⊢
  rw [w64_id (x := 2 * ((x / 2 : Nat) : Int)) (by omega) (by omega), w64_id (x := 2 * ((x / 2 : Nat) : Int) + ((x % 2 : Nat) : Int)) (by omega) (by omega), w64_id (x := (d : Int) - 1) (by omega) (by omega), show 2 * ((x / 2 : Nat) : Int) + ((x % 2 : Nat) : Int) = (x : Int) from by omega]
  exact next
theorem of_l0 {l : List Nat} (hl : ∀ b ∈ l, b < 256) (hln : l.length < 1000000) (d : Nat) : ∀ (q : Nat), q + d = l.length → Ev (fun k => incunableref01_Of.l0 k (ints (bitList l)) (ints (l.take q)) ((8 * q : Nat) : Int)) (ints l) := by
 induction d with
 | zero =>
  intro q hq
  refine Ev.step (fun k => incunableref01_Of.l0.eq_2 ..) ?_
  rw [ints_length, bitList_length, w64_id (by omega) (by omega)]
  refine Ev.neg (by omega) (Ev.ret ?_)
  rw [List.take_of_length_le (by omega)]
 | succ d ih =>
  intro q hq
  refine Ev.step (fun k => incunableref01_Of.l0.eq_2 ..) ?_
  rw [ints_length, bitList_length, w64_id (by omega) (by omega)]
  refine Ev.pos (by omega) ?_
  have hql : q < l.length := by omega
  have hb := hl _ (List.getElem_mem hql)
  have e0 : ((l[q] / 2 ^ 8 : Nat) : Int) = 0 := by rw [Nat.div_eq_of_lt (by simpa using hb)]; rfl
  have := of_l1 (out := ints (l.take q)) (r := ints l) hql hl hln (by rw [ints_length, List.length_take]; omega) ?_ 8 7 (by decide) (by decide)
  ·rw [e0] at this
   exact this
  ·have e1 : wrap64 (((8 * q : Nat) : Int) + 8) = ((8 * (q + 1) : Nat) : Int) := by rw [w64_id (by omega) (by omega)]; omega
   rw [e1]
   have e2 : ints (l.take q) ++ [((l[q] : Nat) : Int)] = ints (l.take (q + 1)) := by
    rw [List.take_succ_eq_append_getElem hql]
    unfold ints
    rw [List.map_append]
    rfl
   rw [e2]
   exact ih (q + 1) (by omega)
theorem of_ev {l : List Nat} (hl : ∀ b ∈ l, b < 256) (hln : l.length < 1000000) : Ev (fun k => incunableref01_Of.f k (ints (bitList l))) (ints l) := by
 refine Ev.congr (fun k => by rw [incunableref01_Of.f]) ?_
 exact of_l0 hl hln l.length 0 (by omega)
end Go.Proofs.Ytmehbabchakkpaa.PurePageDecodes
namespace Go.Proofs.Ytmehbabchakkpaa.PurePageDecodes
open Go.RowKit Go.Proofs.Ytmehbabchakkpaa.QPageDecodes Go.Proofs.YtmehbabchakkpaaW.PrintWords Go.Proofs.YtmehbabchakkpaaW.PrintLast Go.Proofs.YtmehbabchakkpaaW.PrintMore Go.Proofs.Ytmehbabchakkpaa.EvKit Go.Proofs.Ytmehbabchakkpaa.BitsKit Go.Proofs.Ytmehbabchakkpaa.CrcMath Go.Proofs.Ytmehbabchakkpaa.NatKit Go.Proofs.Ytmehbabchakkpaa.BitsMath
theorem rflip_l0 {at_ : List Int} (hn : at_.length < 1000000) (d : Nat) : ∀ (i : Nat) (l : List Nat), i + d = at_.length → (∀ b ∈ l, b < 256) → l.length < 1000000 →
  Ev (fun k => incunableref01_Flip.l0 k at_ (ints (bitList l)) (i : Int)) (ints (flips l (at_.drop i))) := by
 induction d with
 | zero =>
  intro i l hi hl hln
  refine Ev.step (fun k => incunableref01_Flip.l0.eq_2 ..) ?_
  refine Ev.neg (by omega) ?_
  refine Ev.bind (of_ev hl hln) (Ev.ret ?_)
  rw [List.drop_of_length_le (by omega)]
  rfl
 | succ d ih =>
  intro i l hi hl hln
  refine Ev.step (fun k => incunableref01_Flip.l0.eq_2 ..) ?_
  refine Ev.pos (by omega) ?_
  refine Ev.pos (by omega) ?_
  rw [drop_rd (l := at_) (i := i) (by omega), w64_succ (by omega), ints_length, bitList_length]
  have next := fun v => ih (i + 1) (flip1 l v) (by omega) (flip1_lt hl v) (by rw [flip1_length]; exact hln)
  generalize rd at_ (i : Int) = a
  have next := next a
  show Ev _ (ints (flips (flip1 l a) (at_.drop (i + 1))))
  have hself : ¬ (0 ≤ a ∧ a / 8 < (l.length : Int)) → flip1 l a = l := fun h => by unfold flip1; rw [if_neg h]
  refine Ev.ite (fun h0 => ?_) (fun h0 => ?_)
  ·obtain ⟨m, rfl⟩ := Int.eq_ofNat_of_zero_le h0
   refine Ev.ite (fun h1 => ?_) (fun h1 => ?_)
   ·refine Ev.pos h0 ?_
    have hm : m < 8 * l.length := by omega
    have hb2 : bitAt l m < 2 := Nat.mod_lt _ (by decide)
    have hbit : rd (ints (bitList l)) (m : Int) = ((bitAt l m : Nat) : Int) := by
     rw [rd_ints, List.getD_eq_getElem?_getD, bitList_get hm, Option.getD_some]
    rw [hbit, w64_id (by omega) (by omega), Int.toNat_natCast, show (1 : Int) - ((bitAt l m : Nat) : Int) = ((1 - bitAt l m : Nat) : Int) from by omega, ints_set, ← bitList_flip1 l m (by omega)]
    exact next
   ·rw [hself (by omega)] at next ⊢
    exact next
  ·rw [hself (by omega)] at next ⊢
   exact next
theorem rflip_ev {l at_ : List Int} (hl : ∀ x ∈ l, 0 ≤ x ∧ x < 256) (hln : l.length < 1000000) (hn : at_.length < 1000000) : Ev (fun k => incunableref01_Flip.f k l at_) (ints (flips (nats l) at_)) := by
 refine Ev.congr (fun k => by rw [incunableref01_Flip.f]) ?_
 refine Ev.bind (list_ev hl hln) ?_
 exact rflip_l0 hn at_.length 0 (nats l) (by omega) (nats_lt hl) (by rw [nats_length]; exact hln)
theorem rzeros_l0 (bs : List Nat) (hb : ∀ x ∈ bs, x < 2) (hn : bs.length < 100000000) (d : Nat) : ∀ (n i : Nat), i + d = bs.length → n ≤ i →
  Ev (fun k => incunableref01_Zeros.l0 k (n : Int) (ints bs) (i : Int)) (((n + (bs.length - i) : Nat) : Int) - (((bs.drop i).sum : Nat) : Int)) := by
 induction d with
 | zero =>
  intro n i hi hni
  refine Ev.step (fun k => incunableref01_Zeros.l0.eq_2 ..) ?_
  rw [ints_length]
  refine Ev.neg (by omega) (Ev.ret ?_)
  rw [List.drop_of_length_le (by omega), List.sum_nil]
  omega
 | succ d ih =>
  intro n i hi hni
  have hil : i < bs.length := by omega
  have hx : bs[i] < 2 := hb _ (List.getElem_mem hil)
  refine Ev.step (fun k => incunableref01_Zeros.l0.eq_2 ..) ?_
  rw [ints_length]
  refine Ev.pos (by omega) ?_
  refine Ev.pos (by omega) ?_
  rw [rd_ints_lt hil, List.drop_eq_getElem_cons hil, List.sum_cons]
  have next := fun m => ih m (i + 1) (by omega)
  generalize bs[i] = x at hx ⊢
  rw [w64_id (x := (n : Int) + 1) (by omega) (by omega), w64_id (by omega) (by omega), w64_succ (by omega), show (n : Int) + 1 - (x : Int) = ((n + 1 - x : Nat) : Int) from by omega]
  refine Ev.eq (next (n + 1 - x) (by omega)) ?_
  omega
theorem rzeros_ev {l : List Int} (hl : ∀ x ∈ l, 0 ≤ x ∧ x < 256) (hln : l.length < 1000000) : Ev (fun k => incunableref01_Zeros.f k l) ((8 * l.length - count (nats l) : Nat) : Int) := by
 refine Ev.congr (fun k => by rw [incunableref01_Zeros.f]) ?_
 refine Ev.bind (list_ev hl hln) ?_
 have hlen : (bitList (nats l)).length = 8 * l.length := by rw [bitList_length, nats_length]
 refine Ev.eq (rzeros_l0 (bitList (nats l)) (fun x hx => ?_) (by omega) (bitList (nats l)).length 0 0 (by omega) (by omega)) ?_
 ·obtain ⟨i, _, rfl⟩ := List.mem_map.1 hx
  exact Nat.mod_lt _ (by decide)
 ·rw [List.drop_zero, count_bits, hlen]
  have := count_le (nats l)
  rw [nats_length] at this
  omega
end Go.Proofs.Ytmehbabchakkpaa.PurePageDecodes
namespace Go.Proofs.Ytmehbabchakkpaa.PurePageDecodes
open Go.RowKit Go.Proofs.Ytmehbabchakkpaa.QPageDecodes Go.Proofs.YtmehbabchakkpaaW.PrintWords Go.Proofs.YtmehbabchakkpaaW.PrintLast Go.Proofs.YtmehbabchakkpaaW.PrintMore Go.Proofs.Ytmehbabchakkpaa.EvKit Go.Proofs.Ytmehbabchakkpaa.BitsKit Go.Proofs.Ytmehbabchakkpaa.CrcMath Go.Proofs.Ytmehbabchakkpaa.NatKit Go.Proofs.Ytmehbabchakkpaa.BitsMath Go.Proofs.Ytmehbabchakkpaa.LenMath Go.Proofs.Ytmehbabchakkpaa.HamMath Go.Proofs.Ytmehbabchakkpaa.ChunkMath
theorem rdecode_ev {r : List Int} (hr : ∀ x ∈ r, 0 ≤ x ∧ x < 256) (hn : r.length < 1000000) : Ev (fun k => incunableref06_Decode.f k r) (decN (nats r)) := by
 have hlen := nats_length r
 have e1 : wrap64 ((r.length : Int) - 2) = (r.length : Int) - 2 := w64_id (by omega) (by omega)
 refine Ev.congr (fun k => by rw [incunableref06_Decode.f]) ?_
 rw [e1]
 clear e1
 unfold decN
 rw [hlen]
 have hj : Ev (fun k => incunableref06_Decode.j0 k r ((r.length : Int) - 2) true) ([], 0, 2) := Ev.step (fun k => incunableref06_Decode.j0.eq_2 ..) (Ev.pos rfl (Ev.ret rfl))
 refine Ev.ite (fun h => ?_) (fun h => ?_)
 ·rw [if_pos (by omega)]
  exact hj
 by_cases h512 : (r.length : Int) - 2 > 512
 ·rw [decide_eq_true h512, if_pos (by omega)]
  exact hj
 rw [decide_eq_false h512, if_neg (by omega)]
 clear hj
 obtain ⟨n, hn2⟩ : ∃ n, r.length = n + 2 := ⟨r.length - 2, by omega⟩
 have e2 : (r.length : Int) - 2 = (n : Int) := by omega
 rw [e2, hn2, show n + 2 - 2 = n by omega, show n + 2 - 1 = n + 1 by omega]
 refine Ev.step (fun k => incunableref06_Decode.j0.eq_2 ..) (Ev.neg (by decide) ?_)
 refine Ev.step (fun k => incunableref06_Decode.j1.eq_2 ..) ?_
 rw [w64_succ (by omega), Int.toNat_natCast]
 refine Ev.pos (by omega) (Ev.pos (by omega) (Ev.pos (by omega) (Ev.pos (by omega) (Ev.pos (by omega) ?_))))
 have b1 := hr _ (rd_mem (l := r) (i := (n : Int)) (by omega) (by omega))
 have b2 := hr _ (rd_mem (l := r) (i := ((n + 1 : Nat) : Int)) (by omega) (by omega))
 have r1 := rd_nats (l := r) (fun x hx => (hr x hx).1) n
 have r2 := rd_nats (l := r) (fun x hx => (hr x hx).1) (n + 1)
 rw [r1] at b1 ⊢
 rw [r2] at b2 ⊢
 have hd : ∀ x ∈ r.take n, 0 ≤ x ∧ x < 256 := fun x hx => hr x (List.mem_of_mem_take hx)
 have hdl : (r.take n).length = n := by rw [List.length_take]; omega
 have ew : wrap64 (wrap64 (((nats r).getD n 0 : Nat) : Int) + wrap64 (256 * wrap64 (((nats r).getD (n + 1) 0 : Nat) : Int))) = (((nats r).getD n 0 + 256 * (nats r).getD (n + 1) 0 : Nat) : Int) := by
  rw [w64_id (x := (((nats r).getD n 0 : Nat) : Int)) (by omega) (by omega), w64_id (x := (((nats r).getD (n + 1) 0 : Nat) : Int)) (by omega) (by omega), w64_id (x := 256 * (((nats r).getD (n + 1) 0 : Nat) : Int)) (by omega) (by omega), w64_id (by omega) (by omega)]
  omega
 rw [ew]
 clear ew
 refine Ev.bind (rjudge_ev hd (by omega) (by omega)) ?_
 rw [nats_take]
 have hst := judgeN_states ((nats r).take n) ((nats r).getD n 0 + 256 * (nats r).getD (n + 1) 0)
 generalize judgeN ((nats r).take n) ((nats r).getD n 0 + 256 * (nats r).getD (n + 1) 0) = j at hst ⊢
 obtain ⟨s, b, e⟩ := j
 obtain ⟨h1, h2, h3⟩ := hst
 dsimp only at h1 h2 h3 ⊢
 have hdd : ints ((nats r).take n) = r.take n := by rw [← nats_take]; exact ints_nats fun x hx => (hd x hx).1
 have hf1 := rflip_ev (l := r.take n) (at_ := [b]) hd (by omega) (by simp)
 rw [nats_take] at hf1
 unfold decOf
 rw [hdd]
 dsimp only
 rcases h2 with rfl | rfl | rfl | rfl
 ·exact Ev.neg (by decide) (Ev.step (fun k => incunableref06_Decode.j2.eq_2 ..) (Ev.neg (by decide) (Ev.step (fun k => incunableref06_Decode.j3.eq_2 ..) (Ev.neg (by decide) (Ev.pos (by omega) (Ev.pos (by omega) (Ev.ret rfl)))))))
 ·exact Ev.neg (by decide) (Ev.step (fun k => incunableref06_Decode.j2.eq_2 ..) (Ev.pos rfl (Ev.pos (by omega) (Ev.pos (by omega) (Ev.bind hf1 (Ev.ret rfl))))))
 ·exact Ev.neg (by decide) (Ev.step (fun k => incunableref06_Decode.j2.eq_2 ..) (Ev.neg (by decide) (Ev.step (fun k => incunableref06_Decode.j3.eq_2 ..) (Ev.pos rfl (Ev.pos (by omega) (Ev.pos (by omega) (Ev.ret rfl)))))))
 ·exact Ev.pos rfl (Ev.ret rfl)
end Go.Proofs.Ytmehbabchakkpaa.PurePageDecodes
namespace Go.Proofs.Ytmehbabchakkpaa.PurePageDecodes
open Go.RowKit Go.Proofs.Ytmehbabchakkpaa.QPageDecodes Go.Proofs.YtmehbabchakkpaaW.PrintWords Go.Proofs.YtmehbabchakkpaaW.PrintLast Go.Proofs.YtmehbabchakkpaaW.PrintMore Go.Proofs.Ytmehbabchakkpaa.EvKit Go.Proofs.Ytmehbabchakkpaa.BitsKit Go.Proofs.Ytmehbabchakkpaa.CrcMath Go.Proofs.Ytmehbabchakkpaa.NatKit Go.Proofs.Ytmehbabchakkpaa.BitsMath Go.Proofs.Ytmehbabchakkpaa.LenMath Go.Proofs.Ytmehbabchakkpaa.HamMath Go.Proofs.Ytmehbabchakkpaa.ChunkMath
def allR (m : Nat) : Nat → List Int → List Int → Int → List Int × Int × Int
 | 0, _, out, fx => (out, fx, 0)
 | d + 1, L, out, fx => if (decN (nats (L.take m))).2.2 = 0 then allR m d (L.drop m) (out ++ (decN (nats (L.take m))).1) (wrap64 (fx + (decN (nats (L.take m))).2.1)) else ([], 0, (decN (nats (L.take m))).2.2)
theorem decN_size (r : List Nat) (h : (decN r).2.2 = 0) : 0 < (decN r).1.length ∧ (decN r).1.length ≤ r.length := by
 unfold decN at h ⊢
 split at h
 ·exact absurd h (by decide)
 ·rename_i hn
  rw [if_neg hn]
  have hl : (r.take (r.length - 2)).length = r.length - 2 := by rw [List.length_take]; omega
  unfold decOf at h ⊢
  split at h
  ·rename_i h1
   rw [if_pos h1]
   show 0 < (ints _).length ∧ (ints _).length ≤ _
   rw [ints_length, hl]
   omega
  ·rename_i h1
   rw [if_neg h1]
   split at h
   ·rename_i h2
    rw [if_pos h2]
    show 0 < (ints _).length ∧ (ints _).length ≤ _
    rw [ints_length, flips_length, hl]
    omega
   ·rename_i h2
    rw [if_neg h2]
    split at h
    ·rename_i h3
     rw [if_pos h3]
     show 0 < (ints _).length ∧ (ints _).length ≤ _
     rw [ints_length, hl]
     omega
    ·exact absurd h (by decide)
theorem allR_short (m : Nat) : ∀ (d : Nat) (L out : List Int) (fx : Int), L.length = d * m → (allR m d L out fx).1.length ≤ out.length + L.length := by
 intro d
 induction d with
 | zero => intro L out fx _; show out.length ≤ _; omega
 | succ d ih =>
  intro L out fx hl
  have hl1 : (L.drop m).length = d * m := by rw [List.length_drop, hl, Nat.succ_mul]; omega
  have hl2 : (L.take m).length ≤ m := by rw [List.length_take]; omega
  unfold allR
  split
  ·rename_i h
   have h1 := (decN_size _ h).2
   rw [nats_length] at h1
   have h2 := ih (L.drop m) (out ++ (decN (nats (L.take m))).1) (wrap64 (fx + (decN (nats (L.take m))).2.1)) hl1
   rw [List.length_append] at h2
   have h3 : L.length = m + d * m := by rw [hl, Nat.succ_mul]; omega
   omega
  ·exact Nat.zero_le _
theorem may_on {l : List Int} {m d : Nat} (hm : 3 ≤ m ∧ m ≤ 514) (hl : l.length = d * m) : chunk_may.f l ((m : Int) - 2) = some true := by
 unfold chunk_may.f
 rw [if_pos (by omega), if_pos (by omega), w64_id (x := (m : Int) - 2 + 2) (by omega) (by omega), show (m : Int) - 2 + 2 = (m : Int) by omega, if_neg (by omega), hl, show ((d * m : Nat) : Int) % (m : Int) = 0 by rw [Int.natCast_mul]; exact Int.mul_emod_left _ _]
 rfl
theorem bytes_take {L : List Int} (hL : ∀ x ∈ L, 0 ≤ x ∧ x < 256) (m : Nat) : ∀ x ∈ L.take m, 0 ≤ x ∧ x < 256 := fun x hx => hL x (List.mem_of_mem_take hx)
theorem bytes_drop {L : List Int} (hL : ∀ x ∈ L, 0 ≤ x ∧ x < 256) (m : Nat) : ∀ x ∈ L.drop m, 0 ≤ x ∧ x < 256 := fun x hx => hL x (List.mem_of_mem_drop hx)
theorem all_l0 {m : Nat} (hm : 3 ≤ m ∧ m ≤ 514) : ∀ (d : Nat) (L out : List Int) (fx : Int), L.length = d * m → (∀ x ∈ L, 0 ≤ x ∧ x < 256) → out.length + L.length ≤ 1000000 → Ev (fun k => chunk_All.l0 k L ((m : Int) - 2) out fx) (allR m d L out fx) := by
 intro d
 induction d with
 | zero =>
  intro L out fx hl _ _
  refine Ev.step (fun k => chunk_All.l0.eq_2 ..) ?_
  exact Ev.pos (by omega) (Ev.ret rfl)
 | succ d ih =>
  intro L out fx hl hb hs
  have h3 : L.length = m + d * m := by rw [hl, Nat.succ_mul]; omega
  have hl1 : (L.drop m).length = d * m := by rw [List.length_drop]; omega
  have hl2 : (L.take m).length = m := by rw [List.length_take]; omega
  refine Ev.step (fun k => chunk_All.l0.eq_2 ..) ?_
  rw [show ((m : Int) - 2 + 2).toNat = m by omega]
  refine Ev.neg (by omega) (Ev.bind (decode_ev (bytes_take hb m) (by omega)) ?_)
  unfold allR
  have hz := decN_size (nats (L.take m))
  rw [nats_length, hl2] at hz
  generalize decN (nats (L.take m)) = t at hz ⊢
  refine Ev.ite (fun h => ?_) (fun h => ?_)
  ·rw [if_pos h]
   have h4 := hz h
   refine Ev.pos h4.1 (Ev.pos (by omega) ?_)
   exact ih _ _ _ hl1 (bytes_drop hb m) (by rw [List.length_append]; omega)
  ·rw [if_neg h]
   exact Ev.ret rfl
theorem all_on {L : List Int} {m d : Nat} (hm : 3 ≤ m ∧ m ≤ 514) (hl : L.length = d * m) (hb : ∀ x ∈ L, 0 ≤ x ∧ x < 256) (hs : L.length ≤ 1000000) : Ev (fun k => chunk_All.f k L ((m : Int) - 2)) (allR m d L [] 0) := by
 refine Ev.congr (fun k => by rw [chunk_All.f]) ?_
 refine Ev.bindv (may_on hm hl) (Ev.pos rfl (Ev.pos ⟨by omega, by omega, ?_⟩ ?_))
 ·rw [show ((m : Int) - 2 + 2).toNat = m by omega, hl]
  exact Nat.mul_mod_left _ _
 ·exact all_l0 hm d L [] 0 hl hb (by rw [List.length_nil]; omega)
theorem rall_l0 {m : Nat} (hm : 3 ≤ m ∧ m ≤ 514) {L : List Int} (hb : ∀ x ∈ L, 0 ≤ x ∧ x < 256) (hs : L.length ≤ 1000000) : ∀ (d i : Nat) (out : List Int) (fx : Int), L.length = i * m + d * m → out.length + d * m ≤ 1000000 → Ev (fun k => incunableref06_All.l0 k L ((m : Int) - 2) out fx ((i * m : Nat) : Int)) (allR m d (L.drop (i * m)) out fx) := by
 intro d
 induction d with
 | zero =>
  intro i out fx hl _
  refine Ev.step (fun k => incunableref06_All.l0.eq_2 ..) ?_
  exact Ev.neg (by omega) (Ev.ret rfl)
 | succ d ih =>
  intro i out fx hl ho
  have h3 : L.length = i * m + (m + d * m) := by rw [hl, Nat.succ_mul]; omega
  have h5 : out.length + (m + d * m) ≤ 1000000 := by rw [Nat.succ_mul] at ho; omega
  have hn : (i + 1) * m = i * m + m := Nat.succ_mul i m
  refine Ev.step (fun k => incunableref06_All.l0.eq_2 ..) ?_
  have e1 : wrap64 (wrap64 (((i * m : Nat) : Int) + ((m : Int) - 2)) + 2) = (((i + 1) * m : Nat) : Int) := by
   rw [hn, w64_id (x := ((i * m : Nat) : Int) + ((m : Int) - 2)) (by omega) (by omega), w64_id (by omega) (by omega)]
   omega
  rw [e1, Int.toNat_natCast, Int.toNat_natCast, hn]
  refine Ev.pos (by omega) (Ev.pos (by omega) (Ev.pos (by omega) (Ev.pos (by omega) ?_)))
  have hp : (L.take (i * m + m)).drop (i * m) = (L.drop (i * m)).take m := by rw [List.drop_take, Nat.add_sub_cancel_left]
  rw [hp]
  have hl2 : ((L.drop (i * m)).take m).length = m := by rw [List.length_take, List.length_drop]; omega
  have hd2 : L.drop ((i + 1) * m) = (L.drop (i * m)).drop m := by rw [List.drop_drop, hn]
  refine Ev.bind (rdecode_ev (bytes_take (bytes_drop hb _) m) (by omega)) ?_
  unfold allR
  have hz := decN_size (nats ((L.drop (i * m)).take m))
  rw [nats_length, hl2] at hz
  generalize decN (nats ((L.drop (i * m)).take m)) = t at hz ⊢
  refine Ev.ite (fun h => ?_) (fun h => ?_)
  ·rw [if_pos h]
   have h4 := hz h
   refine Ev.pos (by omega) ?_
   have := ih (i + 1) (out ++ t.1) (wrap64 (fx + t.2.1)) (by rw [hn]; omega) (by rw [List.length_append]; omega)
   rw [hd2, hn] at this
   exact this
  ·rw [if_neg h]
   exact Ev.ret rfl
theorem rall_on {L : List Int} {m d : Nat} (hm : 3 ≤ m ∧ m ≤ 514) (hl : L.length = d * m) (hb : ∀ x ∈ L, 0 ≤ x ∧ x < 256) (hs : L.length ≤ 1000000) : Ev (fun k => incunableref06_All.f k L ((m : Int) - 2)) (allR m d L [] 0) := by
 refine Ev.congr (fun k => by rw [incunableref06_All.f]) ?_
 refine Ev.neg (by omega) (Ev.neg (by omega) ?_)
 rw [w64_id (x := (m : Int) - 2 + 2) (by omega) (by omega), show (m : Int) - 2 + 2 = (m : Int) by omega]
 refine Ev.neg (by omega) ?_
 rw [hl, show ((d * m : Nat) : Int) % (m : Int) = 0 by rw [Int.natCast_mul]; exact Int.mul_emod_left _ _]
 refine Ev.step (fun k => incunableref06_All.j0.eq_2 ..) ?_
 refine Ev.neg (by decide) ?_
 have := rall_l0 hm hb hs d 0 [] 0 (by omega) (by rw [List.length_nil]; omega)
 rw [Nat.zero_mul, List.drop_zero] at this
 exact this
end Go.Proofs.Ytmehbabchakkpaa.PurePageDecodes
namespace Go.Proofs.Ytmehbabchakkpaa.PurePageDecodes
open Go.RowKit Go.Proofs.Ytmehbabchakkpaa.QPageDecodes Go.Proofs.YtmehbabchakkpaaW.PrintWords Go.Proofs.YtmehbabchakkpaaW.PrintLast Go.Proofs.YtmehbabchakkpaaW.PrintMore Go.Proofs.Ytmehbabchakkpaa.EvKit Go.Proofs.Ytmehbabchakkpaa.BitsKit Go.Proofs.Ytmehbabchakkpaa.CrcMath Go.Proofs.Ytmehbabchakkpaa.NatKit
theorem str_beq {a b : List Int} (ha : ∀ x ∈ a, 0 ≤ x ∧ x < 256) (hb : ∀ x ∈ b, 0 ≤ x ∧ x < 256) : ((strOfNums a).toList == (strOfNums b).toList) = decide (a = b) := by
 rw [Bool.eq_iff_iff, beq_iff_eq, decide_eq_true_eq, ByteArray.toList_eq, ByteArray.toList_eq]
 constructor
 ·intro h
  refine str_eq ha hb ?_
  have := Array.toList_inj.1 h
  cases ea : strOfNums a
  cases eb : strOfNums b
  rw [ea, eb] at this
  congr 1
 ·rintro rfl
  rfl
def ends (b : List Int) : Bool := decide (4 ≤ b.length) && decide (four (CrcMath.sum (nats (b.take (b.length - 4)))) = b.drop (b.length - 4))
theorem check_ev {b : List Int} (hb : ∀ x ∈ b, 0 ≤ x ∧ x < 256) (hn : b.length < 1000000) : Ev (fun k => crc_Check.f k b) (ends b) := by
 refine Ev.congr (fun k => by rw [crc_Check.f]) ?_
 have hw : wrap64 ((b.length : Int) - 4) = (b.length : Int) - 4 := w64_id (by omega) (by omega)
 rw [hw]
 clear hw
 refine Ev.ite (fun h => ?_) (fun h => Ev.ret ?_)
 ·refine Ev.pos (by omega) ?_
  refine Ev.pos (by omega) ?_
  rw [show ((b.length : Int) - 4).toNat = b.length - 4 from by omega]
  refine Ev.bind (sum_one (fun x hx => hb x (List.mem_of_mem_take hx)) (by rw [List.length_take]; omega)) ?_
  refine Ev.bind (bytes_ev _) (Ev.ret ?_)
  rw [str_beq (four_byte _) (fun x hx => hb x (List.mem_of_mem_drop hx))]
  unfold ends
  rw [decide_eq_true (show 4 ≤ b.length by omega), Bool.true_and]
 ·unfold ends
  rw [decide_eq_false (show ¬ 4 ≤ b.length by omega), Bool.false_and]
end Go.Proofs.Ytmehbabchakkpaa.PurePageDecodes
namespace Go.Proofs.Ytmehbabchakkpaa.PurePageDecodes
open Go.RowKit Go.Proofs.Ytmehbabchakkpaa.QPageDecodes Go.Proofs.YtmehbabchakkpaaW.PrintWords Go.Proofs.YtmehbabchakkpaaW.PrintLast Go.Proofs.YtmehbabchakkpaaW.PrintMore Go.Proofs.Ytmehbabchakkpaa.EvKit Go.Proofs.Ytmehbabchakkpaa.PackMath
theorem wraps_u64 (n : Int) (h₀ : 0 ≤ n) (h₁ : n < 2 ^ 64) : IntKind.u64.wrap n = n := w_u64 n h₀ (by simpa using h₁)
theorem or_byte {x b : Int} (h0 : 0 ≤ x) (h : x < 256 ^ 7) (b0 : 0 ≤ b) (b1 : b < 256) : Go.bits .or .u64 (IntKind.u64.wrap (x * 256)) (IntKind.u64.wrap b) = b + 256 * x := by
 have e : (256 : Int) ^ 7 = 72057594037927936 := by decide
 rw [e] at h
 rw [wraps_u64 (x * 256) (by omega) (by omega), wraps_u64 b (by omega) (by omega), bits_join .u64 64 (by decide) wraps_u64 8 (x * 256) b (by omega) (by omega) (by omega) b0 (by omega) (by omega)]
 omega
theorem pow7 {m : Nat} (h : m ≤ 7) : (256 : Int) ^ m ≤ 256 ^ 7 := by
 have : m = 0 ∨ m = 1 ∨ m = 2 ∨ m = 3 ∨ m = 4 ∨ m = 5 ∨ m = 6 ∨ m = 7 := by omega
 rcases this with rfl | rfl | rfl | rfl | rfl | rfl | rfl | rfl <;> decide
theorem take_succ_rd {b : List Int} {d : Nat} (h : d < b.length) : b.take (d + 1) = b.take d ++ [rd b (d : Int)] := by
 rw [List.take_succ_eq_append_getElem h, rd_nat h]
theorem take_l1 {b out l : List Int} {s len i : Int} {r : List Int × Int} (hb : ∀ x ∈ b, 0 ≤ x ∧ x < 256) (hs : s ≤ 8) (hsb : s ≤ (b.length : Int)) (d : Nat) : ∀ (x : Int) (m : Nat), (d : Int) + m = s → 0 ≤ x → x < 256 ^ m →
  Ev (fun k => (if unle (b.take d) + 256 ^ d * x > 4611686018427387904 then (some (([] : List Int), 11)) else (if out.length < 17592186044416 then (if 0 ≤ s then (if s ≤ (b.length : Int) then (pack_Take.l0 k (b.drop (s : Int).toNat) (out ++ [wrap64 (unle (b.take d) + 256 ^ d * x)]) l len (wrap64 (i + 1))) else (none)) else (none)) else (none)))) r →
  Ev (fun k => pack_Take.l1 k b out s x (wrap64 ((d : Int) - 1)) l len i) r := by
 induction d with
 | zero =>
  intro x m hm h0 h1 h
  rw [show wrap64 (((0 : Nat) : Int) - 1) = -1 from by rw [w64_id (by omega) (by omega)]; omega]
  refine Ev.step (fun k => pack_Take.l1.eq_2 ..) ?_
  refine Ev.neg (by omega) ?_
  simpa [unle] using h
 | succ d ih =>
  intro x m hm h0 h1 h
  rw [show wrap64 (((d + 1 : Nat) : Int) - 1) = (d : Int) from by rw [w64_id (by omega) (by omega)]; omega]
  refine Ev.step (fun k => pack_Take.l1.eq_2 ..) ?_
  refine Ev.pos (by omega) (Ev.pos (by omega) (Ev.pos (by omega) ?_))
  have hc := hb _ (rd_mem (l := b) (i := (d : Int)) (by omega) (by omega))
  have hx : x < 256 ^ 7 := Int.lt_of_lt_of_le h1 (pow7 (by omega))
  rw [or_byte h0 hx hc.1 hc.2]
  refine ih (rd b (d : Int) + 256 * x) (m + 1) (by omega) (by omega) (by rw [Int.pow_succ]; omega) ?_
  have e : unle (b.take (d + 1)) + 256 ^ (d + 1) * x = unle (b.take d) + 256 ^ d * (rd b (d : Int) + 256 * x) := by
   rw [take_succ_rd (by omega), unle_append, List.length_take, Nat.min_eq_left (by omega), Int.pow_succ]
   simp only [unle, Int.mul_add, Int.mul_assoc, Int.mul_zero, Int.add_zero, Int.add_assoc]
  rw [e] at h
  exact h
theorem take_l0 {l : List Int} (hok : okSizes l = true) (d : Nat) : ∀ (i : Nat) (b out : List Int), i + d = l.length → (∀ x ∈ b, 0 ≤ x ∧ x < 256) → (b.length : Int) = (l.drop i).sum → out.length ≤ i →
  Ev (fun k => pack_Take.l0 k b out l (l.length : Int) (i : Int)) (endTake out (takeGo (l.drop i) b)) := by
 have hk := okSizes_iff.1 hok
 induction d with
 | zero =>
  intro i b out hi hb hsum ho
  refine Ev.step (fun k => pack_Take.l0.eq_2 ..) ?_
  refine Ev.neg (by omega) (Ev.ret ?_)
  rw [List.drop_of_length_le (by omega)]
  simp [takeGo, endTake]
 | succ d ih =>
  intro i b out hi hb hsum ho
  refine Ev.step (fun k => pack_Take.l0.eq_2 ..) ?_
  refine Ev.pos (by omega) (Ev.pos (by omega) (Ev.pos (by omega) ?_))
  have hs := hk.2 _ (rd_mem (l := l) (i := (i : Int)) (by omega) (by omega))
  have hrest := sum_nonneg (l := l.drop (i + 1)) fun x hx => hk.2 x (List.mem_of_mem_drop hx)
  rw [drop_rd (l := l) (i := i) (by omega)] at hsum ⊢
  rw [List.sum_cons] at hsum
  generalize rd l (i : Int) = s at hs hsum ⊢
  have hd : wrap64 (s - 1) = wrap64 ((s.toNat : Int) - 1) := by rw [show (s.toNat : Int) = s by omega]
  rw [hd]
  refine take_l1 hb (by omega) (by omega) s.toNat 0 0 (by omega) (by omega) (by simp) ?_
  have hn := unle_nonneg (b.take s.toNat) fun x hx => hb x (List.mem_of_mem_take hx)
  rw [Int.mul_zero, Int.add_zero]
  refine Ev.ite (fun h => Ev.ret ?_) (fun h => ?_)
  ·have h' : ¬ unle (b.take s.toNat) ≤ 4611686018427387904 := by omega
   simp [takeGo, h', endTake]
  ·refine Ev.pos (by omega) (Ev.pos (by omega) (Ev.pos (by omega) ?_))
   rw [w64_succ (by omega), w64_id (by omega) (by omega)]
   refine Ev.eq (ih (i + 1) (b.drop s.toNat) (out ++ [unle (b.take s.toNat)]) (by omega) (fun x hx => hb x (List.mem_of_mem_drop hx)) (by rw [List.length_drop]; omega) (by simp; omega)) ?_
   have h' : unle (b.take s.toNat) ≤ 4611686018427387904 := by omega
   simp only [takeGo, h', if_true]
   cases takeGo (l.drop (i + 1)) (b.drop s.toNat) <;> simp [endTake]
theorem take_ev (l b : List Int) (hb : ∀ x ∈ b, 0 ≤ x ∧ x < 256) : Ev (fun k => pack_Take.f k l b) (pkTake l b) := by
 refine Ev.congr (fun k => by rw [pack_Take.f]) ?_
 refine Ev.bind (size_ev l) ?_
 refine Ev.ite (fun h => ?_) (fun h => ?_)
 ·have hok : okSizes l = true := by
   cases e : okSizes l
   ·simp [pkSize, e] at h
   ·rfl
  have e1 : pkSize l = (l.sum, true) := by simp [pkSize, hok]
  rw [e1]
  simp only [pkTake, hok, if_true]
  refine Ev.ite (fun h1 => Ev.ret ?_) (fun h1 => Ev.ite (fun h2 => Ev.ret ?_) (fun h2 => ?_))
  ·rw [if_pos h1]
  ·rw [if_neg h1, if_pos h2]
  ·rw [if_neg h1, if_neg h2]
   exact take_l0 hok l.length 0 b [] (by omega) hb (by simp; omega) (by simp)
 ·have hok : okSizes l = false := by
   cases e : okSizes l
   ·rfl
   ·simp [pkSize, e] at h
  refine Ev.ret ?_
  simp [pkTake, hok]
end Go.Proofs.Ytmehbabchakkpaa.PurePageDecodes

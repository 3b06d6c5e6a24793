/-
  Bits turned: the program's bytes and the document's bits come to the same.
-/
import Derived.Test.YtalejedajkhkjaaBitsMath
import Derived.Test.YtalejedajkhkjaaNatKit
import Derived.Test.YtalejedajkhkjaaQChunkBackx
namespace Go.Proofs.Ytalejedajkhkjaa.PureChunkBack
open Go.RowKit Go.Proofs.Ytalejedajkhkjaa.QChunkBack Go.Proofs.YtalejedajkhkjaaW.PrintWords Go.Proofs.YtalejedajkhkjaaW.PrintLast Go.Proofs.YtalejedajkhkjaaW.PrintMore Go.Proofs.Ytalejedajkhkjaa.EvKit Go.Proofs.Ytalejedajkhkjaa.BitsKit Go.Proofs.Ytalejedajkhkjaa.CrcMath Go.Proofs.Ytalejedajkhkjaa.NatKit Go.Proofs.Ytalejedajkhkjaa.BitsMath

theorem shl_one {r : Nat} (h : r < 8) : shl .u8 1 (r : Int) = ((2 ^ r : Nat) : Int) := by
  have : r = 0 ∨ r = 1 ∨ r = 2 ∨ r = 3 ∨ r = 4 ∨ r = 5 ∨ r = 6 ∨ r = 7 := by omega
  rcases this with rfl | rfl | rfl | rfl | rfl | rfl | rfl | rfl <;> decide
theorem flip_l0 {at_ : List Int} (ha : ∀ i ∈ at_, i ≤ 9223372036854775807) (hn : at_.length < 1000000) (d : Nat) : ∀ (i : Nat) (l : List Nat), i + d = at_.length → (∀ b ∈ l, b < 256) → l.length < 1000000 →
    Ev (fun k => bits_Flip.l0 k (ints l) at_ (at_.length : Int) (i : Int)) (ints (flips l (at_.drop i))) := by
  induction d with
  | zero =>
    intro i l hi hl hln
    refine Ev.step (fun k => bits_Flip.l0.eq_2 ..) ?_
    refine Ev.neg (by omega) (Ev.ret ?_)
    rw [List.drop_of_length_le (by omega)]
    rfl
  | succ d ih =>
    intro i l hi hl hln
    refine Ev.step (fun k => bits_Flip.l0.eq_2 ..) ?_
    refine Ev.pos (by omega) ?_
    refine Ev.pos (by omega) ?_
    refine Ev.pos (by omega) ?_
    have hmax := ha _ (rd_mem (l := at_) (i := (i : Int)) (by omega) (by omega))
    rw [drop_rd (l := at_) (i := i) (by omega), w64_succ (by omega)]
    have next := fun v => ih (i + 1) (flip1 l v) (by omega) (flip1_lt hl v) (by rw [flip1_length]; exact hln)
    generalize rd at_ (i : Int) = a at hmax ⊢
    have next := next a
    show Ev _ (ints (flips (flip1 l a) (at_.drop (i + 1))))
    have hself : ¬ (0 ≤ a ∧ a / 8 < (l.length : Int)) → flip1 l a = l := fun h => by unfold flip1; rw [if_neg h]
    refine Ev.ite (fun h0 => ?_) (fun h0 => ?_)
    · obtain ⟨m, rfl⟩ := Int.eq_ofNat_of_zero_le h0
      have hw : wrap64 (Int.tdiv (m : Int) 8) = ((m / 8 : Nat) : Int) := by
        rw [Int.tdiv_eq_ediv_of_nonneg h0]
        exact w64_id (by omega) (by omega)
      have hs : IntKind.u64.wrap (Int.tmod (m : Int) 8) = ((m % 8 : Nat) : Int) := by
        rw [Int.tmod_eq_emod_of_nonneg h0]
        exact w_u64 _ (by omega) (by omega)
      rw [hw, hs, ints_length]
      clear hw hs
      refine Ev.ite (fun h1 => ?_) (fun h1 => ?_)
      · refine Ev.pos (by omega) ?_
        refine Ev.pos (by omega) ?_
        have hlt : m / 8 < l.length := by omega
        have hb := hl _ (List.getElem_mem hlt)
        have hp : 2 ^ (m % 8) < 256 := Nat.pow_lt_pow_right (n := 8) (a := 2) (by decide) (Nat.mod_lt _ (by decide))
        rw [rd_ints_lt hlt, shl_one (Nat.mod_lt _ (by decide)), xor_u8 hb hp, Int.toNat_natCast, ints_set]
        have e : flip1 l (m : Int) = l.set (m / 8) (l[m / 8] ^^^ 2 ^ (m % 8)) := by
          unfold flip1
          rw [if_pos (by omega), Int.toNat_natCast, List.getD_eq_getElem?_getD, List.getElem?_eq_getElem hlt, Option.getD_some]
        rw [← e]
        exact next
      · rw [hself (by omega)] at next ⊢
        exact next
    · rw [hself (by omega)] at next ⊢
      exact next
theorem flip_ev {l at_ : List Int} (hl : ∀ x ∈ l, 0 ≤ x ∧ x < 256) (hln : l.length < 1000000) (ha : ∀ i ∈ at_, i ≤ 9223372036854775807) (hn : at_.length < 1000000) : Ev (fun k => bits_Flip.f k l at_) (ints (flips (nats l) at_)) := by
  refine Ev.congr (fun k => by rw [bits_Flip.f]) ?_
  refine Ev.bindv (a := l) ?_ ?_
  · unfold slices_Clone_byte_byte.f
    rw [if_pos (by omega)]
  · have := flip_l0 ha hn at_.length 0 (nats l) (by omega) (nats_lt hl) (by rw [nats_length]; exact hln)
    rw [ints_nats fun x hx => (hl x hx).1] at this
    exact this
end Go.Proofs.Ytalejedajkhkjaa.PureChunkBack

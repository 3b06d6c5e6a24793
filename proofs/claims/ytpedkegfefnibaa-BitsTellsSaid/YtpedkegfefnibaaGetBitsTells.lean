/-
  What bits.Get comes to: is the document's bit one.
-/
import Derived.Test.YtpedkegfefnibaaRefBitBitsTells
namespace Go.Proofs.Ytpedkegfefnibaa.PureBitsTells
open Go.RowKit Go.Proofs.Ytpedkegfefnibaa.QBitsTells Go.Proofs.YtpedkegfefnibaaW.PrintWords Go.Proofs.YtpedkegfefnibaaW.PrintLast Go.Proofs.YtpedkegfefnibaaW.PrintMore Go.Proofs.Ytpedkegfefnibaa.EvKit Go.Proofs.Ytpedkegfefnibaa.BitsKit Go.Proofs.Ytpedkegfefnibaa.CrcMath Go.Proofs.Ytpedkegfefnibaa.NatKit
theorem shr_u8 (x r : Nat) (h : r < 8) : shr .u8 (x : Int) (r : Int) = ((x / 2 ^ r : Nat) : Int) := by
  unfold shr
  rw [Int.toNat_natCast, show min r (IntKind.bits .u8) = r from by simp [IntKind.bits]; omega]
  exact (Int.natCast_ediv x (2 ^ r)).symm ▸ by simp
theorem get_eq {l : List Int} (hl : ∀ x ∈ l, 0 ≤ x ∧ x < 256) {i : Int} (hi : i ≤ 9223372036854775807) : bits_Get.f l i = some (bitVal l i == 1) := by
  unfold bits_Get.f bitVal
  by_cases h0 : i ≥ 0
  · rw [if_pos h0]
    have hw : wrap64 (Int.tdiv i 8) = i / 8 := by rw [Int.tdiv_eq_ediv_of_nonneg h0]; exact w64_id (by omega) (by omega)
    have hs : IntKind.u64.wrap (Int.tmod i 8) = ((i.toNat % 8 : Nat) : Int) := by
      rw [Int.tmod_eq_emod_of_nonneg h0, w_u64 _ (by omega) (by omega)]
      omega
    rw [hw, hs]
    clear hw hs
    by_cases h1 : i / 8 < (l.length : Int)
    · rw [if_pos h1, if_pos (by omega), if_pos (by omega), if_pos ⟨h0, h1⟩]
      have hr := rd_nats (l := l) (fun x hx => (hl x hx).1) (i / 8).toNat
      have hb := hl _ (rd_mem (l := l) (i := i / 8) (by omega) h1)
      rw [show (((i / 8).toNat : Nat) : Int) = i / 8 from by omega] at hr
      rw [hr] at hb ⊢
      have hq : (i / 8).toNat = i.toNat / 8 := by omega
      rw [hq] at hb ⊢
      unfold bitAt
      generalize (nats l).getD (i.toNat / 8) 0 = x at hb ⊢
      rw [shr_u8 x _ (Nat.mod_lt _ (by decide))]
      have hd : x / 2 ^ (i.toNat % 8) ≤ x := Nat.div_le_self _ _
      generalize x / 2 ^ (i.toNat % 8) = y at hd ⊢
      have e := and_u8 (a := y) (b := 1) (by omega) (by decide)
      rw [Nat.and_one_is_mod] at e
      rw [show (1 : Int) = ((1 : Nat) : Int) from rfl, e]
    · rw [if_neg h1, if_neg (fun h => h1 h.2)]
      rfl
  · rw [if_neg h0, if_neg (fun h => h0 h.1)]
    rfl
end Go.Proofs.Ytpedkegfefnibaa.PureBitsTells

/-
  What bad.Join comes to: which numbers a joined list has.
-/
import Derived.Test.YtpabehkdedhncaaIntsBadBack
namespace Go.Proofs.Ytpabehkdedhncaa.PureBadBack
open Go.RowKit Go.Proofs.Ytpabehkdedhncaa.QBadBack Go.Proofs.YtpabehkdedhncaaW.PrintWords Go.Proofs.Ytpabehkdedhncaa.EvKit
theorem mem_join {a b : List Int} {n : Int} : n ∈ bad_Join_upto a b 256 ↔ 0 ≤ n ∧ n < 256 ∧ (n ∈ a ∨ n ∈ b) := by
  unfold bad_Join_upto
  rw [List.mem_map]
  refine ⟨fun ⟨i, hi, e⟩ => ?_, fun ⟨h0, h1, h2⟩ => ⟨n.toNat, ?_, by omega⟩⟩
  · subst e
    rw [List.mem_filter, List.mem_range] at hi
    have h2 := hi.2
    rw [Bool.or_eq_true, decide_eq_true_eq, decide_eq_true_eq] at h2
    exact ⟨Int.natCast_nonneg i, by omega, h2⟩
  · rw [List.mem_filter, List.mem_range]
    have e : ((n.toNat : Nat) : Int) = n := by omega
    rw [e, Bool.or_eq_true, decide_eq_true_eq, decide_eq_true_eq]
    exact ⟨by omega, h2⟩
theorem join_same {a b c d : List Int} (h : ∀ n : Int, 0 ≤ n → n < 256 → ((n ∈ a ∨ n ∈ b) ↔ (n ∈ c ∨ n ∈ d))) : bad_Join_upto a b 256 = bad_Join_upto c d 256 := by
  unfold bad_Join_upto
  congr 1
  refine List.filter_congr fun i hi => ?_
  have hi := List.mem_range.1 hi
  have := h (i : Int) (by omega) (by omega)
  rw [Bool.eq_iff_iff, Bool.or_eq_true, Bool.or_eq_true, decide_eq_true_eq, decide_eq_true_eq, decide_eq_true_eq, decide_eq_true_eq]
  exact this
theorem join_self {x : List Int} {a b : List Int} (hx : x = bad_Join_upto a b 256) {c : List Int} (h : ∀ n : Int, 0 ≤ n → n < 256 → n ∈ c → n ∈ x) : bad_Join_upto x c 256 = x := by
  conv => rhs; rw [hx]
  refine join_same fun n h0 h1 => ?_
  rw [hx, mem_join]
  refine ⟨fun hh => ?_, fun hh => Or.inl ⟨h0, h1, hh⟩⟩
  rcases hh with hh | hh
  · exact hh.2.2
  · have := h n h0 h1 hh
    rw [hx, mem_join] at this
    exact this.2.2
theorem join_le (a b : List Int) : (bad_Join_upto a b 256).length ≤ 256 := bad_Join_upto_le a b 256
theorem room_awake : incunablelaw25_awake.f = some true := by
  have e : bad_Room.f 32 = some 9 := by
    unfold bad_Room.f
    rw [if_neg (by decide), w64_id (x := 32 - 14) (by decide) (by decide), w64_id (by decide) (by decide)]
    decide
  unfold incunablelaw25_awake.f
  rw [e]
  rfl
theorem ints_self_ev (x : List Int) (hb : x.length < 1000000000) : Ev (fun k => incunableref01_Ints.f k x x) true := by
  have := ints_ev x x hb
  rwa [decide_eq_true rfl] at this
end Go.Proofs.Ytpabehkdedhncaa.PureBadBack

/-
  BitsBack: two turns are none; turned where they differ, one is the other; what two have. Conditions: the law's own.
-/
import Derived.Test.YtpedkegfefnibaaStmBitsBack
import Derived.Test.YtpedkegfefnibaaBitsAwakeBitsBack
import Derived.Test.YtpedkegfefnibaaAndBitsBack
import Derived.Test.YtpedkegfefnibaaDiffBitsBack
import Derived.Test.YtpedkegfefnibaaBitsFnBitsBack
import Derived.Test.YtpedkegfefnibaaBitsMore
namespace Go.Proofs.Ytpedkegfefnibaa.Pure
open Go.RowKit Go.Proofs.Ytpedkegfefnibaa.QBitsBack Go.Proofs.YtpedkegfefnibaaW.PrintWords Go.Proofs.YtpedkegfefnibaaW.PrintLast Go.Proofs.YtpedkegfefnibaaW.PrintMore Go.Proofs.Ytpedkegfefnibaa.EvKit Go.Proofs.Ytpedkegfefnibaa.CrcMath Go.Proofs.Ytpedkegfefnibaa.NatKit Go.Proofs.Ytpedkegfefnibaa.BitsMath Go.Proofs.Ytpedkegfefnibaa.PureBitsBack
theorem ones_andN {a b : List Nat} (i : Nat) (hi : i < a.length) : ones ((andN a b).getD i 0) ≤ ones (a.getD i 0) := by
  unfold andN
  split
  · rename_i h
    rw [andW_get (by omega), if_pos hi, Nat.and_comm]
    exact ones_and _ _
  · rw [andW_get hi]
    split
    · exact ones_and _ _
    · exact Nat.le_refl _
theorem back_j1 {a b : List Int} (ha : ∀ x ∈ a, 0 ≤ x ∧ x < 256) (hb : ∀ x ∈ b, 0 ≤ x ∧ x < 256) (hla : a.length ≤ 500) (hlb : b.length ≤ 500) :
    Ev (fun k => incunablelaw01_BitsBack.j1 k a b false) true := by
  have hab := andN_lt (nats_lt ha) (nats_lt hb)
  have hbyte := ints_byte hab
  have hlen : (ints (andN (nats a) (nats b))).length = max a.length b.length := by rw [ints_length, andN_length, nats_length, nats_length]
  have hn : nats (ints (andN (nats a) (nats b))) = andN (nats a) (nats b) := nats_ints _
  refine Ev.step (fun k => incunablelaw01_BitsBack.j1.eq_2 ..) ?_
  refine Ev.neg (by decide) ?_
  refine Ev.bind (and_ev ha hb (by omega) (by omega)) ?_
  have hm : mx (a.length : Int) (b.length : Int) = ((max a.length b.length : Nat) : Int) := by
    unfold mx
    split <;> omega
  rw [hm, hlen]
  refine Ev.pos rfl ?_
  refine Ev.bind (zeros_ev hbyte (by omega)) ?_
  refine Ev.bind (zeros_ev ha (by omega)) ?_
  rw [hlen, hn]
  have c1 := count_mono (nats a) (andN (nats a) (nats b)) (by rw [andN_length]; omega) (fun i hi => ones_andN i hi)
  have c2 := count_mono (nats b) (andN (nats a) (nats b)) (by rw [andN_length]; omega) (fun i hi => by rw [andN_comm (nats_lt ha) (nats_lt hb)]; exact ones_andN i hi)
  rw [andN_length, nats_length, nats_length] at c1 c2
  have ca := count_le (nats a)
  have cb := count_le (nats b)
  rw [nats_length] at ca cb
  refine Ev.pos (by omega) ?_
  refine Ev.bind (zeros_ev hb (by omega)) ?_
  refine Ev.pos (by omega) ?_
  refine Ev.bind (and_ev hbyte ha (by omega) (by omega)) ?_
  rw [hn, andN_left (nats_lt ha) (nats_lt hb)]
  refine Ev.bind (same_ev _ _ (by omega)) (Ev.ret ?_)
  simp
theorem back_j0 {a b p : List Int} (ha : ∀ x ∈ a, 0 ≤ x ∧ x < 256) (hb : ∀ x ∈ b, 0 ≤ x ∧ x < 256) (hp : ∀ x ∈ p, x ≤ 9223372036854775807) (hla : a.length ≤ 500) (hlb : b.length ≤ 500) (hlp : p.length ≤ 100) :
    Ev (fun k => incunablelaw01_BitsBack.j0 k a b p false) true := by
  have hf1 := flips_lt p (nats_lt ha)
  refine Ev.step (fun k => incunablelaw01_BitsBack.j0.eq_2 ..) ?_
  refine Ev.neg (by decide) ?_
  refine Ev.bind (flip_ev ha (by omega) hp (by omega)) ?_
  refine Ev.bind (flip_ev (ints_byte hf1) (by rw [ints_length, flips_length, nats_length]; omega) hp (by omega)) ?_
  rw [nats_ints, flips_twice p (nats_lt ha), ints_nats fun x hx => (ha x hx).1]
  refine Ev.bind (same_ev _ _ (by omega)) (Ev.pos (by simp) ?_)
  refine Ev.ite (fun h => ?_) (fun h => back_j1 ha hb hla hlb)
  refine Ev.bind (diff_ev ha hb (by omega) (by omega)) ?_
  have hd : ∀ x ∈ ints (diffN (nats a) (nats b)), x ≤ 9223372036854775807 := by
    intro x hx
    obtain ⟨i, hi, rfl⟩ := List.mem_map.1 hx
    have := (mem_diffN.1 hi).1
    rw [nats_length] at this
    have : (i : Int) ≤ 9223372036854775807 := by omega
    exact this
  have hdl : (ints (diffN (nats a) (nats b))).length < 1000000 := by
    rw [ints_length]
    unfold diffN
    refine Nat.lt_of_le_of_lt (List.length_filter_le _ _) ?_
    rw [List.length_range, nats_length]
    omega
  refine Ev.bind (flip_ev ha (by omega) hd hdl) ?_
  have e : flips (nats a) (ints (diffN (nats a) (nats b))) = nats b := flips_diff (nats_lt ha) (nats_lt hb) (by rw [nats_length, nats_length]; omega)
  rw [e, ints_nats fun x hx => (hb x hx).1]
  refine Ev.bind (same_ev _ _ (by omega)) ?_
  simp only [decide_true, Bool.not_true]
  exact back_j1 ha hb hla hlb
theorem BitsBack : StmBitsBack := by
  intro a b p _ ha0 _ hb0 _ hp0
  have ha : ∀ x ∈ a, 0 ≤ x ∧ x < 256 := fun x hx => wf_u8 (ha0.2 x hx)
  have hb : ∀ x ∈ b, 0 ≤ x ∧ x < 256 := fun x hx => wf_u8 (hb0.2 x hx)
  have hp : ∀ x ∈ p, x ≤ 9223372036854775807 := fun x hx => (wf_i64 (hp0.2 x hx)).2
  refine Ev.rounds (Ev.congr (fun k => by rw [incunablelaw01_BitsBack.f]) ?_)
  refine Ev.bind bits_awake_ev (Ev.pos rfl ?_)
  refine Ev.bind (many_ev _ (by simp)) ?_
  have hj : Ev (fun k => incunablelaw01_BitsBack.j0 k a b p true) true := Ev.step (fun k => incunablelaw01_BitsBack.j0.eq_2 ..) (Ev.pos rfl (Ev.ret rfl))
  refine Ev.ite (fun _ => hj) (fun hm => ?_)
  have hl : a.length ≤ 500 ∧ b.length ≤ 500 := by
    simp at hm
    omega
  by_cases hn : (p.length : Int) > 100
  · rw [decide_eq_true hn]
    exact hj
  · rw [decide_eq_false hn]
    exact back_j0 ha hb hp hl.1 hl.2 (by omega)
end Go.Proofs.Ytpedkegfefnibaa.Pure

/-
  HammingApart: two texts of one length and their words stand four bits apart. Conditions: the law's own.
-/
import Derived.Test.YtalejedajkhkjaaStmHammingApart
import Derived.Test.YtalejedajkhkjaaJudgeHammingApart
import Derived.Test.YtalejedajkhkjaaDiffHammingApart
import Derived.Test.YtalejedajkhkjaaBitsFnHammingApart
namespace Go.Proofs.Ytalejedajkhkjaa.Pure
open Go.RowKit Go.Proofs.Ytalejedajkhkjaa.QHammingApart Go.Proofs.YtalejedajkhkjaaW.PrintWords Go.Proofs.YtalejedajkhkjaaW.PrintLast Go.Proofs.YtalejedajkhkjaaW.PrintMore Go.Proofs.Ytalejedajkhkjaa.EvKit Go.Proofs.Ytalejedajkhkjaa.BitsKit Go.Proofs.Ytalejedajkhkjaa.CrcMath Go.Proofs.Ytalejedajkhkjaa.NatKit Go.Proofs.Ytalejedajkhkjaa.BitsMath Go.Proofs.Ytalejedajkhkjaa.LenMath Go.Proofs.Ytalejedajkhkjaa.HamMath Go.Proofs.Ytalejedajkhkjaa.PureHammingApart
theorem ones_two {w : Nat} (h : w < 65536) : (bitsOf 16 w).sum = count [w % 256, w / 256 % 256] := by
  have h1 := bitsOf_add 8 8 w
  have h2 := bitsOf_mod 8 w
  rw [show 2 ^ 8 = 256 from rfl] at h1 h2
  have h3 : w / 256 % 256 = w / 256 := by omega
  unfold count ones
  rw [List.map_cons, List.map_cons, List.map_nil, List.sum_cons, List.sum_cons, List.sum_nil, h3, h2, show 16 = 8 + 8 from rfl, h1, Nat.add_zero]
theorem apart_end {a b : List Int} (ha : ∀ x ∈ a, 0 ≤ x ∧ x < 256) (hb : ∀ x ∈ b, 0 ≤ x ∧ x < 256) (hl : a.length = b.length) (hn : a.length ≤ 60) :
    Ev (fun k => incunablelaw05_HammingApart.j0 k ((ints (diffN (nats a) (nats b))).length : Int) ((wordN (nats a) : Nat) : Int) ((wordN (nats b) : Nat) : Int) false) true := by
  have hna := nats_length a
  have hnb := nats_length b
  have hwa := wordN_lt (l := nats a) (by omega)
  have hwb := wordN_lt (l := nats b) (by omega)
  refine Ev.step (fun k => incunablelaw05_HammingApart.j0.eq_2 ..) ?_
  refine Ev.neg (by decide) ?_
  rw [ints_length]
  by_cases hd : diffN (nats a) (nats b) = []
  · rw [hd]
    refine Ev.pos rfl (Ev.ret ?_)
    have e := flips_diff (nats_lt ha) (nats_lt hb) (by omega)
    rw [hd] at e
    have e' : nats a = nats b := e
    rw [e']
    simp
  · have h4 := apart (nats_lt ha) (nats_lt hb) (by omega) (by omega) hd
    have hlt := word_apart (a := nats a) (b := nats b) (by omega) (by omega)
    rw [ones_two (by omega)] at h4
    have hpos : (diffN (nats a) (nats b)).length ≠ 0 := fun h => hd (List.length_eq_zero_iff.1 h)
    have hlen : (diffN (nats a) (nats b)).length ≤ 480 := by
      unfold diffN
      refine Nat.le_trans (List.length_filter_le _ _) ?_
      rw [List.length_range]
      omega
    refine Ev.neg (by omega) ?_
    rw [xor_u16 hwa hwb]
    generalize wordN (nats a) ^^^ wordN (nats b) = w at h4 hlt ⊢
    generalize (diffN (nats a) (nats b)).length = d at h4 hpos hlen ⊢
    have hc := count_ev (l := [((w : Nat) : Int) % 256, ((w : Nat) : Int) / 256 % 256]) (by
      intro x hx
      simp only [List.mem_cons, List.not_mem_nil, or_false] at hx
      omega) (by simp)
    have e : nats [((w : Nat) : Int) % 256, ((w : Nat) : Int) / 256 % 256] = [w % 256, w / 256 % 256] := by
      show [_, _] = _
      congr 1
    rw [e] at hc
    refine Ev.bind hc (Ev.ret ?_)
    have hle := count_le [w % 256, w / 256 % 256]
    simp only [List.length_cons, List.length_nil] at hle
    generalize count [w % 256, w / 256 % 256] = c at h4 hle ⊢
    rw [w64_id (by omega) (by omega)]
    exact decide_eq_true (by omega)
theorem HammingApart : StmHammingApart := by
  intro a b _ ha' _ hb'
  have ha : ∀ x ∈ a, 0 ≤ x ∧ x < 256 := fun x hx => wf_u8 (ha'.2 x hx)
  have hb : ∀ x ∈ b, 0 ≤ x ∧ x < 256 := fun x hx => wf_u8 (hb'.2 x hx)
  clear ha' hb'
  refine Ev.rounds (Ev.congr (fun k => by rw [incunablelaw05_HammingApart.f]) ?_)
  refine Ev.bind hamming_awake_ev (Ev.pos rfl ?_)
  have hm : mn (a.length : Int) (b.length : Int) = ((min a.length b.length : Nat) : Int) := by
    unfold mn
    split <;> omega
  rw [hm, Int.toNat_natCast]
  clear hm
  generalize hmm : min a.length b.length = m
  refine Ev.ite (fun _ => Ev.ret rfl) (fun h60 => ?_)
  refine Ev.pos (by omega) (Ev.pos (by omega) (Ev.pos (by omega) ?_))
  have ha2 : ∀ x ∈ a.take m, 0 ≤ x ∧ x < 256 := fun x hx => ha x (List.mem_of_mem_take hx)
  have hb2 : ∀ x ∈ b.take m, 0 ≤ x ∧ x < 256 := fun x hx => hb x (List.mem_of_mem_take hx)
  have hla : (a.take m).length = m := by rw [List.length_take]; omega
  have hlb : (b.take m).length = m := by rw [List.length_take]; omega
  generalize a.take m = a at ha2 hla ⊢
  generalize b.take m = b at hb2 hlb ⊢
  refine Ev.bind (diff_ev ha2 hb2 (by omega) (by omega)) ?_
  refine Ev.bind (word_ev ha2 (by omega)) (Ev.bind (word_ev hb2 (by omega)) ?_)
  have hna := nats_length a
  have hnb := nats_length b
  have t1 := wordN_top (l := nats a) (by omega)
  have t2 := wordN_top (l := nats b) (by omega)
  refine Ev.pos rfl (Ev.pos rfl (Ev.pos (by omega) ?_))
  have e : (((wordN (nats b) : Nat) : Int) / 16384 != 3) = false := by
    rw [show ((wordN (nats b) : Nat) : Int) / 16384 = 3 by omega]
    rfl
  rw [e]
  exact apart_end ha2 hb2 (by omega) (by omega)
end Go.Proofs.Ytalejedajkhkjaa.Pure

/-
  HammingWords: any bytes have the document's word, and any word says of them what the document does. Conditions: the law's own.
-/
import Derived.Test.YtalejedajkhkjaaStmHammingWords
import Derived.Test.YtalejedajkhkjaaRefHamHammingWords
namespace Go.Proofs.Ytalejedajkhkjaa.Pure
open Go.RowKit Go.Proofs.Ytalejedajkhkjaa.QHammingWords Go.Proofs.YtalejedajkhkjaaW.PrintWords Go.Proofs.YtalejedajkhkjaaW.PrintLast Go.Proofs.YtalejedajkhkjaaW.PrintMore Go.Proofs.Ytalejedajkhkjaa.EvKit Go.Proofs.Ytalejedajkhkjaa.BitsKit Go.Proofs.Ytalejedajkhkjaa.CrcMath Go.Proofs.Ytalejedajkhkjaa.NatKit Go.Proofs.Ytalejedajkhkjaa.BitsMath Go.Proofs.Ytalejedajkhkjaa.LenMath Go.Proofs.Ytalejedajkhkjaa.HamMath Go.Proofs.Ytalejedajkhkjaa.PureHammingWords
theorem HammingWords : StmHammingWords := by
  intro l a hlen hl ha
  have hb : ∀ x ∈ l, 0 ≤ x ∧ x < 256 := fun x hx => wf_u8 (hl.2 x hx)
  obtain ⟨ha0, ha1⟩ := wf_u16 ha
  obtain ⟨w, rfl⟩ := Int.eq_ofNat_of_zero_le ha0
  refine Ev.rounds (Ev.congr (fun k => by rw [incunablelaw05_HammingWords.f]) ?_)
  refine Ev.bind hamming_awake_ev (Ev.pos rfl ?_)
  refine Ev.ite (fun h60 => ?_) (fun h60 => ?_)
  · by_cases h512 : (l.length : Int) > 512
    · have hw : Ev (fun k => hamming_Word.f k l) (0, 3) := Ev.congr (fun k => by rw [hamming_Word.f]) (Ev.pos h512 (Ev.ret rfl))
      refine Ev.bind hw (Ev.ret ?_)
      rw [decide_eq_true h512]
      rfl
    · refine Ev.bind (word_ev hb (by omega)) (Ev.ret ?_)
      rw [decide_eq_false h512]
      rfl
  · refine Ev.bind (word_ev hb (by omega)) ?_
    refine Ev.bind (judge_ev hb (by omega) (by omega)) ?_
    rw [w64_id (x := (w : Int)) (by omega) (by omega)]
    refine Ev.bind (rjudge_ev hb (by omega) (by omega)) ?_
    refine Ev.pos rfl ?_
    refine Ev.bind (rword_ev hb (by omega)) ?_
    have hwl := wordN_lt (l := nats l) (by rw [nats_length]; omega)
    rw [w64_id (x := ((wordN (nats l) : Nat) : Int)) (by omega) (by omega)]
    refine Ev.pos rfl ?_
    have e : (judgeN (nats l) w).2.2 = 0 := by
      unfold judgeN
      split
      · split <;> rfl
      · split
        · rfl
        · split <;> rfl
    refine Ev.pos e (Ev.pos rfl (Ev.ret ?_))
    simp
end Go.Proofs.Ytalejedajkhkjaa.Pure

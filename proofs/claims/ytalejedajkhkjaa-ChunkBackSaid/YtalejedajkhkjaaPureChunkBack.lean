/-
  ChunkBack: what is encoded is decoded, with one bit turned too; with two it is refused. Conditions: the law's own.
-/
import Derived.Test.YtalejedajkhkjaaStmChunkBack
import Derived.Test.YtalejedajkhkjaaChunkFnChunkBack
namespace Go.Proofs.Ytalejedajkhkjaa.Pure
open Go.RowKit Go.Proofs.Ytalejedajkhkjaa.QChunkBack Go.Proofs.YtalejedajkhkjaaW.PrintWords Go.Proofs.YtalejedajkhkjaaW.PrintLast Go.Proofs.YtalejedajkhkjaaW.PrintMore Go.Proofs.Ytalejedajkhkjaa.EvKit Go.Proofs.Ytalejedajkhkjaa.BitsKit Go.Proofs.Ytalejedajkhkjaa.CrcMath Go.Proofs.Ytalejedajkhkjaa.NatKit Go.Proofs.Ytalejedajkhkjaa.BitsMath Go.Proofs.Ytalejedajkhkjaa.LenMath Go.Proofs.Ytalejedajkhkjaa.HamMath Go.Proofs.Ytalejedajkhkjaa.ChunkMath Go.Proofs.Ytalejedajkhkjaa.PureChunkBack
theorem flips_one (l : List Nat) (i : Int) : flips l [i] = flip1 l i := rfl
theorem flips_two (l : List Nat) (i k : Int) : flips l [i, k] = flip1 (flip1 l i) k := rfl
theorem dec_none {l : List Nat} (h0 : 0 < l.length) (hn : l.length ≤ 60) : decN (encN l) = (ints l, 0, 0) := by
  unfold encN
  rw [decN_enc h0 (by omega), judge_clean (by omega)]
  rfl
theorem dec_one {l : List Nat} (hl : ∀ b ∈ l, b < 256) (h0 : 0 < l.length) (hn : l.length ≤ 60) {i : Nat} (hi : i < 8 * l.length + 14) : decN (flips (encN l) [(i : Int)]) = (ints l, 1, 0) := by
  unfold encN
  rw [flips_one]
  by_cases h : i < 8 * l.length
  · rw [flip_data h, decN_enc (by rw [flip1_length]; exact h0) (by rw [flip1_length]; omega)]
    have hj := judge_data (l := l) (by omega) h
    have e : flips l (upN [i]) = flip1 l (i : Int) := rfl
    rw [e] at hj
    rw [hj]
    show (ints (flips (flip1 l (i : Int)) [(i : Int)]), (1 : Int), (0 : Int)) = _
    rw [flips_one, flip1_twice hl]
  · obtain ⟨j, rfl⟩ : ∃ j, i = 8 * l.length + j := ⟨i - 8 * l.length, by omega⟩
    rw [flip_word (by omega), decN_enc h0 (by omega), judge_word (by omega) (by omega), if_neg (by omega)]
    rfl
theorem dec_two {l : List Nat} (h0 : 0 < l.length) (hn : l.length ≤ 60) {i k : Nat} (hi : i < 8 * l.length + 14) (hk : k < 8 * l.length + 14) (hne : i ≠ k) : decN (flips (encN l) [(i : Int), (k : Int)]) = ([], 0, 14) := by
  unfold encN
  rw [flips_two]
  have fin : ∀ d : List Nat, decOf d (3, 0, 0) = ([], 0, 14) := fun d => rfl
  by_cases h : i < 8 * l.length
  · rw [flip_data h]
    by_cases h' : k < 8 * l.length
    · rw [flip_data (by rw [flip1_length]; exact h'), decN_enc (by rw [flip1_length, flip1_length]; exact h0) (by rw [flip1_length, flip1_length]; omega)]
      have hj := judge_dd (l := l) (by omega) h h' hne
      have e : flips l (upN [i, k]) = flip1 (flip1 l (i : Int)) (k : Int) := rfl
      rw [e] at hj
      rw [hj]
      exact fin _
    · obtain ⟨j, rfl⟩ : ∃ j, k = 8 * l.length + j := ⟨k - 8 * l.length, by omega⟩
      have hfl := flip1_length l (i : Int)
      have hw := flip_word (l := flip1 l (i : Int)) (w := wordN l) (j := j) (by omega)
      rw [hfl] at hw
      rw [hw, decN_enc (by rw [hfl]; exact h0) (by rw [hfl]; omega)]
      have hj := judge_dw (l := l) (by omega) h (j := j) (by omega)
      have e : flips l (upN [i]) = flip1 l (i : Int) := rfl
      rw [e] at hj
      rw [hj]
      exact fin _
  · obtain ⟨j, rfl⟩ : ∃ j, i = 8 * l.length + j := ⟨i - 8 * l.length, by omega⟩
    rw [flip_word (by omega)]
    by_cases h' : k < 8 * l.length
    · rw [flip_data h', decN_enc (by rw [flip1_length]; exact h0) (by rw [flip1_length]; omega)]
      have hj := judge_dw (l := l) (by omega) h' (j := j) (by omega)
      have e : flips l (upN [k]) = flip1 l (k : Int) := rfl
      rw [e] at hj
      rw [hj]
      exact fin _
    · obtain ⟨j2, rfl⟩ : ∃ j, k = 8 * l.length + j := ⟨k - 8 * l.length, by omega⟩
      rw [flip_word (by omega), decN_enc h0 (by omega), Nat.xor_assoc, judge_ww (by omega) (by omega) (by omega) (by omega)]
      exact fin _
theorem ChunkBack : StmChunkBack := by
  intro l ⟨a, b⟩ hlen hl ⟨ha, hb'⟩
  have hb : ∀ x ∈ l, 0 ≤ x ∧ x < 256 := fun x hx => wf_u8 (hl.2 x hx)
  obtain ⟨ha0, ha1⟩ := wf_u16 ha
  obtain ⟨hb0, hb1⟩ := wf_u16 hb'
  dsimp only at ha0 ha1 hb0 hb1 ⊢
  clear ha hb' hl
  refine Ev.rounds (Ev.congr (fun k => by rw [incunablelaw06_ChunkBack.f]) ?_)
  refine Ev.bind chunk_awake_ev (Ev.pos rfl ?_)
  have hj : Ev (fun k => incunablelaw06_ChunkBack.j0 k l true a b) true := Ev.step (fun k => incunablelaw06_ChunkBack.j0.eq_2 ..) (Ev.pos rfl (Ev.ret rfl))
  refine Ev.ite (fun _ => hj) (fun h0 => ?_)
  by_cases h60 : (l.length : Int) > 60
  · rw [decide_eq_true h60]
    exact hj
  rw [decide_eq_false h60]
  clear hj
  have hnl : (nats l).length = l.length := nats_length l
  have hll := nats_lt hb
  have hwl := wordN_lt (l := nats l) (by omega)
  have hel := encW_length (nats l) (wordN (nats l))
  have heb := ints_byte (encW_lt (w := wordN (nats l)) hll hwl)
  have hen : ints (encN (nats l)) = ints (encW (nats l) (wordN (nats l))) := rfl
  refine Ev.step (fun k => incunablelaw06_ChunkBack.j0.eq_2 ..) ?_
  refine Ev.neg (by decide) ?_
  refine Ev.bind (encode_ev hb (by omega) (by omega)) ?_
  have e1 : wrap64 (8 * (l.length : Int)) = 8 * (l.length : Int) := w64_id (by omega) (by omega)
  have e2 : wrap64 (8 * (l.length : Int) + 14) = 8 * (l.length : Int) + 14 := w64_id (by omega) (by omega)
  have e3 : wrap64 a = a := w64_id (by omega) (by omega)
  have e4 : wrap64 b = b := w64_id (by omega) (by omega)
  rw [e1, e2, e3, e4]
  clear e1 e2 e3 e4
  refine Ev.neg (by omega) ?_
  rw [Int.tmod_eq_emod_of_nonneg ha0, Int.tmod_eq_emod_of_nonneg hb0]
  obtain ⟨i, hi⟩ : ∃ q : Nat, a % (8 * (l.length : Int) + 14) = (q : Int) := Int.eq_ofNat_of_zero_le (Int.emod_nonneg _ (by omega))
  obtain ⟨k, hk⟩ : ∃ q : Nat, b % (8 * (l.length : Int) + 14) = (q : Int) := Int.eq_ofNat_of_zero_le (Int.emod_nonneg _ (by omega))
  have hi2 := Int.emod_lt_of_pos a (show 0 < 8 * (l.length : Int) + 14 by omega)
  have hk2 := Int.emod_lt_of_pos b (show 0 < 8 * (l.length : Int) + 14 by omega)
  rw [hi] at hi2 ⊢
  rw [hk] at hk2 ⊢
  clear hi hk
  dsimp only
  have hxn : (ints (encN (nats l))).length = l.length + 2 := by rw [hen, ints_length, hel, hnl]
  have d0 := decode_ev (r := ints (encN (nats l))) heb (by omega)
  rw [nats_ints, dec_none (by omega) (by omega), ints_nats fun x hx => (hb x hx).1] at d0
  refine Ev.bind d0 ?_
  have f1 := flip_ev (l := ints (encN (nats l))) (at_ := [(i : Int)]) heb (by omega) (by intro z hz; rw [List.mem_singleton.1 hz]; omega) (by simp)
  rw [nats_ints] at f1
  refine Ev.bind f1 ?_
  have d1 := decode_ev (r := ints (flips (encN (nats l)) [(i : Int)])) (ints_byte (flips_lt _ (encW_lt hll hwl))) (by rw [ints_length, flips_length]; rw [ints_length] at hxn; omega)
  rw [nats_ints, dec_one hll (by omega) (by omega) (by omega), ints_nats fun x hx => (hb x hx).1] at d1
  refine Ev.bind d1 ?_
  refine Ev.pos rfl (Ev.pos rfl (Ev.pos rfl ?_))
  have s1 := same_ev l l (by omega)
  rw [decide_eq_true rfl] at s1
  refine Ev.bind s1 (Ev.pos rfl (Ev.bind s1 (Ev.pos rfl (Ev.pos rfl ?_))))
  refine Ev.step (fun k => incunablelaw06_ChunkBack.j1.eq_2 ..) ?_
  refine Ev.neg (by simp) ?_
  refine Ev.ite (fun _ => Ev.ret rfl) (fun hne => ?_)
  have f2 := flip_ev (l := ints (encN (nats l))) (at_ := [(i : Int), (k : Int)]) heb (by omega) (by
    intro z hz
    simp only [List.mem_cons, List.not_mem_nil, or_false] at hz
    omega) (by simp)
  rw [nats_ints] at f2
  refine Ev.bind f2 ?_
  have d2 := decode_ev (r := ints (flips (encN (nats l)) [(i : Int), (k : Int)])) (ints_byte (flips_lt _ (encW_lt hll hwl))) (by rw [ints_length, flips_length]; rw [ints_length] at hxn; omega)
  rw [nats_ints, dec_two (by omega) (by omega) (by omega) (by omega) (by omega)] at d2
  refine Ev.bind d2 (Ev.pos rfl (Ev.pos rfl (Ev.ret rfl)))
end Go.Proofs.Ytalejedajkhkjaa.Pure

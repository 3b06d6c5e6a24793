/-
  What chunk.Encode and chunk.Decode come to.
-/
import Derived.Test.YtalejedajkhkjaaJudgedChunkBack
import Derived.Test.YtalejedajkhkjaaFlipChunkBack
import Derived.Test.YtalejedajkhkjaaSameChunkBack
import Derived.Test.YtalejedajkhkjaaChunkMath
namespace Go.Proofs.Ytalejedajkhkjaa.PureChunkBack
open Go.RowKit Go.Proofs.Ytalejedajkhkjaa.QChunkBack Go.Proofs.YtalejedajkhkjaaW.PrintWords Go.Proofs.YtalejedajkhkjaaW.PrintLast Go.Proofs.YtalejedajkhkjaaW.PrintMore Go.Proofs.Ytalejedajkhkjaa.EvKit Go.Proofs.Ytalejedajkhkjaa.BitsKit Go.Proofs.Ytalejedajkhkjaa.CrcMath Go.Proofs.Ytalejedajkhkjaa.NatKit Go.Proofs.Ytalejedajkhkjaa.BitsMath Go.Proofs.Ytalejedajkhkjaa.LenMath Go.Proofs.Ytalejedajkhkjaa.HamMath Go.Proofs.Ytalejedajkhkjaa.ChunkMath
/-- bytes' codeword -/
def encN (l : List Nat) : List Nat := encW l (wordN l)
theorem encode_ev {l : List Int} (hl : ∀ x ∈ l, 0 ≤ x ∧ x < 256) (h0 : 0 < l.length) (hn : l.length ≤ 512) : Ev (fun k => chunk_Encode.f k l) (ints (encN (nats l)), 0) := by
  have hw := wordN_lt (l := nats l) (by rw [nats_length]; omega)
  refine Ev.congr (fun k => by rw [chunk_Encode.f]) ?_
  refine Ev.neg (by omega) ?_
  rw [decide_eq_false (by omega)]
  refine Ev.step (fun k => chunk_Encode.j0.eq_2 ..) ?_
  refine Ev.neg (by decide) ?_
  refine Ev.bind (word_ev hl hn) (Ev.pos rfl ?_)
  generalize hww : wordN (nats l) = w at hw ⊢
  refine Ev.bindv rfl (Ev.pos (by rw [List.length_nil]; omega) (Ev.bindv rfl (Ev.bindv rfl (Ev.pos ?_ (Ev.ret ?_)))))
  · rw [List.nil_append, List.length_cons, List.length_singleton]
    omega
  · unfold encN encW
    rw [hww, List.nil_append]
    have e : ints (nats l ++ [w % 256, w / 256]) = l ++ [((w % 256 : Nat) : Int), ((w / 256 : Nat) : Int)] := by
      unfold ints
      rw [List.map_append]
      have h := ints_nats (l := l) fun x hx => (hl x hx).1
      unfold ints at h
      rw [h]
      rfl
    rw [e, show (w : Int) % 256 = ((w % 256 : Nat) : Int) from by omega, show (w : Int) / 256 % 256 = ((w / 256 : Nat) : Int) from by omega]
theorem encode_off {l : List Int} (h : l.length = 0 ∨ 512 < l.length) : Ev (fun k => chunk_Encode.f k l) ([], 2) := by
  refine Ev.congr (fun k => by rw [chunk_Encode.f]) ?_
  have hj : Ev (fun k => chunk_Encode.j0 k l true) ([], 2) := Ev.step (fun k => chunk_Encode.j0.eq_2 ..) (Ev.pos rfl (Ev.ret rfl))
  refine Ev.ite (fun _ => hj) (fun h1 => ?_)
  rw [decide_eq_true (by omega)]
  exact hj
/-- a codeword's bytes, or why not -/
def decOf (d : List Nat) (j : Int × Int × Int) : List Int × Int × Int :=
  if j.1 = 0 then (ints d, 0, 0) else if j.1 = 1 then (ints (flips d [j.2.1]), 1, 0) else if j.1 = 2 then (ints d, 1, 0) else ([], 0, 14)
def decN (r : List Nat) : List Int × Int × Int :=
  if r.length < 3 ∨ 514 < r.length then ([], 0, 2) else decOf (r.take (r.length - 2)) (judgeN (r.take (r.length - 2)) (r.getD (r.length - 2) 0 + 256 * r.getD (r.length - 1) 0))
theorem or_word {a b : Nat} (ha : a < 256) (hb : b < 256) : Go.bits .or .u16 (IntKind.u16.wrap (a : Int)) (IntKind.u16.wrap (IntKind.u16.wrap (b : Int) * 256)) = ((a + 256 * b : Nat) : Int) := by
  rw [w_u16 (a : Int) (by omega) (by omega), w_u16 (b : Int) (by omega) (by omega), w_u16 _ (by omega) (by omega), show (b : Int) * 256 = ((256 * b : Nat) : Int) by omega, or_u16 (by omega) (by omega)]
  have := Nat.two_pow_add_eq_or_of_lt (i := 8) (b := a) (by omega) b
  rw [show 2 ^ 8 = 256 from rfl] at this
  rw [Nat.or_comm, ← this, Nat.add_comm]
theorem judgeN_states (l : List Nat) (w : Nat) : (judgeN l w).2.2 = 0 ∧ ((judgeN l w).1 = 0 ∨ (judgeN l w).1 = 1 ∨ (judgeN l w).1 = 2 ∨ (judgeN l w).1 = 3) ∧ (judgeN l w).2.1 ≤ 8192 := by
  have := wrongN_lt l w
  unfold judgeN
  split
  · split
    · exact ⟨rfl, Or.inl rfl, by show (0 : Int) ≤ 8192; omega⟩
    · exact ⟨rfl, Or.inr (Or.inr (Or.inr rfl)), by show (0 : Int) ≤ 8192; omega⟩
  · split
    · exact ⟨rfl, Or.inr (Or.inr (Or.inl rfl)), by show (0 : Int) ≤ 8192; omega⟩
    · split
      · refine ⟨rfl, Or.inr (Or.inl rfl), ?_⟩
        show ((wrongN l w - 1 - len (wrongN l w) : Nat) : Int) ≤ 8192
        omega
      · exact ⟨rfl, Or.inr (Or.inr (Or.inr rfl)), by show (0 : Int) ≤ 8192; omega⟩
theorem decode_ev {r : List Int} (hr : ∀ x ∈ r, 0 ≤ x ∧ x < 256) (hn : r.length < 1000000) : Ev (fun k => chunk_Decode.f k r) (decN (nats r)) := by
  have hlen := nats_length r
  have e1 : wrap64 ((r.length : Int) - 2) = (r.length : Int) - 2 := w64_id (by omega) (by omega)
  refine Ev.congr (fun k => by rw [chunk_Decode.f]) ?_
  rw [e1]
  clear e1
  unfold decN
  rw [hlen]
  have hj : Ev (fun k => chunk_Decode.j0 k r ((r.length : Int) - 2) true) ([], 0, 2) := Ev.step (fun k => chunk_Decode.j0.eq_2 ..) (Ev.pos rfl (Ev.ret rfl))
  refine Ev.ite (fun h => ?_) (fun h => ?_)
  · rw [if_pos (by omega)]
    exact hj
  by_cases h512 : (r.length : Int) - 2 > 512
  · rw [decide_eq_true h512, if_pos (by omega)]
    exact hj
  rw [decide_eq_false h512, if_neg (by omega)]
  clear hj
  obtain ⟨n, hn2⟩ : ∃ n, r.length = n + 2 := ⟨r.length - 2, by omega⟩
  have e2 : (r.length : Int) - 2 = (n : Int) := by omega
  rw [e2, hn2, show n + 2 - 2 = n by omega, show n + 2 - 1 = n + 1 by omega]
  refine Ev.step (fun k => chunk_Decode.j0.eq_2 ..) ?_
  rw [w64_succ (by omega), Int.toNat_natCast]
  refine Ev.neg (by decide) (Ev.pos (by omega) (Ev.pos (by omega) (Ev.pos (by omega) (Ev.pos (by omega) (Ev.pos (by omega) ?_)))))
  have b1 := hr _ (rd_mem (l := r) (i := (n : Int)) (by omega) (by omega))
  have b2 := hr _ (rd_mem (l := r) (i := ((n + 1 : Nat) : Int)) (by omega) (by omega))
  have r1 := rd_nats (l := r) (fun x hx => (hr x hx).1) n
  have r2 := rd_nats (l := r) (fun x hx => (hr x hx).1) (n + 1)
  rw [r1] at b1 ⊢
  rw [r2] at b2 ⊢
  rw [or_word (by omega) (by omega)]
  have hd : ∀ x ∈ r.take n, 0 ≤ x ∧ x < 256 := fun x hx => hr x (List.mem_of_mem_take hx)
  have hdl : (r.take n).length = n := by rw [List.length_take]; omega
  refine Ev.bind (judge_ev hd (by omega) (by omega)) ?_
  rw [nats_take]
  have hst := judgeN_states ((nats r).take n) ((nats r).getD n 0 + 256 * (nats r).getD (n + 1) 0)
  generalize judgeN ((nats r).take n) ((nats r).getD n 0 + 256 * (nats r).getD (n + 1) 0) = j at hst ⊢
  obtain ⟨s, b, e⟩ := j
  obtain ⟨h1, h2, h3⟩ := hst
  dsimp only at h1 h2 h3 ⊢
  refine Ev.pos h1 ?_
  unfold decOf
  have hf0 := flip_ev (l := r.take n) (at_ := []) hd (by omega) (by intro i hi; exact absurd hi (by simp)) (by simp)
  have hf1 := flip_ev (l := r.take n) (at_ := [b]) hd (by omega) (by intro i hi; rw [List.mem_singleton.1 hi]; omega) (by simp)
  rw [nats_take] at hf0 hf1
  dsimp only
  refine Ev.ite (fun hs => ?_) (fun hs => ?_)
  · rw [if_pos hs]
    exact Ev.bind hf0 (Ev.ret rfl)
  rw [if_neg hs]
  refine Ev.ite (fun hs => ?_) (fun hs => ?_)
  · rw [if_pos hs]
    exact Ev.bind hf1 (Ev.ret rfl)
  rw [if_neg hs]
  refine Ev.ite (fun hs => ?_) (fun hs => ?_)
  · rw [if_pos hs]
    exact Ev.bind hf0 (Ev.ret rfl)
  rw [if_neg hs]
  exact Ev.ret rfl
theorem decN_enc {l : List Nat} {w : Nat} (h0 : 0 < l.length) (hn : l.length ≤ 512) : decN (encW l w) = decOf l (judgeN l w) := by
  unfold decN
  rw [encW_length, if_neg (by omega), show l.length + 2 - 2 = l.length by omega, show l.length + 2 - 1 = l.length + 1 by omega, encW_take, encW_low, encW_high, show w % 256 + 256 * (w / 256) = w by omega]
theorem chunk_awake_ev : Ev (fun k => incunablelaw06_awake.f k) true := by
  refine Ev.congr (fun k => by rw [incunablelaw06_awake.f]) ?_
  refine Ev.bind (encode_ev (l := [0]) (by simp) (by decide) (by decide)) (Ev.pos rfl ?_)
  have e : ints (encN (nats [0])) = [0, 0, 192] := by decide +kernel
  rw [e]
  exact Ev.bind (same_ev [0, 0, 192] [0, 0, 192] (by simp)) (Ev.ret (by simp))
end Go.Proofs.Ytalejedajkhkjaa.PureChunkBack

/-
  Texts for the law ChunkCodes, laid together by my program merge.py: each of them begins with what it says.
-/
import Derived.Test.YtalejedajkhkjaaMChunkCodesx2
/-
  What the document's comparison of two lists of bytes comes to: are they one list.
-/
namespace Go.Proofs.Ytalejedajkhkjaa.PureChunkCodes
open Go.RowKit Go.Proofs.Ytalejedajkhkjaa.QChunkCodes Go.Proofs.YtalejedajkhkjaaW.PrintWords Go.Proofs.YtalejedajkhkjaaW.PrintLast Go.Proofs.Ytalejedajkhkjaa.EvKit

theorem same_l0 (a b : List Int) (hl : a.length = b.length) (hb : a.length < 1000000000) (d : Nat) : ∀ i : Nat, i + d = a.length →
    Ev (fun k => incunableref01_Same.l0 k a b (i : Int)) (decide (a.drop i = b.drop i)) := by
  induction d with
  | zero =>
    intro i hi
    refine Ev.step (fun k => incunableref01_Same.l0.eq_2 ..) ?_
    refine Ev.neg (by omega) (Ev.ret ?_)
    rw [List.drop_of_length_le (by omega), List.drop_of_length_le (by omega)]
    rfl
  | succ d ih =>
    intro i hi
    refine Ev.step (fun k => incunableref01_Same.l0.eq_2 ..) ?_
    refine Ev.pos (by omega) (Ev.pos (by omega) (Ev.pos (by omega) ?_))
    rw [drop_rd (l := a) (i := i) (by omega), drop_rd (l := b) (i := i) (by omega)]
    refine Ev.ite (fun h => ?_) (fun h => Ev.ret ?_)
    · rw [w64_succ (by omega), h]
      refine Ev.eq (ih (i + 1) (by omega)) ?_
      simp
    · simp [h]
theorem same_ev (a b : List Int) (hb : a.length < 1000000000) : Ev (fun k => incunableref01_Same.f k a b) (decide (a = b)) := by
  refine Ev.congr (fun k => by rw [incunableref01_Same.f]) ?_
  refine Ev.ite (fun h => ?_) (fun h => Ev.ret ?_)
  · exact same_l0 a b (by omega) hb a.length 0 (by omega)
  · have : a ≠ b := fun e => h (by rw [e])
    simp [this]
end Go.Proofs.Ytalejedajkhkjaa.PureChunkCodes
/-
  Plain laws on code words behind their bytes: which bit is turned where. No program in sight.
-/
namespace Go.Proofs.Ytalejedajkhkjaa.ChunkMath
open Go.RowKit Go.Proofs.Ytalejedajkhkjaa.CrcMath Go.Proofs.Ytalejedajkhkjaa.BitsMath Go.Proofs.Ytalejedajkhkjaa.LenMath Go.Proofs.Ytalejedajkhkjaa.HamMath
/-- bytes, and a word behind them, the lower byte first -/
def encW (l : List Nat) (w : Nat) : List Nat := l ++ [w % 256, w / 256]
theorem encW_length (l : List Nat) (w : Nat) : (encW l w).length = l.length + 2 := by
  unfold encW
  rw [List.length_append]
  rfl
theorem encW_lt {l : List Nat} {w : Nat} (h : ∀ b ∈ l, b < 256) (hw : w < 65536) : ∀ b ∈ encW l w, b < 256 := by
  intro b hb
  unfold encW at hb
  rcases List.mem_append.1 hb with hb | hb
  · exact h b hb
  · simp only [List.mem_cons, List.not_mem_nil, or_false] at hb
    omega
theorem encW_take (l : List Nat) (w : Nat) : (encW l w).take l.length = l := by
  unfold encW
  rw [List.take_left]
theorem encW_low (l : List Nat) (w : Nat) : (encW l w).getD l.length 0 = w % 256 := by
  unfold encW
  rw [List.getD_eq_getElem?_getD, List.getElem?_append_right (Nat.le_refl _), Nat.sub_self]
  rfl
theorem encW_high (l : List Nat) (w : Nat) : (encW l w).getD (l.length + 1) 0 = w / 256 := by
  unfold encW
  rw [List.getD_eq_getElem?_getD, List.getElem?_append_right (by omega), show l.length + 1 - l.length = 1 by omega]
  rfl
theorem flip_data {l : List Nat} {w i : Nat} (hi : i < 8 * l.length) : flip1 (encW l w) (i : Int) = encW (flip1 l (i : Int)) w := by
  have hq : i / 8 < l.length := by omega
  unfold flip1
  rw [if_pos (by rw [encW_length]; omega), if_pos (by omega), Int.toNat_natCast]
  unfold encW
  rw [List.set_append_left _ _ hq, List.getD_eq_getElem?_getD, List.getElem?_append_left hq, ← List.getD_eq_getElem?_getD]
theorem xor_byte (w j : Nat) : (w ^^^ 2 ^ j) % 256 = w % 256 ^^^ 2 ^ j % 256 := Nat.xor_mod_two_pow (n := 8)
theorem xor_top (w j : Nat) : (w ^^^ 2 ^ j) / 256 = w / 256 ^^^ 2 ^ j / 256 := by
  have := Nat.shiftRight_xor_distrib (a := w) (b := 2 ^ j) (i := 8)
  rwa [Nat.shiftRight_eq_div_pow, Nat.shiftRight_eq_div_pow, Nat.shiftRight_eq_div_pow] at this
theorem flip_word {l : List Nat} {w j : Nat} (hj : j < 16) : flip1 (encW l w) ((8 * l.length + j : Nat) : Int) = encW l (w ^^^ 2 ^ j) := by
  have hlen := encW_length l w
  have hq : (8 * l.length + j) / 8 = l.length + j / 8 := by omega
  have hr : (8 * l.length + j) % 8 = j % 8 := by omega
  unfold flip1
  rw [if_pos (by omega), Int.toNat_natCast, hq, hr]
  by_cases h8 : j < 8
  · rw [show j / 8 = 0 by omega, Nat.add_zero, encW_low, show j % 8 = j by omega]
    have p1 : 2 ^ j % 256 = 2 ^ j := Nat.mod_eq_of_lt (Nat.pow_lt_pow_right (n := 8) (by decide) h8)
    have p2 : 2 ^ j / 256 = 0 := Nat.div_eq_of_lt (Nat.pow_lt_pow_right (n := 8) (by decide) h8)
    unfold encW
    rw [xor_byte, xor_top, p1, p2, Nat.xor_zero, List.set_append_right _ _ (Nat.le_refl _), Nat.sub_self]
    rfl
  · rw [show j / 8 = 1 by omega, encW_high]
    have e : 2 ^ j = 256 * 2 ^ (j % 8) := by
      rw [show (256 : Nat) = 2 ^ 8 from rfl, ← Nat.pow_add]
      congr 1
      omega
    have p1 : 2 ^ j % 256 = 0 := by rw [e, Nat.mul_mod_right]
    have p2 : 2 ^ j / 256 = 2 ^ (j % 8) := by rw [e, Nat.mul_div_cancel_left _ (by decide)]
    unfold encW
    rw [xor_byte, xor_top, p1, p2, Nat.xor_zero, List.set_append_right _ _ (by omega), show l.length + 1 - l.length = 1 by omega]
    rfl
end Go.Proofs.Ytalejedajkhkjaa.ChunkMath
/-
  What chunk.Encode and chunk.Decode come to.
-/
namespace Go.Proofs.Ytalejedajkhkjaa.PureChunkCodes
open Go.RowKit Go.Proofs.Ytalejedajkhkjaa.QChunkCodes Go.Proofs.YtalejedajkhkjaaW.PrintWords Go.Proofs.YtalejedajkhkjaaW.PrintLast Go.Proofs.YtalejedajkhkjaaW.PrintMore Go.Proofs.Ytalejedajkhkjaa.EvKit Go.Proofs.Ytalejedajkhkjaa.BitsKit Go.Proofs.Ytalejedajkhkjaa.CrcMath Go.Proofs.Ytalejedajkhkjaa.NatKit Go.Proofs.Ytalejedajkhkjaa.BitsMath Go.Proofs.Ytalejedajkhkjaa.LenMath Go.Proofs.Ytalejedajkhkjaa.HamMath Go.Proofs.Ytalejedajkhkjaa.ChunkMath
/-- bytes' codeword -/
def encN (l : List Nat) : List Nat := encW l (wordN l)
theorem encode_ev {l : List Int} (hl : ∀ x ∈ l, 0 ≤ x ∧ x < 256) (h0 : 0 < l.length) (hn : l.length ≤ 512) : Ev (fun k => chunk_Encode.f k l) (ints (encN (nats l)), 0) := by
  have hw := wordN_lt (l := nats l) (by rw [nats_length]; omega)
  refine Ev.congr (fun k => by rw [chunk_Encode.f]) ?_
  refine Ev.neg (by omega) ?_
  rw [decide_eq_false (by omega)]
  refine Ev.step (fun k => chunk_Encode.j0.eq_2 ..) ?_
  refine Ev.neg (by decide) ?_
  refine Ev.bind (word_ev hl hn) (Ev.pos rfl ?_)
  generalize hww : wordN (nats l) = w at hw ⊢
  refine Ev.bindv rfl (Ev.pos (by rw [List.length_nil]; omega) (Ev.bindv rfl (Ev.bindv rfl (Ev.pos ?_ (Ev.ret ?_)))))
  · rw [List.nil_append, List.length_cons, List.length_singleton]
    omega
  · unfold encN encW
    rw [hww, List.nil_append]
    have e : ints (nats l ++ [w % 256, w / 256]) = l ++ [((w % 256 : Nat) : Int), ((w / 256 : Nat) : Int)] := by
      unfold ints
      rw [List.map_append]
      have h := ints_nats (l := l) fun x hx => (hl x hx).1
      unfold ints at h
      rw [h]
      rfl
    rw [e, show (w : Int) % 256 = ((w % 256 : Nat) : Int) from by omega, show (w : Int) / 256 % 256 = ((w / 256 : Nat) : Int) from by omega]
theorem encode_off {l : List Int} (h : l.length = 0 ∨ 512 < l.length) : Ev (fun k => chunk_Encode.f k l) ([], 2) := by
  refine Ev.congr (fun k => by rw [chunk_Encode.f]) ?_
  have hj : Ev (fun k => chunk_Encode.j0 k l true) ([], 2) := Ev.step (fun k => chunk_Encode.j0.eq_2 ..) (Ev.pos rfl (Ev.ret rfl))
  refine Ev.ite (fun _ => hj) (fun h1 => ?_)
  rw [decide_eq_true (by omega)]
  exact hj
/-- a codeword's bytes, or why not -/
def decOf (d : List Nat) (j : Int × Int × Int) : List Int × Int × Int :=
  if j.1 = 0 then (ints d, 0, 0) else if j.1 = 1 then (ints (flips d [j.2.1]), 1, 0) else if j.1 = 2 then (ints d, 1, 0) else ([], 0, 14)
def decN (r : List Nat) : List Int × Int × Int :=
  if r.length < 3 ∨ 514 < r.length then ([], 0, 2) else decOf (r.take (r.length - 2)) (judgeN (r.take (r.length - 2)) (r.getD (r.length - 2) 0 + 256 * r.getD (r.length - 1) 0))
theorem or_word {a b : Nat} (ha : a < 256) (hb : b < 256) : Go.bits .or .u16 (IntKind.u16.wrap (a : Int)) (IntKind.u16.wrap (IntKind.u16.wrap (b : Int) * 256)) = ((a + 256 * b : Nat) : Int) := by
  rw [w_u16 (a : Int) (by omega) (by omega), w_u16 (b : Int) (by omega) (by omega), w_u16 _ (by omega) (by omega), show (b : Int) * 256 = ((256 * b : Nat) : Int) by omega, or_u16 (by omega) (by omega)]
  have := Nat.two_pow_add_eq_or_of_lt (i := 8) (b := a) (by omega) b
  rw [show 2 ^ 8 = 256 from rfl] at this
  rw [Nat.or_comm, ← this, Nat.add_comm]
theorem judgeN_states (l : List Nat) (w : Nat) : (judgeN l w).2.2 = 0 ∧ ((judgeN l w).1 = 0 ∨ (judgeN l w).1 = 1 ∨ (judgeN l w).1 = 2 ∨ (judgeN l w).1 = 3) ∧ (judgeN l w).2.1 ≤ 8192 := by
  have := wrongN_lt l w
  unfold judgeN
  split
  · split
    · exact ⟨rfl, Or.inl rfl, by show (0 : Int) ≤ 8192; omega⟩
    · exact ⟨rfl, Or.inr (Or.inr (Or.inr rfl)), by show (0 : Int) ≤ 8192; omega⟩
  · split
    · exact ⟨rfl, Or.inr (Or.inr (Or.inl rfl)), by show (0 : Int) ≤ 8192; omega⟩
    · split
      · refine ⟨rfl, Or.inr (Or.inl rfl), ?_⟩
        show ((wrongN l w - 1 - len (wrongN l w) : Nat) : Int) ≤ 8192
        omega
      · exact ⟨rfl, Or.inr (Or.inr (Or.inr rfl)), by show (0 : Int) ≤ 8192; omega⟩
theorem decode_ev {r : List Int} (hr : ∀ x ∈ r, 0 ≤ x ∧ x < 256) (hn : r.length < 1000000) : Ev (fun k => chunk_Decode.f k r) (decN (nats r)) := by
  have hlen := nats_length r
  have e1 : wrap64 ((r.length : Int) - 2) = (r.length : Int) - 2 := w64_id (by omega) (by omega)
  refine Ev.congr (fun k => by rw [chunk_Decode.f]) ?_
  rw [e1]
  clear e1
  unfold decN
  rw [hlen]
  have hj : Ev (fun k => chunk_Decode.j0 k r ((r.length : Int) - 2) true) ([], 0, 2) := Ev.step (fun k => chunk_Decode.j0.eq_2 ..) (Ev.pos rfl (Ev.ret rfl))
  refine Ev.ite (fun h => ?_) (fun h => ?_)
  · rw [if_pos (by omega)]
    exact hj
  by_cases h512 : (r.length : Int) - 2 > 512
  · rw [decide_eq_true h512, if_pos (by omega)]
    exact hj
  rw [decide_eq_false h512, if_neg (by omega)]
  clear hj
  obtain ⟨n, hn2⟩ : ∃ n, r.length = n + 2 := ⟨r.length - 2, by omega⟩
  have e2 : (r.length : Int) - 2 = (n : Int) := by omega
  rw [e2, hn2, show n + 2 - 2 = n by omega, show n + 2 - 1 = n + 1 by omega]
  refine Ev.step (fun k => chunk_Decode.j0.eq_2 ..) ?_
  rw [w64_succ (by omega), Int.toNat_natCast]
  refine Ev.neg (by decide) (Ev.pos (by omega) (Ev.pos (by omega) (Ev.pos (by omega) (Ev.pos (by omega) (Ev.pos (by omega) ?_)))))
  have b1 := hr _ (rd_mem (l := r) (i := (n : Int)) (by omega) (by omega))
  have b2 := hr _ (rd_mem (l := r) (i := ((n + 1 : Nat) : Int)) (by omega) (by omega))
  have r1 := rd_nats (l := r) (fun x hx => (hr x hx).1) n
  have r2 := rd_nats (l := r) (fun x hx => (hr x hx).1) (n + 1)
  rw [r1] at b1 ⊢
  rw [r2] at b2 ⊢
  rw [or_word (by omega) (by omega)]
  have hd : ∀ x ∈ r.take n, 0 ≤ x ∧ x < 256 := fun x hx => hr x (List.mem_of_mem_take hx)
  have hdl : (r.take n).length = n := by rw [List.length_take]; omega
  refine Ev.bind (judge_ev hd (by omega) (by omega)) ?_
  rw [nats_take]
  have hst := judgeN_states ((nats r).take n) ((nats r).getD n 0 + 256 * (nats r).getD (n + 1) 0)
  generalize judgeN ((nats r).take n) ((nats r).getD n 0 + 256 * (nats r).getD (n + 1) 0) = j at hst ⊢
  obtain ⟨s, b, e⟩ := j
  obtain ⟨h1, h2, h3⟩ := hst
  dsimp only at h1 h2 h3 ⊢
  refine Ev.pos h1 ?_
  unfold decOf
  have hf0 := flip_ev (l := r.take n) (at_ := []) hd (by omega) (by intro i hi; exact absurd hi (by simp)) (by simp)
  have hf1 := flip_ev (l := r.take n) (at_ := [b]) hd (by omega) (by intro i hi; rw [List.mem_singleton.1 hi]; omega) (by simp)
  rw [nats_take] at hf0 hf1
  dsimp only
  refine Ev.ite (fun hs => ?_) (fun hs => ?_)
  · rw [if_pos hs]
    exact Ev.bind hf0 (Ev.ret rfl)
  rw [if_neg hs]
  refine Ev.ite (fun hs => ?_) (fun hs => ?_)
  · rw [if_pos hs]
    exact Ev.bind hf1 (Ev.ret rfl)
  rw [if_neg hs]
  refine Ev.ite (fun hs => ?_) (fun hs => ?_)
  · rw [if_pos hs]
    exact Ev.bind hf0 (Ev.ret rfl)
  rw [if_neg hs]
  exact Ev.ret rfl
theorem decN_enc {l : List Nat} {w : Nat} (h0 : 0 < l.length) (hn : l.length ≤ 512) : decN (encW l w) = decOf l (judgeN l w) := by
  unfold decN
  rw [encW_length, if_neg (by omega), show l.length + 2 - 2 = l.length by omega, show l.length + 2 - 1 = l.length + 1 by omega, encW_take, encW_low, encW_high, show w % 256 + 256 * (w / 256) = w by omega]
theorem chunk_awake_ev : Ev (fun k => incunablelaw06_awake.f k) true := by
  refine Ev.congr (fun k => by rw [incunablelaw06_awake.f]) ?_
  refine Ev.bind (encode_ev (l := [0]) (by simp) (by decide) (by decide)) (Ev.pos rfl ?_)
  have e : ints (encN (nats [0])) = [0, 0, 192] := by decide +kernel
  rw [e]
  exact Ev.bind (same_ev [0, 0, 192] [0, 0, 192] (by simp)) (Ev.ret (by simp))
end Go.Proofs.Ytalejedajkhkjaa.PureChunkCodes
/-
  The document's powers and places.
-/
namespace Go.Proofs.Ytalejedajkhkjaa.PureChunkCodes
open Go.RowKit Go.Proofs.Ytalejedajkhkjaa.QChunkCodes Go.Proofs.YtalejedajkhkjaaW.PrintWords Go.Proofs.YtalejedajkhkjaaW.PrintLast Go.Proofs.YtalejedajkhkjaaW.PrintMore Go.Proofs.Ytalejedajkhkjaa.EvKit Go.Proofs.Ytalejedajkhkjaa.BitsKit Go.Proofs.Ytalejedajkhkjaa.LenMath
theorem power_ev (n : Nat) : 0 < n → n < 4194304 → Ev (fun k => incunableref05_Power.f k (n : Int)) (isPow n) := by
  induction n using Nat.strongRecOn with
  | _ n ih =>
    intro h0 hn
    refine Ev.congr (fun k => by rw [incunableref05_Power.f]) ?_
    refine Ev.step (fun k => incunableref05_Power.l0.eq_2 ..) ?_
    refine Ev.ite (fun h1 => ?_) (fun h1 => Ev.ret ?_)
    · have hm : Int.tmod (n : Int) 2 = ((n % 2 : Nat) : Int) := rfl
      have hd : Int.tdiv (n : Int) 2 = ((n / 2 : Nat) : Int) := rfl
      rw [hm, hd, w64_id (by omega) (by omega)]
      refine Ev.ite (fun h2 => ?_) (fun h2 => Ev.ret ?_)
      · refine Ev.eq ?_ (isPow_half (by omega) (by omega))
        exact Ev.congr (fun k => by rw [incunableref05_Power.f]) (ih (n / 2) (by omega) (by omega) (by omega))
      · rw [isPow_odd (by omega) (by omega), beq_eq_false_iff_ne]
        omega
    · have : n = 1 := by omega
      subst this
      decide
def rowOk (out : List Int) : Prop := ∀ j : Nat, j < out.length → ∃ q : Nat, rd out (j : Int) = (q : Int) ∧ IsPlace j q
theorem places_l0 {n : Nat} (hn : n ≤ 5000) (d : Nat) : ∀ (p : Nat) (out : List Int), p + d = n + 30 → 3 ≤ p → out.length + len (p - 1) = p - 1 → out.length ≤ n → rowOk out →
    ∃ r : List Int, Ev (fun k => incunableref05_Places.l0 k (n : Int) out (p : Int)) r ∧ rowOk r ∧ r.length = n := by
  induction d with
  | zero =>
    intro p out hd h3 ho hle _
    have := len_le22 (p := p - 1) (by omega)
    omega
  | succ d ih =>
    intro p out hd h3 ho hle hok
    have hs := len_succ (p := p - 1) (by omega)
    rw [show p - 1 + 1 = p by omega] at hs
    have hl := len_le22 (p := p - 1) (by omega)
    by_cases he : out.length < n
    · by_cases hp : isPow p = true
      · rw [if_pos hp] at hs
        obtain ⟨r, hr, h⟩ := ih (p + 1) out (by omega) (by omega) (by rw [show p + 1 - 1 = p by omega]; omega) hle hok
        refine ⟨r, ?_, h⟩
        refine Ev.step (fun k => incunableref05_Places.l0.eq_2 ..) ?_
        refine Ev.pos (by omega) (Ev.bind (power_ev p (by omega) (by omega)) ?_)
        rw [w64_succ (by omega)]
        exact Ev.pos hp hr
      · rw [if_neg hp] at hs
        obtain ⟨r, hr, h⟩ := ih (p + 1) (out ++ [(p : Int)]) (by omega) (by omega) (by rw [show p + 1 - 1 = p by omega, List.length_append, List.length_singleton]; omega) (by rw [List.length_append, List.length_singleton]; omega) (by
          intro j hj
          rw [List.length_append, List.length_singleton] at hj
          by_cases hjl : j < out.length
          · obtain ⟨q, h1, h2⟩ := hok j hjl
            refine ⟨q, ?_, h2⟩
            rw [← h1, rd_nat hjl, rd_nat (by rw [List.length_append, List.length_singleton]; omega), List.getElem_append_left hjl]
          · have : j = out.length := by omega
            subst this
            refine ⟨p, ?_, by simpa using hp, by omega, h3⟩
            rw [rd_nat (by rw [List.length_append, List.length_singleton]; omega), List.getElem_append_right (Nat.le_refl _)]
            simp)
        refine ⟨r, ?_, h⟩
        refine Ev.step (fun k => incunableref05_Places.l0.eq_2 ..) ?_
        refine Ev.pos (by omega) (Ev.bind (power_ev p (by omega) (by omega)) ?_)
        rw [w64_succ (by omega)]
        exact Ev.neg hp (Ev.pos (by omega) hr)
    · refine ⟨out, ?_, hok, by omega⟩
      refine Ev.step (fun k => incunableref05_Places.l0.eq_2 ..) ?_
      exact Ev.neg (by omega) (Ev.ret rfl)
theorem places_ev {n : Nat} (hn : n ≤ 5000) : ∃ r : List Int, Ev (fun k => incunableref05_Places.f k (n : Int)) r ∧ rowOk r ∧ r.length = n := by
  obtain ⟨r, hr, h⟩ := places_l0 hn (n + 27) 3 [] (by omega) (by omega) (by decide) (by simp) (fun j hj => absurd hj (by simp))
  refine ⟨r, ?_, h⟩
  exact Ev.congr (fun k => by rw [incunableref05_Places.f]; rfl) hr
end Go.Proofs.Ytalejedajkhkjaa.PureChunkCodes
/-
  What the document's bits come to: a bit, and the list of all.
-/
namespace Go.Proofs.Ytalejedajkhkjaa.PureChunkCodes
open Go.RowKit Go.Proofs.Ytalejedajkhkjaa.QChunkCodes Go.Proofs.YtalejedajkhkjaaW.PrintWords Go.Proofs.YtalejedajkhkjaaW.PrintLast Go.Proofs.YtalejedajkhkjaaW.PrintMore Go.Proofs.Ytalejedajkhkjaa.EvKit Go.Proofs.Ytalejedajkhkjaa.BitsKit Go.Proofs.Ytalejedajkhkjaa.CrcMath Go.Proofs.Ytalejedajkhkjaa.NatKit

theorem bit_l0 {i : Int} (h0 : 0 ≤ i) (d : Nat) : ∀ (n j : Nat), (j : Int) + d = i % 8 → n < 256 → Ev (fun k => incunableref01_Bit.l0 k i (n : Int) (j : Int)) ((n / 2 ^ d % 2 : Nat) : Int) := by
  induction d with
  | zero =>
    intro n j hj hn
    refine Ev.step (fun k => incunableref01_Bit.l0.eq_2 ..) ?_
    rw [Int.tmod_eq_emod_of_nonneg h0]
    refine Ev.neg (by omega) (Ev.ret ?_)
    rw [Int.tmod_eq_emod_of_nonneg (Int.natCast_nonneg _), Nat.pow_zero, Nat.div_one]
    omega
  | succ d ih =>
    intro n j hj hn
    refine Ev.step (fun k => incunableref01_Bit.l0.eq_2 ..) ?_
    rw [Int.tmod_eq_emod_of_nonneg h0]
    refine Ev.pos (by omega) ?_
    rw [Int.tdiv_eq_ediv_of_nonneg (Int.natCast_nonneg _), w64_id (by omega) (by omega), w64_succ (by omega), show (n : Int) / 2 = ((n / 2 : Nat) : Int) from by omega]
    refine Ev.eq (ih (n / 2) (j + 1) (by omega) (by omega)) ?_
    rw [Nat.div_div_eq_div_mul, Nat.pow_succ, Nat.mul_comm (2 ^ d)]
def bitVal (l : List Int) (i : Int) : Int := if 0 ≤ i ∧ i / 8 < (l.length : Int) then ((bitAt (nats l) i.toNat : Nat) : Int) else -1
theorem bit_ev {l : List Int} (hl : ∀ x ∈ l, 0 ≤ x ∧ x < 256) {i : Int} (hi : i ≤ 9223372036854775807) : Ev (fun k => incunableref01_Bit.f k l i) (bitVal l i) := by
  refine Ev.congr (fun k => by rw [incunableref01_Bit.f]) ?_
  unfold bitVal
  refine Ev.ite (fun h => ?_) (fun h => ?_)
  · refine Ev.step (fun k => incunableref01_Bit.j0.eq_2 ..) ?_
    refine Ev.pos rfl (Ev.ret ?_)
    rw [if_neg (by omega)]
  · have h0 : 0 ≤ i := by omega
    have hw : wrap64 (Int.tdiv i 8) = i / 8 := by rw [Int.tdiv_eq_ediv_of_nonneg h0]; exact w64_id (by omega) (by omega)
    rw [hw]
    refine Ev.step (fun k => incunableref01_Bit.j0.eq_2 ..) ?_
    rw [hw]
    clear hw
    by_cases hin : i / 8 ≥ (l.length : Int)
    · refine Ev.pos (decide_eq_true hin) (Ev.ret ?_)
      rw [if_neg (by omega)]
    · refine Ev.neg (by rw [decide_eq_false hin]; decide) ?_
      refine Ev.pos (by omega) ?_
      refine Ev.pos (by omega) ?_
      rw [if_pos (by omega)]
      have hr := rd_nats (l := l) (fun x hx => (hl x hx).1) (i / 8).toNat
      have hb := hl _ (rd_mem (l := l) (i := i / 8) (by omega) (by omega))
      rw [show (((i / 8).toNat : Nat) : Int) = i / 8 from by omega] at hr
      rw [hr] at hb ⊢
      have hb2 : (nats l).getD (i / 8).toNat 0 < 256 := by omega
      rw [w64_id (by omega) (by omega)]
      refine Ev.eq (bit_l0 h0 (i.toNat % 8) _ 0 (by omega) hb2) ?_
      unfold bitAt
      rw [show (i / 8).toNat = i.toNat / 8 from by omega]
theorem list_l0 {l : List Int} (hl : ∀ x ∈ l, 0 ≤ x ∧ x < 256) (hn : l.length < 1000000) (d : Nat) : ∀ (i : Nat) (out : List Int), i + d = 8 * l.length → out = ints ((List.range i).map (bitAt (nats l))) →
    Ev (fun k => incunableref01_List.l0 k l out (i : Int)) (ints (bitList (nats l))) := by
  have hw : wrap64 (8 * (l.length : Int)) = 8 * (l.length : Int) := w64_id (by omega) (by omega)
  induction d with
  | zero =>
    intro i out hi ho
    refine Ev.step (fun k => incunableref01_List.l0.eq_2 ..) ?_
    rw [hw]
    refine Ev.neg (by clear hw; omega) (Ev.ret ?_)
    rw [ho]
    unfold bitList
    rw [nats_length, show i = 8 * l.length by clear hw; omega]
  | succ d ih =>
    intro i out hi ho
    refine Ev.step (fun k => incunableref01_List.l0.eq_2 ..) ?_
    rw [hw]
    refine Ev.pos (by clear hw; omega) ?_
    refine Ev.bind (bit_ev hl (by clear hw; omega)) ?_
    have hlen : out.length = i := by rw [ho]; simp [ints]
    have hlim : out.length < 17592186044416 := by clear hw; omega
    refine Ev.pos hlim ?_
    rw [w64_succ (by clear hw; omega)]
    refine ih (i + 1) _ (by clear hw; omega) ?_
    rw [ho, List.range_succ, List.map_append]
    unfold ints
    rw [List.map_append]
    congr 1
    unfold bitVal
    rw [if_pos (by clear hw; omega), Int.toNat_natCast]
    rfl
theorem list_ev {l : List Int} (hl : ∀ x ∈ l, 0 ≤ x ∧ x < 256) (hn : l.length < 1000000) : Ev (fun k => incunableref01_List.f k l) (ints (bitList (nats l))) := by
  refine Ev.congr (fun k => by rw [incunableref01_List.f]) ?_
  exact list_l0 hl hn (8 * l.length) 0 [] (by omega) rfl
end Go.Proofs.Ytalejedajkhkjaa.PureChunkCodes
/-
  The document's words and what they say: the same as the program's.
-/
namespace Go.Proofs.Ytalejedajkhkjaa.PureChunkCodes
open Go.RowKit Go.Proofs.Ytalejedajkhkjaa.QChunkCodes Go.Proofs.YtalejedajkhkjaaW.PrintWords Go.Proofs.YtalejedajkhkjaaW.PrintLast Go.Proofs.YtalejedajkhkjaaW.PrintMore Go.Proofs.Ytalejedajkhkjaa.EvKit Go.Proofs.Ytalejedajkhkjaa.BitsKit Go.Proofs.Ytalejedajkhkjaa.CrcMath Go.Proofs.Ytalejedajkhkjaa.NatKit Go.Proofs.Ytalejedajkhkjaa.BitsMath Go.Proofs.Ytalejedajkhkjaa.LenMath Go.Proofs.Ytalejedajkhkjaa.HamMath
theorem rxor_l0 (d : Nat) : ∀ (a b n s i : Nat), i + d = 13 → s * 2 ^ d = 8192 → n < s → a < 8192 → b < 8192 →
    Ev (fun k => incunableref05_xor.l0 k (a : Int) (b : Int) (n : Int) (s : Int) (i : Int)) ((n + s * ((a ^^^ b) % 2 ^ d) : Nat) : Int) := by
  induction d with
  | zero =>
    intro a b n s i hi hs hn ha hb
    refine Ev.step (fun k => incunableref05_xor.l0.eq_2 ..) ?_
    refine Ev.neg (by omega) (Ev.ret ?_)
    rw [Nat.pow_zero, Nat.mod_one, Nat.mul_zero, Nat.add_zero]
  | succ d ih =>
    intro a b n s i hi hs hn ha hb
    have hs2 : s * 2 * 2 ^ d = 8192 := by rw [Nat.mul_assoc, ← Nat.pow_succ']; exact hs
    have hsl : s * 2 ≤ 8192 := by
      rw [← hs2]
      exact Nat.le_mul_of_pos_right _ (Nat.two_pow_pos d)
    have e : (a ^^^ b) % 2 ^ (d + 1) = (a % 2 + b % 2) % 2 + 2 * ((a / 2 ^^^ b / 2) % 2 ^ d) := by
      rw [Nat.pow_succ', Nat.mod_mul, xor_mod2, xor_div2]
    rw [e]
    clear e hs
    have ma : Int.tmod (a : Int) 2 = ((a % 2 : Nat) : Int) := rfl
    have mb : Int.tmod (b : Int) 2 = ((b % 2 : Nat) : Int) := rfl
    have da : wrap64 (Int.tdiv (a : Int) 2) = ((a / 2 : Nat) : Int) := by
      rw [show Int.tdiv (a : Int) 2 = ((a / 2 : Nat) : Int) from rfl]
      exact w64_id (by omega) (by omega)
    have db : wrap64 (Int.tdiv (b : Int) 2) = ((b / 2 : Nat) : Int) := by
      rw [show Int.tdiv (b : Int) 2 = ((b / 2 : Nat) : Int) from rfl]
      exact w64_id (by omega) (by omega)
    have d2 : wrap64 ((s : Int) * 2) = ((s * 2 : Nat) : Int) := by
      rw [w64_id (by omega) (by omega)]
      omega
    have dn : wrap64 ((n : Int) + (s : Int)) = ((n + s : Nat) : Int) := by
      rw [w64_id (by omega) (by omega)]
      omega
    refine Ev.step (fun k => incunableref05_xor.l0.eq_2 ..) ?_
    refine Ev.pos (by omega) ?_
    rw [ma, mb, da, db, d2, dn, w64_succ (by omega)]
    clear ma mb da db d2 dn
    have ih0 := ih (a / 2) (b / 2) n (s * 2) (i + 1) (by omega) hs2 (by omega) (by omega) (by omega)
    have ih1 := ih (a / 2) (b / 2) (n + s) (s * 2) (i + 1) (by omega) hs2 (by omega) (by omega) (by omega)
    generalize (a / 2 ^^^ b / 2) % 2 ^ d = x at ih0 ih1 ⊢
    refine Ev.ite (fun h => Ev.eq ih0 ?_) (fun h => Ev.eq ih1 ?_)
    · rw [show (a % 2 + b % 2) % 2 = 0 by omega, Nat.zero_add, Nat.mul_assoc]
    · rw [show (a % 2 + b % 2) % 2 = 1 by omega, Nat.mul_add, Nat.mul_one, Nat.mul_assoc, Nat.add_assoc]
theorem rxor_ev {a b : Nat} (ha : a < 8192) (hb : b < 8192) : Ev (fun k => incunableref05_xor.f k (a : Int) (b : Int)) ((a ^^^ b : Nat) : Int) := by
  refine Ev.congr (fun k => by rw [incunableref05_xor.f]) ?_
  refine Ev.eq (rxor_l0 13 a b 0 1 0 (by omega) (by decide) (by decide) ha hb) ?_
  rw [Nat.mod_eq_of_lt (Nat.xor_lt_two_pow (n := 13) ha hb), Nat.zero_add, Nat.one_mul]
theorem sum_bits_zero : ∀ n : Nat, (bitsOf n 0).sum = 0
  | 0 => rfl
  | n + 1 => by
    unfold bitsOf
    rw [List.sum_cons]
    exact (congrArg (0 + ·) (sum_bits_zero n))
theorem sum_bits_le : ∀ n x : Nat, (bitsOf n x).sum ≤ n
  | 0, _ => Nat.le_refl _
  | n + 1, x => by
    have := sum_bits_le n (x / 2)
    unfold bitsOf
    rw [List.sum_cons]
    omega
theorem rones_l0 (n : Nat) : ∀ (x c : Nat), n ≤ 16 → x < 2 ^ n → c + n ≤ 1000000 → Ev (fun k => incunableref05_ones.l0 k (x : Int) (c : Int)) ((c + (bitsOf n x).sum : Nat) : Int) := by
  induction n with
  | zero =>
    intro x c _ hx _
    have : x = 0 := by simpa using hx
    subst this
    refine Ev.step (fun k => incunableref05_ones.l0.eq_2 ..) ?_
    exact Ev.neg (by decide) (Ev.ret rfl)
  | succ n ih =>
    intro x c hn hx hc
    have hp : 2 ^ (n + 1) ≤ 2 ^ 16 := Nat.pow_le_pow_right (by decide) hn
    have hx2 : x < 65536 := Nat.lt_of_lt_of_le hx hp
    have hx3 : x / 2 < 2 ^ n := by rw [Nat.pow_succ] at hx; omega
    clear hx hp
    refine Ev.step (fun k => incunableref05_ones.l0.eq_2 ..) ?_
    by_cases h0 : x = 0
    · subst h0
      refine Ev.neg (by decide) (Ev.ret ?_)
      rw [sum_bits_zero]
      rfl
    · refine Ev.pos (by omega) ?_
      have da : wrap64 (Int.tdiv (x : Int) 2) = ((x / 2 : Nat) : Int) := by
        rw [show Int.tdiv (x : Int) 2 = ((x / 2 : Nat) : Int) from rfl]
        exact w64_id (by omega) (by omega)
      have db : wrap64 ((c : Int) + Int.tmod (x : Int) 2) = ((c + x % 2 : Nat) : Int) := by
        rw [show Int.tmod (x : Int) 2 = ((x % 2 : Nat) : Int) from rfl, w64_id (by omega) (by omega)]
        omega
      rw [da, db]
      clear da db
      refine Ev.eq (ih (x / 2) (c + x % 2) (by omega) hx3 (by omega)) ?_
      rw [show bitsOf (n + 1) x = x % 2 :: bitsOf n (x / 2) from rfl, List.sum_cons, Nat.add_assoc]
theorem rones_ev {x : Nat} (hx : x < 65536) : Ev (fun k => incunableref05_ones.f k (x : Int)) (((bitsOf 16 x).sum : Nat) : Int) := by
  refine Ev.congr (fun k => by rw [incunableref05_ones.f]) ?_
  refine Ev.eq (rones_l0 16 x 0 (by omega) hx (by omega)) ?_
  rw [Nat.zero_add]
/-- how many of the first m bits are set -/
def cn (l : List Nat) : Nat → Nat
  | 0 => 0
  | m + 1 => if bitAt l m = 1 then cn l m + 1 else cn l m
theorem cn_succ (l : List Nat) (m : Nat) : cn l (m + 1) = if bitAt l m = 1 then cn l m + 1 else cn l m := rfl
theorem cn_le (l : List Nat) : ∀ m, cn l m ≤ m
  | 0 => Nat.le_refl _
  | m + 1 => by
    have := cn_le l m
    rw [cn_succ]
    split <;> omega
theorem go_cn (l : List Nat) : ∀ m, go l m = decide (cn l m % 2 = 1)
  | 0 => rfl
  | m + 1 => by
    have ih := go_cn l m
    rw [cn_succ, go_succ, ih]
    split
    · by_cases h : cn l m % 2 = 1
      · rw [decide_eq_true h, decide_eq_false (by omega)]
        rfl
      · rw [decide_eq_false h, decide_eq_true (by omega)]
        rfl
    · rfl
theorem row_place {r : List Int} {n j : Nat} (hn : n ≤ 5000) (hok : rowOk r) (hl : r.length = n) (hj : j < n) : rd r (j : Int) = ((place j : Nat) : Int) := by
  obtain ⟨q, hq, hp⟩ := hok j (by omega)
  rw [hq, place_same hp (isPlace_place (by omega))]
theorem rgather_l0 {l : List Nat} {r : List Int} (hn : l.length ≤ 600) (hok : rowOk r) (hl : r.length = 8 * l.length) (d : Nat) : ∀ i : Nat, i + d = 8 * l.length →
    Ev (fun k => incunableref05_gather.l0 k (ints (bitList l)) r ((gx l i : Nat) : Int) ((cn l i : Nat) : Int) (i : Int)) (((gx l (8 * l.length) : Nat) : Int), ((cn l (8 * l.length) : Nat) : Int)) := by
  induction d with
  | zero =>
    intro i hi
    refine Ev.step (fun k => incunableref05_gather.l0.eq_2 ..) ?_
    rw [ints_length, bitList_length]
    refine Ev.neg (by omega) (Ev.ret ?_)
    rw [show i = 8 * l.length by omega]
  | succ d ih =>
    intro i hi
    have next := ih (i + 1) (by omega)
    have hg := gx_lt l i (by omega)
    have hc := cn_le l i
    have hp := place_lt (n := i) (by omega)
    have hrd := row_place (j := i) (by omega) hok hl (by omega)
    have hbit : rd (ints (bitList l)) (i : Int) = ((bitAt l i : Nat) : Int) := by
      rw [rd_ints, List.getD_eq_getElem?_getD, bitList_get (by omega), Option.getD_some]
    rw [gx_succ, cn_succ] at next
    refine Ev.step (fun k => incunableref05_gather.l0.eq_2 ..) ?_
    rw [ints_length, bitList_length, hl, hbit, hrd, w64_succ (by omega), w64_succ (by omega)]
    clear hbit hrd
    refine Ev.pos (by omega) (Ev.pos (by omega) ?_)
    refine Ev.ite (fun h => ?_) (fun h => ?_)
    · rw [if_pos (by omega), if_pos (by omega)] at next
      refine Ev.pos (by omega) (Ev.bind (rxor_ev hg hp) ?_)
      exact next
    · rw [if_neg (by omega), if_neg (by omega)] at next
      exact next
theorem rgather_ev {l : List Int} (hb : ∀ x ∈ l, 0 ≤ x ∧ x < 256) (hn : l.length ≤ 600) : Ev (fun k => incunableref05_gather.f k l) (((gx (nats l) (8 * (nats l).length) : Nat) : Int), ((cn (nats l) (8 * (nats l).length) : Nat) : Int)) := by
  have hlen := nats_length l
  refine Ev.congr (fun k => by rw [incunableref05_gather.f]) ?_
  refine Ev.bind (list_ev hb (by omega)) ?_
  rw [ints_length, bitList_length]
  obtain ⟨r, hr, hok, hl⟩ := places_ev (n := 8 * (nats l).length) (by omega)
  refine Ev.bind hr ?_
  exact rgather_l0 (by omega) hok hl (8 * (nats l).length) 0 (by omega)
theorem odd_sum {l : List Nat} {x : Nat} (m : Nat) : decide ((cn l m + (bitsOf 16 x).sum) % 2 = 1) = (go l m != par x) := by
  rw [go_cn]
  unfold par
  have e1 := Nat.mod_two_eq_zero_or_one (cn l m)
  have e2 := Nat.mod_two_eq_zero_or_one (bitsOf 16 x).sum
  rcases e1 with e1 | e1 <;> rcases e2 with e2 | e2 <;> rw [Nat.add_mod, e1, e2] <;> decide
theorem rword_ev {l : List Int} (hb : ∀ x ∈ l, 0 ≤ x ∧ x < 256) (hn : l.length ≤ 512) : Ev (fun k => incunableref05_Word.f k l) ((wordN (nats l) : Nat) : Int) := by
  have hlen := nats_length l
  have hg := gx_lt (nats l) (8 * (nats l).length) (by omega)
  have hc := cn_le (nats l) (8 * (nats l).length)
  have hs := sum_bits_le 16 (gx (nats l) (8 * (nats l).length))
  have ho := odd_sum (l := nats l) (x := gx (nats l) (8 * (nats l).length)) (8 * (nats l).length)
  have hw := wordN_of (l := nats l) rfl rfl
  refine Ev.congr (fun k => by rw [incunableref05_Word.f]) ?_
  refine Ev.bind (rgather_ev hb (by omega)) ?_
  refine Ev.bind (rones_ev (by omega)) ?_
  rw [hw, ← ho]
  clear hw ho
  generalize gx (nats l) (8 * (nats l).length) = x at hg hs ⊢
  generalize cn (nats l) (8 * (nats l).length) = c at hc ⊢
  generalize (bitsOf 16 x).sum = s at hs ⊢
  dsimp only
  have e : Int.tmod (wrap64 ((c : Int) + (s : Int))) 2 = (((c + s) % 2 : Nat) : Int) := by
    rw [w64_id (by omega) (by omega)]
    rfl
  rw [e]
  clear e
  refine Ev.ite (fun h => Ev.ret ?_) (fun h => Ev.ret ?_)
  · rw [w64_id (x := (x : Int) + 8192) (by omega) (by omega), w64_id (by omega) (by omega), decide_eq_true (by omega), if_pos rfl]
    omega
  · rw [w64_id (by omega) (by omega), decide_eq_false (by omega), if_neg (by decide)]
    omega
theorem search_hit {r : List Int} {N p k0 : Nat} (hN : N ≤ 5000) (hok : rowOk r) (hl : r.length = N) (hk : k0 < N) (hp : place k0 = p) (d : Nat) : ∀ i : Nat, i + d = k0 →
    Ev (fun k => incunableref05_Judge.l0 k (p : Int) r (i : Int)) (1, (k0 : Int)) := by
  induction d with
  | zero =>
    intro i hi
    refine Ev.step (fun k => incunableref05_Judge.l0.eq_2 ..) ?_
    have hrd := row_place (j := i) hN hok hl (by omega)
    rw [hrd]
    have : i = k0 := by omega
    subst this
    exact Ev.pos (by omega) (Ev.pos (by omega) (Ev.pos (by rw [hp]) (Ev.ret rfl)))
  | succ d ih =>
    intro i hi
    refine Ev.step (fun k => incunableref05_Judge.l0.eq_2 ..) ?_
    have hrd := row_place (j := i) hN hok hl (by omega)
    rw [hrd, w64_succ (by omega)]
    refine Ev.pos (by omega) (Ev.pos (by omega) (Ev.neg (fun h => ?_) (ih (i + 1) (by omega))))
    have := place_inj (i := i) (j := k0) (by omega) (by omega) (by omega)
    omega
theorem search_miss {r : List Int} {N p : Nat} (hN : N ≤ 5000) (hok : rowOk r) (hl : r.length = N) (hp : ∀ j, j < N → place j ≠ p) (d : Nat) : ∀ i : Nat, i + d = N →
    Ev (fun k => incunableref05_Judge.l0 k (p : Int) r (i : Int)) (3, 0) := by
  induction d with
  | zero =>
    intro i hi
    refine Ev.step (fun k => incunableref05_Judge.l0.eq_2 ..) ?_
    exact Ev.neg (by omega) (Ev.ret rfl)
  | succ d ih =>
    intro i hi
    refine Ev.step (fun k => incunableref05_Judge.l0.eq_2 ..) ?_
    have hrd := row_place (j := i) hN hok hl (by omega)
    have hne := hp i (by omega)
    rw [hrd, w64_succ (by omega)]
    exact Ev.pos (by omega) (Ev.pos (by omega) (Ev.neg (by omega) (ih (i + 1) (by omega))))
theorem rjudge_j1 {l : List Int} (hn : l.length ≤ 512) {p : Nat} (hp : p < 8192) :
    Ev (fun k => incunableref05_Judge.j1 k l (p : Int) (decide (p = 0 ∨ isPow p = true))) (if p = 0 ∨ isPow p = true then (2, 0) else if p - 1 - len p < 8 * l.length then (1, ((p - 1 - len p : Nat) : Int)) else (3, 0)) := by
  refine Ev.step (fun k => incunableref05_Judge.j1.eq_2 ..) ?_
  by_cases h : p = 0 ∨ isPow p = true
  · rw [decide_eq_true h, if_pos h]
    exact Ev.pos rfl (Ev.ret rfl)
  · rw [decide_eq_false h, if_neg h]
    refine Ev.neg (by decide) ?_
    rw [w64_id (x := 8 * (l.length : Int)) (by omega) (by omega), show 8 * (l.length : Int) = ((8 * l.length : Nat) : Int) by omega]
    obtain ⟨r, hr, hok, hl⟩ := places_ev (n := 8 * l.length) (by omega)
    refine Ev.bind hr ?_
    have hpl := place_far (fun e => h (Or.inl e)) (by simpa using fun e => h (Or.inr e)) hp
    have h2 := hpl.2.1
    have hk : p - 1 - len p ≤ 1048576 := by omega
    have he := place_same (isPlace_place hk) hpl
    by_cases hlt : p - 1 - len p < 8 * l.length
    · rw [if_pos hlt]
      exact search_hit (by omega) hok hl hlt he _ 0 (Nat.zero_add _)
    · rw [if_neg hlt]
      refine search_miss (N := 8 * l.length) (by omega) hok hl (fun j hj e => ?_) _ 0 (Nat.zero_add _)
      have := place_inj (i := j) (j := p - 1 - len p) (by omega) hk (by omega)
      omega
theorem rjudge_ev {l : List Int} (hb : ∀ x ∈ l, 0 ≤ x ∧ x < 256) (hn : l.length ≤ 512) {w : Nat} (_ : w < 65536) : Ev (fun k => incunableref05_Judge.f k l (w : Int)) ((judgeN (nats l) w).1, (judgeN (nats l) w).2.1) := by
  have hlen := nats_length l
  have hg := gx_lt (nats l) (8 * (nats l).length) (by omega)
  have hc := cn_le (nats l) (8 * (nats l).length)
  have hs := sum_bits_le 16 (w % 16384)
  have ho := odd_sum (l := nats l) (x := w % 16384) (8 * (nats l).length)
  have hwr := wrongN_lt (nats l) w
  refine Ev.congr (fun k => by rw [incunableref05_Judge.f]) ?_
  refine Ev.bind (rgather_ev hb (by omega)) ?_
  rw [show Int.tmod (w : Int) 8192 = ((w % 8192 : Nat) : Int) from rfl, show Int.tmod (w : Int) 16384 = ((w % 16384 : Nat) : Int) from rfl]
  refine Ev.bind (rxor_ev hg (by omega)) ?_
  refine Ev.bind (rones_ev (by omega)) ?_
  have e1 : gx (nats l) (8 * (nats l).length) ^^^ w % 8192 = wrongN (nats l) w := by
    unfold wrongN
    rw [xor_mod13, Nat.mod_eq_of_lt hg]
  have e2 : (go (nats l) (8 * (nats l).length) != par (w % 16384)) = single (nats l) w := rfl
  rw [e2] at ho
  rw [e1]
  unfold judgeN
  rw [← ho, hlen] at *
  clear e1 e2 ho
  generalize wrongN (nats l) w = p at hwr ⊢
  generalize cn (nats l) (8 * l.length) = c at hc ⊢
  generalize (bitsOf 16 (w % 16384)).sum = s at hs ⊢
  dsimp only
  have e : Int.tmod (wrap64 ((c : Int) + (s : Int))) 2 = (((c + s) % 2 : Nat) : Int) := by
    rw [w64_id (by omega) (by omega)]
    rfl
  rw [e]
  clear e
  by_cases h : (c + s) % 2 = 1
  · rw [decide_eq_true h]
    refine Ev.pos (by omega) ?_
    rw [h, show (((1 : Nat) : Int) == 1) = true from rfl, if_neg (by decide)]
    refine Ev.step (fun k => incunableref05_Judge.j0.eq_2 ..) ?_
    refine Ev.neg (by decide) (Ev.pos rfl ?_)
    have hj := rjudge_j1 hn hwr
    have fin : (if p = 0 ∨ isPow p = true then ((2, 0) : Int × Int) else if p - 1 - len p < 8 * l.length then (1, ((p - 1 - len p : Nat) : Int)) else (3, 0)) = ((if p = 0 ∨ isPow p = true then ((2, 0, 0) : Int × Int × Int) else if p - 1 - len p < 8 * l.length then (1, ((p - 1 - len p : Nat) : Int), 0) else (3, 0, 0)).1, (if p = 0 ∨ isPow p = true then ((2, 0, 0) : Int × Int × Int) else if p - 1 - len p < 8 * l.length then (1, ((p - 1 - len p : Nat) : Int), 0) else (3, 0, 0)).2.1) := by
      split
      · rfl
      · split <;> rfl
    refine Ev.eq (?_ : Ev _ _) fin
    by_cases h0 : p = 0
    · subst h0
      exact Ev.pos rfl hj
    · refine Ev.neg (by omega) (Ev.bind (power_ev p (by omega) (by omega)) ?_)
      have : decide (p = 0 ∨ isPow p = true) = isPow p := by
        cases hp : isPow p
        · exact decide_eq_false (by simp [h0])
        · exact decide_eq_true (Or.inr rfl)
      rw [this] at hj
      exact hj
  · rw [decide_eq_false h]
    refine Ev.neg (by omega) ?_
    rw [show (c + s) % 2 = 0 by omega, show (((0 : Nat) : Int) == 1) = false from rfl, if_pos rfl]
    refine Ev.step (fun k => incunableref05_Judge.j0.eq_2 ..) ?_
    refine Ev.ite (fun h => Ev.ret ?_) (fun h => Ev.neg (by decide) (Ev.ret ?_))
    · rw [if_pos (by have := beq_iff_eq.1 h; omega)]
    · rw [if_neg (fun e => h (by rw [e]; rfl))]
end Go.Proofs.Ytalejedajkhkjaa.PureChunkCodes
/-
  The document's bits back to bytes.
-/
namespace Go.Proofs.Ytalejedajkhkjaa.PureChunkCodes
open Go.RowKit Go.Proofs.Ytalejedajkhkjaa.QChunkCodes Go.Proofs.YtalejedajkhkjaaW.PrintWords Go.Proofs.YtalejedajkhkjaaW.PrintLast Go.Proofs.YtalejedajkhkjaaW.PrintMore Go.Proofs.Ytalejedajkhkjaa.EvKit Go.Proofs.Ytalejedajkhkjaa.BitsKit Go.Proofs.Ytalejedajkhkjaa.CrcMath Go.Proofs.Ytalejedajkhkjaa.NatKit Go.Proofs.Ytalejedajkhkjaa.BitsMath

theorem of_l1 {l : List Nat} {out : List Int} {q : Nat} {r : List Int} (hq : q < l.length) (hl : ∀ b ∈ l, b < 256) (hln : l.length < 1000000) (ho : out.length < 140737488355328)
    (h : Ev (fun k => incunableref01_Of.l0 k (ints (bitList l)) (out ++ [((l[q] : Nat) : Int)]) (wrap64 ((8 * q : Nat) + 8))) r) (d : Nat) :
    ∀ (k' : Int), k' + 1 = d → d ≤ 8 → Ev (fun k => incunableref01_Of.l1 k (ints (bitList l)) out ((8 * q : Nat) : Int) ((l[q] / 2 ^ d : Nat) : Int) k') r := by
  have hb := hl _ (List.getElem_mem hq)
  induction d with
  | zero =>
    intro k' hk hd
    refine Ev.step (fun k => incunableref01_Of.l1.eq_2 ..) ?_
    refine Ev.neg (by omega) ?_
    refine Ev.pos ho ?_
    rw [Nat.pow_zero, Nat.div_one, show ((l[q] : Nat) : Int) % 256 = ((l[q] : Nat) : Int) from by omega]
    exact h
  | succ d ih =>
    intro k' hk hd
    have hk' : k' = (d : Int) := by omega
    subst hk'
    have hw : wrap64 (((8 * q : Nat) : Int) + (d : Int)) = ((8 * q + d : Nat) : Int) := by
      rw [← Int.natCast_add]
      exact w64_id (by omega) (by omega)
    have hlt : 8 * q + d < 8 * l.length := by omega
    have hbit : rd (ints (bitList l)) ((8 * q + d : Nat) : Int) = ((l[q] / 2 ^ d % 2 : Nat) : Int) := by
      rw [rd_ints, List.getD_eq_getElem?_getD, bitList_get hlt, Option.getD_some]
      unfold bitAt
      rw [show (8 * q + d) / 8 = q by omega, show (8 * q + d) % 8 = d by omega, List.getD_eq_getElem?_getD, List.getElem?_eq_getElem hq, Option.getD_some]
    have hdiv : l[q] / 2 ^ (d + 1) = l[q] / 2 ^ d / 2 := by rw [Nat.pow_succ, Nat.div_div_eq_div_mul]
    have hdl : l[q] / 2 ^ d ≤ l[q] := Nat.div_le_self _ _
    have next := ih ((d : Int) - 1) (by omega) (by omega)
    refine Ev.step (fun k => incunableref01_Of.l1.eq_2 ..) ?_
    refine Ev.pos (by omega) ?_
    rw [hw, hbit, hdiv, ints_length, bitList_length]
    clear hw hbit hdiv
    refine Ev.pos (by omega) ?_
    refine Ev.pos (by omega) ?_
    generalize l[q] / 2 ^ d = x at hdl next ⊢
    rw [w64_id (x := 2 * ((x / 2 : Nat) : Int)) (by omega) (by omega), w64_id (x := 2 * ((x / 2 : Nat) : Int) + ((x % 2 : Nat) : Int)) (by omega) (by omega), w64_id (x := (d : Int) - 1) (by omega) (by omega), show 2 * ((x / 2 : Nat) : Int) + ((x % 2 : Nat) : Int) = (x : Int) from by omega]
    exact next
theorem of_l0 {l : List Nat} (hl : ∀ b ∈ l, b < 256) (hln : l.length < 1000000) (d : Nat) : ∀ (q : Nat), q + d = l.length → Ev (fun k => incunableref01_Of.l0 k (ints (bitList l)) (ints (l.take q)) ((8 * q : Nat) : Int)) (ints l) := by
  induction d with
  | zero =>
    intro q hq
    refine Ev.step (fun k => incunableref01_Of.l0.eq_2 ..) ?_
    rw [ints_length, bitList_length, w64_id (by omega) (by omega)]
    refine Ev.neg (by omega) (Ev.ret ?_)
    rw [List.take_of_length_le (by omega)]
  | succ d ih =>
    intro q hq
    refine Ev.step (fun k => incunableref01_Of.l0.eq_2 ..) ?_
    rw [ints_length, bitList_length, w64_id (by omega) (by omega)]
    refine Ev.pos (by omega) ?_
    have hql : q < l.length := by omega
    have hb := hl _ (List.getElem_mem hql)
    have e0 : ((l[q] / 2 ^ 8 : Nat) : Int) = 0 := by rw [Nat.div_eq_of_lt (by simpa using hb)]; rfl
    have := of_l1 (out := ints (l.take q)) (r := ints l) hql hl hln (by rw [ints_length, List.length_take]; omega) ?_ 8 7 (by decide) (by decide)
    · rw [e0] at this
      exact this
    · have e1 : wrap64 (((8 * q : Nat) : Int) + 8) = ((8 * (q + 1) : Nat) : Int) := by rw [w64_id (by omega) (by omega)]; omega
      rw [e1]
      have e2 : ints (l.take q) ++ [((l[q] : Nat) : Int)] = ints (l.take (q + 1)) := by
        rw [List.take_succ_eq_append_getElem hql]
        unfold ints
        rw [List.map_append]
        rfl
      rw [e2]
      exact ih (q + 1) (by omega)
theorem of_ev {l : List Nat} (hl : ∀ b ∈ l, b < 256) (hln : l.length < 1000000) : Ev (fun k => incunableref01_Of.f k (ints (bitList l))) (ints l) := by
  refine Ev.congr (fun k => by rw [incunableref01_Of.f]) ?_
  exact of_l0 hl hln l.length 0 (by omega)
end Go.Proofs.Ytalejedajkhkjaa.PureChunkCodes
/-
  The document's bits turned, and counted.
-/
namespace Go.Proofs.Ytalejedajkhkjaa.PureChunkCodes
open Go.RowKit Go.Proofs.Ytalejedajkhkjaa.QChunkCodes Go.Proofs.YtalejedajkhkjaaW.PrintWords Go.Proofs.YtalejedajkhkjaaW.PrintLast Go.Proofs.YtalejedajkhkjaaW.PrintMore Go.Proofs.Ytalejedajkhkjaa.EvKit Go.Proofs.Ytalejedajkhkjaa.BitsKit Go.Proofs.Ytalejedajkhkjaa.CrcMath Go.Proofs.Ytalejedajkhkjaa.NatKit Go.Proofs.Ytalejedajkhkjaa.BitsMath

theorem rflip_l0 {at_ : List Int} (hn : at_.length < 1000000) (d : Nat) : ∀ (i : Nat) (l : List Nat), i + d = at_.length → (∀ b ∈ l, b < 256) → l.length < 1000000 →
    Ev (fun k => incunableref01_Flip.l0 k at_ (ints (bitList l)) (i : Int)) (ints (flips l (at_.drop i))) := by
  induction d with
  | zero =>
    intro i l hi hl hln
    refine Ev.step (fun k => incunableref01_Flip.l0.eq_2 ..) ?_
    refine Ev.neg (by omega) ?_
    refine Ev.bind (of_ev hl hln) (Ev.ret ?_)
    rw [List.drop_of_length_le (by omega)]
    rfl
  | succ d ih =>
    intro i l hi hl hln
    refine Ev.step (fun k => incunableref01_Flip.l0.eq_2 ..) ?_
    refine Ev.pos (by omega) ?_
    refine Ev.pos (by omega) ?_
    rw [drop_rd (l := at_) (i := i) (by omega), w64_succ (by omega), ints_length, bitList_length]
    have next := fun v => ih (i + 1) (flip1 l v) (by omega) (flip1_lt hl v) (by rw [flip1_length]; exact hln)
    generalize rd at_ (i : Int) = a
    have next := next a
    show Ev _ (ints (flips (flip1 l a) (at_.drop (i + 1))))
    have hself : ¬ (0 ≤ a ∧ a / 8 < (l.length : Int)) → flip1 l a = l := fun h => by unfold flip1; rw [if_neg h]
    refine Ev.ite (fun h0 => ?_) (fun h0 => ?_)
    · obtain ⟨m, rfl⟩ := Int.eq_ofNat_of_zero_le h0
      refine Ev.ite (fun h1 => ?_) (fun h1 => ?_)
      · refine Ev.pos h0 ?_
        have hm : m < 8 * l.length := by omega
        have hb2 : bitAt l m < 2 := Nat.mod_lt _ (by decide)
        have hbit : rd (ints (bitList l)) (m : Int) = ((bitAt l m : Nat) : Int) := by
          rw [rd_ints, List.getD_eq_getElem?_getD, bitList_get hm, Option.getD_some]
        rw [hbit, w64_id (by omega) (by omega), Int.toNat_natCast, show (1 : Int) - ((bitAt l m : Nat) : Int) = ((1 - bitAt l m : Nat) : Int) from by omega, ints_set, ← bitList_flip1 l m (by omega)]
        exact next
      · rw [hself (by omega)] at next ⊢
        exact next
    · rw [hself (by omega)] at next ⊢
      exact next
theorem rflip_ev {l at_ : List Int} (hl : ∀ x ∈ l, 0 ≤ x ∧ x < 256) (hln : l.length < 1000000) (hn : at_.length < 1000000) : Ev (fun k => incunableref01_Flip.f k l at_) (ints (flips (nats l) at_)) := by
  refine Ev.congr (fun k => by rw [incunableref01_Flip.f]) ?_
  refine Ev.bind (list_ev hl hln) ?_
  exact rflip_l0 hn at_.length 0 (nats l) (by omega) (nats_lt hl) (by rw [nats_length]; exact hln)
end Go.Proofs.Ytalejedajkhkjaa.PureChunkCodes
/-
  The document's codewords, and what they are decoded to: the same as the program's.
-/
namespace Go.Proofs.Ytalejedajkhkjaa.PureChunkCodes
open Go.RowKit Go.Proofs.Ytalejedajkhkjaa.QChunkCodes Go.Proofs.YtalejedajkhkjaaW.PrintWords Go.Proofs.YtalejedajkhkjaaW.PrintLast Go.Proofs.YtalejedajkhkjaaW.PrintMore Go.Proofs.Ytalejedajkhkjaa.EvKit Go.Proofs.Ytalejedajkhkjaa.BitsKit Go.Proofs.Ytalejedajkhkjaa.CrcMath Go.Proofs.Ytalejedajkhkjaa.NatKit Go.Proofs.Ytalejedajkhkjaa.BitsMath Go.Proofs.Ytalejedajkhkjaa.LenMath Go.Proofs.Ytalejedajkhkjaa.HamMath Go.Proofs.Ytalejedajkhkjaa.ChunkMath
theorem enc_list {l : List Int} (hl : ∀ x ∈ l, 0 ≤ x ∧ x < 256) : ints (encN (nats l)) = l ++ [((wordN (nats l) % 256 : Nat) : Int), ((wordN (nats l) / 256 : Nat) : Int)] := by
  unfold encN encW
  have h := ints_nats (l := l) fun x hx => (hl x hx).1
  unfold ints at h ⊢
  rw [List.map_append, h]
  rfl
theorem rencode_ev {l : List Int} (hl : ∀ x ∈ l, 0 ≤ x ∧ x < 256) (hn : l.length ≤ 512) : Ev (fun k => incunableref06_Encode.f k l) (ints (encN (nats l))) := by
  have hw := wordN_lt (l := nats l) (by rw [nats_length]; omega)
  refine Ev.congr (fun k => by rw [incunableref06_Encode.f]) ?_
  refine Ev.bind (rword_ev hl hn) ?_
  rw [enc_list hl]
  generalize wordN (nats l) = w at hw ⊢
  refine Ev.pos (by rw [List.length_nil]; omega) (Ev.bindv rfl (Ev.bindv rfl (Ev.pos ?_ (Ev.ret ?_))))
  · rw [List.nil_append, List.length_cons, List.length_singleton]
    omega
  · have e1 : Int.tmod (w : Int) 256 % 256 = ((w % 256 : Nat) : Int) := by
      rw [show Int.tmod (w : Int) 256 = ((w % 256 : Nat) : Int) from rfl]
      omega
    have e2 : wrap64 (Int.tdiv (w : Int) 256) % 256 = ((w / 256 : Nat) : Int) := by
      rw [show Int.tdiv (w : Int) 256 = ((w / 256 : Nat) : Int) from rfl, w64_id (by omega) (by omega)]
      omega
    rw [List.nil_append, e1, e2]
theorem rdecode_ev {r : List Int} (hr : ∀ x ∈ r, 0 ≤ x ∧ x < 256) (hn : r.length < 1000000) : Ev (fun k => incunableref06_Decode.f k r) (decN (nats r)) := by
  have hlen := nats_length r
  have e1 : wrap64 ((r.length : Int) - 2) = (r.length : Int) - 2 := w64_id (by omega) (by omega)
  refine Ev.congr (fun k => by rw [incunableref06_Decode.f]) ?_
  rw [e1]
  clear e1
  unfold decN
  rw [hlen]
  have hj : Ev (fun k => incunableref06_Decode.j0 k r ((r.length : Int) - 2) true) ([], 0, 2) := Ev.step (fun k => incunableref06_Decode.j0.eq_2 ..) (Ev.pos rfl (Ev.ret rfl))
  refine Ev.ite (fun h => ?_) (fun h => ?_)
  · rw [if_pos (by omega)]
    exact hj
  by_cases h512 : (r.length : Int) - 2 > 512
  · rw [decide_eq_true h512, if_pos (by omega)]
    exact hj
  rw [decide_eq_false h512, if_neg (by omega)]
  clear hj
  obtain ⟨n, hn2⟩ : ∃ n, r.length = n + 2 := ⟨r.length - 2, by omega⟩
  have e2 : (r.length : Int) - 2 = (n : Int) := by omega
  rw [e2, hn2, show n + 2 - 2 = n by omega, show n + 2 - 1 = n + 1 by omega]
  refine Ev.step (fun k => incunableref06_Decode.j0.eq_2 ..) ?_
  rw [w64_succ (by omega), Int.toNat_natCast]
  refine Ev.neg (by decide) (Ev.pos (by omega) (Ev.pos (by omega) (Ev.pos (by omega) (Ev.pos (by omega) (Ev.pos (by omega) ?_)))))
  have b1 := hr _ (rd_mem (l := r) (i := (n : Int)) (by omega) (by omega))
  have b2 := hr _ (rd_mem (l := r) (i := ((n + 1 : Nat) : Int)) (by omega) (by omega))
  have r1 := rd_nats (l := r) (fun x hx => (hr x hx).1) n
  have r2 := rd_nats (l := r) (fun x hx => (hr x hx).1) (n + 1)
  rw [r1] at b1 ⊢
  rw [r2] at b2 ⊢
  have hd : ∀ x ∈ r.take n, 0 ≤ x ∧ x < 256 := fun x hx => hr x (List.mem_of_mem_take hx)
  have hdl : (r.take n).length = n := by rw [List.length_take]; omega
  have ew : wrap64 (wrap64 (((nats r).getD n 0 : Nat) : Int) + wrap64 (256 * wrap64 (((nats r).getD (n + 1) 0 : Nat) : Int))) = (((nats r).getD n 0 + 256 * (nats r).getD (n + 1) 0 : Nat) : Int) := by
    rw [w64_id (x := (((nats r).getD n 0 : Nat) : Int)) (by omega) (by omega), w64_id (x := (((nats r).getD (n + 1) 0 : Nat) : Int)) (by omega) (by omega), w64_id (x := 256 * (((nats r).getD (n + 1) 0 : Nat) : Int)) (by omega) (by omega), w64_id (by omega) (by omega)]
    omega
  rw [ew]
  clear ew
  refine Ev.bind (rjudge_ev hd (by omega) (by omega)) ?_
  rw [nats_take]
  have hst := judgeN_states ((nats r).take n) ((nats r).getD n 0 + 256 * (nats r).getD (n + 1) 0)
  generalize judgeN ((nats r).take n) ((nats r).getD n 0 + 256 * (nats r).getD (n + 1) 0) = j at hst ⊢
  obtain ⟨s, b, e⟩ := j
  obtain ⟨h1, h2, h3⟩ := hst
  dsimp only at h1 h2 h3 ⊢
  have hdd : ints ((nats r).take n) = r.take n := by rw [← nats_take]; exact ints_nats fun x hx => (hd x hx).1
  have hf1 := rflip_ev (l := r.take n) (at_ := [b]) hd (by omega) (by simp)
  rw [nats_take] at hf1
  unfold decOf
  rw [hdd]
  dsimp only
  rcases h2 with rfl | rfl | rfl | rfl
  · exact Ev.neg (by decide) (Ev.neg (by decide) (Ev.neg (by decide) (Ev.ret rfl)))
  · exact Ev.neg (by decide) (Ev.pos rfl (Ev.bind hf1 (Ev.ret rfl)))
  · exact Ev.neg (by decide) (Ev.neg (by decide) (Ev.pos rfl (Ev.ret rfl)))
  · exact Ev.pos rfl (Ev.ret rfl)
end Go.Proofs.Ytalejedajkhkjaa.PureChunkCodes
/-
  ChunkCodes: any bytes have the document's codeword, and any raw ones its bytes, or why not. Conditions: the law's own.
-/
namespace Go.Proofs.Ytalejedajkhkjaa.Pure
open Go.RowKit Go.Proofs.Ytalejedajkhkjaa.QChunkCodes Go.Proofs.YtalejedajkhkjaaW.PrintWords Go.Proofs.YtalejedajkhkjaaW.PrintLast Go.Proofs.YtalejedajkhkjaaW.PrintMore Go.Proofs.Ytalejedajkhkjaa.EvKit Go.Proofs.Ytalejedajkhkjaa.BitsKit Go.Proofs.Ytalejedajkhkjaa.CrcMath Go.Proofs.Ytalejedajkhkjaa.NatKit Go.Proofs.Ytalejedajkhkjaa.BitsMath Go.Proofs.Ytalejedajkhkjaa.LenMath Go.Proofs.Ytalejedajkhkjaa.HamMath Go.Proofs.Ytalejedajkhkjaa.ChunkMath Go.Proofs.Ytalejedajkhkjaa.PureChunkCodes
theorem decN_short (r : List Nat) (hn : r.length < 1000000) : (decN r).1.length < 1000000 := by
  unfold decN
  split
  · exact Nat.zero_lt_succ _
  · unfold decOf
    have : (ints (r.take (r.length - 2))).length < 1000000 := by rw [ints_length, List.length_take]; omega
    split
    · exact this
    · split
      · show (ints (flips _ _)).length < 1000000
        rw [ints_length, flips_length, List.length_take]
        omega
      · split
        · exact this
        · exact Nat.zero_lt_succ _
theorem codes_j1 {r : List Int} (hr : ∀ x ∈ r, 0 ≤ x ∧ x < 256) (hn : r.length ≤ 60) : Ev (fun k => incunablelaw06_ChunkCodes.j1 k r false) true := by
  refine Ev.step (fun k => incunablelaw06_ChunkCodes.j1.eq_2 ..) ?_
  refine Ev.neg (by decide) ?_
  refine Ev.bind (decode_ev hr (by omega)) (Ev.bind (rdecode_ev hr (by omega)) ?_)
  have hs := same_ev (decN (nats r)).1 (decN (nats r)).1 (Nat.lt_trans (decN_short _ (by rw [nats_length]; omega)) (by decide))
  rw [decide_eq_true rfl] at hs
  exact Ev.bind hs (Ev.pos rfl (Ev.pos rfl (Ev.ret (by simp))))
theorem codes_j2 {r : List Int} (hr : ∀ x ∈ r, 0 ≤ x ∧ x < 256) (hn : r.length ≤ 60) : Ev (fun k => incunablelaw06_ChunkCodes.j2 k r false) true := by
  refine Ev.step (fun k => incunablelaw06_ChunkCodes.j2.eq_2 ..) ?_
  refine Ev.neg (by decide) ?_
  refine Ev.bind (decode_ev hr (by omega)) (Ev.bind (rdecode_ev hr (by omega)) ?_)
  have hs := same_ev (decN (nats r)).1 (decN (nats r)).1 (Nat.lt_trans (decN_short _ (by rw [nats_length]; omega)) (by decide))
  rw [decide_eq_true rfl] at hs
  exact Ev.bind hs (Ev.pos rfl (Ev.pos rfl (Ev.ret (by simp))))
theorem ChunkCodes : StmChunkCodes := by
  intro l r _ hl' _ hr'
  have hl : ∀ x ∈ l, 0 ≤ x ∧ x < 256 := fun x hx => wf_u8 (hl'.2 x hx)
  have hr : ∀ x ∈ r, 0 ≤ x ∧ x < 256 := fun x hx => wf_u8 (hr'.2 x hx)
  clear hl' hr'
  refine Ev.rounds (Ev.congr (fun k => by rw [incunablelaw06_ChunkCodes.f]) ?_)
  refine Ev.bind chunk_awake_ev (Ev.pos rfl ?_)
  have hj : Ev (fun k => incunablelaw06_ChunkCodes.j0 k l r true) true := Ev.step (fun k => incunablelaw06_ChunkCodes.j0.eq_2 ..) (Ev.pos rfl (Ev.ret rfl))
  refine Ev.ite (fun _ => hj) (fun h60 => ?_)
  by_cases hr60 : (r.length : Int) > 60
  · rw [decide_eq_true hr60]
    exact hj
  rw [decide_eq_false hr60]
  clear hj
  refine Ev.step (fun k => incunablelaw06_ChunkCodes.j0.eq_2 ..) ?_
  refine Ev.neg (by decide) ?_
  by_cases h0 : l.length = 0
  · refine Ev.bind (encode_off (Or.inl h0)) (Ev.pos (by omega) (Ev.pos rfl ?_))
    exact codes_j1 hr (by omega)
  · refine Ev.bind (encode_ev hl (by omega) (by omega)) (Ev.neg (by omega) (Ev.pos rfl ?_))
    refine Ev.bind (rencode_ev hl (by omega)) ?_
    have hs := same_ev (ints (encN (nats l))) (ints (encN (nats l))) (by
      unfold encN
      rw [ints_length, encW_length, nats_length]
      omega)
    rw [decide_eq_true rfl] at hs
    refine Ev.bind hs ?_
    exact codes_j2 hr (by omega)
end Go.Proofs.Ytalejedajkhkjaa.Pure

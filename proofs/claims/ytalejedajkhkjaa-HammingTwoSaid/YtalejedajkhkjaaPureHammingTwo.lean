/-
  HammingTwo: of bytes and their word, two bits turned are told to be broken. Conditions: the law's own.
-/
import Derived.Test.YtalejedajkhkjaaStmHammingTwo
import Derived.Test.YtalejedajkhkjaaJudgedHammingTwo
import Derived.Test.YtalejedajkhkjaaFlipHammingTwo
namespace Go.Proofs.Ytalejedajkhkjaa.Pure
open Go.RowKit Go.Proofs.Ytalejedajkhkjaa.QHammingTwo Go.Proofs.YtalejedajkhkjaaW.PrintWords Go.Proofs.YtalejedajkhkjaaW.PrintLast Go.Proofs.YtalejedajkhkjaaW.PrintMore Go.Proofs.Ytalejedajkhkjaa.EvKit Go.Proofs.Ytalejedajkhkjaa.BitsKit Go.Proofs.Ytalejedajkhkjaa.CrcMath Go.Proofs.Ytalejedajkhkjaa.NatKit Go.Proofs.Ytalejedajkhkjaa.BitsMath Go.Proofs.Ytalejedajkhkjaa.LenMath Go.Proofs.Ytalejedajkhkjaa.HamMath Go.Proofs.Ytalejedajkhkjaa.PureHammingTwo
theorem shl_u16 {j : Nat} (h : j < 16) : shl .u16 1 (j : Int) = ((2 ^ j : Nat) : Int) := by
  have key : ∀ j : Nat, j < 16 → shl .u16 1 (j : Int) = ((2 ^ j : Nat) : Int) := by decide +kernel
  exact key j h
theorem flips_snoc (l : List Nat) (p : List Nat) (x : Nat) : flips (flips l (upN p)) [(x : Int)] = flips l (upN (p ++ [x])) := by
  unfold flips upN
  rw [List.map_append, List.foldl_append]
  rfl
theorem two_end {l : List Int} {p : List Nat} {m : Nat} {y : List Int} (hb : ∀ x ∈ l, 0 ≤ x ∧ x < 256) (hn : l.length ≤ 60) (hw : wordN (nats l) ^^^ m < 65536)
    (hj : judgeN (flips (nats l) (upN p)) (wordN (nats l) ^^^ m) = (3, 0, 0)) :
    Ev (fun k => incunablelaw05_HammingTwo.l0 k ((wordN (nats l) ^^^ m : Nat) : Int) (8 * (l.length : Int)) (ints (flips (nats l) (upN p))) y 2 2) true := by
  have hfb : ∀ x ∈ ints (flips (nats l) (upN p)), 0 ≤ x ∧ x < 256 := ints_byte (flips_lt _ (nats_lt hb))
  have hfn : (ints (flips (nats l) (upN p))).length ≤ 512 := by rw [ints_length, flips_length, nats_length]; omega
  refine Ev.step (fun k => incunablelaw05_HammingTwo.l0.eq_2 ..) ?_
  refine Ev.neg (by decide) ?_
  refine Ev.bind (judge_ev hfb hfn hw) ?_
  rw [nats_ints, hj]
  exact Ev.pos rfl (Ev.pos rfl (Ev.ret rfl))
theorem two_round {l : List Int} {p : List Nat} {m : Nat} {y : List Int} {q x : Nat} {r : Bool} (hb : ∀ x ∈ l, 0 ≤ x ∧ x < 256) (hn : l.length ≤ 60) (hw : wordN (nats l) ^^^ m < 65536) (hq : q < 2) (hy : y.length = 2) (hx : rd y (q : Int) = (x : Int)) (hxl : x < 8 * l.length + 14)
    (h1 : x < 8 * l.length → Ev (fun k => incunablelaw05_HammingTwo.l0 k ((wordN (nats l) ^^^ m : Nat) : Int) (8 * (l.length : Int)) (ints (flips (nats l) (upN (p ++ [x])))) y 2 ((q + 1 : Nat) : Int)) r)
    (h2 : ¬ x < 8 * l.length → Ev (fun k => incunablelaw05_HammingTwo.l0 k ((wordN (nats l) ^^^ (m ^^^ 2 ^ (x - 8 * l.length)) : Nat) : Int) (8 * (l.length : Int)) (ints (flips (nats l) (upN p))) y 2 ((q + 1 : Nat) : Int)) r) :
    Ev (fun k => incunablelaw05_HammingTwo.l0 k ((wordN (nats l) ^^^ m : Nat) : Int) (8 * (l.length : Int)) (ints (flips (nats l) (upN p))) y 2 (q : Int)) r := by
  have hfb : ∀ x ∈ ints (flips (nats l) (upN p)), 0 ≤ x ∧ x < 256 := ints_byte (flips_lt _ (nats_lt hb))
  have hfn : (ints (flips (nats l) (upN p))).length = l.length := by rw [ints_length, flips_length, nats_length]
  refine Ev.step (fun k => incunablelaw05_HammingTwo.l0.eq_2 ..) ?_
  rw [hx, hy, w64_succ (by omega)]
  refine Ev.pos (by omega) (Ev.pos (by omega) (Ev.pos (by omega) ?_))
  by_cases hlt : x < 8 * l.length
  · have hf := flip_ev (l := ints (flips (nats l) (upN p))) (at_ := [(x : Int)]) hfb (by omega) (by intro i hi; rw [List.mem_singleton.1 hi]; omega) (by simp)
    rw [nats_ints, flips_snoc] at hf
    refine Ev.pos (by omega) (Ev.bind hf ?_)
    exact h1 hlt
  · have e4 : IntKind.u64.wrap (wrap64 ((x : Int) - 8 * (l.length : Int))) = ((x - 8 * l.length : Nat) : Int) := by
      rw [w64_id (by omega) (by omega), w_u64 _ (by omega) (by omega)]
      omega
    have hp2 : 2 ^ (x - 8 * l.length) < 2 ^ 16 := Nat.pow_lt_pow_right (by decide) (by omega)
    have h2 := h2 hlt
    rw [← Nat.xor_assoc] at h2
    have hlt' : ¬ (x : Int) < 8 * (l.length : Int) := by clear hp2; omega
    have h0 : (0 : Int) ≤ ((x - 8 * l.length : Nat) : Int) := Int.natCast_nonneg _
    refine Ev.neg hlt' ?_
    rw [e4, shl_u16 (by clear hp2; omega), xor_u16 hw hp2]
    exact Ev.pos h0 h2
theorem judge_two {l p : List Nat} {m : Nat} (h : l.length ≤ 600) (hp : ∀ i ∈ p, i < 8 * l.length) (h1 : (XS p ^^^ m) % 8192 ≠ 0) (h2 : (oddL p != par (m % 16384)) = false) :
    judgeN (flips l (upN p)) (wordN l ^^^ m) = (3, 0, 0) := by
  unfold judgeN
  rw [wrong_turned h hp, single_turned h hp, if_pos h2, if_neg h1]
theorem HammingTwo : StmHammingTwo := by
  intro l ⟨a, b⟩ hlen hl ⟨ha, hb'⟩
  have hb : ∀ x ∈ l, 0 ≤ x ∧ x < 256 := fun x hx => wf_u8 (hl.2 x hx)
  obtain ⟨ha0, ha1⟩ := wf_u16 ha
  obtain ⟨hb0, hb1⟩ := wf_u16 hb'
  dsimp only at ha0 ha1 hb0 hb1 ⊢
  clear ha hb' hl
  refine Ev.rounds (Ev.congr (fun k => by rw [incunablelaw05_HammingTwo.f]) ?_)
  refine Ev.bind hamming_awake_ev (Ev.pos rfl ?_)
  refine Ev.ite (fun _ => Ev.ret rfl) (fun h60 => ?_)
  have hn : l.length ≤ 60 := by omega
  have hnl : (nats l).length = l.length := nats_length l
  have hwl := wordN_lt (l := nats l) (by omega)
  refine Ev.bind (word_ev hb (by omega)) ?_
  have e1 : wrap64 (8 * (l.length : Int)) = 8 * (l.length : Int) := w64_id (by omega) (by omega)
  have e2 : wrap64 (8 * (l.length : Int) + 14) = 8 * (l.length : Int) + 14 := w64_id (by omega) (by omega)
  have e3 : wrap64 a = a := w64_id (by omega) (by omega)
  have e4 : wrap64 b = b := w64_id (by omega) (by omega)
  rw [e1, e2, e3, e4]
  clear e1 e2 e3 e4
  refine Ev.neg (by omega) (Ev.pos rfl ?_)
  rw [Int.tmod_eq_emod_of_nonneg ha0, Int.tmod_eq_emod_of_nonneg hb0]
  obtain ⟨i, hi⟩ : ∃ q : Nat, a % (8 * (l.length : Int) + 14) = (q : Int) := Int.eq_ofNat_of_zero_le (Int.emod_nonneg _ (by omega))
  obtain ⟨k, hk⟩ : ∃ q : Nat, b % (8 * (l.length : Int) + 14) = (q : Int) := Int.eq_ofNat_of_zero_le (Int.emod_nonneg _ (by omega))
  have hi2 := Int.emod_lt_of_pos a (show 0 < 8 * (l.length : Int) + 14 by omega)
  have hk2 := Int.emod_lt_of_pos b (show 0 < 8 * (l.length : Int) + 14 by omega)
  rw [hi] at hi2 ⊢
  rw [hk] at hk2 ⊢
  clear hi hk
  refine Ev.ite (fun _ => Ev.ret rfl) (fun hne => ?_)
  refine Ev.bindv rfl ?_
  have hlist : ints (flips (nats l) (upN [])) = l := ints_nats fun x hx => (hb x hx).1
  have hz : wordN (nats l) = wordN (nats l) ^^^ 0 := (Nat.xor_zero _).symm
  have start : Ev (fun k' => incunablelaw05_HammingTwo.l0 k' ((wordN (nats l) ^^^ 0 : Nat) : Int) (8 * (l.length : Int)) (ints (flips (nats l) (upN []))) [(i : Int), (k : Int)] 2 ((0 : Nat) : Int)) true := by
    have pl : ∀ x : Nat, x < 8 * l.length → x ≤ 1048576 := fun x hx => by omega
    have m13 : ∀ x : Nat, ¬ x < 8 * l.length → x < 8 * l.length + 14 → x - 8 * l.length < 14 := fun x _ _ => by omega
    have w16 : ∀ m : Nat, m < 2 ^ 16 → wordN (nats l) ^^^ m < 65536 := fun m hm => Nat.xor_lt_two_pow (n := 16) hwl hm
    have p16 : ∀ j : Nat, j < 14 → 2 ^ j < 2 ^ 16 := fun j hj => Nat.pow_lt_pow_right (by decide) (by omega)
    have parp : ∀ j : Nat, j < 14 → par (2 ^ j % 16384) = true := by decide
    have pw : ∀ j : Nat, j < 14 → 2 ^ j % 8192 = 0 ∨ isPow (2 ^ j % 8192) = true := by decide
    have pne : ∀ x j : Nat, x < 8 * l.length → j < 14 → (place x ^^^ 2 ^ j) % 8192 ≠ 0 := by
      intro x j hx hj h0
      have hlt := place_lt (n := x) (by omega)
      have h3 := place_three (pl x hx)
      rw [xor_mod13, Nat.mod_eq_of_lt hlt] at h0
      have e := congrArg (· ^^^ 2 ^ j % 8192) h0
      simp only [Nat.zero_xor, Nat.xor_assoc, Nat.xor_self, Nat.xor_zero] at e
      rcases pw j hj with h | h
      · omega
      · rw [← e, h3.2] at h
        exact absurd h (by decide)
    refine two_round hb hn (w16 0 (by decide)) (by decide) rfl rfl (by omega) (fun hi1 => ?_) (fun hi1 => ?_)
    · refine two_round hb hn (w16 0 (by decide)) (by decide) rfl rfl (by omega) (fun hk1 => ?_) (fun hk1 => ?_)
      · refine two_end hb hn (w16 0 (by decide)) (judge_two (by omega) ?_ ?_ ?_)
        · intro z hz
          simp only [List.nil_append, List.cons_append, List.mem_cons, List.not_mem_nil, or_false] at hz
          omega
        · have hl1 := place_lt (n := i) (by omega)
          have hl2 := place_lt (n := k) (by omega)
          show ((place i ^^^ (place k ^^^ 0)) ^^^ 0) % 8192 ≠ 0
          rw [Nat.xor_zero, Nat.xor_zero, Nat.mod_eq_of_lt (Nat.xor_lt_two_pow (n := 13) hl1 hl2)]
          intro h0
          have e := congrArg (· ^^^ place k) h0
          simp only [Nat.zero_xor, Nat.xor_assoc, Nat.xor_self, Nat.xor_zero] at e
          have := place_inj (pl i hi1) (pl k hk1) e
          omega
        · show (oddL [i, k] != par (0 % 16384)) = false
          rw [show oddL [i, k] = false from by simp [oddL]]
          decide
      · have hj := m13 k hk1 (by omega)
        have h16 := p16 _ hj
        refine two_end hb hn (w16 _ (by rw [Nat.zero_xor]; exact h16)) (judge_two (by clear h16; omega) ?_ ?_ ?_)
        · intro z hz
          simp only [List.nil_append, List.mem_cons, List.not_mem_nil, or_false] at hz
          clear h16
          omega
        · show ((place i ^^^ 0) ^^^ (0 ^^^ 2 ^ (k - 8 * l.length))) % 8192 ≠ 0
          rw [Nat.xor_zero, Nat.zero_xor]
          exact pne i _ hi1 hj
        · rw [Nat.zero_xor, parp _ hj]
          rfl
    · have hj := m13 i hi1 (by omega)
      have h16 := p16 _ hj
      refine two_round hb hn (w16 _ (by rw [Nat.zero_xor]; exact h16)) (by decide) rfl rfl (by clear h16; omega) (fun hk1 => ?_) (fun hk1 => ?_)
      · refine two_end hb hn (w16 _ (by rw [Nat.zero_xor]; exact h16)) (judge_two (by clear h16; omega) ?_ ?_ ?_)
        · intro z hz
          simp only [List.nil_append, List.mem_cons, List.not_mem_nil, or_false] at hz
          clear h16
          omega
        · show ((place k ^^^ 0) ^^^ (0 ^^^ 2 ^ (i - 8 * l.length))) % 8192 ≠ 0
          rw [Nat.xor_zero, Nat.zero_xor]
          exact pne k _ hk1 hj
        · rw [Nat.zero_xor, parp _ hj]
          rfl
      · have hj2 := m13 k hk1 (by clear h16; omega)
        have hne2 : i - 8 * l.length ≠ k - 8 * l.length := by clear h16; omega
        have h162 := p16 _ hj2
        have hx16 : (0 ^^^ 2 ^ (i - 8 * l.length)) ^^^ 2 ^ (k - 8 * l.length) < 2 ^ 16 := by
          rw [Nat.zero_xor]
          exact Nat.xor_lt_two_pow h16 h162
        refine two_end hb hn (w16 _ hx16) (judge_two (by clear h16 h162 hx16; omega) (fun z hz => absurd hz (by simp)) ?_ ?_)
        · show (0 ^^^ ((0 ^^^ 2 ^ (i - 8 * l.length)) ^^^ 2 ^ (k - 8 * l.length))) % 8192 ≠ 0
          rw [Nat.zero_xor, Nat.zero_xor]
          have key : ∀ x : Nat, x < 14 → ∀ y : Nat, y < 14 → x ≠ y → (2 ^ x ^^^ 2 ^ y) % 8192 ≠ 0 := by decide +kernel
          exact key _ hj _ hj2 hne2
        · show (false != par (((0 ^^^ 2 ^ (i - 8 * l.length)) ^^^ 2 ^ (k - 8 * l.length)) % 16384)) = false
          rw [Nat.zero_xor]
          have key : ∀ x : Nat, x < 14 → ∀ y : Nat, y < 14 → par ((2 ^ x ^^^ 2 ^ y) % 16384) = false := by decide +kernel
          rw [key _ hj _ hj2]
          rfl
  rw [hlist, ← hz] at start
  exact start
end Go.Proofs.Ytalejedajkhkjaa.Pure

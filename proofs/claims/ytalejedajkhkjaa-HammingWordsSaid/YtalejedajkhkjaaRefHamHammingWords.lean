/-
  The document's words and what they say: the same as the program's.
-/
import Derived.Test.YtalejedajkhkjaaRefPlacesHammingWords
import Derived.Test.YtalejedajkhkjaaRefBitHammingWords
import Derived.Test.YtalejedajkhkjaaJudgeHammingWords
namespace Go.Proofs.Ytalejedajkhkjaa.PureHammingWords
open Go.RowKit Go.Proofs.Ytalejedajkhkjaa.QHammingWords Go.Proofs.YtalejedajkhkjaaW.PrintWords Go.Proofs.YtalejedajkhkjaaW.PrintLast Go.Proofs.YtalejedajkhkjaaW.PrintMore Go.Proofs.Ytalejedajkhkjaa.EvKit Go.Proofs.Ytalejedajkhkjaa.BitsKit Go.Proofs.Ytalejedajkhkjaa.CrcMath Go.Proofs.Ytalejedajkhkjaa.NatKit Go.Proofs.Ytalejedajkhkjaa.BitsMath Go.Proofs.Ytalejedajkhkjaa.LenMath Go.Proofs.Ytalejedajkhkjaa.HamMath
theorem rxor_l0 (d : Nat) : ∀ (a b n s i : Nat), i + d = 13 → s * 2 ^ d = 8192 → n < s → a < 8192 → b < 8192 →
    Ev (fun k => incunableref05_xor.l0 k (a : Int) (b : Int) (n : Int) (s : Int) (i : Int)) ((n + s * ((a ^^^ b) % 2 ^ d) : Nat) : Int) := by
  induction d with
  | zero =>
    intro a b n s i hi hs hn ha hb
    refine Ev.step (fun k => incunableref05_xor.l0.eq_2 ..) ?_
    refine Ev.neg (by omega) (Ev.ret ?_)
    rw [Nat.pow_zero, Nat.mod_one, Nat.mul_zero, Nat.add_zero]
  | succ d ih =>
    intro a b n s i hi hs hn ha hb
    have hs2 : s * 2 * 2 ^ d = 8192 := by rw [Nat.mul_assoc, ← Nat.pow_succ']; exact hs
    have hsl : s * 2 ≤ 8192 := by
      rw [← hs2]
      exact Nat.le_mul_of_pos_right _ (Nat.two_pow_pos d)
    have e : (a ^^^ b) % 2 ^ (d + 1) = (a % 2 + b % 2) % 2 + 2 * ((a / 2 ^^^ b / 2) % 2 ^ d) := by
      rw [Nat.pow_succ', Nat.mod_mul, xor_mod2, xor_div2]
    rw [e]
    clear e hs
    have ma : Int.tmod (a : Int) 2 = ((a % 2 : Nat) : Int) := rfl
    have mb : Int.tmod (b : Int) 2 = ((b % 2 : Nat) : Int) := rfl
    have da : wrap64 (Int.tdiv (a : Int) 2) = ((a / 2 : Nat) : Int) := by
      rw [show Int.tdiv (a : Int) 2 = ((a / 2 : Nat) : Int) from rfl]
      exact w64_id (by omega) (by omega)
    have db : wrap64 (Int.tdiv (b : Int) 2) = ((b / 2 : Nat) : Int) := by
      rw [show Int.tdiv (b : Int) 2 = ((b / 2 : Nat) : Int) from rfl]
      exact w64_id (by omega) (by omega)
    have d2 : wrap64 ((s : Int) * 2) = ((s * 2 : Nat) : Int) := by
      rw [w64_id (by omega) (by omega)]
      omega
    have dn : wrap64 ((n : Int) + (s : Int)) = ((n + s : Nat) : Int) := by
      rw [w64_id (by omega) (by omega)]
      omega
    refine Ev.step (fun k => incunableref05_xor.l0.eq_2 ..) ?_
    refine Ev.pos (by omega) ?_
    rw [ma, mb, da, db, d2, dn, w64_succ (by omega)]
    clear ma mb da db d2 dn
    have ih0 := ih (a / 2) (b / 2) n (s * 2) (i + 1) (by omega) hs2 (by omega) (by omega) (by omega)
    have ih1 := ih (a / 2) (b / 2) (n + s) (s * 2) (i + 1) (by omega) hs2 (by omega) (by omega) (by omega)
    generalize (a / 2 ^^^ b / 2) % 2 ^ d = x at ih0 ih1 ⊢
    refine Ev.ite (fun h => Ev.eq ih0 ?_) (fun h => Ev.eq ih1 ?_)
    · rw [show (a % 2 + b % 2) % 2 = 0 by omega, Nat.zero_add, Nat.mul_assoc]
    · rw [show (a % 2 + b % 2) % 2 = 1 by omega, Nat.mul_add, Nat.mul_one, Nat.mul_assoc, Nat.add_assoc]
theorem rxor_ev {a b : Nat} (ha : a < 8192) (hb : b < 8192) : Ev (fun k => incunableref05_xor.f k (a : Int) (b : Int)) ((a ^^^ b : Nat) : Int) := by
  refine Ev.congr (fun k => by rw [incunableref05_xor.f]) ?_
  refine Ev.eq (rxor_l0 13 a b 0 1 0 (by omega) (by decide) (by decide) ha hb) ?_
  rw [Nat.mod_eq_of_lt (Nat.xor_lt_two_pow (n := 13) ha hb), Nat.zero_add, Nat.one_mul]
theorem sum_bits_zero : ∀ n : Nat, (bitsOf n 0).sum = 0
  | 0 => rfl
  | n + 1 => by
    unfold bitsOf
    rw [List.sum_cons]
    exact (congrArg (0 + ·) (sum_bits_zero n))
theorem sum_bits_le : ∀ n x : Nat, (bitsOf n x).sum ≤ n
  | 0, _ => Nat.le_refl _
  | n + 1, x => by
    have := sum_bits_le n (x / 2)
    unfold bitsOf
    rw [List.sum_cons]
    omega
theorem rones_l0 (n : Nat) : ∀ (x c : Nat), n ≤ 16 → x < 2 ^ n → c + n ≤ 1000000 → Ev (fun k => incunableref05_ones.l0 k (x : Int) (c : Int)) ((c + (bitsOf n x).sum : Nat) : Int) := by
  induction n with
  | zero =>
    intro x c _ hx _
    have : x = 0 := by simpa using hx
    subst this
    refine Ev.step (fun k => incunableref05_ones.l0.eq_2 ..) ?_
    exact Ev.neg (by decide) (Ev.ret rfl)
  | succ n ih =>
    intro x c hn hx hc
    have hp : 2 ^ (n + 1) ≤ 2 ^ 16 := Nat.pow_le_pow_right (by decide) hn
    have hx2 : x < 65536 := Nat.lt_of_lt_of_le hx hp
    have hx3 : x / 2 < 2 ^ n := by rw [Nat.pow_succ] at hx; omega
    clear hx hp
    refine Ev.step (fun k => incunableref05_ones.l0.eq_2 ..) ?_
    by_cases h0 : x = 0
    · subst h0
      refine Ev.neg (by decide) (Ev.ret ?_)
      rw [sum_bits_zero]
      rfl
    · refine Ev.pos (by omega) ?_
      have da : wrap64 (Int.tdiv (x : Int) 2) = ((x / 2 : Nat) : Int) := by
        rw [show Int.tdiv (x : Int) 2 = ((x / 2 : Nat) : Int) from rfl]
        exact w64_id (by omega) (by omega)
      have db : wrap64 ((c : Int) + Int.tmod (x : Int) 2) = ((c + x % 2 : Nat) : Int) := by
        rw [show Int.tmod (x : Int) 2 = ((x % 2 : Nat) : Int) from rfl, w64_id (by omega) (by omega)]
        omega
      rw [da, db]
      clear da db
      refine Ev.eq (ih (x / 2) (c + x % 2) (by omega) hx3 (by omega)) ?_
      rw [show bitsOf (n + 1) x = x % 2 :: bitsOf n (x / 2) from rfl, List.sum_cons, Nat.add_assoc]
theorem rones_ev {x : Nat} (hx : x < 65536) : Ev (fun k => incunableref05_ones.f k (x : Int)) (((bitsOf 16 x).sum : Nat) : Int) := by
  refine Ev.congr (fun k => by rw [incunableref05_ones.f]) ?_
  refine Ev.eq (rones_l0 16 x 0 (by omega) hx (by omega)) ?_
  rw [Nat.zero_add]
/-- how many of the first m bits are set -/
def cn (l : List Nat) : Nat → Nat
  | 0 => 0
  | m + 1 => if bitAt l m = 1 then cn l m + 1 else cn l m
theorem cn_succ (l : List Nat) (m : Nat) : cn l (m + 1) = if bitAt l m = 1 then cn l m + 1 else cn l m := rfl
theorem cn_le (l : List Nat) : ∀ m, cn l m ≤ m
  | 0 => Nat.le_refl _
  | m + 1 => by
    have := cn_le l m
    rw [cn_succ]
    split <;> omega
theorem go_cn (l : List Nat) : ∀ m, go l m = decide (cn l m % 2 = 1)
  | 0 => rfl
  | m + 1 => by
    have ih := go_cn l m
    rw [cn_succ, go_succ, ih]
    split
    · by_cases h : cn l m % 2 = 1
      · rw [decide_eq_true h, decide_eq_false (by omega)]
        rfl
      · rw [decide_eq_false h, decide_eq_true (by omega)]
        rfl
    · rfl
theorem row_place {r : List Int} {n j : Nat} (hn : n ≤ 5000) (hok : rowOk r) (hl : r.length = n) (hj : j < n) : rd r (j : Int) = ((place j : Nat) : Int) := by
  obtain ⟨q, hq, hp⟩ := hok j (by omega)
  rw [hq, place_same hp (isPlace_place (by omega))]
theorem rgather_l0 {l : List Nat} {r : List Int} (hn : l.length ≤ 600) (hok : rowOk r) (hl : r.length = 8 * l.length) (d : Nat) : ∀ i : Nat, i + d = 8 * l.length →
    Ev (fun k => incunableref05_gather.l0 k (ints (bitList l)) r ((gx l i : Nat) : Int) ((cn l i : Nat) : Int) (i : Int)) (((gx l (8 * l.length) : Nat) : Int), ((cn l (8 * l.length) : Nat) : Int)) := by
  induction d with
  | zero =>
    intro i hi
    refine Ev.step (fun k => incunableref05_gather.l0.eq_2 ..) ?_
    rw [ints_length, bitList_length]
    refine Ev.neg (by omega) (Ev.ret ?_)
    rw [show i = 8 * l.length by omega]
  | succ d ih =>
    intro i hi
    have next := ih (i + 1) (by omega)
    have hg := gx_lt l i (by omega)
    have hc := cn_le l i
    have hp := place_lt (n := i) (by omega)
    have hrd := row_place (j := i) (by omega) hok hl (by omega)
    have hbit : rd (ints (bitList l)) (i : Int) = ((bitAt l i : Nat) : Int) := by
      rw [rd_ints, List.getD_eq_getElem?_getD, bitList_get (by omega), Option.getD_some]
    rw [gx_succ, cn_succ] at next
    refine Ev.step (fun k => incunableref05_gather.l0.eq_2 ..) ?_
    rw [ints_length, bitList_length, hl, hbit, hrd, w64_succ (by omega), w64_succ (by omega)]
    clear hbit hrd
    refine Ev.pos (by omega) (Ev.pos (by omega) ?_)
    refine Ev.ite (fun h => ?_) (fun h => ?_)
    · rw [if_pos (by omega), if_pos (by omega)] at next
      refine Ev.pos (by omega) (Ev.bind (rxor_ev hg hp) ?_)
      exact next
    · rw [if_neg (by omega), if_neg (by omega)] at next
      exact next
theorem rgather_ev {l : List Int} (hb : ∀ x ∈ l, 0 ≤ x ∧ x < 256) (hn : l.length ≤ 600) : Ev (fun k => incunableref05_gather.f k l) (((gx (nats l) (8 * (nats l).length) : Nat) : Int), ((cn (nats l) (8 * (nats l).length) : Nat) : Int)) := by
  have hlen := nats_length l
  refine Ev.congr (fun k => by rw [incunableref05_gather.f]) ?_
  refine Ev.bind (list_ev hb (by omega)) ?_
  rw [ints_length, bitList_length]
  obtain ⟨r, hr, hok, hl⟩ := places_ev (n := 8 * (nats l).length) (by omega)
  refine Ev.bind hr ?_
  exact rgather_l0 (by omega) hok hl (8 * (nats l).length) 0 (by omega)
theorem odd_sum {l : List Nat} {x : Nat} (m : Nat) : decide ((cn l m + (bitsOf 16 x).sum) % 2 = 1) = (go l m != par x) := by
  rw [go_cn]
  unfold par
  have e1 := Nat.mod_two_eq_zero_or_one (cn l m)
  have e2 := Nat.mod_two_eq_zero_or_one (bitsOf 16 x).sum
  rcases e1 with e1 | e1 <;> rcases e2 with e2 | e2 <;> rw [Nat.add_mod, e1, e2] <;> decide
theorem rword_ev {l : List Int} (hb : ∀ x ∈ l, 0 ≤ x ∧ x < 256) (hn : l.length ≤ 512) : Ev (fun k => incunableref05_Word.f k l) ((wordN (nats l) : Nat) : Int) := by
  have hlen := nats_length l
  have hg := gx_lt (nats l) (8 * (nats l).length) (by omega)
  have hc := cn_le (nats l) (8 * (nats l).length)
  have hs := sum_bits_le 16 (gx (nats l) (8 * (nats l).length))
  have ho := odd_sum (l := nats l) (x := gx (nats l) (8 * (nats l).length)) (8 * (nats l).length)
  have hw := wordN_of (l := nats l) rfl rfl
  refine Ev.congr (fun k => by rw [incunableref05_Word.f]) ?_
  refine Ev.bind (rgather_ev hb (by omega)) ?_
  refine Ev.bind (rones_ev (by omega)) ?_
  rw [hw, ← ho]
  clear hw ho
  generalize gx (nats l) (8 * (nats l).length) = x at hg hs ⊢
  generalize cn (nats l) (8 * (nats l).length) = c at hc ⊢
  generalize (bitsOf 16 x).sum = s at hs ⊢
  dsimp only
  have e : Int.tmod (wrap64 ((c : Int) + (s : Int))) 2 = (((c + s) % 2 : Nat) : Int) := by
    rw [w64_id (by omega) (by omega)]
    rfl
  rw [e]
  clear e
  refine Ev.ite (fun h => Ev.ret ?_) (fun h => Ev.ret ?_)
  · rw [w64_id (x := (x : Int) + 8192) (by omega) (by omega), w64_id (by omega) (by omega), decide_eq_true (by omega), if_pos rfl]
    omega
  · rw [w64_id (by omega) (by omega), decide_eq_false (by omega), if_neg (by decide)]
    omega
theorem search_hit {r : List Int} {N p k0 : Nat} (hN : N ≤ 5000) (hok : rowOk r) (hl : r.length = N) (hk : k0 < N) (hp : place k0 = p) (d : Nat) : ∀ i : Nat, i + d = k0 →
    Ev (fun k => incunableref05_Judge.l0 k (p : Int) r (i : Int)) (1, (k0 : Int)) := by
  induction d with
  | zero =>
    intro i hi
    refine Ev.step (fun k => incunableref05_Judge.l0.eq_2 ..) ?_
    have hrd := row_place (j := i) hN hok hl (by omega)
    rw [hrd]
    have : i = k0 := by omega
    subst this
    exact Ev.pos (by omega) (Ev.pos (by omega) (Ev.pos (by rw [hp]) (Ev.ret rfl)))
  | succ d ih =>
    intro i hi
    refine Ev.step (fun k => incunableref05_Judge.l0.eq_2 ..) ?_
    have hrd := row_place (j := i) hN hok hl (by omega)
    rw [hrd, w64_succ (by omega)]
    refine Ev.pos (by omega) (Ev.pos (by omega) (Ev.neg (fun h => ?_) (ih (i + 1) (by omega))))
    have := place_inj (i := i) (j := k0) (by omega) (by omega) (by omega)
    omega
theorem search_miss {r : List Int} {N p : Nat} (hN : N ≤ 5000) (hok : rowOk r) (hl : r.length = N) (hp : ∀ j, j < N → place j ≠ p) (d : Nat) : ∀ i : Nat, i + d = N →
    Ev (fun k => incunableref05_Judge.l0 k (p : Int) r (i : Int)) (3, 0) := by
  induction d with
  | zero =>
    intro i hi
    refine Ev.step (fun k => incunableref05_Judge.l0.eq_2 ..) ?_
    exact Ev.neg (by omega) (Ev.ret rfl)
  | succ d ih =>
    intro i hi
    refine Ev.step (fun k => incunableref05_Judge.l0.eq_2 ..) ?_
    have hrd := row_place (j := i) hN hok hl (by omega)
    have hne := hp i (by omega)
    rw [hrd, w64_succ (by omega)]
    exact Ev.pos (by omega) (Ev.pos (by omega) (Ev.neg (by omega) (ih (i + 1) (by omega))))
theorem rjudge_j1 {l : List Int} (hn : l.length ≤ 512) {p : Nat} (hp : p < 8192) :
    Ev (fun k => incunableref05_Judge.j1 k l (p : Int) (decide (p = 0 ∨ isPow p = true))) (if p = 0 ∨ isPow p = true then (2, 0) else if p - 1 - len p < 8 * l.length then (1, ((p - 1 - len p : Nat) : Int)) else (3, 0)) := by
  refine Ev.step (fun k => incunableref05_Judge.j1.eq_2 ..) ?_
  by_cases h : p = 0 ∨ isPow p = true
  · rw [decide_eq_true h, if_pos h]
    exact Ev.pos rfl (Ev.ret rfl)
  · rw [decide_eq_false h, if_neg h]
    refine Ev.neg (by decide) ?_
    rw [w64_id (x := 8 * (l.length : Int)) (by omega) (by omega), show 8 * (l.length : Int) = ((8 * l.length : Nat) : Int) by omega]
    obtain ⟨r, hr, hok, hl⟩ := places_ev (n := 8 * l.length) (by omega)
    refine Ev.bind hr ?_
    have hpl := place_far (fun e => h (Or.inl e)) (by simpa using fun e => h (Or.inr e)) hp
    have h2 := hpl.2.1
    have hk : p - 1 - len p ≤ 1048576 := by omega
    have he := place_same (isPlace_place hk) hpl
    by_cases hlt : p - 1 - len p < 8 * l.length
    · rw [if_pos hlt]
      exact search_hit (by omega) hok hl hlt he _ 0 (Nat.zero_add _)
    · rw [if_neg hlt]
      refine search_miss (N := 8 * l.length) (by omega) hok hl (fun j hj e => ?_) _ 0 (Nat.zero_add _)
      have := place_inj (i := j) (j := p - 1 - len p) (by omega) hk (by omega)
      omega
theorem rjudge_ev {l : List Int} (hb : ∀ x ∈ l, 0 ≤ x ∧ x < 256) (hn : l.length ≤ 512) {w : Nat} (_ : w < 65536) : Ev (fun k => incunableref05_Judge.f k l (w : Int)) ((judgeN (nats l) w).1, (judgeN (nats l) w).2.1) := by
  have hlen := nats_length l
  have hg := gx_lt (nats l) (8 * (nats l).length) (by omega)
  have hc := cn_le (nats l) (8 * (nats l).length)
  have hs := sum_bits_le 16 (w % 16384)
  have ho := odd_sum (l := nats l) (x := w % 16384) (8 * (nats l).length)
  have hwr := wrongN_lt (nats l) w
  refine Ev.congr (fun k => by rw [incunableref05_Judge.f]) ?_
  refine Ev.bind (rgather_ev hb (by omega)) ?_
  rw [show Int.tmod (w : Int) 8192 = ((w % 8192 : Nat) : Int) from rfl, show Int.tmod (w : Int) 16384 = ((w % 16384 : Nat) : Int) from rfl]
  refine Ev.bind (rxor_ev hg (by omega)) ?_
  refine Ev.bind (rones_ev (by omega)) ?_
  have e1 : gx (nats l) (8 * (nats l).length) ^^^ w % 8192 = wrongN (nats l) w := by
    unfold wrongN
    rw [xor_mod13, Nat.mod_eq_of_lt hg]
  have e2 : (go (nats l) (8 * (nats l).length) != par (w % 16384)) = single (nats l) w := rfl
  rw [e2] at ho
  rw [e1]
  unfold judgeN
  rw [← ho, hlen] at *
  clear e1 e2 ho
  generalize wrongN (nats l) w = p at hwr ⊢
  generalize cn (nats l) (8 * l.length) = c at hc ⊢
  generalize (bitsOf 16 (w % 16384)).sum = s at hs ⊢
  dsimp only
  have e : Int.tmod (wrap64 ((c : Int) + (s : Int))) 2 = (((c + s) % 2 : Nat) : Int) := by
    rw [w64_id (by omega) (by omega)]
    rfl
  rw [e]
  clear e
  by_cases h : (c + s) % 2 = 1
  · rw [decide_eq_true h]
    refine Ev.pos (by omega) ?_
    rw [h, show (((1 : Nat) : Int) == 1) = true from rfl, if_neg (by decide)]
    refine Ev.step (fun k => incunableref05_Judge.j0.eq_2 ..) ?_
    refine Ev.neg (by decide) (Ev.pos rfl ?_)
    have hj := rjudge_j1 hn hwr
    have fin : (if p = 0 ∨ isPow p = true then ((2, 0) : Int × Int) else if p - 1 - len p < 8 * l.length then (1, ((p - 1 - len p : Nat) : Int)) else (3, 0)) = ((if p = 0 ∨ isPow p = true then ((2, 0, 0) : Int × Int × Int) else if p - 1 - len p < 8 * l.length then (1, ((p - 1 - len p : Nat) : Int), 0) else (3, 0, 0)).1, (if p = 0 ∨ isPow p = true then ((2, 0, 0) : Int × Int × Int) else if p - 1 - len p < 8 * l.length then (1, ((p - 1 - len p : Nat) : Int), 0) else (3, 0, 0)).2.1) := by
      split
      · rfl
      · split <;> rfl
    refine Ev.eq (?_ : Ev _ _) fin
    by_cases h0 : p = 0
    · subst h0
      exact Ev.pos rfl hj
    · refine Ev.neg (by omega) (Ev.bind (power_ev p (by omega) (by omega)) ?_)
      have : decide (p = 0 ∨ isPow p = true) = isPow p := by
        cases hp : isPow p
        · exact decide_eq_false (by simp [h0])
        · exact decide_eq_true (Or.inr rfl)
      rw [this] at hj
      exact hj
  · rw [decide_eq_false h]
    refine Ev.neg (by omega) ?_
    rw [show (c + s) % 2 = 0 by omega, show (((0 : Nat) : Int) == 1) = false from rfl, if_pos rfl]
    refine Ev.step (fun k => incunableref05_Judge.j0.eq_2 ..) ?_
    refine Ev.ite (fun h => Ev.ret ?_) (fun h => Ev.neg (by decide) (Ev.ret ?_))
    · rw [if_pos (by have := beq_iff_eq.1 h; omega)]
    · rw [if_neg (fun e => h (by rw [e]; rfl))]
end Go.Proofs.Ytalejedajkhkjaa.PureHammingWords

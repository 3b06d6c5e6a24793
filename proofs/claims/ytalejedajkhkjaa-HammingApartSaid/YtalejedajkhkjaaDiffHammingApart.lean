/-
  What bits.Diff comes to.
-/
import Derived.Test.YtalejedajkhkjaaBitsMath
import Derived.Test.YtalejedajkhkjaaNatKit
import Derived.Test.YtalejedajkhkjaaQHammingApartx
namespace Go.Proofs.Ytalejedajkhkjaa.BitsMath
def tzTab : List Nat := [8, 0, 1, 0, 2, 0, 1, 0, 3, 0, 1, 0, 2, 0, 1, 0, 4, 0, 1, 0, 2, 0, 1, 0, 3, 0, 1, 0, 2, 0, 1, 0, 5, 0, 1, 0, 2, 0, 1, 0, 3, 0, 1, 0, 2, 0, 1, 0, 4, 0, 1, 0, 2, 0, 1, 0, 3, 0, 1, 0, 2, 0, 1, 0, 6, 0, 1, 0, 2, 0, 1, 0, 3, 0, 1, 0, 2, 0, 1, 0, 4, 0, 1, 0, 2, 0, 1, 0, 3, 0, 1, 0, 2, 0, 1, 0, 5, 0, 1, 0, 2, 0, 1, 0, 3, 0, 1, 0, 2, 0, 1, 0, 4, 0, 1, 0, 2, 0, 1, 0, 3, 0, 1, 0, 2, 0, 1, 0, 7, 0, 1, 0, 2, 0, 1, 0, 3, 0, 1, 0, 2, 0, 1, 0, 4, 0, 1, 0, 2, 0, 1, 0, 3, 0, 1, 0, 2, 0, 1, 0, 5, 0, 1, 0, 2, 0, 1, 0, 3, 0, 1, 0, 2, 0, 1, 0, 4, 0, 1, 0, 2, 0, 1, 0, 3, 0, 1, 0, 2, 0, 1, 0, 6, 0, 1, 0, 2, 0, 1, 0, 3, 0, 1, 0, 2, 0, 1, 0, 4, 0, 1, 0, 2, 0, 1, 0, 3, 0, 1, 0, 2, 0, 1, 0, 5, 0, 1, 0, 2, 0, 1, 0, 3, 0, 1, 0, 2, 0, 1, 0, 4, 0, 1, 0, 2, 0, 1, 0, 3, 0, 1, 0, 2, 0, 1, 0]
def tz (x : Nat) : Nat := ((List.range 8).find? fun j => x / 2 ^ j % 2 = 1).getD 8
theorem tz_tab : ∀ x : Nat, x < 256 → tzTab.getD x 0 = tz x := by decide +kernel
theorem tz_le : ∀ x : Nat, x < 256 → tz x ≤ 8 := by decide +kernel
theorem lows_length : ∀ (n x : Nat), (lows n x).length ≤ n
  | 0, _ => Nat.le_refl _
  | n + 1, x => by
    unfold lows
    split
    · exact Nat.zero_le _
    · rw [List.length_cons]
      have := lows_length n (x &&& (x - 1))
      omega
theorem lows_done : ∀ x : Nat, x < 256 → (lows 8 x).length ≤ 8 ∧ lows 8 x = lows 9 x := by decide +kernel
/-- the loop over a byte's bits ends in time -/
def ends8 : Nat → Nat → Bool
  | 0, x => decide (x = 0)
  | n + 1, x => if x = 0 then true else ends8 n (x &&& (x - 1))
theorem ends8_all : ∀ x : Nat, x < 256 → ends8 9 x = true := by decide +kernel
end Go.Proofs.Ytalejedajkhkjaa.BitsMath
namespace Go.Proofs.Ytalejedajkhkjaa.PureHammingApart
open Go.RowKit Go.Proofs.Ytalejedajkhkjaa.QHammingApart Go.Proofs.YtalejedajkhkjaaW.PrintWords Go.Proofs.YtalejedajkhkjaaW.PrintLast Go.Proofs.YtalejedajkhkjaaW.PrintMore Go.Proofs.Ytalejedajkhkjaa.EvKit Go.Proofs.Ytalejedajkhkjaa.BitsKit Go.Proofs.Ytalejedajkhkjaa.CrcMath Go.Proofs.Ytalejedajkhkjaa.NatKit Go.Proofs.Ytalejedajkhkjaa.BitsMath
theorem tz_eq {x : Nat} (hx : x < 256) : bits_TrailingZeros8.f (x : Int) = some ((tz x : Nat) : Int) := by
  unfold bits_TrailingZeros8.f
  rw [if_pos (by omega), if_pos (by omega)]
  congr 1
  have key : ∀ b : Nat, b < 256 → bt (⟨#[8, 0, 1, 0, 2, 0, 1, 0, 3, 0, 1, 0, 2, 0, 1, 0, 4, 0, 1, 0, 2, 0, 1, 0, 3, 0, 1, 0, 2, 0, 1, 0, 5, 0, 1, 0, 2, 0, 1, 0, 3, 0, 1, 0, 2, 0, 1, 0, 4, 0, 1, 0, 2, 0, 1, 0, 3, 0, 1, 0, 2, 0, 1, 0, 6, 0, 1, 0, 2, 0, 1, 0, 3, 0, 1, 0, 2, 0, 1, 0, 4, 0, 1, 0, 2, 0, 1, 0, 3, 0, 1, 0, 2, 0, 1, 0, 5, 0, 1, 0, 2, 0, 1, 0, 3, 0, 1, 0, 2, 0, 1, 0, 4, 0, 1, 0, 2, 0, 1, 0, 3, 0, 1, 0, 2, 0, 1, 0, 7, 0, 1, 0, 2, 0, 1, 0, 3, 0, 1, 0, 2, 0, 1, 0, 4, 0, 1, 0, 2, 0, 1, 0, 3, 0, 1, 0, 2, 0, 1, 0, 5, 0, 1, 0, 2, 0, 1, 0, 3, 0, 1, 0, 2, 0, 1, 0, 4, 0, 1, 0, 2, 0, 1, 0, 3, 0, 1, 0, 2, 0, 1, 0, 6, 0, 1, 0, 2, 0, 1, 0, 3, 0, 1, 0, 2, 0, 1, 0, 4, 0, 1, 0, 2, 0, 1, 0, 3, 0, 1, 0, 2, 0, 1, 0, 5, 0, 1, 0, 2, 0, 1, 0, 3, 0, 1, 0, 2, 0, 1, 0, 4, 0, 1, 0, 2, 0, 1, 0, 3, 0, 1, 0, 2, 0, 1, 0]⟩ : ByteArray) (b : Int) = ((tz b : Nat) : Int) := by
    decide +kernel
  rw [key x hx]
  have h8 := tz_le x hx
  exact w64_id (by omega) (by omega)
theorem diff_l1 {a b : List Int} {m : Int} {q : Nat} {r : List Int} (hq : q < 1000000) (n : Nat) : ∀ (x : Nat) (out : List Int), ends8 n x = true → x < 256 → out.length + n < 17592186044416 →
    Ev (fun k => bits_Diff.l0 k a b (out ++ ints ((lows n x).map (8 * q + ·))) m (wrap64 ((q : Int) + 1))) r → Ev (fun k => bits_Diff.l1 k a b out (q : Int) (x : Int) m (q : Int)) r := by
  induction n with
  | zero =>
    intro x out he hx ho h
    have h0 : x = 0 := of_decide_eq_true he
    subst h0
    refine Ev.step (fun k => bits_Diff.l1.eq_2 ..) ?_
    refine Ev.pos rfl ?_
    have : out ++ ints ((lows 0 0).map (8 * q + ·)) = out := List.append_nil out
    rw [this] at h
    exact h
  | succ n ih =>
    intro x out he hx ho h
    refine Ev.step (fun k => bits_Diff.l1.eq_2 ..) ?_
    by_cases h0 : x = 0
    · subst h0
      refine Ev.pos rfl ?_
      have : out ++ ints ((lows (n + 1) 0).map (8 * q + ·)) = out := List.append_nil out
      rw [this] at h
      exact h
    · have h0' : ¬ (x : Int) = 0 := by omega
      refine Ev.neg h0' ?_
      refine Ev.bindv (tz_eq hx) ?_
      have ho' : out.length < 17592186044416 := by omega
      refine Ev.pos ho' ?_
      have ht := tz_le x hx
      have he' : ends8 n (x &&& (x - 1)) = true := by
        unfold ends8 at he
        rw [if_neg h0] at he
        exact he
      have hlow : lows (n + 1) x = tz x :: lows n (x &&& (x - 1)) := by
        conv => lhs; unfold lows
        rw [if_neg h0]
        rfl
      rw [hlow] at h
      clear hlow
      generalize tz x = t at ht h ⊢
      rw [w64_id (x := 8 * (q : Int)) (by omega) (by omega), w64_id (by omega) (by omega), show ((x : Int) - 1) % 256 = ((x - 1 : Nat) : Int) from by omega, and_u8 hx (by omega)]
      refine ih _ _ he' (Nat.lt_of_le_of_lt Nat.and_le_left hx) (by rw [List.length_append, List.length_singleton]; omega) ?_
      have e : out ++ [8 * (q : Int) + (t : Int)] ++ ints ((lows n (x &&& (x - 1))).map (8 * q + ·)) = out ++ ints ((t :: lows n (x &&& (x - 1))).map (8 * q + ·)) := by
        rw [List.append_assoc]
        congr 1
      rw [e]
      exact h
theorem diff_l0 {a b : List Int} (ha : ∀ x ∈ a, 0 ≤ x ∧ x < 256) (hb : ∀ x ∈ b, 0 ≤ x ∧ x < 256) (m : Nat) (hma : m ≤ a.length) (hmb : m ≤ b.length) (hm : m < 1000000) (d : Nat) : ∀ (q : Nat) (out : List Int), q + d = m → out.length ≤ 9 * q →
    Ev (fun k => bits_Diff.l0 k a b out (m : Int) (q : Int)) (out ++ ints (((List.range m).drop q).flatMap (seg (nats a) (nats b)))) := by
  induction d with
  | zero =>
    intro q out hq ho
    refine Ev.step (fun k => bits_Diff.l0.eq_2 ..) ?_
    refine Ev.neg (by omega) (Ev.ret ?_)
    rw [List.drop_of_length_le (by rw [List.length_range]; omega)]
    exact (List.append_nil out).symm
  | succ d ih =>
    intro q out hq ho
    have hx := ha _ (rd_mem (l := a) (i := (q : Int)) (by omega) (by omega))
    have hy := hb _ (rd_mem (l := b) (i := (q : Int)) (by omega) (by omega))
    have hrx := rd_nats (l := a) (fun x hx => (ha x hx).1) q
    have hry := rd_nats (l := b) (fun x hx => (hb x hx).1) q
    rw [hrx] at hx
    rw [hry] at hy
    refine Ev.step (fun k => bits_Diff.l0.eq_2 ..) ?_
    refine Ev.pos (by omega) ?_
    refine Ev.pos (by omega) ?_
    refine Ev.pos (by omega) ?_
    refine Ev.pos (by omega) ?_
    rw [hrx, hry, xor_u8 (by omega) (by omega)]
    clear hrx hry
    have hdrop : (List.range m).drop q = q :: (List.range m).drop (q + 1) := by
      rw [List.drop_eq_getElem_cons (by rw [List.length_range]; omega), List.getElem_range]
    rw [hdrop, List.flatMap_cons]
    have hseg : seg (nats a) (nats b) q = (lows 9 ((nats a).getD q 0 ^^^ (nats b).getD q 0)).map (8 * q + ·) := by
      unfold seg
      rw [lows_eq _ (Nat.xor_lt_two_pow (n := 8) (by simpa using (by omega : (nats a).getD q 0 < 256)) (by simpa using (by omega : (nats b).getD q 0 < 256)))]
    have hxl : (nats a).getD q 0 ^^^ (nats b).getD q 0 < 256 := Nat.xor_lt_two_pow (n := 8) (by omega) (by omega)
    rw [hseg]
    generalize (nats a).getD q 0 ^^^ (nats b).getD q 0 = x at hxl ⊢
    refine diff_l1 (by omega) 9 x out (ends8_all x hxl) hxl (by omega) ?_
    rw [w64_succ (by omega)]
    have hlen := lows_length 9 x
    refine Ev.eq (ih (q + 1) _ (by omega) (by rw [List.length_append, ints_length, List.length_map]; omega)) ?_
    rw [List.append_assoc]
    congr 1
    unfold ints
    rw [List.map_append]
theorem diff_ev {a b : List Int} (ha : ∀ x ∈ a, 0 ≤ x ∧ x < 256) (hb : ∀ x ∈ b, 0 ≤ x ∧ x < 256) (han : a.length < 1000000) (hbn : b.length < 1000000) : Ev (fun k => bits_Diff.f k a b) (ints (diffN (nats a) (nats b))) := by
  refine Ev.congr (fun k => by rw [bits_Diff.f]) ?_
  have hm : mn (a.length : Int) (b.length : Int) = ((min a.length b.length : Nat) : Int) := by
    unfold mn
    split <;> omega
  rw [hm]
  refine Ev.eq (diff_l0 ha hb (min a.length b.length) (by omega) (by omega) (by omega) (min a.length b.length) 0 [] (by omega) (by simp)) ?_
  unfold diffN
  rw [diff_segs, nats_length, nats_length]
  rfl
end Go.Proofs.Ytalejedajkhkjaa.PureHammingApart

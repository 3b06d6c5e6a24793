/-
  What pack.Take comes to: each field's number, or why there is none.
-/
import Derived.Test.YtpabehkdedhncaaPackSizeBadBack
import Derived.Laws.BitsLemmas
namespace Go.Proofs.Ytpabehkdedhncaa.PureBadBack
open Go.RowKit Go.Proofs.Ytpabehkdedhncaa.QBadBack Go.Proofs.YtpabehkdedhncaaW.PrintWords Go.Proofs.YtpabehkdedhncaaW.PrintLast Go.Proofs.YtpabehkdedhncaaW.PrintMore Go.Proofs.Ytpabehkdedhncaa.EvKit Go.Proofs.Ytpabehkdedhncaa.PackMath

theorem wraps_u64 (n : Int) (h₀ : 0 ≤ n) (h₁ : n < 2 ^ 64) : IntKind.u64.wrap n = n := w_u64 n h₀ (by simpa using h₁)
theorem or_byte {x b : Int} (h0 : 0 ≤ x) (h : x < 256 ^ 7) (b0 : 0 ≤ b) (b1 : b < 256) : Go.bits .or .u64 (IntKind.u64.wrap (x * 256)) (IntKind.u64.wrap b) = b + 256 * x := by
  have e : (256 : Int) ^ 7 = 72057594037927936 := by decide
  rw [e] at h
  rw [wraps_u64 (x * 256) (by omega) (by omega), wraps_u64 b (by omega) (by omega), bits_join .u64 64 (by decide) wraps_u64 8 (x * 256) b (by omega) (by omega) (by omega) b0 (by omega) (by omega)]
  omega
theorem pow7 {m : Nat} (h : m ≤ 7) : (256 : Int) ^ m ≤ 256 ^ 7 := by
  have : m = 0 ∨ m = 1 ∨ m = 2 ∨ m = 3 ∨ m = 4 ∨ m = 5 ∨ m = 6 ∨ m = 7 := by omega
  rcases this with rfl | rfl | rfl | rfl | rfl | rfl | rfl | rfl <;> decide
theorem pow_lt64 {m : Nat} (h : m ≤ 8) : (256 : Int) ^ m ≤ 18446744073709551616 := by
  have : m = 0 ∨ m = 1 ∨ m = 2 ∨ m = 3 ∨ m = 4 ∨ m = 5 ∨ m = 6 ∨ m = 7 ∨ m = 8 := by omega
  rcases this with rfl | rfl | rfl | rfl | rfl | rfl | rfl | rfl | rfl <;> decide
theorem take_succ_rd {b : List Int} {d : Nat} (h : d < b.length) : b.take (d + 1) = b.take d ++ [rd b (d : Int)] := by
  rw [List.take_succ_eq_append_getElem h, rd_nat h]

/-- the loop over a field's bytes, the last first -/
theorem take_l1 {b out l : List Int} {s len i : Int} {r : List Int × Int} (hb : ∀ x ∈ b, 0 ≤ x ∧ x < 256) (hs : s ≤ 8) (hsb : s ≤ (b.length : Int)) (d : Nat) : ∀ (x : Int) (m : Nat), (d : Int) + m = s → 0 ≤ x → x < 256 ^ m →
    Ev (fun k => (if unle (b.take d) + 256 ^ d * x > 4611686018427387904 then (some (([] : List Int), 11)) else (if out.length < 17592186044416 then (if 0 ≤ s then (if s ≤ (b.length : Int) then (pack_Take.l0 k (b.drop (s : Int).toNat) (out ++ [wrap64 (unle (b.take d) + 256 ^ d * x)]) l len (wrap64 (i + 1))) else (none)) else (none)) else (none)))) r →
    Ev (fun k => pack_Take.l1 k b out s x (wrap64 ((d : Int) - 1)) l len i) r := by
  induction d with
  | zero =>
    intro x m hm h0 h1 h
    rw [show wrap64 (((0 : Nat) : Int) - 1) = -1 from by rw [w64_id (by omega) (by omega)]; omega]
    refine Ev.step (fun k => pack_Take.l1.eq_2 ..) ?_
    refine Ev.neg (by omega) ?_
    simpa [unle] using h
  | succ d ih =>
    intro x m hm h0 h1 h
    rw [show wrap64 (((d + 1 : Nat) : Int) - 1) = (d : Int) from by rw [w64_id (by omega) (by omega)]; omega]
    refine Ev.step (fun k => pack_Take.l1.eq_2 ..) ?_
    refine Ev.pos (by omega) (Ev.pos (by omega) (Ev.pos (by omega) ?_))
    have hc := hb _ (rd_mem (l := b) (i := (d : Int)) (by omega) (by omega))
    have hx : x < 256 ^ 7 := Int.lt_of_lt_of_le h1 (pow7 (by omega))
    rw [or_byte h0 hx hc.1 hc.2]
    refine ih (rd b (d : Int) + 256 * x) (m + 1) (by omega) (by omega) (by rw [Int.pow_succ]; omega) ?_
    have e : unle (b.take (d + 1)) + 256 ^ (d + 1) * x = unle (b.take d) + 256 ^ d * (rd b (d : Int) + 256 * x) := by
      rw [take_succ_rd (by omega), unle_append, List.length_take, Nat.min_eq_left (by omega), Int.pow_succ]
      simp only [unle, Int.mul_add, Int.mul_assoc, Int.mul_zero, Int.add_zero, Int.add_assoc]
    rw [e] at h
    exact h
theorem take_l0 {l : List Int} (hok : okSizes l = true) (d : Nat) : ∀ (i : Nat) (b out : List Int), i + d = l.length → (∀ x ∈ b, 0 ≤ x ∧ x < 256) → (b.length : Int) = (l.drop i).sum → out.length ≤ i →
    Ev (fun k => pack_Take.l0 k b out l (l.length : Int) (i : Int)) (endTake out (takeGo (l.drop i) b)) := by
  have hk := okSizes_iff.1 hok
  induction d with
  | zero =>
    intro i b out hi hb hsum ho
    refine Ev.step (fun k => pack_Take.l0.eq_2 ..) ?_
    refine Ev.neg (by omega) (Ev.ret ?_)
    rw [List.drop_of_length_le (by omega)]
    simp [takeGo, endTake]
  | succ d ih =>
    intro i b out hi hb hsum ho
    refine Ev.step (fun k => pack_Take.l0.eq_2 ..) ?_
    refine Ev.pos (by omega) (Ev.pos (by omega) (Ev.pos (by omega) ?_))
    have hs := hk.2 _ (rd_mem (l := l) (i := (i : Int)) (by omega) (by omega))
    have hrest := sum_nonneg (l := l.drop (i + 1)) fun x hx => hk.2 x (List.mem_of_mem_drop hx)
    rw [drop_rd (l := l) (i := i) (by omega)] at hsum ⊢
    rw [List.sum_cons] at hsum
    generalize rd l (i : Int) = s at hs hsum ⊢
    have hd : wrap64 (s - 1) = wrap64 ((s.toNat : Int) - 1) := by rw [show (s.toNat : Int) = s by omega]
    rw [hd]
    refine take_l1 hb (by omega) (by omega) s.toNat 0 0 (by omega) (by omega) (by simp) ?_
    have hn := unle_nonneg (b.take s.toNat) fun x hx => hb x (List.mem_of_mem_take hx)
    rw [Int.mul_zero, Int.add_zero]
    refine Ev.ite (fun h => Ev.ret ?_) (fun h => ?_)
    · have h' : ¬ unle (b.take s.toNat) ≤ 4611686018427387904 := by omega
      simp [takeGo, h', endTake]
    · refine Ev.pos (by omega) (Ev.pos (by omega) (Ev.pos (by omega) ?_))
      rw [w64_succ (by omega), w64_id (by omega) (by omega)]
      refine Ev.eq (ih (i + 1) (b.drop s.toNat) (out ++ [unle (b.take s.toNat)]) (by omega) (fun x hx => hb x (List.mem_of_mem_drop hx)) (by rw [List.length_drop]; omega) (by simp; omega)) ?_
      have h' : unle (b.take s.toNat) ≤ 4611686018427387904 := by omega
      simp only [takeGo, h', if_true]
      cases takeGo (l.drop (i + 1)) (b.drop s.toNat) <;> simp [endTake]
theorem take_ev (l b : List Int) (hb : ∀ x ∈ b, 0 ≤ x ∧ x < 256) : Ev (fun k => pack_Take.f k l b) (pkTake l b) := by
  refine Ev.congr (fun k => by rw [pack_Take.f]) ?_
  refine Ev.bind (size_ev l) ?_
  refine Ev.ite (fun h => ?_) (fun h => ?_)
  · have hok : okSizes l = true := by
      cases e : okSizes l
      · simp [pkSize, e] at h
      · rfl
    have e1 : pkSize l = (l.sum, true) := by simp [pkSize, hok]
    rw [e1]
    simp only [pkTake, hok, if_true]
    refine Ev.ite (fun h1 => Ev.ret ?_) (fun h1 => Ev.ite (fun h2 => Ev.ret ?_) (fun h2 => ?_))
    · rw [if_pos h1]
    · rw [if_neg h1, if_pos h2]
    · rw [if_neg h1, if_neg h2]
      exact take_l0 hok l.length 0 b [] (by omega) hb (by simp; omega) (by simp)
  · have hok : okSizes l = false := by
      cases e : okSizes l
      · rfl
      · simp [pkSize, e] at h
    refine Ev.ret ?_
    simp [pkTake, hok]
end Go.Proofs.Ytpabehkdedhncaa.PureBadBack

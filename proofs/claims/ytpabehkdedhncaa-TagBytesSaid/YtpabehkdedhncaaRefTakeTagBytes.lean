/-
  What the document's Take comes to.
-/
import Derived.Test.YtpabehkdedhncaaRefSizeTagBytes
namespace Go.Proofs.Ytpabehkdedhncaa.PureTagBytes
open Go.RowKit Go.Proofs.Ytpabehkdedhncaa.PTagBytes Go.Proofs.YtpabehkdedhncaaW.PrintWords Go.Proofs.YtpabehkdedhncaaW.PrintLast Go.Proofs.YtpabehkdedhncaaW.PrintMore Go.Proofs.Ytpabehkdedhncaa.EvKit Go.Proofs.Ytpabehkdedhncaa.PackMath

theorem rpow7 {m : Nat} (h : m ≤ 7) : (256 : Int) ^ m ≤ 72057594037927936 := by
  have : m = 0 ∨ m = 1 ∨ m = 2 ∨ m = 3 ∨ m = 4 ∨ m = 5 ∨ m = 6 ∨ m = 7 := by omega
  rcases this with rfl | rfl | rfl | rfl | rfl | rfl | rfl | rfl <;> decide
theorem rpow_next {j : Nat} (h : j ≤ 7) (h7 : j ≠ 7) : (256 : Int) ^ j * 256 ≤ 72057594037927936 := by
  have := rpow7 (m := j + 1) (by omega)
  rwa [Int.pow_succ] at this
theorem rtake_succ {b : List Int} {d : Nat} (h : d < b.length) : b.take (d + 1) = b.take d ++ [rd b (d : Int)] := by
  rw [List.take_succ_eq_append_getElem h, rd_nat h]
theorem rd_drop {b : List Int} {a j : Nat} (h : a + j < b.length) : rd (b.drop a) (j : Int) = rd b ((a + j : Nat) : Int) := by
  rw [rd_nat h, rd_nat (by rw [List.length_drop]; omega), List.getElem_drop]
theorem rtake_l1 {l b out : List Int} {s : Int} {i a m : Nat} {r : List Int × Int} (U : Nat → Int) (hU0 : ∀ j, j ≤ m → 0 ≤ U j ∧ U j < 256 ^ j) (hU : ∀ j, j < m → U (j + 1) = U j + 256 ^ j * rd b ((a + j : Nat) : Int))
    (hb : ∀ x ∈ b, 0 ≤ x ∧ x < 256) (hi : i < l.length) (hs : rd l (i : Int) = s) (hm : s = m) (h8 : m ≤ 8) (hab : a + m ≤ b.length) (hbl : b.length < 1000000) (ho : out.length < 17592186044416)
    (hgo : U m ≤ 4611686018427387904 → Ev (fun k => incunableref03_Take.l0 k l b (out ++ [U m]) (wrap64 ((a : Int) + s)) (wrap64 ((i : Int) + 1))) r)
    (hno : 4611686018427387904 < U m → r = ([], 11)) (d : Nat) :
    ∀ (j : Nat) (n sc : Int), j + d = m → (j ≤ 7 → sc = 256 ^ j) → n = U j → n ≤ 4611686018427387904 →
    Ev (fun k => incunableref03_Take.l1 k l b out (a : Int) (i : Int) n sc (j : Int)) r := by
  have i0 : (0 : Int) ≤ (i : Int) := Int.natCast_nonneg _
  have i1 : (i : Int) < (l.length : Int) := by exact_mod_cast hi
  induction d with
  | zero =>
    intro j n sc hj hsc hnv hn
    have e : j = m := hj
    have g : ¬ (j : Int) < rd l (i : Int) := by rw [hs, hm, e]; exact Int.lt_irrefl _
    refine Ev.step (fun k => incunableref03_Take.l1.eq_2 ..) ?_
    refine Ev.pos i0 ?_
    refine Ev.pos i1 ?_
    refine Ev.neg g ?_
    refine Ev.pos ho ?_
    subst e
    subst hnv
    rw [hs]
    exact hgo hn
  | succ d ih =>
    intro j n sc hj hsc hnv hn
    have hjm : j < m := by clear hgo hno hU hU0 ih; omega
    have hj7 : j ≤ 7 := by clear hgo hno hU hU0 ih; omega
    have hjl : a + j < b.length := by clear hgo hno hU hU0 ih; omega
    have hsc := hsc hj7
    subst hsc
    have g : (j : Int) < rd l (i : Int) := by rw [hs, hm]; exact_mod_cast hjm
    have q0 : (0 : Int) ≤ ((a + j : Nat) : Int) := Int.natCast_nonneg _
    have q1 : ((a + j : Nat) : Int) < (b.length : Int) := by exact_mod_cast hjl
    have hw : wrap64 ((a : Int) + (j : Int)) = ((a + j : Nat) : Int) := by
      rw [← Int.natCast_add]
      exact w64_id (by clear hgo hno hU hU0 ih; omega) (by clear hgo hno hU hU0 ih; omega)
    have hw1 : wrap64 ((j : Int) + 1) = ((j + 1 : Nat) : Int) := w64_succ (by clear hgo hno hU hU0 ih; omega)
    have hc := hb _ (rd_mem q0 q1)
    have hsucc := hU j hjm
    have hn0 := hU0 j (Nat.le_of_lt hjm)
    have hn2 := ih (j + 1) (n + 256 ^ j * rd b ((a + j : Nat) : Int))
    have hp := rpow7 hj7
    have hp0 : 0 < (256 : Int) ^ j := Int.pow_pos (by decide)
    have hp1 : j ≠ 7 → (256 : Int) ^ j * 256 ≤ 72057594037927936 := rpow_next hj7
    have hp7 : j = 7 → (256 : Int) ^ j = 72057594037927936 := by rintro rfl; decide
    have hps : ∀ x : Int, x = 256 ^ j * 256 → x = 256 ^ (j + 1) := by rintro x rfl; exact (Int.pow_succ 256 j).symm
    rw [← hnv] at hn0 hsucc
    clear hgo hU hU0 ih hnv
    refine Ev.step (fun k => incunableref03_Take.l1.eq_2 ..) ?_
    refine Ev.pos i0 ?_
    refine Ev.pos i1 ?_
    refine Ev.pos g ?_
    rw [hw, hw1]
    refine Ev.pos q0 ?_
    refine Ev.pos q1 ?_
    clear hw hw1 g
    generalize rd b ((a + j : Nat) : Int) = c at hc hsucc hn2 ⊢
    have hc1 : wrap64 c = c := w64_id (Int.le_trans (by decide) hc.1) (Int.le_trans (Int.le_of_lt hc.2) (by decide))
    rw [hc1, Int.mul_comm c]
    clear hc1
    generalize (256 : Int) ^ j = p at hn0 hsucc hn2 hp hp0 hp1 hp7 hps ⊢
    have hm0 : 0 ≤ p * c := Int.mul_nonneg (Int.le_of_lt hp0) hc.1
    have hm1 : p * c ≤ p * 256 := Int.mul_le_mul_of_nonneg_left (Int.le_of_lt hc.2) (Int.le_of_lt hp0)
    have next : n + p * c ≤ 4611686018427387904 → Ev (fun k => incunableref03_Take.l1 k l b out (a : Int) (i : Int) (wrap64 (n + wrap64 (p * c))) (wrap64 (p * 256)) ((j + 1 : Nat) : Int)) r := by
      intro hle
      have f1 : wrap64 (p * c) = p * c := w64_id (Int.le_trans (by decide) hm0) (by omega)
      have f2 : wrap64 (n + p * c) = n + p * c := w64_id (by omega) (by omega)
      rw [f1, f2]
      clear f1 f2
      refine hn2 _ (by omega) (fun h7 => hps _ (w64_id (by omega) ?_)) hsucc.symm hle
      have := hp1 (by omega)
      omega
    by_cases h7 : j = 7
    · have e7 := hp7 h7
      subst e7
      subst h7
      have hm8 : m = 8 := by omega
      subst hm8
      have hbad : 4611686018427387904 < n + 72057594037927936 * c → ([], 11) = r := by
        intro h
        refine (hno ?_).symm
        rw [hsucc]
        exact h
      clear hno hn2 hsucc hps hp1
      exact Ev.pos rfl (Ev.ite (fun h => Ev.ret (hbad (by omega))) (fun h => Ev.ite (fun h' => Ev.ite (fun h'' => Ev.ret (hbad (by omega))) (fun h'' => next (by omega))) (fun h' => next (by omega))))
    · have h6 := hp1 h7
      have h7' : ¬ (j : Int) = 7 := by omega
      exact Ev.neg h7' (next (by omega))
theorem rtake_l0 {l b : List Int} (hok : okSizes l = true) (hb : ∀ x ∈ b, 0 ≤ x ∧ x < 256) (hbl : b.length < 1000000) (d : Nat) : ∀ (i a : Nat) (out : List Int), i + d = l.length → a ≤ b.length → (b.length : Int) = a + (l.drop i).sum → out.length ≤ i →
    Ev (fun k => incunableref03_Take.l0 k l b out (a : Int) (i : Int)) (endTake out (takeGo (l.drop i) (b.drop a))) := by
  have hk := okSizes_iff.1 hok
  induction d with
  | zero =>
    intro i a out hi ha hsum ho
    refine Ev.step (fun k => incunableref03_Take.l0.eq_2 ..) ?_
    refine Ev.neg (by omega) (Ev.ret ?_)
    rw [List.drop_of_length_le (by omega)]
    simp [takeGo, endTake]
  | succ d ih =>
    intro i a out hi ha hsum ho
    refine Ev.step (fun k => incunableref03_Take.l0.eq_2 ..) ?_
    refine Ev.pos (by omega) ?_
    have hs := hk.2 _ (rd_mem (l := l) (i := (i : Int)) (by omega) (by omega))
    have hrest := sum_nonneg (l := l.drop (i + 1)) fun x hx => hk.2 x (List.mem_of_mem_drop hx)
    rw [drop_rd (l := l) (i := i) (by omega)] at hsum ⊢
    rw [List.sum_cons] at hsum
    generalize hsv : rd l (i : Int) = s at hs hsum ⊢
    obtain ⟨m, rfl⟩ := Int.eq_ofNat_of_zero_le (show 0 ≤ s by omega)
    have hm8 : m ≤ 8 := by omega
    have ham : a + m ≤ b.length := by omega
    have g1 : i + 1 + d = l.length := by omega
    have g2 : (b.length : Int) = ((a + m : Nat) : Int) + (l.drop (i + 1)).sum := by omega
    have g3 : out.length + 1 ≤ i + 1 := by omega
    have g4 : i < l.length := by omega
    have g5 : out.length < 17592186044416 := by omega
    have w1 : wrap64 ((i : Int) + 1) = ((i + 1 : Nat) : Int) := w64_succ (by omega)
    have w2 : wrap64 ((a : Int) + (m : Int)) = ((a + m : Nat) : Int) := by rw [← Int.natCast_add]; exact w64_id (by clear w1; omega) (by clear w1; omega)
    have hab : ∀ j, j ≤ m → ((b.drop a).take j).length = j := fun j hj => by clear w1 w2; rw [List.length_take, List.length_drop]; omega
    have hbj : ∀ j, ∀ x ∈ (b.drop a).take j, 0 ≤ x ∧ x < 256 := fun j x hx => hb x (List.mem_of_mem_drop (List.mem_of_mem_take hx))
    have h1 : ∀ j, j ≤ m → 0 ≤ unle ((b.drop a).take j) ∧ unle ((b.drop a).take j) < 256 ^ j := by
      intro j hj
      have := unle_lt _ (hbj j)
      rw [hab j hj] at this
      exact ⟨unle_nonneg _ (hbj j), this⟩
    have h2 : ∀ j, j < m → unle ((b.drop a).take (j + 1)) = unle ((b.drop a).take j) + 256 ^ j * rd b ((a + j : Nat) : Int) := by
      intro j hj
      clear w1 w2 h1
      rw [rtake_succ (by rw [List.length_drop]; omega), unle_append, hab j (by omega), rd_drop (by omega)]
      simp [unle]
    refine rtake_l1 (U := fun j => unle ((b.drop a).take j)) h1 h2 hb g4 hsv rfl hm8 ham hbl g5 ?_ ?_ m 0 0 1 (Nat.zero_add m) (by intro _; rfl) (by simp [unle]) (by decide)
    · intro hle
      rw [w1, w2]
      refine Ev.eq (ih (i + 1) (a + m) _ g1 ham g2 (by rw [List.length_append, List.length_singleton]; exact g3)) ?_
      have et : takeGo ((m : Int) :: l.drop (i + 1)) (b.drop a) = (takeGo (l.drop (i + 1)) (b.drop (a + m))).map (unle ((b.drop a).take m) :: ·) := by
        rw [takeGo, Int.toNat_natCast, if_pos hle, List.drop_drop]
      rw [et]
      cases takeGo (l.drop (i + 1)) (b.drop (a + m))
      · rfl
      · simp only [endTake, Option.map_some, List.append_assoc, List.singleton_append]
    · intro hle
      have hle' : ¬ unle ((b.drop a).take m) ≤ 4611686018427387904 := Int.not_le.2 hle
      have et : takeGo ((m : Int) :: l.drop (i + 1)) (b.drop a) = none := by
        rw [takeGo, Int.toNat_natCast, if_neg hle']
      rw [et]
      rfl
theorem rtake_ev (l b : List Int) (hl : l.length ≤ 1000000) (hb : ∀ x ∈ b, 0 ≤ x ∧ x < 256) (hbl : b.length < 1000000) : Ev (fun k => incunableref03_Take.f k l b) (pkTake l b) := by
  refine Ev.congr (fun k => by rw [incunableref03_Take.f]) ?_
  refine Ev.bind (rsize_ev l hl) ?_
  refine Ev.ite (fun h => ?_) (fun h => ?_)
  · have hok : okSizes l = true := by
      cases e : okSizes l
      · simp [pkSize, e] at h
      · rfl
    have e1 : pkSize l = (l.sum, true) := by simp [pkSize, hok]
    rw [e1]
    simp only [pkTake, hok, if_true]
    refine Ev.ite (fun h1 => Ev.ret ?_) (fun h1 => Ev.ite (fun h2 => Ev.ret ?_) (fun h2 => ?_))
    · rw [if_pos h1]
    · rw [if_neg h1, if_pos h2]
    · rw [if_neg h1, if_neg h2]
      have := rtake_l0 hok hb hbl l.length 0 0 [] (by omega) (by omega) (by simp; omega) (by simp)
      simpa using this
  · have hok : okSizes l = false := by
      cases e : okSizes l
      · rfl
      · simp [pkSize, e] at h
    refine Ev.ret ?_
    simp [pkTake, hok]
end Go.Proofs.Ytpabehkdedhncaa.PureTagBytes

/-
  Tables of bad blocks: what bad.Put (and the document's Put) come to.
-/
import Derived.Test.YtpabehkdedhncaaPackPutBadBack
import Derived.Test.YtpabehkdedhncaaCrcFnBadBack
namespace Go.Proofs.Ytpabehkdedhncaa.PureBadBack
open Go.RowKit Go.Proofs.Ytpabehkdedhncaa.QBadBack Go.Proofs.YtpabehkdedhncaaW.PrintWords Go.Proofs.YtpabehkdedhncaaW.PrintLast Go.Proofs.YtpabehkdedhncaaW.PrintMore Go.Proofs.Ytpabehkdedhncaa.EvKit Go.Proofs.Ytpabehkdedhncaa.PackMath Go.Proofs.Ytpabehkdedhncaa.CrcMath Go.Proofs.Ytpabehkdedhncaa.NatKit
def asc : Int → List Int → Bool
  | _, [] => true
  | last, x :: l => decide (last < x) && (decide (x < 256) && asc x l)
def verB (v : Int) : Bool := decide (0 ≤ v) && decide (v ≤ 2305843009213693952)
def mayB (v : Int) (l : List Int) : Bool := asc (-1) l && verB v
theorem asc_cons {last x : Int} {l : List Int} : asc last (x :: l) = true ↔ last < x ∧ x < 256 ∧ asc x l = true := by
  show (decide (last < x) && (decide (x < 256) && asc x l)) = true ↔ _
  rw [Bool.and_eq_true, Bool.and_eq_true, decide_eq_true_eq, decide_eq_true_eq]
theorem asc_len : ∀ (l : List Int) (last : Int), last ≤ 255 → asc last l = true → (l.length : Int) + last ≤ 255
  | [], last, h, _ => by simp only [List.length_nil]; omega
  | x :: l, last, h, e => by
    obtain ⟨h1, h2, h3⟩ := asc_cons.1 e
    have := asc_len l x (by omega) h3
    simp only [List.length_cons]
    omega
theorem asc_mem : ∀ (l : List Int) (last : Int), -1 ≤ last → asc last l = true → ∀ x ∈ l, 0 ≤ x ∧ x < 256
  | [], _, _, _, x, hx => absurd hx (by simp)
  | y :: l, last, h, e, x, hx => by
    obtain ⟨h1, h2, h3⟩ := asc_cons.1 e
    rcases List.mem_cons.1 hx with rfl | hx
    · omega
    · exact asc_mem l y (by omega) h3 x hx
theorem may_end (v : Int) : (if v ≥ 0 then some (decide (v ≤ 2305843009213693952)) else some false) = some (verB v) := by
  unfold verB
  by_cases h : v ≥ 0
  · rw [if_pos h, decide_eq_true (p := 0 ≤ v) h, Bool.true_and]
  · rw [if_neg h, decide_eq_false (p := 0 ≤ v) h, Bool.false_and]
theorem may_l0 (v : Int) (l : List Int) (hl : l.length < 1000000000) (d : Nat) : ∀ (i : Nat) (last : Int), i + d = l.length →
    Ev (fun k => bad_may.l0 k v last l (l.length : Int) (i : Int)) (asc last (l.drop i) && verB v) := by
  induction d with
  | zero =>
    intro i last hi
    refine Ev.step (fun k => bad_may.l0.eq_2 ..) ?_
    refine Ev.neg (by omega) (Ev.val ?_)
    rw [may_end, List.drop_of_length_le (by omega)]
    rfl
  | succ d ih =>
    intro i last hi
    refine Ev.step (fun k => bad_may.l0.eq_2 ..) ?_
    refine Ev.pos (by omega) (Ev.pos (by omega) (Ev.pos (by omega) ?_))
    rw [drop_rd (l := l) (i := i) (by omega), w64_succ (by omega)]
    have e := ih (i + 1) (rd l (i : Int)) (by omega)
    generalize rd l (i : Int) = x at e ⊢
    unfold asc
    refine Ev.ite (fun h => Ev.ret ?_) (fun h => Ev.ite (fun h2 => Ev.ret ?_) (fun h2 => Ev.eq e ?_))
    · rw [decide_eq_false (by omega), Bool.false_and, Bool.false_and]
    · rw [decide_eq_false (p := x < 256) (by omega), Bool.false_and, Bool.and_false, Bool.false_and]
    · rw [decide_eq_true (p := last < x) (by omega), decide_eq_true (p := x < 256) (by omega), Bool.true_and, Bool.true_and]
theorem may_ev (v : Int) (l : List Int) (hl : l.length < 1000000000) : Ev (fun k => bad_may.f k v l) (mayB v l) := by
  refine Ev.congr (fun k => by rw [bad_may.f]) ?_
  exact may_l0 v l hl l.length 0 (-1) (by omega)
def withCrc (b : List Int) : List Int := b ++ four (CrcMath.sum (nats b))
def headB (v : Int) (l : List Int) : List Int := le 8 v ++ le 2 (l.length : Int)
def bodyB (size v : Int) (l : List Int) : List Int := headB v l ++ l.flatMap (le 2) ++ List.replicate (size - (14 + 2 * (l.length : Int))).toNat 0
def putB (size v : Int) (l : List Int) : List Int × Int :=
  if mayB v l = true ∧ 14 ≤ size ∧ size ≤ 16384 then (if 14 + 2 * (l.length : Int) ≤ size then (withCrc (bodyB size v l), 0) else ([], 3)) else ([], 2)
theorem pk_two {x : Int} (h0 : 0 ≤ x) (h1 : x < 256) : pkPut [2] [x] = (le 2 x, 0) := by
  have f : pkFits x 2 = true := fits_iff.2 ⟨by decide, by decide, h0, by omega, by show x < 65536; omega⟩
  have g : putGo [2] [x] = some (le 2 x ++ []) := by
    show (if pkFits x 2 then (some []).map (le 2 x ++ ·) else none) = _
    rw [if_pos f]
    rfl
  unfold pkPut
  rw [if_pos (by decide), g, List.append_nil]
  rfl
theorem pk_head {v : Int} {l : List Int} (h0 : 0 ≤ v) (h1 : v ≤ 2305843009213693952) (hl : l.length ≤ 300) : pkPut [8, 2] [v, (l.length : Int)] = (headB v l, 0) := by
  have f : pkFits v 8 = true := fits_iff.2 ⟨by decide, by decide, h0, by omega, by show v < 18446744073709551616; omega⟩
  have f2 : pkFits (l.length : Int) 2 = true := fits_iff.2 ⟨by decide, by decide, by omega, by omega, by show (l.length : Int) < 65536; omega⟩
  have g : putGo [8, 2] [v, (l.length : Int)] = some (le 8 v ++ (le 2 (l.length : Int) ++ [])) := by
    show (if pkFits v 8 then (if pkFits (l.length : Int) 2 then (some []).map (le 2 (l.length : Int) ++ ·) else none).map (le 8 v ++ ·) else none) = _
    rw [if_pos f, if_pos f2]
    rfl
  unfold pkPut
  rw [if_pos (by decide), g, List.append_nil]
  rfl
theorem head_len (v : Int) (l : List Int) : (headB v l).length = 10 := by
  unfold headB
  rw [List.length_append, le_length, le_length]
theorem app_byte {a b : List Int} (ha : ∀ x ∈ a, 0 ≤ x ∧ x < 256) (hb : ∀ x ∈ b, 0 ≤ x ∧ x < 256) : ∀ x ∈ a ++ b, 0 ≤ x ∧ x < 256 := fun x hx => by
  rcases List.mem_append.1 hx with h | h
  · exact ha x h
  · exact hb x h
theorem head_byte (v : Int) (l : List Int) : ∀ x ∈ headB v l, 0 ≤ x ∧ x < 256 := app_byte (le_byte 8 v) (le_byte 2 _)
theorem zeros_byte (n : Nat) : ∀ x ∈ List.replicate n (0 : Int), 0 ≤ x ∧ x < 256 := fun x hx => by
  obtain rfl := (List.mem_replicate.1 hx).2
  exact ⟨by decide, by decide⟩
theorem put_l0b {size : Int} {l : List Int} (hm : ∀ x ∈ l, 0 ≤ x ∧ x < 256) (hs : size ≤ 16384) (hr : 14 + 2 * (l.length : Int) ≤ size) (d : Nat) : ∀ (i : Nat) (out : List Int), i + d = l.length → out.length = 10 + 2 * i → (∀ x ∈ out, 0 ≤ x ∧ x < 256) →
    Ev (fun k => bad_Put.l0 k size out l (l.length : Int) (i : Int)) (withCrc (out ++ (l.drop i).flatMap (le 2) ++ List.replicate (size - (14 + 2 * (l.length : Int))).toNat 0), 0) := by
  induction d with
  | zero =>
    intro i out hi ho hb
    have hz : wrap64 (wrap64 (size - 4) - (out.length : Int)) = size - (14 + 2 * (l.length : Int)) := by
      rw [w64_id (x := size - 4) (by omega) (by omega), w64_id (by omega) (by omega)]
      omega
    refine Ev.step (fun k => bad_Put.l0.eq_2 ..) ?_
    refine Ev.neg (by omega) ?_
    rw [hz]
    clear hz
    have hz0 : 0 ≤ size - (14 + 2 * (l.length : Int)) := by omega
    have hn : out.length + (size - (14 + 2 * (l.length : Int))).toNat < 20000 := by omega
    rw [List.drop_of_length_le (by omega), List.flatMap_nil, List.append_nil]
    refine Ev.pos hz0 (Ev.pos (by omega) (Ev.bindv rfl ?_))
    generalize (size - (14 + 2 * (l.length : Int))).toNat = z at hn
    have hy := app_byte hb (zeros_byte z)
    have hyl : (out ++ List.replicate z (0 : Int)).length < 20000 := by rw [List.length_append, List.length_replicate]; omega
    generalize out ++ List.replicate z (0 : Int) = y at hy hyl
    refine Ev.bind (sum_one hy (by omega)) (Ev.bind (bytes_ev _) (Ev.pos ?_ (Ev.ret rfl)))
    show y.length + 4 < 140737488355328
    omega
  | succ d ih =>
    intro i out hi ho hb
    refine Ev.step (fun k => bad_Put.l0.eq_2 ..) ?_
    refine Ev.pos (by omega) (Ev.pos (by omega) (Ev.pos (by omega) ?_))
    have hx := hm (rd l (i : Int)) (rd_mem (by omega) (by omega))
    rw [drop_rd (l := l) (i := i) (by omega), w64_succ (by omega)]
    generalize rd l (i : Int) = x at hx
    refine Ev.bind (put_ev [2] [x]) ?_
    rw [pk_two hx.1 hx.2]
    have h2 := le_length 2 x
    refine Ev.pos (by show out.length + (le 2 x).length < _; omega) ?_
    refine Ev.eq (ih (i + 1) (out ++ le 2 x) (by omega) (by rw [List.length_append]; omega) (app_byte hb (le_byte 2 x))) ?_
    rw [List.flatMap_cons, List.append_assoc, List.append_assoc, List.append_assoc, List.append_assoc]
theorem room_gt {size : Int} {n : Nat} (h0 : 14 ≤ size) (h1 : size ≤ 16384) (hn : n ≤ 256) : ∃ t, bad_Room.f size = some t ∧ ((n : Int) > t ↔ ¬ 14 + 2 * (n : Int) ≤ size) := by
  have e : wrap64 (Int.tdiv (wrap64 (size - 14)) 2) = (size - 14) / 2 := by
    rw [w64_id (x := size - 14) (by omega) (by omega), Int.tdiv_eq_ediv_of_nonneg (by omega), w64_id (by omega) (by omega)]
  unfold bad_Room.f
  rw [if_neg (by omega), e]
  refine ⟨_, rfl, ?_⟩
  unfold mn
  split <;> omega
theorem mayB_parts {v : Int} {l : List Int} (h : mayB v l = true) : asc (-1) l = true ∧ 0 ≤ v ∧ v ≤ 2305843009213693952 := by
  unfold mayB verB at h
  rw [Bool.and_eq_true, Bool.and_eq_true, decide_eq_true_eq, decide_eq_true_eq] at h
  exact h
theorem bput_ev (size v : Int) (l : List Int) (hl : l.length ≤ 300) : Ev (fun k => bad_Put.f k size v l) (putB size v l) := by
  refine Ev.congr (fun k => by rw [bad_Put.f]) ?_
  refine Ev.bind (may_ev v l (by omega)) ?_
  have hbad : ¬ (mayB v l = true ∧ 14 ≤ size ∧ size ≤ 16384) → Ev (fun k => bad_Put.j0 k size v l true) (putB size v l) := fun h => by
    refine Ev.step (fun k => bad_Put.j0.eq_2 ..) (Ev.pos rfl (Ev.ret ?_))
    unfold putB
    rw [if_neg h]
  refine Ev.ite (fun hm => Ev.ite (fun h1 => hbad (fun e => by omega)) (fun h1 => ?_)) (fun hm => hbad (fun e => hm e.1))
  by_cases h2 : size > 16384
  · rw [decide_eq_true h2]
    exact hbad (fun e => by omega)
  rw [decide_eq_false h2]
  obtain ⟨ha, hv0, hv1⟩ := mayB_parts hm
  have hlen := asc_len l (-1) (by decide) ha
  refine Ev.step (fun k => bad_Put.j0.eq_2 ..) ?_
  refine Ev.neg (by decide) ?_
  obtain ⟨t, ht, hr⟩ := room_gt (size := size) (n := l.length) (by omega) (by omega) (by omega)
  refine Ev.bindv ht ?_
  unfold putB
  rw [if_pos ⟨hm, by omega, by omega⟩]
  refine Ev.ite (fun h => Ev.ret ?_) (fun h => ?_)
  · rw [if_neg (hr.1 h)]
  · have h' : 14 + 2 * (l.length : Int) ≤ size := by
      by_cases hh : 14 + 2 * (l.length : Int) ≤ size
      · exact hh
      · exact absurd (hr.2 hh) h
    rw [if_pos h']
    refine Ev.bind (put_ev [8, 2] [v, (l.length : Int)]) ?_
    rw [pk_head hv0 hv1 hl]
    exact put_l0b (asc_mem l (-1) (by decide) ha) (by omega) h' l.length 0 (headB v l) (by omega) (head_len v l) (head_byte v l)
end Go.Proofs.Ytpabehkdedhncaa.PureBadBack

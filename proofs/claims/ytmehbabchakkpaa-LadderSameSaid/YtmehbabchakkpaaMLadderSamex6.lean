/-
  Texts for the law LadderSame, laid together by my program merge2.py; what nothing here names is left out.
-/
import Derived.Test.YtmehbabchakkpaaMLadderSamex5
namespace Go.Proofs.Ytmehbabchakkpaa.PureLadderSame
open Go.RowKit Go.Proofs.Ytmehbabchakkpaa.QLadderSame Go.Proofs.YtmehbabchakkpaaW.PrintWords Go.Proofs.YtmehbabchakkpaaW.PrintLast Go.Proofs.YtmehbabchakkpaaW.PrintMore Go.Proofs.Ytmehbabchakkpaa.EvKit Go.Proofs.Ytmehbabchakkpaa.PackMath Go.Proofs.Ytmehbabchakkpaa.TagMath Go.Proofs.Ytmehbabchakkpaa.CrcMath Go.Proofs.Ytmehbabchakkpaa.NatKit Go.Proofs.Ytmehbabchakkpaa.BitsMath Go.Proofs.Ytmehbabchakkpaa.ChunkMath
abbrev R8 := List Int × Int × Int × Int × Int × Int × Int × Int
def badR (e : Int) : R8 := ([], 0, 0, 0, 0, 0, 0, e)
def walkN (dec : List Int → List Int × Int × Int × Int × Int × Int × Int) : List (List Int) → Int → R8
 | [], _ => badR 30
 | l :: ls, i => if (dec l).2.2.2.2.2.2 = 0 then ((dec l).1, (dec l).2.1, (dec l).2.2.1, (dec l).2.2.2.1, (dec l).2.2.2.2.1, (dec l).2.2.2.2.2.1, i, 0) else if (dec l).2.2.2.2.2.2 = 2 then badR 2 else walkN dec ls (i + 1)
theorem walk_ev {ls : List (List Int)} {a0 a1 a2 a3 a4 a5 a6 : Int} (hb : ∀ l ∈ ls, ∀ x ∈ l, 0 ≤ x ∧ x < 256) (hn : (ls.length : Int) ≤ a5) (hs : ls.length ≤ 1000000) : ∀ (d i : Nat), i + d = ls.length → Ev (fun k => ladder_Climb.w0 k a0 a1 a2 a3 a4 a5 a6 ls (i : Int)) (walkN (fun l => decP l a0 a1 a2 a3 a4 a5 a6) (ls.drop i) (i : Int)) := by
 intro d
 induction d with
 | zero =>
  intro i hi
  refine Ev.step (fun k => ladder_Climb.w0.eq_2 ..) ?_
  rw [List.drop_eq_nil_of_le (by omega)]
  exact Ev.ite (fun _ => Ev.neg (by omega) (Ev.ret rfl)) (fun _ => Ev.ret rfl)
 | succ d ih =>
  intro i hi
  have hlt : i < ls.length := by omega
  have hg : ls.getD i [] = ls[i] := by simp [hlt]
  refine Ev.step (fun k => ladder_Climb.w0.eq_2 ..) ?_
  rw [Int.toNat_natCast, hg, w64_succ (by omega), List.drop_eq_getElem_cons hlt]
  refine Ev.pos (by omega) (Ev.pos (by omega) (Ev.bind (pdec_ev (hb _ (List.getElem_mem hlt)) a0 a1 a2 a3 a4 a5 a6) ?_))
  have ih2 := ih (i + 1) (by omega)
  unfold walkN
  refine Ev.ite (fun h => ?_) (fun h => ?_)
  ·rw [if_pos h]
   exact Ev.ret rfl
  ·rw [if_neg h]
   refine Ev.ite (fun h2 => ?_) (fun h2 => ?_)
   ·rw [if_pos h2]
    exact Ev.ret rfl
   ·rw [if_neg h2]
    exact ih2
def climbP (ls : List (List Int)) (a0 a1 a2 a3 a4 a5 a6 : Int) : R8 :=
 if okG a0 a1 a2 a3 a4 a5 a6 ∧ ls.length ≠ 0 ∧ (ls.length : Int) ≤ a5 ∧ (ls.all fun l => decide ((l.length : Int) = a3 * (a4 + 2) + 31)) = true then walkN (fun l => decP l a0 a1 a2 a3 a4 a5 a6) ls 0 else badR 2
theorem climb_ev {ls : List (List Int)} (hb : ∀ l ∈ ls, ∀ x ∈ l, 0 ≤ x ∧ x < 256) (hs : ls.length ≤ 1000000) (a0 a1 a2 a3 a4 a5 a6 : Int) : Ev (fun k => ladder_Climb.f k a0 a1 a2 a3 a4 a5 a6 ls) (climbP ls a0 a1 a2 a3 a4 a5 a6) := by
 refine Ev.congr (fun k => by rw [ladder_Climb.f]) ?_
 refine Ev.bindv check_eq ?_
 unfold climbP
 by_cases hg : okG a0 a1 a2 a3 a4 a5 a6
 ·rw [if_pos hg]
  refine Ev.pos rfl (Ev.ite (fun h => ?_) (fun h => Ev.ite (fun h2 => ?_) (fun h2 => ?_)))
  ·rw [if_neg (fun z => z.2.1 h)]
   exact Ev.ret rfl
  ·rw [if_neg (fun z => by have := z.2.2.1; omega)]
   exact Ev.ret rfl
  ·refine Ev.bindv raw_eq ?_
   rw [if_pos hg]
   refine Ev.ite (fun h3 => ?_) (fun h3 => ?_)
   ·rw [if_pos ⟨hg, h, by omega, h3⟩]
    exact walk_ev hb (by omega) hs ls.length 0 (by omega)
   ·rw [if_neg (fun z => h3 z.2.2.2)]
    exact Ev.ret rfl
 ·rw [if_neg hg, if_neg (fun z => hg z.1)]
  exact Ev.neg (by decide) (Ev.ret rfl)
theorem small_some (a0 a1 a2 a3 a4 a5 a6 : Int) : ∃ b, incunablelaw08_Small.f a0 a1 a2 a3 a4 a5 a6 = some b := by
 unfold incunablelaw08_Small.f
 split
 ·split
  ·split
   ·exact ⟨_, rfl⟩
   ·exact ⟨_, rfl⟩
  ·exact ⟨_, rfl⟩
 ·exact ⟨_, rfl⟩
theorem few_l0 {ls : List (List Int)} (hs : ls.length ≤ 9000000000000) (a0 a1 a2 a3 a4 a5 a6 : Int) : ∀ (d i : Nat), i + d = ls.length → ∃ b, (b = true → ls.length ≤ 12) ∧ Ev (fun k => incunablelaw09_few.l0 k ls ls (ls.length : Int) (i : Int) a0 a1 a2 a3 a4 a5 a6) b := by
 intro d
 induction d with
 | zero =>
  intro i hi
  obtain ⟨b, hb⟩ := small_some a0 a1 a2 a3 a4 a5 a6
  cases b with
  | true =>
   refine ⟨decide ((ls.length : Int) ≤ 12), fun h => (by have := of_decide_eq_true h; omega), ?_⟩
   refine Ev.step (fun k => incunablelaw09_few.l0.eq_2 ..) ?_
   exact Ev.neg (by omega) (Ev.bindv hb (Ev.pos rfl (Ev.ret rfl)))
  | false =>
   refine ⟨false, fun h => (by cases h), ?_⟩
   refine Ev.step (fun k => incunablelaw09_few.l0.eq_2 ..) ?_
   exact Ev.neg (by omega) (Ev.bindv hb (Ev.neg (by decide) (Ev.ret rfl)))
 | succ d ih =>
  intro i hi
  obtain ⟨b, h1, h2⟩ := ih (i + 1) (by omega)
  by_cases h : ((rd_L3 ls (i : Int)).length : Int) > 400
  ·refine ⟨false, fun h => (by cases h), ?_⟩
   refine Ev.step (fun k => incunablelaw09_few.l0.eq_2 ..) ?_
   exact Ev.pos (by omega) (Ev.pos (by omega) (Ev.pos (by omega) (Ev.pos h (Ev.ret rfl))))
  ·refine ⟨b, h1, ?_⟩
   refine Ev.step (fun k => incunablelaw09_few.l0.eq_2 ..) ?_
   refine Ev.pos (by omega) (Ev.pos (by omega) (Ev.pos (by omega) (Ev.neg h ?_)))
   rw [w64_succ (by omega)]
   exact h2
theorem few_ev {ls : List (List Int)} (hs : ls.length ≤ 9000000000000) (a0 a1 a2 a3 a4 a5 a6 : Int) : ∃ b, (b = true → ls.length ≤ 12) ∧ Ev (fun k => incunablelaw09_few.f k a0 a1 a2 a3 a4 a5 a6 ls) b := by
 obtain ⟨b, h1, h2⟩ := few_l0 hs a0 a1 a2 a3 a4 a5 a6 ls.length 0 (by omega)
 refine ⟨b, h1, ?_⟩
 refine Ev.congr (fun k => by rw [incunablelaw09_few.f]) ?_
 exact h2
theorem psame_ev {l : List Int} {t1 t2 t3 t4 s : Int} (h : l.length < 1000000000) : Ev (fun k => incunablelaw09_Same.f k l t1 t2 t3 t4 s l t1 t2 t3 t4 s) true := by
 refine Ev.congr (fun k => by rw [incunablelaw09_Same.f]) ?_
 have hs := same_ev l l h
 rw [decide_eq_true rfl] at hs
 exact Ev.bind hs (Ev.pos rfl (Ev.pos (by simp) (Ev.ret (by simp))))
theorem decP_short (raw : List Int) (a0 a1 a2 a3 a4 a5 a6 : Int) : (decP raw a0 a1 a2 a3 a4 a5 a6).1.length < 1000000000 := by
 unfold decP
 split
 ·rename_i hg
  obtain ⟨h3, h4⟩ := okG_bounds hg.1
  have hm := mul_bound h3 (y := a4 + 2) ⟨by omega, by omega⟩
  have hl := hg.2
  obtain ⟨C, rfl⟩ := Int.eq_ofNat_of_zero_le (a := a3) (by omega)
  obtain ⟨S, rfl⟩ := Int.eq_ofNat_of_zero_le (a := a4) (by omega)
  have en : (C : Int) * ((S : Int) + 2) = ((C * (S + 2) : Nat) : Int) := by rw [Int.natCast_mul, Int.natCast_add]; rfl
  rw [en] at hl
  rw [Int.toNat_natCast, Int.toNat_natCast, show raw.length - 31 = C * (S + 2) by omega]
  have hcl : (raw.take (C * (S + 2))).length = C * (S + 2) := by rw [List.length_take]; omega
  have hal := allR_short (S + 2) C _ [] 0 hcl
  rw [List.length_nil, hcl] at hal
  unfold decB
  repeat' split
  all_goals first | exact Nat.zero_lt_succ _ | (show (allR (S + 2) C _ [] 0).1.length < _; omega)
 ·exact Nat.zero_lt_succ _
theorem walk_short (dec : List Int → List Int × Int × Int × Int × Int × Int × Int) (hd : ∀ l, (dec l).1.length < 1000000000) : ∀ (ls : List (List Int)) (i : Int), (walkN dec ls i).1.length < 1000000000
 | [], _ => Nat.zero_lt_succ _
 | l :: ls, i => by
  unfold walkN
  split
  ·exact hd l
  ·split
   ·exact Nat.zero_lt_succ _
   ·exact walk_short dec hd ls (i + 1)
theorem walk_below (dec : List Int → List Int × Int × Int × Int × Int × Int × Int) : ∀ (ls : List (List Int)) (i : Int), (walkN dec ls i).2.2.2.2.2.2.2 = 0 → i ≤ (walkN dec ls i).2.2.2.2.2.2.1 ∧ (walkN dec ls i).2.2.2.2.2.2.1 < i + ls.length
 | [], _ => fun h => by cases h
 | l :: ls, i => by
  rw [List.length_cons]
  unfold walkN
  split
  ·exact fun _ => ⟨Int.le_refl _, by dsimp only; omega⟩
  ·split
   ·intro h
    cases h
   ·intro h
    have := walk_below dec ls (i + 1) h
    omega
theorem climb_short (ls : List (List Int)) (a0 a1 a2 a3 a4 a5 a6 : Int) : (climbP ls a0 a1 a2 a3 a4 a5 a6).1.length < 1000000000 := by
 unfold climbP
 split
 ·exact walk_short _ (fun l => decP_short l a0 a1 a2 a3 a4 a5 a6) ls 0
 ·exact Nat.zero_lt_succ _
theorem climb_below {ls : List (List Int)} {a0 a1 a2 a3 a4 a5 a6 : Int} (h : (climbP ls a0 a1 a2 a3 a4 a5 a6).2.2.2.2.2.2.2 = 0) : 0 ≤ (climbP ls a0 a1 a2 a3 a4 a5 a6).2.2.2.2.2.2.1 ∧ (climbP ls a0 a1 a2 a3 a4 a5 a6).2.2.2.2.2.2.1 < ls.length := by
 unfold climbP at h ⊢
 split at h
 ·rename_i hc
  rw [if_pos hc]
  have := walk_below _ ls 0 h
  omega
 ·cases h
theorem ladder_awake_ev : Ev (fun k => incunablelaw09_awake.f k) true := by
 refine Ev.congr (fun k => by rw [incunablelaw09_awake.f]) ?_
 refine Ev.bindv rfl (Ev.bindv rfl ?_)
 dsimp only
 have hr : rawN 1 2 4 1 4 2 1 = 37 := by decide
 have he := erased_ev 1 2 4 1 4 2 1
 rw [hr] at he
 refine Ev.bind he ?_
 refine Ev.bind (climb_ev (ls := [List.replicate 37 255]) (fun l hl x hx => by
  rw [List.mem_singleton.1 hl] at hx
  obtain rfl := (List.mem_replicate.1 hx).2
  exact ⟨by decide, by decide⟩) (by decide) 1 2 4 1 4 2 1) ?_
 have hg : okG 1 2 4 1 4 2 1 := by decide
 have hd : decP (List.replicate 37 255) 1 2 4 1 4 2 1 = ([], 0, 0, 0, 0, 2, 0) := by
  unfold decP
  rw [if_pos ⟨hg, by decide⟩]
  unfold decB
  rw [if_pos (by decide +kernel)]
 have e : climbP [List.replicate 37 255] 1 2 4 1 4 2 1 = ([], 0, 0, 0, 0, 2, 0, 0) := by
  unfold climbP
  rw [if_pos ⟨hg, by decide, by decide, by decide⟩]
  unfold walkN
  rw [hd]
  rfl
 rw [e]
 exact Ev.pos rfl (Ev.pos rfl (Ev.ret rfl))
end Go.Proofs.Ytmehbabchakkpaa.PureLadderSame
namespace Go.Proofs.Ytmehbabchakkpaa.Pure
open Go.RowKit Go.Proofs.Ytmehbabchakkpaa.QLadderSame Go.Proofs.YtmehbabchakkpaaW.PrintWords Go.Proofs.YtmehbabchakkpaaW.PrintLast Go.Proofs.YtmehbabchakkpaaW.PrintMore Go.Proofs.Ytmehbabchakkpaa.EvKit Go.Proofs.Ytmehbabchakkpaa.PackMath Go.Proofs.Ytmehbabchakkpaa.TagMath Go.Proofs.Ytmehbabchakkpaa.CrcMath Go.Proofs.Ytmehbabchakkpaa.NatKit Go.Proofs.Ytmehbabchakkpaa.BitsMath Go.Proofs.Ytmehbabchakkpaa.ChunkMath Go.Proofs.Ytmehbabchakkpaa.PureLadderSame
def bump (r : R8) : R8 := if r.2.2.2.2.2.2.2 = 0 then (r.1, r.2.1, r.2.2.1, r.2.2.2.1, r.2.2.2.2.1, r.2.2.2.2.2.1, r.2.2.2.2.2.2.1 + 1, 0) else r
theorem walk_shift (dec : List Int → List Int × Int × Int × Int × Int × Int × Int) : ∀ (ls : List (List Int)) (i : Int), walkN dec ls (i + 1) = bump (walkN dec ls i)
 | [], _ => rfl
 | l :: ls, i => by
  unfold walkN
  split
  ·rfl
  ·split
   ·rfl
   ·exact walk_shift dec ls (i + 1)
theorem walk_place (dec : List Int → List Int × Int × Int × Int × Int × Int × Int) : ∀ (ls : List (List Int)) (i : Int), (walkN dec ls i).2.2.2.2.2.2.2 = 0 → i ≤ (walkN dec ls i).2.2.2.2.2.2.1
 | [], _ => fun h => by cases h
 | l :: ls, i => by
  unfold walkN
  split
  ·exact fun _ => Int.le_refl _
  ·split
   ·intro h
    cases h
   ·intro h
    have := walk_place dec ls (i + 1) h
    omega
theorem walk_hit (dec : List Int → List Int × Int × Int × Int × Int × Int × Int) {l : List Int} (h : (dec l).2.2.2.2.2.2 = 0) (ls : List (List Int)) (i : Int) : walkN dec (l :: ls) i = ((dec l).1, (dec l).2.1, (dec l).2.2.1, (dec l).2.2.2.1, (dec l).2.2.2.2.1, (dec l).2.2.2.2.2.1, i, 0) := by
 unfold walkN
 rw [if_pos h]
theorem walk_arg (dec : List Int → List Int × Int × Int × Int × Int × Int × Int) {l : List Int} (h : ¬ (dec l).2.2.2.2.2.2 = 0) (h2 : (dec l).2.2.2.2.2.2 = 2) (ls : List (List Int)) (i : Int) : walkN dec (l :: ls) i = badR 2 := by
 unfold walkN
 rw [if_neg h, if_pos h2]
theorem walk_on (dec : List Int → List Int × Int × Int × Int × Int × Int × Int) {l : List Int} (h : ¬ (dec l).2.2.2.2.2.2 = 0) (h2 : ¬ (dec l).2.2.2.2.2.2 = 2) (ls : List (List Int)) (i : Int) : walkN dec (l :: ls) i = walkN dec ls (i + 1) := by
 rw [walkN, if_neg h, if_neg h2]
theorem walk_twice (dec : List Int → List Int × Int × Int × Int × Int × Int × Int) (b : List Int) (s : List (List Int)) : ∀ (p : List (List Int)) (i : Int), walkN dec (p ++ b :: b :: s) i = (if (walkN dec (p ++ b :: s) i).2.2.2.2.2.2.2 = 0 ∧ (walkN dec (p ++ b :: s) i).2.2.2.2.2.2.1 > i + p.length then bump (walkN dec (p ++ b :: s) i) else walkN dec (p ++ b :: s) i)
 | [], i => by
  rw [List.nil_append, List.nil_append, List.length_nil]
  by_cases h : (dec b).2.2.2.2.2.2 = 0
  ·rw [walk_hit dec h (b :: s) i, walk_hit dec h s i, if_neg (fun z => by have := z.2; dsimp only at this; omega)]
  ·by_cases h2 : (dec b).2.2.2.2.2.2 = 2
   ·rw [walk_arg dec h h2 (b :: s) i, walk_arg dec h h2 s i, if_neg (fun z => by cases z.1)]
   ·rw [walk_on dec h h2 (b :: s) i, walk_on dec h h2 s (i + 1), walk_on dec h h2 s i, walk_shift dec s (i + 1)]
    have hp := walk_place dec s (i + 1)
    by_cases h3 : (walkN dec s (i + 1)).2.2.2.2.2.2.2 = 0
    ·have := hp h3
     rw [if_pos ⟨h3, by omega⟩]
    ·rw [if_neg (fun z => h3 z.1)]
     unfold bump
     rw [if_neg h3]
 | l :: p, i => by
  rw [List.cons_append, List.cons_append, List.length_cons]
  by_cases h : (dec l).2.2.2.2.2.2 = 0
  ·rw [walk_hit dec h (p ++ b :: b :: s) i, walk_hit dec h (p ++ b :: s) i, if_neg (fun z => by have := z.2; dsimp only at this; omega)]
  ·by_cases h2 : (dec l).2.2.2.2.2.2 = 2
   ·rw [walk_arg dec h h2 (p ++ b :: b :: s) i, walk_arg dec h h2 (p ++ b :: s) i, if_neg (fun z => by cases z.1)]
   ·rw [walk_on dec h h2 (p ++ b :: b :: s) i, walk_on dec h h2 (p ++ b :: s) i, walk_twice dec b s p (i + 1)]
    rw [show i + 1 + (p.length : Int) = i + ((p.length + 1 : Nat) : Int) by omega]
def tw (l : List (List Int)) (j n : Nat) : List (List Int) := if n ≤ j then l.take n else l.take (j + 1) ++ (l.take n).drop j
theorem tw_len (l : List (List Int)) (j n : Nat) : (tw l j n).length ≤ n + 1 := by
 unfold tw
 split
 ·rw [List.length_take]
  omega
 ·rw [List.length_append, List.length_take, List.length_drop, List.length_take]
  omega
theorem tw_at {l : List (List Int)} {j : Nat} (hj : j < l.length) : tw l j (j + 1) = tw l j j ++ [l[j]] ++ [l[j]] := by
 unfold tw
 rw [if_neg (by omega), if_pos (Nat.le_refl _), List.take_succ_eq_append_getElem hj, List.drop_append]
 simp [List.length_take, Nat.min_eq_left (Nat.le_of_lt hj)]
theorem tw_off {l : List (List Int)} {j n : Nat} (hn : n < l.length) (h : n ≠ j) : tw l j (n + 1) = tw l j n ++ [l[n]] := by
 unfold tw
 by_cases hlt : n < j
 ·rw [if_pos (by omega), if_pos (by omega), List.take_succ_eq_append_getElem hn]
 ·rw [if_neg (by omega), if_neg (by omega), List.take_succ_eq_append_getElem hn, List.drop_append_of_le_length (by rw [List.length_take]; omega), List.append_assoc]
theorem tw_all {l : List (List Int)} {j : Nat} (hj : j < l.length) : tw l j l.length = l.take j ++ l[j] :: l[j] :: l.drop (j + 1) := by
 unfold tw
 rw [if_neg (by omega), List.take_length, List.take_succ_eq_append_getElem hj, List.append_assoc, List.drop_eq_getElem_cons hj]
 rfl
theorem split_at {l : List (List Int)} {j : Nat} (hj : j < l.length) : l = l.take j ++ l[j] :: l.drop (j + 1) := by
 rw [← List.drop_eq_getElem_cons hj, List.take_append_drop]
theorem climb_twice {l : List (List Int)} {j : Nat} (hj : j < l.length) {a0 a1 a2 a3 a4 a5 a6 : Int} (h5 : (l.length : Int) < a5) : climbP (tw l j l.length) a0 a1 a2 a3 a4 a5 a6 = (if (climbP l a0 a1 a2 a3 a4 a5 a6).2.2.2.2.2.2.2 = 0 ∧ (climbP l a0 a1 a2 a3 a4 a5 a6).2.2.2.2.2.2.1 > (j : Int) then bump (climbP l a0 a1 a2 a3 a4 a5 a6) else climbP l a0 a1 a2 a3 a4 a5 a6) := by
 have hl := split_at hj
 have hw := walk_twice (fun l => decP l a0 a1 a2 a3 a4 a5 a6) l[j] (l.drop (j + 1)) (l.take j) 0
 have hlen : (tw l j l.length).length = l.length + 1 := by
  rw [tw_all hj, List.length_append, List.length_cons, List.length_cons, List.length_drop, List.length_take]
  omega
 have hall : ∀ P : List Int → Bool, (tw l j l.length).all P = l.all P := fun P => by
  rw [tw_all hj]
  conv => rhs; rw [hl]
  rw [List.all_append, List.all_append, List.all_cons, List.all_cons]
  cases P l[j] <;> simp
 rw [← hl, ← tw_all hj, List.length_take, Nat.min_eq_left (Nat.le_of_lt hj), Int.zero_add] at hw
 unfold climbP
 rw [hall, hlen]
 by_cases h : okG a0 a1 a2 a3 a4 a5 a6 ∧ l.length ≠ 0 ∧ (l.length : Int) ≤ a5 ∧ (l.all fun l => decide ((l.length : Int) = a3 * (a4 + 2) + 31)) = true
 ·rw [if_pos h, if_pos ⟨h.1, by omega, by omega, h.2.2.2⟩]
  exact hw
 ·rw [if_neg h, if_neg (fun z => h ⟨z.1, by omega, by omega, z.2.2.2⟩), if_neg (fun z => by cases z.1)]
theorem law_l0 {l : List (List Int)} {j : Nat} (hb : ∀ x ∈ l, ∀ y ∈ x, 0 ≤ y ∧ y < 256) (hj : j < l.length) (hs : l.length ≤ 12) {a0 a1 a2 a3 a4 a5 a6 : Int} (h5 : (l.length : Int) < a5) : ∀ (d n : Nat), n + d = l.length → Ev (fun k => incunablelaw09_LadderSame.l0 k l (j : Int) (tw l j n) l (l.length : Int) (n : Int) a0 a1 a2 a3 a4 a5 a6) true := by
 intro d
 induction d with
 | zero =>
  intro n hn
  obtain rfl : n = l.length := by omega
  refine Ev.step (fun k => incunablelaw09_LadderSame.l0.eq_2 ..) ?_
  refine Ev.neg (by omega) (Ev.bind (climb_ev hb (by omega) a0 a1 a2 a3 a4 a5 a6) ?_)
  have h2 := climb_ev (ls := tw l j l.length) (fun x hx => by
   rw [tw_all hj] at hx
   rcases List.mem_append.1 hx with h | h
   ·exact hb x (List.mem_of_mem_take h)
   ·rcases List.mem_cons.1 h with rfl | h
    ·exact hb _ (List.getElem_mem hj)
    ·rcases List.mem_cons.1 h with rfl | h
     ·exact hb _ (List.getElem_mem hj)
     ·exact hb x (List.mem_of_mem_drop h)) (by have := tw_len l j l.length; omega) a0 a1 a2 a3 a4 a5 a6
  rw [climb_twice hj h5] at h2
  refine Ev.bind h2 ?_
  clear h2
  have hsh := climb_short l a0 a1 a2 a3 a4 a5 a6
  have hbe := climb_below (ls := l) (a0 := a0) (a1 := a1) (a2 := a2) (a3 := a3) (a4 := a4) (a5 := a5) (a6 := a6)
  generalize climbP l a0 a1 a2 a3 a4 a5 a6 = R at hsh hbe ⊢
  obtain ⟨x1, x2, x3, x4, x5, x6, x7, x8⟩ := R
  dsimp only at hsh hbe ⊢
  have hsame := psame_ev (l := x1) (t1 := x2) (t2 := x3) (t3 := x4) (t4 := x5) (s := x6) hsh
  refine Ev.ite (fun h => ?_) (fun h => ?_)
  ·refine Ev.step (fun k => incunablelaw09_LadderSame.j5.eq_2 ..) ?_
   by_cases h8 : x8 = 0
   ·subst h8
    have := hbe rfl
    rw [if_pos ⟨rfl, h⟩]
    unfold bump
    rw [if_pos rfl, w64_id (x := x7 + 1) (by omega) (by omega)]
    exact Ev.pos rfl (Ev.bind hsame (Ev.pos rfl (Ev.pos rfl (Ev.ret (by simp)))))
   ·rw [if_neg (fun z => h8 z.1)]
    exact Ev.pos rfl (Ev.bind hsame (Ev.pos rfl (Ev.neg h8 (Ev.ret rfl))))
  ·rw [if_neg (fun z => h z.2)]
   refine Ev.step (fun k => incunablelaw09_LadderSame.j5.eq_2 ..) ?_
   exact Ev.pos rfl (Ev.bind hsame (Ev.pos rfl (Ev.ite (fun _ => Ev.ret (by simp)) (fun _ => Ev.ret rfl))))
 | succ d ih =>
  intro n hn
  have hlt : n < l.length := by omega
  have hg : rd_L3 l (n : Int) = l[n] := by
   unfold rd_L3
   rw [Int.toNat_natCast]
   simp [hlt]
  have htl := tw_len l j n
  have ih2 := ih (n + 1) (by omega)
  refine Ev.step (fun k => incunablelaw09_LadderSame.l0.eq_2 ..) ?_
  refine Ev.pos (by omega) ?_
  refine Ev.step (fun k => incunablelaw09_LadderSame.j4.eq_2 ..) ?_
  rw [hg, w64_succ (by omega)]
  refine Ev.pos (by omega) (Ev.pos (by omega) (Ev.pos (by omega) (Ev.bindv rfl ?_)))
  refine Ev.ite (fun h => ?_) (fun h => ?_)
  ·obtain rfl : n = j := by omega
   refine Ev.pos (by rw [List.length_append, List.length_singleton]; omega) ?_
   rw [tw_at hlt] at ih2
   exact ih2
  ·rw [tw_off hlt (by omega)] at ih2
   exact ih2
theorem LadderSame : StmLadderSame := by
 rintro ⟨a0, a1, a2, a3, a4, a5, a6⟩ l m _ hn hl' hm'
 have hb : ∀ x ∈ l, ∀ y ∈ x, 0 ≤ y ∧ y < 256 := fun x hx y hy => wf_u8 ((hl'.2 x hx).2 y hy)
 have hm := wf_u8 hm'
 clear hl' hm'
 refine Ev.rounds (Ev.congr (fun k => by rw [incunablelaw09_LadderSame.f]) ?_)
 refine Ev.bind ladder_awake_ev (Ev.pos rfl ?_)
 dsimp only
 obtain ⟨b, hb12, hfew⟩ := few_ev (ls := l) (by omega) a0 a1 a2 a3 a4 a5 a6
 have hoff : Ev (fun k => incunablelaw09_LadderSame.j1 k l m true a0 a1 a2 a3 a4 a5 a6) true := by
  refine Ev.step (fun k => incunablelaw09_LadderSame.j1.eq_2 ..) ?_
  exact Ev.pos rfl (Ev.ret rfl)
 refine Ev.step (fun k => incunablelaw09_LadderSame.j0.eq_2 ..) ?_
 refine Ev.bind hfew (Ev.ite (fun hbt => Ev.ite (fun _ => hoff) (fun h0 => ?_)) (fun _ => hoff))
 by_cases h5 : (l.length : Int) ≥ a5
 ·rw [decide_eq_true h5]
  exact hoff
 ·rw [decide_eq_false h5]
  have h12 := hb12 hbt
  refine Ev.step (fun k => incunablelaw09_LadderSame.j1.eq_2 ..) ?_
  refine Ev.neg (by decide) ?_
  refine Ev.step (fun k => incunablelaw09_LadderSame.j2.eq_2 ..) ?_
  refine Ev.neg (by omega) ?_
  rw [w64_id (x := m) (by omega) (by omega)]
  obtain ⟨q, rfl⟩ := Int.eq_ofNat_of_zero_le hm.1
  rw [show Int.tmod (q : Int) (l.length : Int) = ((q % l.length : Nat) : Int) from rfl]
  have hq : q % l.length < l.length := Nat.mod_lt _ (by omega)
  have := law_l0 hb hq h12 (a0 := a0) (a1 := a1) (a2 := a2) (a3 := a3) (a4 := a4) (a5 := a5) (a6 := a6) (by omega) l.length 0 (by omega)
  have e0 : tw l (q % l.length) 0 = [] := by
   unfold tw
   rw [if_pos (Nat.zero_le _), List.take_zero]
  rw [e0] at this
  exact this
end Go.Proofs.Ytmehbabchakkpaa.Pure

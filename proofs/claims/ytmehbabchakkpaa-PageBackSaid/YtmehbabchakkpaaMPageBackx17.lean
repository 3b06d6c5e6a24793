import Derived.Test.YtmehbabchakkpaaMPageBackx16
namespace Go.Proofs.Ytmehbabchakkpaa.PurePageBack
open Go.RowKit QPageBack YtmehbabchakkpaaW.PrintWords YtmehbabchakkpaaW.PrintLast YtmehbabchakkpaaW.PrintMore EvKit BitsKit PackMath TagMath CrcMath NatKit BitsMath LenMath HamMath ChunkMath TurnMath
theorem flips_one (l : List Nat) (i : Int) : flips l [i] = flip1 l i := rfl
theorem flips_two (l : List Nat) (i k : Int) : flips l [i, k] = flip1 (flip1 l i) k := rfl
theorem dec_none {l : List Nat} (h0 : 0 < l.length) (hn : l.length ≤ 60) : decN (encN l) = (ints l, 0, 0) := by
 unfold encN
 rw [decN_enc h0 (by omega), judge_clean (by omega)]
 rfl
theorem dec_one {l : List Nat} (hl : ∀ b ∈ l, b < 256) (h0 : 0 < l.length) (hn : l.length ≤ 60) {i : Nat} (hi : i < 8 * l.length + 14) : decN (flips (encN l) [(i : Int)]) = (ints l, 1, 0) := by
 unfold encN
 rw [flips_one]
 by_cases h : i < 8 * l.length
 ·rw [flip_data h, decN_enc (by rw [flip1_length]; exact h0) (by rw [flip1_length]; omega)]
  have hj := judge_data (l := l) (by omega) h
  have e : flips l (upN [i]) = flip1 l (i : Int) := rfl
  rw [e] at hj
  rw [hj]
  show (ints (flips (flip1 l (i : Int)) [(i : Int)]), (1 : Int), (0 : Int)) = _
  rw [flips_one, flip1_twice hl]
 ·obtain ⟨j, rfl⟩ : ∃ j, i = 8 * l.length + j := ⟨i - 8 * l.length, by omega⟩
  rw [flip_word (by omega), decN_enc h0 (by omega), judge_word (by omega) (by omega), if_neg (by omega)]
  rfl
theorem dec_two {l : List Nat} (h0 : 0 < l.length) (hn : l.length ≤ 60) {i k : Nat} (hi : i < 8 * l.length + 14) (hk : k < 8 * l.length + 14) (hne : i ≠ k) : decN (flips (encN l) [(i : Int), (k : Int)]) = ([], 0, 14) := by
 unfold encN
 rw [flips_two]
 have fin : ∀ d : List Nat, decOf d (3, 0, 0) = ([], 0, 14) := fun d => rfl
 by_cases h : i < 8 * l.length
 ·rw [flip_data h]
  by_cases h' : k < 8 * l.length
  ·rw [flip_data (by rw [flip1_length]; exact h'), decN_enc (by rw [flip1_length, flip1_length]; exact h0) (by rw [flip1_length, flip1_length]; omega)]
   have hj := judge_dd (l := l) (by omega) h h' hne
   have e : flips l (upN [i, k]) = flip1 (flip1 l (i : Int)) (k : Int) := rfl
   rw [e] at hj
   rw [hj]
   exact fin _
  ·obtain ⟨j, rfl⟩ : ∃ j, k = 8 * l.length + j := ⟨k - 8 * l.length, by omega⟩
   have hfl := flip1_length l (i : Int)
   have hw := flip_word (l := flip1 l (i : Int)) (w := wordN l) (j := j) (by omega)
   rw [hfl] at hw
   rw [hw, decN_enc (by rw [hfl]; exact h0) (by rw [hfl]; omega)]
   have hj := judge_dw (l := l) (by omega) h (j := j) (by omega)
   have e : flips l (upN [i]) = flip1 l (i : Int) := rfl
   rw [e] at hj
   rw [hj]
   exact fin _
 ·obtain ⟨j, rfl⟩ : ∃ j, i = 8 * l.length + j := ⟨i - 8 * l.length, by omega⟩
  rw [flip_word (by omega)]
  by_cases h' : k < 8 * l.length
  ·rw [flip_data h', decN_enc (by rw [flip1_length]; exact h0) (by rw [flip1_length]; omega)]
   have hj := judge_dw (l := l) (by omega) h' (j := j) (by omega)
   have e : flips l (upN [k]) = flip1 l (k : Int) := rfl
   rw [e] at hj
   rw [hj]
   exact fin _
  ·obtain ⟨j2, rfl⟩ : ∃ j, k = 8 * l.length + j := ⟨k - 8 * l.length, by omega⟩
   rw [flip_word (by omega), decN_enc h0 (by omega), Nat.xor_assoc, judge_ww (by omega) (by omega) (by omega) (by omega)]
   exact fin _
theorem encN_lt {l : List Nat} (hl : ∀ b ∈ l, b < 256) (hn : l.length ≤ 512) : ∀ b ∈ encN l, b < 256 := encW_lt hl (wordN_lt (by omega))
theorem encN_len (l : List Nat) : (encN l).length = l.length + 2 := encW_length l _
def cntB : Option Nat → Nat
 | none => 0
 | some _ => 1
theorem dec_turn {l : List Nat} (hl : ∀ b ∈ l, b < 256) (h0 : 0 < l.length) (hn : l.length ≤ 60) {o : Option Nat} (ho : ∀ k, o = some k → k < 8 * l.length + 14) : decN (turnB (encN l) o) = (ints l, (cntB o : Int), 0) := by
 cases o with
 | none => exact dec_none h0 hn
 | some k => exact dec_one hl h0 hn (ho k rfl)
theorem cntB_le (o : Option Nat) : cntB o ≤ 1 := by cases o <;> simp [cntB]
theorem cntB_zero {o : Option Nat} : cntB o = 0 ↔ o = none := by cases o <;> simp [cntB]
theorem allR_cat {m : Nat} {q : Nat → List Nat} {w : Nat → List Int} {c : Nat → Nat} : ∀ (n s : Nat) (out : List Int) (fx : Nat), (∀ j, s ≤ j → j < s + n → (q j).length = m ∧ decN (q j) = (w j, (c j : Int), 0) ∧ c j ≤ 1) → fx + n ≤ 1000 →
  ∃ fy : Nat, allR m n (ints (cat q s n)) out (fx : Int) = (out ++ cat w s n, (fy : Int), 0) ∧ fx ≤ fy ∧ fy ≤ fx + n ∧ (fy = fx ↔ ∀ j, s ≤ j → j < s + n → c j = 0)
 | 0, s, out, fx, _, _ => by
  refine ⟨fx, ?_, Nat.le_refl _, Nat.le_refl _, fun _ j h1 h2 => by omega, fun _ => rfl⟩
  show (out, (fx : Int), (0 : Int)) = (out ++ [], (fx : Int), 0)
  rw [List.append_nil]
 | n + 1, s, out, fx, hh, hs => by
  obtain ⟨h1, h2, h3⟩ := hh s (Nat.le_refl _) (by omega)
  obtain ⟨fy, e, f1, f2, f3⟩ := allR_cat n (s + 1) (out ++ w s) (fx + c s) (fun j a b => hh j (by omega) (by omega)) (by omega)
  refine ⟨fy, ?_, by omega, by omega, ?_, ?_⟩
  ·show allR m (n + 1) (ints (q s ++ cat q (s + 1) n)) out (fx : Int) = (out ++ (w s ++ cat w (s + 1) n), (fy : Int), 0)
   have hl : (ints (q s)).length = m := by rw [ints_length, h1]
   unfold allR
   rw [ints_app, List.take_left' hl, List.drop_left' hl, nats_ints, h2]
   dsimp only
   rw [if_pos rfl, w64_id (by omega) (by omega), show (fx : Int) + (c s : Int) = ((fx + c s : Nat) : Int) by omega, e, List.append_assoc]
  ·intro ef j a b
   by_cases hj : j = s
   ·subst hj
    omega
   ·exact f3.1 (by omega) j (by omega) (by omega)
  ·intro hc
   have h0 := hc s (Nat.le_refl _) (by omega)
   have := f3.2 fun j a b => hc j (by omega) (by omega)
   omega
theorem allR_bad {m n : Nat} {a rest : List Nat} {e : Int} {out : List Int} {fx : Int} (ha : a.length = m) (hd : decN a = ([], 0, e)) (he : e ≠ 0) : allR m (n + 1) (ints (a ++ rest)) out fx = ([], 0, e) := by
 have hl : (ints a).length = m := by rw [ints_length, ha]
 unfold allR
 rw [ints_app, List.take_left' hl, nats_ints, hd]
 dsimp only
 rw [if_neg he]
theorem cut_cat {d : List Int} {S : Nat} : ∀ (n s : Nat), d.length = (s + n) * S → cat (cutG d S) s n = d.drop (s * S)
 | 0, s, h => (List.drop_eq_nil_of_le (by rw [h, Nat.add_zero]; exact Nat.le_refl _)).symm
 | n + 1, s, h => by
  show cutG d S s ++ cat (cutG d S) (s + 1) n = _
  rw [cut_cat n (s + 1) (by rw [h]; congr 1; omega)]
  unfold cutG
  have h1 : (s + 1) * S ≤ d.length := by rw [h]; exact Nat.mul_le_mul_right S (by omega)
  have h2 : s * S ≤ (s + 1) * S := Nat.mul_le_mul_right S (by omega)
  rw [← List.drop_append_of_le_length (by rw [List.length_take]; omega), List.take_append_drop]
theorem tag_back {a b c d : Int} {x : List Int} (hp : pkPut sizes [0, a, b, c, d, 0] = (x, 0)) (hm : mayTag a b c d = true) : takeTag x = (a, b, c, d, 0) := by
 have ht := (back_put hp).1
 unfold takeTag
 rw [ht, if_pos rfl]
 unfold ofList
 rw [if_pos ⟨rfl, rfl, hm⟩]
 rfl
theorem tag_ones {a b c d : Int} {x : List Int} (hp : pkPut sizes [0, a, b, c, d, 0] = (x, 0)) : count (nats x) ≤ 136 := by
 have e2 := (pkPut_ok hp).2
 simp only [sizes, putGo] at e2
 split at e2
 ·split at e2
  ·split at e2
   ·split at e2
    ·split at e2
     ·split at e2
      ·simp only [Option.map_some, Option.some.injEq] at e2
       subst e2
       have hc : ∀ l : List Int, count (nats l) ≤ 8 * l.length := fun l => by
        have := count_le (nats l)
        rwa [nats_length] at this
       have h1 := hc (le (1 : Int).toNat a)
       have h2 := hc (le (4 : Int).toNat b)
       have h3 := hc (le (8 : Int).toNat c)
       have h4 := hc (le (4 : Int).toNat d)
       rw [le_length] at h1 h2 h3 h4
       have z2 : count (nats (le (2 : Int).toNat 0)) = 0 := by decide
       have z5 : count (nats (le (5 : Int).toNat 0)) = 0 := by decide
       rw [nats_append, nats_append, nats_append, nats_append, nats_append, nats_append, count_app, count_app, count_app, count_app, count_app, count_app, z2, z5]
       have z0 : count (nats []) = 0 := rfl
       rw [z0]
       simp only [show (1 : Int).toNat = 1 from rfl, show (4 : Int).toNat = 4 from rfl, show (8 : Int).toNat = 8 from rfl] at h1 h2 h3 h4 ⊢
       omega
      ·simp at e2
     ·simp at e2
    ·simp at e2
   ·simp at e2
  ·simp at e2
 ·cases e2
theorem label_ones {x f : List Int} (hx : count (nats x) ≤ 136) (hf : f.length = 4) : count (encN (nats (x ++ f))) ≤ 184 := by
 unfold encN encW
 rw [count_app, nats_append, count_app]
 have h1 := count_le (nats f)
 rw [nats_length, hf] at h1
 have h2 := count_le [wordN (nats x ++ nats f) % 256, wordN (nats x ++ nats f) / 256]
 simp only [List.length_cons, List.length_nil] at h2
 omega
def pcP (d : List Int) (S C : Nat) (y : List Int) (j : Nat) : List Nat := if j < C then encN (nats (cutG d S j)) else encN (nats y)
theorem chunks_cat (d : List Int) (S : Nat) : ∀ C, chunksP d S C = ints (cat (fun j => encN (nats (cutG d S j))) 0 C)
 | 0 => rfl
 | C + 1 => by
  rw [chunksP_succ, chunks_cat d S C, cat_last, ints_app]
  rfl
theorem raw_cat (d : List Int) (S C : Nat) (x : List Int) : rawP d S C x = ints (cat (pcP d S C (x ++ four (CrcMath.sum (nats (d ++ x))))) 0 (C + 1) ++ [255]) := by
 unfold rawP tailP
 rw [chunks_cat, cat_last, ints_app, ints_app, List.append_assoc, cat_congr (g := pcP d S C (x ++ four (CrcMath.sum (nats (d ++ x))))) (h := fun j => encN (nats (cutG d S j))) C 0 fun j _ h => by
  unfold pcP
  rw [if_pos (by omega)]]
 unfold pcP
 rw [if_neg (Nat.lt_irrefl C)]
 rfl
theorem decP_at {raw : List Int} {a0 a1 a2 a3 a4 a5 a6 : Int} (hg : okG a0 a1 a2 a3 a4 a5 a6) (hl : (raw.length : Int) = a3 * (a4 + 2) + 31) : decP raw a0 a1 a2 a3 a4 a5 a6 = decB a4.toNat a3.toNat (raw.take (raw.length - 31)) ((raw.take (raw.length - 1)).drop (raw.length - 31)) := by
 unfold decP
 rw [if_pos ⟨hg, hl⟩]
theorem decP_parts {S C : Nat} {a0 a1 a2 a5 a6 : Int} {A L : List Nat} (hg : okG a0 a1 a2 (C : Int) (S : Int) a5 a6) (hA : A.length = C * (S + 2)) (hL : L.length = 30) : decP (ints (A ++ L ++ [255])) a0 a1 a2 (C : Int) (S : Int) a5 a6 = decB S C (ints A) (ints L) := by
 have hlen : (ints (A ++ L ++ [255])).length = C * (S + 2) + 31 := by rw [ints_length, List.length_append, List.length_append, hA, hL]; rfl
 have en : (C : Int) * ((S : Int) + 2) = ((C * (S + 2) : Nat) : Int) := by rw [Int.natCast_mul, Int.natCast_add]; rfl
 have hAL : (ints A).length = C * (S + 2) := by rw [ints_length, hA]
 rw [decP_at hg (by rw [hlen, en]; omega), hlen, Int.toNat_natCast, Int.toNat_natCast, show C * (S + 2) + 31 - 31 = C * (S + 2) by omega, show C * (S + 2) + 31 - 1 = C * (S + 2) + 30 by omega, ints_app, List.take_left' (show (ints (A ++ L)).length = C * (S + 2) + 30 by rw [ints_length, List.length_append, hA, hL]), ints_app, List.drop_left' hAL, List.append_assoc, List.take_left' hAL]
theorem page_turned {d x : List Int} {S C : Nat} {a0 a1 a2 a5 a6 t0 t1 t2 t3 : Int} (hg : okG a0 a1 a2 (C : Int) (S : Int) a5 a6) (hS0 : 1 ≤ S) (hS : S ≤ 40) (hC : C ≤ 16) (hd : ∀ y ∈ d, 0 ≤ y ∧ y < 256) (hdl : d.length = C * S)
  (hp : pkPut sizes [0, t0, t1, t2, t3, 0] = (x, 0)) (hm : mayTag t0 t1 t2 t3 = true) (hxl : x.length = 24) (hxb : ∀ y ∈ x, 0 ≤ y ∧ y < 256) {o : Nat → Option Nat} (ho : ∀ j k, o j = some k → k < if j = C then 238 else 8 * S + 14) :
  ∃ fy : Nat, decP (ints (cat (fun j => turnB (pcP d S C (x ++ four (CrcMath.sum (nats (d ++ x)))) j) (o j)) 0 (C + 1) ++ [255])) a0 a1 a2 (C : Int) (S : Int) a5 a6 = (d, t0, t1, t2, t3, if 0 < fy then 1 else 0, 0) ∧ (fy = 0 ↔ ∀ j, j ≤ C → o j = none) := by
 have hfb : ∀ y ∈ four (CrcMath.sum (nats (d ++ x))), 0 ≤ y ∧ y < 256 := four_byte _
 have hfl : (four (CrcMath.sum (nats (d ++ x)))).length = 4 := rfl
 have hend : ends (d ++ (x ++ four (CrcMath.sum (nats (d ++ x))))) = true := by
  rw [← List.append_assoc]
  unfold ends
  have e : (d ++ x ++ four (CrcMath.sum (nats (d ++ x)))).length - 4 = (d ++ x).length := by rw [List.length_append, hfl]; omega
  rw [e, List.take_left, List.drop_left, decide_eq_true rfl, decide_eq_true (by rw [List.length_append, hfl]; omega)]
  rfl
 generalize four (CrcMath.sum (nats (d ++ x))) = f at hfb hfl hend ⊢
 have hyl : (nats (x ++ f)).length = 28 := by rw [nats_length, List.length_append, hxl, hfl]
 have hyb := nats_lt (app_byte hxb hfb)
 have hcl : ∀ j, j < C → (nats (cutG d S j)).length = S := fun j hj => by
  rw [nats_length]
  exact cutG_len (by rw [hdl]; exact Nat.mul_le_mul_right S hj)
 have hpl : ∀ j, j < C → (pcP d S C (x ++ f) j).length = S + 2 := fun j hj => by
  unfold pcP
  rw [if_pos hj, encN_len, hcl j hj]
 have hpc : pcP d S C (x ++ f) C = encN (nats (x ++ f)) := by
  unfold pcP
  rw [if_neg (Nat.lt_irrefl C)]
 have hA : (cat (fun j => turnB (pcP d S C (x ++ f) j) (o j)) 0 C).length = C * (S + 2) := cat_len C 0 fun j _ hj => by
  rw [turnB_len]
  exact hpl j (by omega)
 have hL : (turnB (pcP d S C (x ++ f) C) (o C)).length = 30 := by rw [turnB_len, hpc, encN_len, hyl]
 rw [cat_last]
 obtain ⟨fy, e, _, f2, f3⟩ := allR_cat (m := S + 2) (q := fun j => turnB (pcP d S C (x ++ f) j) (o j)) (w := fun j => cutG d S j) (c := fun j => cntB (o j)) C 0 [] 0 (fun j _ hj => by
  refine ⟨by rw [turnB_len]; exact hpl j (by omega), ?_, cntB_le _⟩
  have hj' : j < C := by omega
  unfold pcP
  rw [if_pos hj', dec_turn (nats_lt (cutG_byte hd S j)) (by rw [hcl j hj']; omega) (by rw [hcl j hj']; omega) (fun k hk => by
   have := ho j k hk
   rw [if_neg (by omega)] at this
   rw [hcl j hj']
   exact this), ints_nats fun y hy => (cutG_byte hd S j y hy).1]) (by omega)
 rw [List.nil_append, show (fun j => cutG d S j) = cutG d S from rfl, cut_cat C 0 (by rw [Nat.zero_add, hdl]), Nat.zero_mul, List.drop_zero] at e
 have hlab : decN (turnB (pcP d S C (x ++ f) C) (o C)) = (x ++ f, (cntB (o C) : Int), 0) := by
  rw [hpc, dec_turn hyb (by omega) (by omega) (fun k hk => by
   have := ho C k hk
   rw [if_pos rfl] at this
   rw [hyl]
   omega), ints_nats fun y hy => (app_byte hxb hfb y hy).1]
 have hc1 := cntB_le (o C)
 have hone : count (turnB (pcP d S C (x ++ f) C) (o C)) ≤ 185 := by
  rw [hpc]
  have h1 := label_ones (tag_ones hp) hfl
  cases o C with
  | none => exact Nat.le_succ_of_le h1
  | some k =>
   have h2 := piece_turn (encN_lt hyb (by omega)) (k : Int) 0 30
   rw [List.drop_zero, List.drop_zero, List.take_of_length_le (by rw [flip1_length, encN_len, hyl]; omega), List.take_of_length_le (by rw [encN_len, hyl]; omega)] at h2
   unfold near at h2
   show count (flip1 _ _) ≤ 185
   omega
 refine ⟨fy + cntB (o C), ?_, ?_, ?_⟩
 ·rw [decP_parts hg hA hL]
  unfold decB
  rw [if_neg (by rw [ints_length, hL, nats_ints]; omega), show allR (S + 2) C (ints (cat (fun j => turnB (pcP d S C (x ++ f) j) (o j)) 0 C)) [] 0 = _ from e, nats_ints, hlab]
  dsimp only
  rw [if_pos rfl, if_pos rfl, if_pos hend, List.take_left' hxl, tag_back hp hm]
  dsimp only
  rw [if_pos rfl, w64_id (by omega) (by omega)]
  congr 6
  by_cases h : 0 < fy + cntB (o C)
  ·rw [if_pos h, if_pos (by omega)]
  ·rw [if_neg h, if_neg (by omega)]
 ·intro h j hj
  by_cases hjC : j = C
  ·subst hjC
   exact cntB_zero.1 (by omega)
  ·exact cntB_zero.1 (f3.1 (by omega) j (by omega) (by omega))
 ·intro h
  have h1 := f3.2 fun j _ hj => cntB_zero.2 (h j (by omega))
  have h2 := cntB_zero.2 (h C (Nat.le_refl _))
  omega
theorem page_two {d x : List Int} {S C : Nat} {a0 a1 a2 a5 a6 t0 t1 t2 t3 : Int} (hg : okG a0 a1 a2 (C : Int) (S : Int) a5 a6) (hS0 : 1 ≤ S) (hS : S ≤ 40) (hC0 : 1 ≤ C) (hdl : d.length = C * S)
  (hp : pkPut sizes [0, t0, t1, t2, t3, 0] = (x, 0)) (hxl : x.length = 24) {i k : Nat} (hi : i < 8 * S + 14) (hk : k < 8 * S + 14) (hne : i ≠ k) :
  decP (ints (flips (cat (pcP d S C (x ++ four (CrcMath.sum (nats (d ++ x))))) 0 (C + 1) ++ [255]) [(i : Int), (k : Int)])) a0 a1 a2 (C : Int) (S : Int) a5 a6 = ([], 0, 0, 0, 0, 0, 14) := by
 have hfl : (four (CrcMath.sum (nats (d ++ x)))).length = 4 := rfl
 generalize four (CrcMath.sum (nats (d ++ x))) = f at hfl ⊢
 have hyl : (nats (x ++ f)).length = 28 := by rw [nats_length, List.length_append, hxl, hfl]
 have hcl : ∀ j, j < C → (nats (cutG d S j)).length = S := fun j hj => by
  rw [nats_length]
  exact cutG_len (by rw [hdl]; exact Nat.mul_le_mul_right S hj)
 have hpl : ∀ j, j < C → (pcP d S C (x ++ f) j).length = S + 2 := fun j hj => by
  unfold pcP
  rw [if_pos hj, encN_len, hcl j hj]
 have hpc : pcP d S C (x ++ f) C = encN (nats (x ++ f)) := by
  unfold pcP
  rw [if_neg (Nat.lt_irrefl C)]
 have hp0 : pcP d S C (x ++ f) 0 = encN (nats (cutG d S 0)) := by
  unfold pcP
  rw [if_pos (by omega)]
 have hl0 : (pcP d S C (x ++ f) 0).length = S + 2 := hpl 0 (by omega)
 obtain ⟨c, rfl⟩ : ∃ c, C = c + 1 := ⟨C - 1, by omega⟩
 have hL : (pcP d S (c + 1) (x ++ f) (c + 1)).length = 30 := by rw [hpc, encN_len, hyl]
 have hB : (cat (pcP d S (c + 1) (x ++ f)) 1 c).length = c * (S + 2) := cat_len c 1 fun j h1 h2 => hpl j (by omega)
 rw [cat_last]
 show decP (ints (flips (pcP d S (c + 1) (x ++ f) 0 ++ cat (pcP d S (c + 1) (x ++ f)) 1 c ++ pcP d S (c + 1) (x ++ f) (c + 1) ++ [255]) _)) _ _ _ _ _ _ _ = _
 rw [flips_two, List.append_assoc, List.append_assoc, flip1_left (by omega), flip1_left (by rw [flip1_length]; omega), ← flips_two, ← List.append_assoc, ← List.append_assoc,
  decP_parts hg (by rw [List.length_append, flips_length, hl0, hB, Nat.succ_mul, Nat.add_comm]) hL]
 unfold decB
 have h1 := label_ones (tag_ones hp) hfl
 rw [if_neg (by rw [ints_length, hL, nats_ints, hpc]; omega), allR_bad (e := 14) (by rw [flips_length]; exact hl0) (by rw [hp0]; exact dec_two (by rw [hcl 0 (by omega)]; omega) (by rw [hcl 0 (by omega)]; omega) (by rw [hcl 0 (by omega)]; exact hi) (by rw [hcl 0 (by omega)]; exact hk) hne) (by decide)]
 dsimp only
 rw [if_neg (by decide)]
end Go.Proofs.Ytmehbabchakkpaa.PurePageBack
namespace Go.Proofs.Ytmehbabchakkpaa.Pure
open Go.RowKit QPageBack YtmehbabchakkpaaW.PrintWords YtmehbabchakkpaaW.PrintLast YtmehbabchakkpaaW.PrintMore EvKit PackMath TagMath CrcMath NatKit BitsMath ChunkMath TurnMath PurePageBack
def hitP (l : List Int) (S C j : Nat) : Option Nat := if j < l.length ∧ (l.getD j 0).toNat < (if j = C then 238 else 8 * S + 14) then some (l.getD j 0).toNat else none
theorem hitP_lt {l : List Int} {S C : Nat} : ∀ j k, hitP l S C j = some k → k < if j = C then 238 else 8 * S + 14 := fun j k h => by
 unfold hitP at h
 by_cases hh : j < l.length ∧ (l.getD j 0).toNat < (if j = C then 238 else 8 * S + 14)
 ·rw [if_pos hh] at h
  obtain rfl := Option.some.inj h
  exact hh.2
 ·rw [if_neg hh] at h
  cases h
def stP (p : Nat → List Nat) (o : Nat → Option Nat) (i j : Nat) : List Nat := if j < i then turnB (p j) (o j) else p j
theorem stP_len (p : Nat → List Nat) (o : Nat → Option Nat) (i j : Nat) : (stP p o i j).length = (p j).length := by
 unfold stP
 split
 ·exact turnB_len _ _
 ·rfl
theorem stP_lt {p : Nat → List Nat} (hb : ∀ j, ∀ b ∈ p j, b < 256) (o : Nat → Option Nat) (i j : Nat) : ∀ b ∈ stP p o i j, b < 256 := by
 unfold stP
 split
 ·exact turnB_lt (hb j) _
 ·exact hb j
theorem app_lt {a : List Nat} (ha : ∀ b ∈ a, b < 256) : ∀ b ∈ a ++ [255], b < 256 := fun b hb => by
 rcases List.mem_append.1 hb with hb | hb
 ·exact ha b hb
 ·rw [List.mem_singleton.1 hb]
  decide
theorem turn_l0 {p : Nat → List Nat} {l : List Int} {S C : Nat} {q0 q1 q2 q5 q6 : Int} (hS : S ≤ 40) (hC : C ≤ 4) (hl : ∀ x ∈ l, 0 ≤ x ∧ x < 65536) (hn : l.length ≤ 20) (hp : ∀ j, j < C → (p j).length = S + 2) (hpC : (p C).length = 30) (hb : ∀ j, ∀ b ∈ p j, b < 256) :
  ∀ e i : Nat, i + e = l.length → Ev (fun k => l08_turn.l0 k (ints (cat (stP p (hitP l S C) i) 0 (C + 1) ++ [255])) l (l.length : Int) (i : Int) q0 q1 q2 (C : Int) (S : Int) q5 q6) (ints (cat (stP p (hitP l S C) l.length) 0 (C + 1) ++ [255])) := by
 intro e
 induction e with
 | zero =>
  intro i hi
  obtain rfl : i = l.length := by omega
  exact Ev.step (fun k => l08_turn.l0.eq_2 ..) (Ev.neg (by omega) (Ev.ret rfl))
 | succ e ih =>
  intro i hi
  have hlt : i < l.length := by omega
  have hx := hl _ (List.getElem_mem hlt)
  have ih := ih (i + 1) (by omega)
  have hg : l.getD i 0 = l[i] := by rw [List.getD_eq_getElem?_getD, List.getElem?_eq_getElem hlt]; rfl
  have hoff : hitP l S C i = none → cat (stP p (hitP l S C) (i + 1)) 0 (C + 1) = cat (stP p (hitP l S C) i) 0 (C + 1) := fun h0 => cat_congr _ _ fun j _ _ => by
   unfold stP
   by_cases hj : j = i
   ·rw [hj, if_pos (Nat.lt_succ_self i), if_neg (Nat.lt_irrefl i), h0]
    rfl
   ·by_cases h2 : j < i
    ·rw [if_pos (by omega), if_pos h2]
    ·rw [if_neg (by omega), if_neg h2]
  have hout : C < i → cat (stP p (hitP l S C) (i + 1)) 0 (C + 1) = cat (stP p (hitP l S C) i) 0 (C + 1) := fun h0 => cat_congr _ _ fun j _ h2 => by
   unfold stP
   rw [if_pos (by omega), if_pos (by omega)]
  have hlen : (cat (stP p (hitP l S C) i) 0 (C + 1)).length = C * (S + 2) + 30 := by
   rw [cat_last, List.length_append, stP_len, hpC, cat_len (m := S + 2) C 0 fun j _ hj => by rw [stP_len]; exact hp j (by omega)]
  have hm : C * (S + 2) ≤ 4 * 42 := Nat.mul_le_mul hC (by omega)
  have hby : ∀ b ∈ cat (stP p (hitP l S C) i) 0 (C + 1) ++ [255], b < 256 := app_lt (cat_all _ _ fun j _ _ => stP_lt hb _ _ _)
  have hfl : ∀ k : Nat, i ≤ C → k < 65536 → hitP l S C i = some k → k < 8 * (p i).length → Ev (fun k' => bits_Flip.f k' (ints (cat (stP p (hitP l S C) i) 0 (C + 1) ++ [255])) [((8 * (i * (S + 2)) + k : Nat) : Int)]) (ints (cat (stP p (hitP l S C) (i + 1)) 0 (C + 1) ++ [255])) := fun k h1 hk h2 h3 => by
   have hi2 : i * (S + 2) ≤ 4 * 42 := Nat.mul_le_mul (by omega) (by omega)
   have h := flip_ev (l := ints (cat (stP p (hitP l S C) i) 0 (C + 1) ++ [255])) (at_ := [((8 * (i * (S + 2)) + k : Nat) : Int)]) (ints_byte hby) (by rw [ints_length, List.length_append, hlen]; simp only [List.length_singleton]; omega) (fun z hz => by rw [List.mem_singleton.1 hz]; omega) (by simp)
   have e2 : flips (cat (stP p (hitP l S C) i) 0 (C + 1) ++ [255]) [((8 * (i * (S + 2)) + k : Nat) : Int)] = cat (stP p (hitP l S C) (i + 1)) 0 (C + 1) ++ [255] := by
    rw [flips_one]
    refine cat_flip (C + 1) 0 i [255] (by omega) (fun j _ hj => ?_) ?_ ?_ (fun j hj => ?_)
    ·rw [stP_len]
     exact hp j (by omega)
    ·rw [stP_len, Nat.zero_add]
     exact h3
    ·unfold stP
     rw [Nat.zero_add, if_pos (Nat.lt_succ_self i), if_neg (Nat.lt_irrefl i), h2]
     rfl
    ·unfold stP
     by_cases h4 : j < i
     ·rw [if_pos (by omega), if_pos h4]
     ·rw [if_neg (by omega), if_neg h4]
   rw [nats_ints, e2] at h
   exact h
  have epos : i ≤ C → wrap64 (wrap64 (wrap64 (8 * (i : Int)) * wrap64 ((S : Int) + 2)) + l[i]) = ((8 * (i * (S + 2)) + l[i].toNat : Nat) : Int) := fun h => by
   have hi2 : i * (S + 2) ≤ 4 * 42 := Nat.mul_le_mul (by omega) (by omega)
   have e : (8 * (i : Int)) * ((S : Int) + 2) = ((8 * (i * (S + 2)) : Nat) : Int) := by
    rw [Int.natCast_mul, Int.natCast_mul, Int.natCast_add, Int.mul_assoc]
    rfl
   rw [w64_id (x := 8 * (i : Int)) (by omega) (by omega), w64_id (x := (S : Int) + 2) (by omega) (by omega), e, w64_id (x := ((8 * (i * (S + 2)) : Nat) : Int)) (by omega) (by omega), w64_id (by omega) (by omega)]
   omega
  have elim_ : wrap64 (wrap64 (8 * (S : Int)) + 14) = 8 * (S : Int) + 14 := by rw [w64_id (x := 8 * (S : Int)) (by omega) (by omega), w64_id (by omega) (by omega)]
  refine Ev.step (fun k => l08_turn.l0.eq_2 ..) (Ev.pos (by omega) (Ev.pos (by omega) (Ev.pos (by omega) ?_)))
  rw [rd_nat hlt, w64_id (x := l[i]) (by omega) (by omega), w64_succ (by omega), elim_]
  by_cases hiC : i = C
  ·have hpi : (p i).length = 30 := by rw [hiC]; exact hpC
   refine Ev.pos (by omega) (Ev.pos (by omega) (Ev.ite (fun h => ?_) (fun h => ?_)))
   ·have hk : hitP l S C i = some l[i].toNat := by
     unfold hitP
     rw [hg, if_pos ⟨hlt, by rw [if_pos hiC]; omega⟩]
    rw [epos (by omega)]
    exact Ev.bind (hfl _ (by omega) (by omega) hk (by omega)) ih
   ·have hk : hitP l S C i = none := by
     unfold hitP
     rw [hg, if_neg fun z => by
      have := z.2
      rw [if_pos hiC] at this
      omega]
    rw [hoff hk] at ih
    exact ih
  ·refine Ev.neg (by omega) (Ev.ite (fun hle => Ev.ite (fun h => ?_) (fun h => ?_)) (fun hgt => ?_))
   ·have hpi : (p i).length = S + 2 := hp i (by omega)
    have hk : hitP l S C i = some l[i].toNat := by
     unfold hitP
     rw [hg, if_pos ⟨hlt, by rw [if_neg hiC]; omega⟩]
    rw [epos (by omega)]
    exact Ev.bind (hfl _ (by omega) (by omega) hk (by omega)) ih
   ·have hk : hitP l S C i = none := by
     unfold hitP
     rw [hg, if_neg fun z => by
      have := z.2
      rw [if_neg hiC] at this
      omega]
    rw [hoff hk] at ih
    exact ih
   ·rw [hout (by omega)] at ih
    exact ih
theorem PageBack : StmPageBack := by
 rintro ⟨a0, a1, a2, a3, a4, a5, a6⟩ ⟨d, t1, t2, t3, t4⟩ ⟨l, mo⟩ _ H2 H3
 have hd : ∀ x ∈ d, 0 ≤ x ∧ x < 256 := fun x hx => wf_u8 (H2.1.2 x hx)
 have hl : ∀ x ∈ l, 0 ≤ x ∧ x < 65536 := fun x hx => wf_u16 (H3.1.2 x hx)
 have hmo : 0 ≤ mo ∧ mo < 65536 := wf_u16 H3.2
 clear H2 H3
 show ∃ k, l08_PageBack.f k a0 a1 a2 a3 a4 a5 a6 d t1 t2 t3 t4 l mo = some true
 refine Ev.rounds (Ev.congr (fun k => by rw [l08_PageBack.f]) ?_)
 refine Ev.bind page_awake_ev (Ev.pos rfl ?_)
 have hoff : Ev (fun k => l08_PageBack.j1 k true a0 a1 a2 a3 a4 a5 a6 d t1 t2 t3 t4 l mo) true := Ev.step (fun k => l08_PageBack.j1.eq_2 ..) (Ev.pos rfl (Ev.ret rfl))
 refine Ev.step (fun k => l08_PageBack.j0.eq_2 ..) ?_
 have hb : l08_Small.f a0 a1 a2 a3 a4 a5 a6 = some (decide (a3 ≤ 4 ∧ a4 ≤ 40 ∧ a3 ≥ 0 ∧ a4 ≥ 0)) := by
  unfold l08_Small.f
  by_cases h1 : a3 ≤ 4 <;> by_cases h2 : a4 ≤ 40 <;> by_cases h3 : a3 ≥ 0 <;> by_cases h4 : a4 ≥ 0 <;> simp [h1, h2, h3, h4]
 refine Ev.bindv hb ?_
 by_cases hs : a3 ≤ 4 ∧ a4 ≤ 40 ∧ a3 ≥ 0 ∧ a4 ≥ 0
 case neg =>
  rw [decide_eq_false hs]
  exact Ev.neg (by decide) hoff
 rw [decide_eq_true hs]
 refine Ev.pos rfl (Ev.ite (fun _ => hoff) (fun h200 => ?_))
 by_cases h20 : (l.length : Int) > 20
 ·rw [decide_eq_true h20]
  exact hoff
 rw [decide_eq_false h20]
 refine Ev.step (fun k => l08_PageBack.j1.eq_2 ..) (Ev.neg (by decide) ?_)
 refine Ev.step (fun k => l08_PageBack.j2.eq_2 ..) ?_
 refine Ev.bind (pe_ev hd a0 a1 a2 a3 a4 a5 a6 t1 t2 t3 t4) ?_
 unfold encP
 split
 case isFalse => exact Ev.neg (by decide) (Ev.ret rfl)
 rename_i hc
 obtain ⟨hg, hmay, hdl⟩ := hc
 refine Ev.pos rfl ?_
 obtain ⟨g3, g4⟩ := okG_bounds hg
 obtain ⟨x, hx, hxl, hxb⟩ := tag_fits hmay
 rw [hx]
 dsimp only
 obtain ⟨C, rfl⟩ := Int.eq_ofNat_of_zero_le (a := a3) (by omega)
 obtain ⟨S, rfl⟩ := Int.eq_ofNat_of_zero_le (a := a4) (by omega)
 rw [Int.toNat_natCast, Int.toNat_natCast]
 have hdl2 : d.length = C * S := by
  rw [← Int.natCast_mul] at hdl
  exact_mod_cast hdl
 have hm : C * (S + 2) ≤ 4 * 42 := Nat.mul_le_mul (by omega) (by omega)
 have en : (C : Int) * ((S : Int) + 2) = ((C * (S + 2) : Nat) : Int) := by rw [Int.natCast_mul, Int.natCast_add]; rfl
 have T1 := page_turned hg (by omega) (by omega) (by omega) hd hdl2 hx hmay hxl hxb (o := hitP l S C) hitP_lt
 have T0 := page_turned hg (by omega) (by omega) (by omega) hd hdl2 hx hmay hxl hxb (o := fun _ => none) (fun _ _ h => by cases h)
 have T2 := fun (i k : Nat) (hi : i < 8 * S + 14) (hk : k < 8 * S + 14) (hne : i ≠ k) => page_two hg (by omega) (by omega) (by omega) hdl2 hx hxl hi hk hne
 rw [raw_cat]
 have hfl4 : (four (CrcMath.sum (nats (d ++ x)))).length = 4 := rfl
 have hfb : ∀ y ∈ four (CrcMath.sum (nats (d ++ x))), 0 ≤ y ∧ y < 256 := four_byte _
 generalize four (CrcMath.sum (nats (d ++ x))) = f at hfl4 hfb T0 T1 T2 ⊢
 have hyl : (nats (x ++ f)).length = 28 := by rw [nats_length, List.length_append, hxl, hfl4]
 have hp1 : ∀ j, j < C → (pcP d S C (x ++ f) j).length = S + 2 := fun j hj => by
  unfold pcP
  rw [if_pos hj, encN_len, nats_length, cutG_len (by rw [hdl2]; exact Nat.mul_le_mul_right S hj)]
 have hpC : (pcP d S C (x ++ f) C).length = 30 := by
  unfold pcP
  rw [if_neg (Nat.lt_irrefl C), encN_len, hyl]
 have hpb : ∀ j, ∀ b ∈ pcP d S C (x ++ f) j, b < 256 := fun j => by
  unfold pcP
  split
  ·exact encN_lt (nats_lt (cutG_byte hd S j)) (by rw [nats_length]; have := cutG_le d S j; omega)
  ·exact encN_lt (nats_lt (app_byte hxb hfb)) (by omega)
 generalize pcP d S C (x ++ f) = p at hp1 hpC hpb T0 T1 T2 ⊢
 obtain ⟨fy, e1, f1⟩ := T1
 obtain ⟨f0, e0, f00⟩ := T0
 have hlen : ∀ q : Nat → List Nat, (∀ j, (q j).length = (p j).length) → (ints (cat q 0 (C + 1) ++ [255])).length = C * (S + 2) + 31 := fun q hq => by
  rw [ints_length, List.length_append, cat_last, List.length_append, hq, hpC, cat_len (m := S + 2) C 0 fun j _ hj => by rw [hq]; exact hp1 j (by omega)]
  rfl
 have hturn : Ev (fun k => l08_turn.f k a0 a1 a2 (C : Int) (S : Int) a5 a6 (ints (cat p 0 (C + 1) ++ [255])) l) (ints (cat (fun j => turnB (p j) (hitP l S C j)) 0 (C + 1) ++ [255])) := by
  refine Ev.congr (fun k => by rw [l08_turn.f]) ?_
  have h := turn_l0 (q0 := a0) (q1 := a1) (q2 := a2) (q5 := a5) (q6 := a6) (by omega) (by omega) hl (by omega) hp1 hpC hpb l.length 0 (by omega)
  rw [cat_congr (g := stP p (hitP l S C) 0) (h := p) (C + 1) 0 fun j _ _ => if_neg (Nat.not_lt_zero j), cat_congr (g := stP p (hitP l S C) l.length) (h := fun j => turnB (p j) (hitP l S C j)) (C + 1) 0 fun j _ _ => by
   unfold stP
   split
   ·rfl
   ·rename_i hj
    have : hitP l S C j = none := by
     unfold hitP
     rw [if_neg fun z => hj z.1]
    rw [this]
    rfl] at h
  exact h
 have hob : ∀ y ∈ ints (cat (fun j => turnB (p j) (hitP l S C j)) 0 (C + 1) ++ [255]), 0 ≤ y ∧ y < 256 := ints_byte (app_lt (cat_all _ _ fun j _ _ => turnB_lt (hpb j) _))
 have hol := hlen (fun j => turnB (p j) (hitP l S C j)) fun j => turnB_len _ _
 have hrl := hlen p fun _ => rfl
 have hdec := pdec_ev hob a0 a1 a2 (C : Int) (S : Int) a5 a6
 rw [e1] at hdec
 have hmark := mark_ev hob a0 a1 a2 (C : Int) (S : Int) a5 a6
 have hno : markP (ints (cat (fun j => turnB (p j) (hitP l S C j)) 0 (C + 1) ++ [255])) a0 a1 a2 (C : Int) (S : Int) a5 a6 = false := by
  unfold markP
  have e : (ints (cat (fun j => turnB (p j) (hitP l S C j)) 0 (C + 1) ++ [255])).drop ((ints (cat (fun j => turnB (p j) (hitP l S C j)) 0 (C + 1) ++ [255])).length - 1) = [255] := by
   rw [hol, ints_app]
   refine List.drop_left' ?_
   rw [ints_app, List.length_append] at hol
   have : (ints [255]).length = 1 := rfl
   omega
  rw [e]
  have : ¬ ((count (nats [255]) : Nat) : Int) < 4 := by decide
  rw [decide_eq_false this, Bool.and_false]
 rw [hno] at hmark
 have hsame1 := same_ev d d (by omega)
 rw [decide_eq_true rfl] at hsame1
 have hsame2 := same_ev (ints (cat (fun j => turnB (p j) (hitP l S C j)) 0 (C + 1) ++ [255])) (ints (cat p 0 (C + 1) ++ [255])) (by omega)
 have hst : ((if 0 < fy then (1 : Int) else 0) == 0) = decide (ints (cat (fun j => turnB (p j) (hitP l S C j)) 0 (C + 1) ++ [255]) = ints (cat p 0 (C + 1) ++ [255])) := by
  by_cases hf : fy = 0
  ·have hnone := f1.1 hf
   rw [cat_congr (g := fun j => turnB (p j) (hitP l S C j)) (h := p) (C + 1) 0 fun j _ hj => by
    show turnB (p j) (hitP l S C j) = p j
    rw [hnone j (by omega)]
    rfl, decide_eq_true rfl, hf]
   rfl
  ·have hne : ints (cat (fun j => turnB (p j) (hitP l S C j)) 0 (C + 1) ++ [255]) ≠ ints (cat p 0 (C + 1) ++ [255]) := fun he => by
    have h0 : f0 = 0 := f00.2 fun _ _ => rfl
    have e0' : decP (ints (cat p 0 (C + 1) ++ [255])) a0 a1 a2 (C : Int) (S : Int) a5 a6 = (d, t1, t2, t3, t4, if 0 < f0 then 1 else 0, 0) := e0
    rw [he, e0'] at e1
    have h6 := congrArg (fun z => z.2.2.2.2.2.1) e1
    dsimp only at h6
    rw [h0, if_neg (Nat.lt_irrefl 0), if_pos (show 0 < fy by omega)] at h6
    exact absurd h6 (by decide)
   rw [decide_eq_false hne, if_pos (by omega)]
   rfl
 refine Ev.step (fun k => l08_PageBack.j3.eq_2 ..) ?_
 refine Ev.bind hturn (Ev.bind hdec (Ev.pos rfl (Ev.bind hsame1 (Ev.pos rfl (Ev.neg (by simp) (Ev.bind hsame2 (Ev.neg (by rw [hst]; simp) (Ev.neg ?_ (Ev.bind hmark (Ev.neg (by decide) ?_))))))))))
 ·dsimp only
  split <;> decide
 clear hturn hdec hsame1 hsame2 hmark hno hst hob hol e1 e0 f1 f00
 refine Ev.step (fun k => l08_PageBack.j4.eq_2 ..) ?_
 have elim_ : wrap64 (wrap64 (8 * (S : Int)) + 14) = 8 * (S : Int) + 14 := by rw [w64_id (x := 8 * (S : Int)) (by omega) (by omega), w64_id (by omega) (by omega)]
 have e3 : wrap64 mo = mo := w64_id (by omega) (by omega)
 have e4 : wrap64 (IntKind.u16.wrap (IntKind.u16.wrap (Int.tdiv mo 3) + 1)) = mo / 3 + 1 := by
  rw [Int.tdiv_eq_ediv_of_nonneg hmo.1, w_u16 (mo / 3) (by omega) (by omega), w_u16 (mo / 3 + 1) (by omega) (by omega), w64_id (by omega) (by omega)]
 rw [elim_, e3, e4, Int.tmod_eq_emod_of_nonneg hmo.1, Int.tmod_eq_emod_of_nonneg (show 0 ≤ mo / 3 + 1 by omega)]
 obtain ⟨i, hi⟩ : ∃ q : Nat, mo % (8 * (S : Int) + 14) = (q : Int) := Int.eq_ofNat_of_zero_le (Int.emod_nonneg _ (by omega))
 obtain ⟨k, hk⟩ : ∃ q : Nat, (mo / 3 + 1) % (8 * (S : Int) + 14) = (q : Int) := Int.eq_ofNat_of_zero_le (Int.emod_nonneg _ (by omega))
 have hi2 := Int.emod_lt_of_pos mo (show 0 < 8 * (S : Int) + 14 by omega)
 have hk2 := Int.emod_lt_of_pos (mo / 3 + 1) (show 0 < 8 * (S : Int) + 14 by omega)
 rw [hi] at hi2 ⊢
 rw [hk] at hk2 ⊢
 clear hi hk e3 e4 elim_
 refine Ev.neg (by omega) (Ev.ite (fun _ => Ev.ret rfl) (fun hne => ?_))
 refine Ev.step (fun k => l08_PageBack.j5.eq_2 ..) ?_
 have hpb2 : ∀ b ∈ cat p 0 (C + 1) ++ [255], b < 256 := app_lt (cat_all _ _ fun j _ _ => hpb j)
 have f2 := flip_ev (l := ints (cat p 0 (C + 1) ++ [255])) (at_ := [(i : Int), (k : Int)]) (ints_byte hpb2) (by omega) (by
  intro z hz
  simp only [List.mem_cons, List.not_mem_nil, or_false] at hz
  omega) (by simp)
 rw [nats_ints] at f2
 have d2 := pdec_ev (ints_byte (flips_lt [(i : Int), (k : Int)] hpb2)) a0 a1 a2 (C : Int) (S : Int) a5 a6
 rw [T2 i k (by omega) (by omega) (by omega)] at d2
 exact Ev.bind f2 (Ev.bind d2 (Ev.pos rfl (Ev.pos rfl (Ev.pos rfl (Ev.ret rfl)))))
end Go.Proofs.Ytmehbabchakkpaa.Pure

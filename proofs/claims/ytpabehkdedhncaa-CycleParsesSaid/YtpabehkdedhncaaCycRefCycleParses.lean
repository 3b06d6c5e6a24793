/-
  What the document's parser of cycles comes to.
-/
import Derived.Test.YtpabehkdedhncaaCycParseCycleParses
namespace Go.Proofs.Ytpabehkdedhncaa.PureCycleParses
open Go.RowKit Go.Proofs.Ytpabehkdedhncaa.QCycleParses Go.Proofs.YtpabehkdedhncaaW.PrintWords Go.Proofs.YtpabehkdedhncaaW.PrintLast Go.Proofs.YtpabehkdedhncaaW.PrintMore Go.Proofs.Ytpabehkdedhncaa.EvKit Go.Proofs.Ytpabehkdedhncaa.BitsKit
theorem ref_let (b : UInt8) : incunableref10_letter.f (b.toNat : Int) = some (letIx b + 1) :=
  all256 (P := fun b => incunableref10_letter.f (b.toNat : Int) = some (letIx b + 1)) (by decide +kernel) b
theorem ref_dig (b : UInt8) : Ev (fun k => incunableref10_digit.f k (b.toNat : Int)) (digIx b) := by
  have key : ∀ k : Nat, incunableref10_digit.f (k + 1) (b.toNat : Int) = incunableref10_digit.f 1 (b.toNat : Int) := fun k => by
    unfold incunableref10_digit.f
    rw [incunableref10_digit.j0.eq_2, incunableref10_digit.j0.eq_2, incunableref10_digit.j0.eq_2, incunableref10_digit.j0.eq_2]
  refine Ev.step (fun k => key k) (Ev.val ?_)
  exact all256 (P := fun b => incunableref10_digit.f 1 (b.toNat : Int) = some (digIx b)) (by decide +kernel) b
theorem wa1 {n : Nat} (h : n < 1000000000) : wrap64 ((n : Int) + 1) = ((n + 1 : Nat) : Int) := by unfold wrap64; omega
theorem wa2 {n : Nat} (h : n < 1000000000) : wrap64 ((n : Int) + 2) = ((n + 1 + 1 : Nat) : Int) := by unfold wrap64; omega
theorem wa3 {n : Nat} (h : n < 1000000000) : wrap64 ((n : Int) + 3) = ((n + 1 + 1 + 1 : Nat) : Int) := by unfold wrap64; omega
theorem wa4 {n : Nat} (h : n < 1000000000) : wrap64 ((n : Int) + 4) = ((n + 4 : Nat) : Int) := by unfold wrap64; omega
theorem wa5 {n : Nat} (h : n < 1000000000) : wrap64 ((n : Int) + 5) = ((n + 5 : Nat) : Int) := by unfold wrap64; omega
def rres (acc : List Cyc) : List Cyc ⊕ Nat → List Cyc × Int
  | .inl m => (acc ++ m, 0)
  | .inr e => ([], (e : Int))
section
variable {S : ByteArray} (hS : S.size ≤ 67108864)
include hS
theorem r_mid {acc : List Cyc} {n j : Nat} {K : Int} {b : UInt8} {l : List UInt8} {r : List Cyc × Int} (hj : 1 ≤ j ∧ j ≤ 2) (hl : S.data.toList.drop (n + j) = b :: l)
    (hf : digIx b < 0 → r = ([], ((n + j + 1 : Nat) : Int))) (hg : 0 ≤ digIx b → Ev (fun k => incunableref10_Parse.l1 k S acc (n : Int) K ((j + 1 : Nat) : Int)) r) :
    Ev (fun k => incunableref10_Parse.l1 k S acc (n : Int) K (j : Int)) r := by
  obtain ⟨h1, h2, _⟩ := bt_drop hl
  have hb := digIx_range b
  have e : wrap64 ((n : Int) + (j : Int)) = ((n + j : Nat) : Int) := by rw [w64_id (by omega) (by omega)]; omega
  refine Ev.step (fun k => incunableref10_Parse.l1.eq_2 ..) ?_
  refine Ev.pos (by omega) ?_
  rw [e]
  refine Ev.neg (by omega) (Ev.pos (by omega) (Ev.pos (by omega) ?_))
  rw [h2]
  refine Ev.bind (ref_dig b) ?_
  rw [w64_succ (by omega), w64_succ (by omega)]
  exact Ev.ite (fun h => Ev.ret (hf h).symm) (fun h => hg (by omega))
theorem r_out {acc : List Cyc} {n j : Nat} {K : Int} {r : List Cyc × Int} (hj : 1 ≤ j ∧ j ≤ 2) (hn : n + j = S.size) (hr : r = ([], ((n + j + 1 : Nat) : Int))) :
    Ev (fun k => incunableref10_Parse.l1 k S acc (n : Int) K (j : Int)) r := by
  have e : wrap64 ((n : Int) + (j : Int)) = ((n + j : Nat) : Int) := by rw [w64_id (by omega) (by omega)]; omega
  refine Ev.step (fun k => incunableref10_Parse.l1.eq_2 ..) ?_
  refine Ev.pos (by omega) ?_
  rw [e, w64_succ (by omega)]
  exact Ev.pos (by omega) (Ev.ret hr.symm)
theorem r_first {acc : List Cyc} {n : Nat} {b : UInt8} {l : List UInt8} {r : List Cyc × Int} (hl : S.data.toList.drop n = b :: l)
    (hf : letIx b < 0 → r = ([], ((n + 1 : Nat) : Int))) (hg : 0 ≤ letIx b → Ev (fun k => incunableref10_Parse.l1 k S acc (n : Int) (letIx b + 1) ((1 : Nat) : Int)) r) :
    Ev (fun k => incunableref10_Parse.l0 k S acc (n : Int)) r := by
  obtain ⟨h1, h2, _⟩ := bt_drop hl
  have hb := letIx_range b
  refine Ev.step (fun k => incunableref10_Parse.l0.eq_2 ..) ?_
  refine Ev.pos (by omega) (Ev.pos (by omega) ?_)
  rw [h2]
  refine Ev.bindv (ref_let b) ?_
  rw [w64_succ (by omega)]
  exact Ev.ite (fun h => Ev.ret (hf (by omega)).symm) (fun h => hg (by omega))
theorem r_last {acc : List Cyc} {n : Nat} {a b c : UInt8} {l : List UInt8} {r : List Cyc × Int} (hl : S.data.toList.drop n = a :: b :: c :: l) (ha : acc.length ≤ n) (hb : 0 ≤ digIx b) (hc : 0 ≤ digIx c)
    (h : Ev (fun k => incunableref10_Parse.j2 k S (acc ++ [cyc a b c]) (n : Int) (if l = [] then false else decide (l.headD 0 ≠ 32))) r) :
    Ev (fun k => incunableref10_Parse.l1 k S acc (n : Int) (letIx a + 1) ((3 : Nat) : Int)) r := by
  obtain ⟨s1, _, l1⟩ := bt_drop hl
  obtain ⟨s2, b2, l2⟩ := bt_drop l1
  obtain ⟨s3, b3, l3⟩ := bt_drop l2
  have rb := digIx_range b
  have rc := digIx_range c
  refine Ev.step (fun k => incunableref10_Parse.l1.eq_2 ..) ?_
  refine Ev.neg (by decide) ?_
  have hn : n < 1000000000 := by omega
  rw [wa1 hn, wa2 hn, wa3 hn, b2, b3]
  refine Ev.pos (by omega) (Ev.pos (by omega) ?_)
  refine Ev.bind (ref_dig b) ?_
  refine Ev.pos (by omega) (Ev.pos (by omega) ?_)
  refine Ev.bind (ref_dig c) ?_
  refine Ev.pos (by omega) ?_
  refine Ev.bindv rfl ?_
  have ev : wrap64 (wrap64 (16 * digIx b) + digIx c) % 256 = digIx b * 16 + digIx c := by
    rw [w64_id (x := 16 * digIx b) (by omega) (by omega), w64_id (by omega) (by omega)]
    omega
  rw [ev]
  by_cases hlast : l = []
  · rw [if_pos hlast] at h
    rw [hlast] at l3
    have := drop_end l3 (by omega)
    exact Ev.neg (by omega) h
  · rw [if_neg hlast] at h
    match l, hlast with
    | d :: l', _ =>
    obtain ⟨s4, b4, _⟩ := bt_drop l3
    refine Ev.pos (by omega) (Ev.pos (by omega) ?_)
    have e : ((bt S ((n + 1 + 1 + 1 : Nat) : Int)) != 32) = decide (d ≠ 32) := by
      rw [b4]
      exact all256 (P := fun d => (((d.toNat : Int)) != 32) = decide (d ≠ 32)) (by decide +kernel) d
    rw [e]
    exact h
theorem ref_go : ∀ (l : List UInt8) (n : Nat) (acc : List Cyc), l ≠ [] → S.data.toList.drop n = l → acc.length ≤ n →
    Ev (fun k => incunableref10_Parse.l0 k S acc (n : Int)) (rres acc (parseL l n))
  | a :: b :: c :: d :: rest, n, acc, _, hl, ha => by
    obtain ⟨s1, _, l1⟩ := bt_drop hl
    obtain ⟨s2, _, l2⟩ := bt_drop l1
    obtain ⟨s3, _, l3⟩ := bt_drop l2
    obtain ⟨s4, _, l4⟩ := bt_drop l3
    rw [parseL]
    refine r_first hS hl (fun h => by rw [if_pos h]; rfl) (fun h0 => ?_)
    rw [if_neg (Int.not_lt.2 h0)]
    refine r_mid hS (j := 1) (by omega) l1 (fun h => by rw [if_pos h]; rfl) (fun h1 => ?_)
    rw [if_neg (Int.not_lt.2 h1)]
    refine r_mid hS (j := 2) (by omega) l2 (fun h => by rw [if_pos h]; rfl) (fun h2 => ?_)
    rw [if_neg (Int.not_lt.2 h2)]
    refine r_last hS hl ha h1 h2 ?_
    rw [if_neg (by simp)]
    refine Ev.step (fun k => incunableref10_Parse.j2.eq_2 ..) ?_
    have hn : n < 1000000000 := by omega
    rw [wa4 hn, wa5 hn]
    by_cases h3 : d = 32
    · rw [if_neg (not_not_intro h3)]
      refine Ev.neg (by simp [h3]) ?_
      refine Ev.ite (fun hz => Ev.ret ?_) (fun hz => ?_)
      · have hr : rest = [] := by
          rw [← l4, List.drop_of_length_le]
          have e : S.data.toList.length = S.size := by simp
          omega
        subst hr
        rw [parseL]
        rfl
      · have hr : rest ≠ [] := fun hr => hz (by
          have := drop_end (l4.trans hr) (by omega)
          omega)
        refine Ev.eq (ref_go rest (n + 4) _ hr l4 (by rw [List.length_append]; show acc.length + 1 ≤ n + 4; omega)) ?_
        cases parseL rest (n + 4) with
        | inl m => exact congrArg (fun z => (z, (0 : Int))) (List.append_assoc acc [_] m)
        | inr e => rfl
    · rw [if_pos h3]
      exact Ev.pos (by simp [h3]) (Ev.ret rfl)
  | [a, b, c], n, acc, _, hl, ha => by
    obtain ⟨s1, _, l1⟩ := bt_drop hl
    obtain ⟨s2, _, l2⟩ := bt_drop l1
    obtain ⟨s3, _, l3⟩ := bt_drop l2
    rw [parseL]
    refine r_first hS hl (fun h => by rw [if_pos h]; rfl) (fun h0 => ?_)
    rw [if_neg (Int.not_lt.2 h0)]
    refine r_mid hS (j := 1) (by omega) l1 (fun h => by rw [if_pos h]; rfl) (fun h1 => ?_)
    rw [if_neg (Int.not_lt.2 h1)]
    refine r_mid hS (j := 2) (by omega) l2 (fun h => by rw [if_pos h]; rfl) (fun h2 => ?_)
    rw [if_neg (Int.not_lt.2 h2)]
    refine r_last hS hl ha h1 h2 ?_
    have hend := drop_end l3 (by omega)
    rw [if_pos rfl]
    refine Ev.step (fun k => incunableref10_Parse.j2.eq_2 ..) ?_
    have hn : n < 1000000000 := by omega
    rw [wa4 hn]
    refine Ev.neg (by decide) (Ev.neg (by omega) ?_)
    refine Ev.step (fun k => incunableref10_Parse.l0.eq_2 ..) ?_
    exact Ev.neg (by omega) (Ev.ret rfl)
  | [a, b], n, acc, _, hl, ha => by
    obtain ⟨s1, _, l1⟩ := bt_drop hl
    obtain ⟨s2, _, l2⟩ := bt_drop l1
    rw [parseL]
    refine r_first hS hl (fun h => by rw [if_pos h]; rfl) (fun h0 => ?_)
    rw [if_neg (Int.not_lt.2 h0)]
    refine r_mid hS (j := 1) (by omega) l1 (fun h => by rw [if_pos h]; rfl) (fun h1 => ?_)
    rw [if_neg (Int.not_lt.2 h1)]
    exact r_out hS (j := 2) (by omega) (drop_end l2 (by omega)) rfl
  | [a], n, acc, _, hl, ha => by
    obtain ⟨s1, _, l1⟩ := bt_drop hl
    rw [parseL]
    refine r_first hS hl (fun h => by rw [if_pos h]; rfl) (fun h0 => ?_)
    rw [if_neg (Int.not_lt.2 h0)]
    exact r_out hS (j := 1) (by omega) (drop_end l1 (by omega)) rfl
  | [], n, acc, h, _, _ => absurd rfl h
theorem ref_parse_ev : Ev (fun k => incunableref10_Parse.f k S) (rres [] (parseT S.data.toList)) := by
  refine Ev.congr (fun k => by rw [incunableref10_Parse.f]) ?_
  unfold parseT
  by_cases h : S.data.toList = []
  · rw [if_pos h]
    have := drop_end (S := S) (n := 0) h (Nat.zero_le _)
    refine Ev.step (fun k => incunableref10_Parse.l0.eq_2 ..) ?_
    exact Ev.neg (by omega) (Ev.ret rfl)
  · rw [if_neg h]
    exact ref_go hS _ 0 [] h rfl (Nat.le_refl _)
end
end Go.Proofs.Ytpabehkdedhncaa.PureCycleParses

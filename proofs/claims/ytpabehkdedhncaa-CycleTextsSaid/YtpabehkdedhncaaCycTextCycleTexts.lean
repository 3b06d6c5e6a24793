/-
  What the document's text of cycles, cycle.Of and cycle.Same come to.
-/
import Derived.Test.YtpabehkdedhncaaCycParseCycleTexts
namespace Go.Proofs.Ytpabehkdedhncaa.PureCycleTexts
open Go.RowKit Go.Proofs.Ytpabehkdedhncaa.QCycleTexts Go.Proofs.YtpabehkdedhncaaW.PrintWords Go.Proofs.YtpabehkdedhncaaW.PrintLast Go.Proofs.YtpabehkdedhncaaW.PrintMore Go.Proofs.Ytpabehkdedhncaa.EvKit Go.Proofs.Ytpabehkdedhncaa.BitsKit
def one (b : UInt8) : ByteArray := ⟨#[b]⟩
theorem ext_let {n : Nat} (h : n < 4) : (⟨#[32, 99, 97, 119, 114]⟩ : ByteArray).extract (((n + 1 : Nat) : Int)).toNat (((n + 1 + 1 : Nat) : Int)).toNat = one (cycle_Text_letters.getD n 0) := by
  rw [Int.toNat_natCast, Int.toNat_natCast]
  have key : ∀ k : Fin 4, (⟨#[32, 99, 97, 119, 114]⟩ : ByteArray).extract (k.val + 1) (k.val + 1 + 1) = one (cycle_Text_letters.getD k.val 0) := by decide +kernel
  exact key ⟨n, h⟩
theorem ext_dig {n : Nat} (h : n < 16) : (⟨#[48, 49, 50, 51, 52, 53, 54, 55, 56, 57, 97, 98, 99, 100, 101, 102]⟩ : ByteArray).extract ((n : Int)).toNat (((n + 1 : Nat) : Int)).toNat = one (cycle_Text_digits.getD n 0) := by
  rw [Int.toNat_natCast, Int.toNat_natCast]
  have key : ∀ k : Fin 16, (⟨#[48, 49, 50, 51, 52, 53, 54, 55, 56, 57, 97, 98, 99, 100, 101, 102]⟩ : ByteArray).extract k.val (k.val + 1) = one (cycle_Text_digits.getD k.val 0) := by decide +kernel
  exact key ⟨n, h⟩
theorem one_size (a : ByteArray) (b : UInt8) : (a ++ one b).size = a.size + 1 := by rw [ByteArray.size_append]; rfl
def accOf (l : List UInt8) : ByteArray := ⟨l.toArray⟩
theorem acc_one (l : List UInt8) (b : UInt8) : accOf l ++ one b = accOf (l ++ [b]) := by
  refine ByteArray.ext ?_
  rw [ByteArray.data_append]
  show l.toArray ++ #[b] = (l ++ [b]).toArray
  simp
theorem acc_size (l : List UInt8) : (accOf l).size = l.length := by
  show l.toArray.size = _
  rw [List.size_toArray]
theorem ref_text_step {l : List Cyc} {i : Nat} {T : List UInt8} {n m : Nat} {r : ByteArray} (hil : i < l.length) (hl : l.length ≤ 300) (hT : T.length ≤ 10000) (hn : n < 4) (hm : m < 256) (hc : rd_T42 l (i : Int) = ⟨((n + 1 : Nat) : Int), (m : Int)⟩)
    (h : Ev (fun k => incunableref10_Text.l0 k l (⟨#[48, 49, 50, 51, 52, 53, 54, 55, 56, 57, 97, 98, 99, 100, 101, 102]⟩ : ByteArray) (accOf (T ++ ((if i = 0 then [] else [32]) ++ [cycle_Text_letters.getD n 0, cycle_Text_digits.getD (m / 16) 0, cycle_Text_digits.getD (m % 16) 0]))) ((i + 1 : Nat) : Int)) r) :
    Ev (fun k => incunableref10_Text.l0 k l (⟨#[48, 49, 50, 51, 52, 53, 54, 55, 56, 57, 97, 98, 99, 100, 101, 102]⟩ : ByteArray) (accOf T) (i : Int)) r := by
  refine Ev.step (fun k => incunableref10_Text.l0.eq_2 ..) ?_
  rw [hc]
  dsimp only
  have hq : m / 16 < 16 := by omega
  have hr : m % 16 < 16 := by omega
  have e0 : wrap64 (((n + 1 : Nat) : Int) + 1) = ((n + 1 + 1 : Nat) : Int) := w64_succ (by omega)
  have e1 : wrap64 (m : Int) = (m : Int) := w64_id (by omega) (by omega)
  have e2 : wrap64 (Int.tdiv (m : Int) 16) = ((m / 16 : Nat) : Int) := by
    rw [Int.tdiv_eq_ediv_of_nonneg (Int.natCast_nonneg m)]
    exact w64_id (x := ((m / 16 : Nat) : Int)) (by omega) (by omega)
  have e3 : Int.tmod (m : Int) 16 = ((m % 16 : Nat) : Int) := by
    rw [Int.tmod_eq_emod_of_nonneg (Int.natCast_nonneg m)]
    rfl
  have e4 : wrap64 (((m / 16 : Nat) : Int) + 1) = ((m / 16 + 1 : Nat) : Int) := w64_succ (by omega)
  have e5 : wrap64 (((m % 16 : Nat) : Int) + 1) = ((m % 16 + 1 : Nat) : Int) := w64_succ (by omega)
  have e6 : wrap64 ((i : Int) + 1) = ((i + 1 : Nat) : Int) := w64_succ (by omega)
  rw [e0, e1, e2, e3, e4, e5, e6, ext_let hn, ext_dig hq, ext_dig hr]
  clear e0 e1 e2 e3 e4 e5 e6
  have ht := acc_size T
  have o : ∀ b, (one b).size = 1 := fun _ => rfl
  refine Ev.pos (by omega) ?_
  by_cases hi : i = 0
  · rw [if_pos hi, List.nil_append] at h
    refine Ev.neg (by omega) (Ev.pos (by omega) (Ev.pos (by omega) (Ev.pos (by omega) (Ev.pos (by omega) ?_))))
    refine Ev.pos (by rw [o]; omega) (Ev.pos (by omega) (Ev.pos (by omega) (Ev.pos (by show _ ≤ ((16 : Nat) : Int); omega) ?_)))
    refine Ev.pos (by rw [o, one_size]; omega) (Ev.pos (by omega) (Ev.pos (by omega) (Ev.pos (by show _ ≤ ((16 : Nat) : Int); omega) ?_)))
    refine Ev.pos (by rw [o, one_size, one_size]; omega) ?_
    rw [acc_one, acc_one, acc_one, List.append_assoc, List.append_assoc]
    exact h
  · rw [if_neg hi] at h
    have e32 : (⟨#[32]⟩ : ByteArray) = one 32 := rfl
    rw [e32]
    refine Ev.pos (by omega) (Ev.pos (by omega) (Ev.pos (by omega) (Ev.pos (by omega) (Ev.pos (by omega) (Ev.pos (by omega) ?_)))))
    refine Ev.pos (by rw [o, one_size]; omega) (Ev.pos (by omega) (Ev.pos (by omega) (Ev.pos (by show _ ≤ ((16 : Nat) : Int); omega) ?_)))
    refine Ev.pos (by rw [o, one_size, one_size]; omega) (Ev.pos (by omega) (Ev.pos (by omega) (Ev.pos (by show _ ≤ ((16 : Nat) : Int); omega) ?_)))
    refine Ev.pos (by rw [o, one_size, one_size, one_size]; omega) ?_
    rw [acc_one, acc_one, acc_one, acc_one, List.append_assoc, List.append_assoc, List.append_assoc]
    exact h
theorem ref_text_l0 (l : List Cyc) (hl : l.length ≤ 300) (h1 : l.all cycle_Text_right = true) (h2 : l.all cycle_Text_byte = true) (d : Nat) : ∀ i : Nat, i + d = l.length →
    Ev (fun k => incunableref10_Text.l0 k l (⟨#[48, 49, 50, 51, 52, 53, 54, 55, 56, 57, 97, 98, 99, 100, 101, 102]⟩ : ByteArray) (accOf (cycle_Text_text (l.take i))) (i : Int)) (accOf (cycle_Text_text l)) := by
  induction d with
  | zero =>
    intro i hi
    refine Ev.step (fun k => incunableref10_Text.l0.eq_2 ..) ?_
    refine Ev.neg (by omega) (Ev.ret ?_)
    rw [List.take_of_length_le (by omega)]
  | succ d ih =>
    intro i hi
    have hil : i < l.length := by omega
    have hx : rd_T42 l (i : Int) ∈ l := by
      rw [rdT_nat hil]
      exact List.getElem_mem hil
    have r1 := List.all_eq_true.1 h1 _ hx
    have r2 := List.all_eq_true.1 h2 _ hx
    have ht := cycle_Text_take hil
    have hs := cycle_Text_text_length (l.take i)
    have hlen : (l.take i).length = i := by rw [List.length_take]; omega
    unfold cycle_Text_right at r1
    unfold cycle_Text_byte at r2
    rw [Bool.and_eq_true, decide_eq_true_eq, decide_eq_true_eq] at r1 r2
    have hc : rd_T42 l (i : Int) = ⟨((((rd_T42 l (i : Int)).f0 - 1).toNat + 1 : Nat) : Int), ((rd_T42 l (i : Int)).f1.toNat : Int)⟩ := by
      refine cyc_eq.2 ⟨?_, ?_⟩
      · show _ = ((((rd_T42 l (i : Int)).f0 - 1).toNat + 1 : Nat) : Int)
        omega
      · show _ = ((rd_T42 l (i : Int)).f1.toNat : Int)
        omega
    refine ref_text_step (n := ((rd_T42 l (i : Int)).f0 - 1).toNat) (m := (rd_T42 l (i : Int)).f1.toNat) hil hl (by omega) (by omega) (by omega) hc ?_
    have e := ih (i + 1) (by omega)
    rw [ht, cycle_Text_text_snoc] at e
    have hnil : (l.take i = []) = (i = 0) := by
      refine propext ⟨fun hh => ?_, fun hh => ?_⟩
      · rw [hh] at hlen
        exact hlen.symm
      · rw [hh]
        rfl
    simp only [hnil] at e
    exact e
theorem ref_text_ev (l : List Cyc) (hl : l.length ≤ 300) (h1 : l.all cycle_Text_right = true) (h2 : l.all cycle_Text_byte = true) : Ev (fun k => incunableref10_Text.f k l) (accOf (cycle_Text_text l)) := by
  refine Ev.congr (fun k => by rw [incunableref10_Text.f]) ?_
  exact ref_text_l0 l hl h1 h2 l.length 0 (by omega)
theorem api_same_l0 (a b : List Cyc) (hl : a.length = b.length) (hb : a.length < 1000000000) (d : Nat) : ∀ i : Nat, i + d = a.length →
    Ev (fun k => api_Cycle.l0 k a b (a.length : Int) (i : Int)) (decide (a.drop i = b.drop i)) := by
  induction d with
  | zero =>
    intro i hi
    refine Ev.step (fun k => api_Cycle.l0.eq_2 ..) ?_
    refine Ev.neg (by omega) (Ev.ret ?_)
    rw [List.drop_of_length_le (by omega), List.drop_of_length_le (by omega)]
    rfl
  | succ d ih =>
    intro i hi
    refine Ev.step (fun k => api_Cycle.l0.eq_2 ..) ?_
    refine Ev.pos (by omega) (Ev.pos (by omega) (Ev.pos (by omega) (Ev.pos (by omega) ?_)))
    rw [drop_rdT (l := a) (i := i) (by omega), drop_rdT (l := b) (i := i) (by omega), w64_succ (by omega)]
    have e := ih (i + 1) (by omega)
    generalize rd_T42 a (i : Int) = x
    generalize rd_T42 b (i : Int) = y
    by_cases h : x = y
    · subst h
      refine Ev.neg (by simp) (Ev.eq e ?_)
      simp
    · refine Ev.pos ?_ (Ev.ret ?_)
      · rw [Bool.or_eq_true, Bool.not_eq_true', Bool.not_eq_true', beq_eq_false_iff_ne, beq_eq_false_iff_ne]
        by_cases h1 : x.f0 = y.f0
        · exact Or.inr fun h2 => h (cyc_eq.2 ⟨h1, h2⟩)
        · exact Or.inl h1
      · exact (decide_eq_false fun hh => h (List.cons.inj hh).1).symm
theorem api_same_ev (a b : List Cyc) (hb : a.length < 1000000000) : Ev (fun k => cycle_Same.f k a b) (decide (a = b)) := by
  refine Ev.congr (fun k => by rw [cycle_Same.f]) ?_
  refine Ev.bind (a := decide (a = b)) ?_ (Ev.ret rfl)
  refine Ev.congr (fun k => by rw [api_Cycle.f]) ?_
  refine Ev.ite (fun h => ?_) (fun h => Ev.ret ?_)
  · exact api_same_l0 a b (by omega) hb a.length 0 (by omega)
  · have : a ≠ b := fun e => h (by rw [e])
    simp [this]
theorem of_l0 (a : Int) (l : List Int) (hl : l.length ≤ 300) (d : Nat) : ∀ (i : Nat) (acc : List Cyc), i + d = l.length → acc.length ≤ i →
    Ev (fun k => cycle_Of.l0 k a acc l (l.length : Int) (i : Int)) (acc ++ (l.drop i).map fun x => (⟨a, x⟩ : Cyc)) := by
  induction d with
  | zero =>
    intro i acc hi _
    refine Ev.step (fun k => cycle_Of.l0.eq_2 ..) ?_
    refine Ev.neg (by omega) (Ev.ret ?_)
    rw [List.drop_of_length_le (by omega), List.map_nil, List.append_nil]
  | succ d ih =>
    intro i acc hi ha
    refine Ev.step (fun k => cycle_Of.l0.eq_2 ..) ?_
    refine Ev.pos (by omega) (Ev.pos (by omega) (Ev.pos (by omega) (Ev.pos (by omega) ?_)))
    rw [w64_succ (by omega)]
    refine Ev.eq (ih (i + 1) _ (by omega) (by rw [List.length_append]; show acc.length + 1 ≤ i + 1; omega)) ?_
    rw [drop_rd (l := l) (i := i) (by omega), List.map_cons, List.append_assoc]
    rfl
theorem of_ev (a : Int) (l : List Int) (hl : l.length ≤ 300) : Ev (fun k => cycle_Of.f k a l) (l.map fun x => (⟨a, x⟩ : Cyc)) := by
  refine Ev.congr (fun k => by rw [cycle_Of.f]) ?_
  exact of_l0 a l hl l.length 0 [] (by omega) (Nat.le_refl _)
end Go.Proofs.Ytpabehkdedhncaa.PureCycleTexts

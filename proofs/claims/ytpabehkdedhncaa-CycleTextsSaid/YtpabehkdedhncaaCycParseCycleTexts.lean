/-
  What cycle.Parse, the document's comparison of cycles and the waking call come to.
-/
import Derived.Test.YtpabehkdedhncaaCycleCycleTexts
import Derived.Test.YtpabehkdedhncaaBits
namespace Go.Proofs.Ytpabehkdedhncaa.PureCycleTexts
open Go.RowKit Go.Proofs.Ytpabehkdedhncaa.QCycleTexts Go.Proofs.YtpabehkdedhncaaW.PrintWords Go.Proofs.YtpabehkdedhncaaW.PrintLast Go.Proofs.YtpabehkdedhncaaW.PrintMore Go.Proofs.Ytpabehkdedhncaa.EvKit Go.Proofs.Ytpabehkdedhncaa.BitsKit
theorem rdT_nat {l : List Cyc} {i : Nat} (h : i < l.length) : rd_T42 l (i : Int) = l[i] := by
  simp [rd_T42, h]
theorem drop_rdT {l : List Cyc} {i : Nat} (h : i < l.length) : l.drop i = rd_T42 l (i : Int) :: l.drop (i + 1) := by
  rw [rdT_nat h]
  exact List.drop_eq_getElem_cons h
theorem cyc_eq {x y : Cyc} : x = y ↔ x.f0 = y.f0 ∧ x.f1 = y.f1 := ⟨fun e => e ▸ ⟨rfl, rfl⟩, fun h => by
  obtain ⟨u0, u1⟩ := x
  obtain ⟨v0, v1⟩ := y
  obtain ⟨h1, h2⟩ := h
  dsimp only at h1 h2
  rw [h1, h2]⟩
instance : DecidableEq Cyc := fun _ _ => decidable_of_iff _ cyc_eq.symm
theorem same_l0 (a b : List Cyc) (hl : a.length = b.length) (hb : a.length < 1000000000) (d : Nat) : ∀ i : Nat, i + d = a.length →
    Ev (fun k => incunableref10_Same.l0 k a b (i : Int)) (decide (a.drop i = b.drop i)) := by
  induction d with
  | zero =>
    intro i hi
    refine Ev.step (fun k => incunableref10_Same.l0.eq_2 ..) ?_
    refine Ev.neg (by omega) (Ev.ret ?_)
    rw [List.drop_of_length_le (by omega), List.drop_of_length_le (by omega)]
    rfl
  | succ d ih =>
    intro i hi
    refine Ev.step (fun k => incunableref10_Same.l0.eq_2 ..) ?_
    refine Ev.pos (by omega) (Ev.pos (by omega) (Ev.pos (by omega) ?_))
    rw [drop_rdT (l := a) (i := i) (by omega), drop_rdT (l := b) (i := i) (by omega)]
    refine Ev.ite (fun h1 => Ev.ite (fun h2 => ?_) (fun h => Ev.ret ?_)) (fun h => Ev.ret ?_)
    · have h : rd_T42 a (i : Int) = rd_T42 b (i : Int) := cyc_eq.2 ⟨h1, h2⟩
      rw [w64_succ (by omega), h]
      refine Ev.eq (ih (i + 1) (by omega)) ?_
      simp
    · refine (decide_eq_false fun e => h ?_).symm
      rw [(List.cons.inj e).1]
    · refine (decide_eq_false fun e => h ?_).symm
      rw [(List.cons.inj e).1]
theorem same_ev (a b : List Cyc) (hb : a.length < 1000000000) : Ev (fun k => incunableref10_Same.f k a b) (decide (a = b)) := by
  refine Ev.congr (fun k => by rw [incunableref10_Same.f]) ?_
  refine Ev.ite (fun h => ?_) (fun h => Ev.ret ?_)
  · exact same_l0 a b (by omega) hb a.length 0 (by omega)
  · have : a ≠ b := fun e => h (by rw [e])
    simp [this]
theorem text_f {l : List Cyc} (h : l.all cycle_Text_byte = true) (hl : l.length ≤ 16777216) : cycle_Text.f l = some (if l.all cycle_Text_right = true then (⟨(cycle_Text_text l).toArray⟩, 0) else (⟨#[]⟩, 2)) := by
  unfold cycle_Text.f
  rw [if_pos h, if_neg (Nat.not_lt.2 hl)]
theorem awake : incunablelaw10_awake.f = some true := by
  unfold incunablelaw10_awake.f
  rw [text_f (by decide) (by decide), if_pos (by decide)]
  show (if (0 : Int) = 0 then some (ByteArray.toList ⟨(cycle_Text_text [⟨1, 112⟩, ⟨4, 224⟩]).toArray⟩ == [99, 55, 48, 32, 114, 101, 48]) else some false) = some true
  rw [if_pos rfl, ByteArray.toList_eq]
  decide +kernel
theorem right_l0 (a : List Cyc) (hb : a.length < 1000000000) (d : Nat) : ∀ i : Nat, i + d = a.length →
    Ev (fun k => incunablelaw10_right.l0 k a (a.length : Int) (i : Int)) ((a.drop i).all cycle_Text_right) := by
  induction d with
  | zero =>
    intro i hi
    refine Ev.step (fun k => incunablelaw10_right.l0.eq_2 ..) ?_
    refine Ev.neg (by omega) (Ev.ret ?_)
    rw [List.drop_of_length_le (by omega)]
    rfl
  | succ d ih =>
    intro i hi
    refine Ev.step (fun k => incunablelaw10_right.l0.eq_2 ..) ?_
    refine Ev.pos (by omega) (Ev.pos (by omega) (Ev.pos (by omega) ?_))
    rw [drop_rdT (l := a) (i := i) (by omega), List.all_cons]
    generalize rd_T42 a (i : Int) = x
    unfold cycle_Text_right
    refine Ev.ite (fun h => Ev.ret ?_) (fun h => Ev.ite (fun h2 => Ev.ret ?_) (fun h2 => ?_))
    · rw [decide_eq_false (by omega)]; rfl
    · rw [decide_eq_false (p := x.f0 ≤ 4) (by omega), Bool.and_false]; rfl
    · rw [decide_eq_true (by omega), decide_eq_true (by omega), w64_succ (by omega)]
      exact ih (i + 1) (by omega)
theorem right_ev (a : List Cyc) (hb : a.length < 1000000000) : Ev (fun k => incunablelaw10_right.f k a) (a.all cycle_Text_right) := by
  refine Ev.congr (fun k => by rw [incunablelaw10_right.f]) ?_
  exact right_l0 a hb a.length 0 (by omega)
theorem parseT_text {l : List Cyc} (h1 : l.all cycle_Text_right = true) (h2 : l.all cycle_Text_byte = true) : parseT (cycle_Text_text l) = .inl l := by
  unfold parseT
  by_cases h : l = []
  · subst h
    rfl
  · have e := parse_text l 0 h h1 h2
    by_cases hs : cycle_Text_text l = []
    · rw [hs, parseL] at e
      cases e
    · rw [if_neg hs, e]
theorem parseT_inl {s : List UInt8} {m : List Cyc} (h : parseT s = .inl m) : cycle_Text_text m = s ∧ m.all cycle_Text_right = true ∧ m.all cycle_Text_byte = true ∧ 4 * m.length ≤ s.length + 1 := by
  unfold parseT at h
  split at h
  · rename_i hs
    have e := Sum.inl.inj h
    subst e
    exact ⟨hs.symm, rfl, rfl, by simp⟩
  · obtain ⟨t1, t2, t3, _, t5⟩ := text_parse s 0 m h
    exact ⟨t1, t2, t3, Nat.le_of_eq t5⟩
theorem parseT_inr {s : List UInt8} {e : Nat} (h : parseT s = .inr e) : 1 ≤ e ∧ e ≤ s.length + 1 := by
  unfold parseT at h
  split at h
  · cases h
  · have := err_range s 0 e h
    omega
theorem byte_all {l : List Cyc} (h : ∀ x ∈ l, (Lit.int .u8 x.f1).wf = true) : l.all cycle_Text_byte = true := by
  rw [List.all_eq_true]
  intro x hx
  have := wf_u8 (h x hx)
  unfold cycle_Text_byte
  rw [Bool.and_eq_true, decide_eq_true_eq, decide_eq_true_eq]
  exact this
theorem text_size (l : List Cyc) : (⟨(cycle_Text_text l).toArray⟩ : ByteArray).size ≤ 4 * l.length := by
  show (cycle_Text_text l).toArray.size ≤ _
  rw [List.size_toArray]
  exact cycle_Text_text_length l
end Go.Proofs.Ytpabehkdedhncaa.PureCycleTexts

/-
  CycleTexts: cycles as texts are the document's, cycles of bytes are one each, and comparing is the document's. Conditions: the law's own.
-/
import Derived.Test.YtpabehkdedhncaaStmCycleTexts
import Derived.Test.YtpabehkdedhncaaCycTextCycleTexts
namespace Go.Proofs.Ytpabehkdedhncaa.Pure
open Go.RowKit Go.Proofs.Ytpabehkdedhncaa.QCycleTexts Go.Proofs.YtpabehkdedhncaaW.PrintWords Go.Proofs.Ytpabehkdedhncaa.EvKit Go.Proofs.Ytpabehkdedhncaa.PureCycleTexts
theorem cycleTexts_l1 (l : List Cyc) (a : Int) (b : List Int) (hl : l.length ≤ 300) (hb : b.length ≤ 300) (d : Nat) : ∀ i : Nat, i + d = b.length →
    Ev (fun k => incunablelaw10_CycleTexts.l1 k l a b (b.map fun x => (⟨a, x⟩ : Cyc)) (b.map fun x => (⟨a, x⟩ : Cyc)) (((b.map fun x => (⟨a, x⟩ : Cyc)).length : Nat) : Int) (i : Int)) true := by
  have hm : (b.map fun x => (⟨a, x⟩ : Cyc)).length = b.length := List.length_map _
  induction d with
  | zero =>
    intro i hi
    refine Ev.step (fun k => incunablelaw10_CycleTexts.l1.eq_2 ..) ?_
    refine Ev.neg (by omega) (Ev.pos (by omega) ?_)
    refine Ev.bind (api_same_ev l _ (by omega)) (Ev.bind (same_ev l _ (by omega)) (Ev.ret ?_))
    exact beq_self_eq_true _
  | succ d ih =>
    intro i hi
    refine Ev.step (fun k => incunablelaw10_CycleTexts.l1.eq_2 ..) ?_
    have e : rd_T42 (b.map fun x => (⟨a, x⟩ : Cyc)) (i : Int) = ⟨a, rd b (i : Int)⟩ := by
      rw [rdT_nat (by omega), List.getElem_map, rd_nat (by omega)]
    refine Ev.pos (by omega) (Ev.pos (by omega) (Ev.pos (by omega) ?_))
    rw [e]
    refine Ev.pos rfl (Ev.pos (by omega) (Ev.pos rfl ?_))
    rw [w64_succ (by omega)]
    exact ih (i + 1) (by omega)
theorem cycleTexts_l0 (l : List Cyc) (a : Int) (b : List Int) (hl : l.length ≤ 300) (hb : b.length ≤ 300) (d : Nat) : ∀ i : Nat, i + d = l.length →
    Ev (fun k => incunablelaw10_CycleTexts.l0 k l a b l (l.length : Int) (i : Int)) true := by
  induction d with
  | zero =>
    intro i hi
    refine Ev.step (fun k => incunablelaw10_CycleTexts.l0.eq_2 ..) ?_
    refine Ev.neg (by omega) (Ev.bind (of_ev a b hb) ?_)
    exact cycleTexts_l1 l a b hl hb b.length 0 (by omega)
  | succ d ih =>
    intro i hi
    refine Ev.step (fun k => incunablelaw10_CycleTexts.l0.eq_2 ..) ?_
    refine Ev.pos (by omega) (Ev.pos (by omega) (Ev.pos (by omega) ?_))
    rw [w64_succ (by omega)]
    have e := ih (i + 1) (by omega)
    generalize rd_T42 l (i : Int) = x
    by_cases h : x.f0 ≥ 1
    · refine Ev.bindv (a := decide (x.f0 ≤ 4)) (by unfold cycle_Right.f; rw [if_pos h]) (Ev.pos h (Ev.neg ?_ e))
      rw [bne_self_eq_false]
      decide
    · refine Ev.bindv (a := false) (by unfold cycle_Right.f; rw [if_neg h]) (Ev.neg h (Ev.neg (by decide) e))
theorem CycleTexts : StmCycleTexts := by
  intro l a b _ hw _ _ _
  refine Ev.rounds (Ev.congr (fun k => by rw [incunablelaw10_CycleTexts.f]) ?_)
  refine Ev.bindv awake (Ev.pos rfl ?_)
  have hj : Ev (fun k => incunablelaw10_CycleTexts.j0 k l a b true) true := Ev.step (fun k => incunablelaw10_CycleTexts.j0.eq_2 ..) (Ev.pos rfl (Ev.ret rfl))
  refine Ev.ite (fun _ => hj) (fun h1 => ?_)
  by_cases h2 : (b.length : Int) > 300
  · rw [decide_eq_true h2]
    exact hj
  rw [decide_eq_false h2]
  have hl : l.length ≤ 300 := by omega
  have hb : b.length ≤ 300 := by omega
  clear hj
  have hn : Ev (fun k => incunablelaw10_CycleTexts.j1 k l a b) true := Ev.step (fun k => incunablelaw10_CycleTexts.j1.eq_2 ..) (cycleTexts_l0 l a b hl hb l.length 0 (by omega))
  refine Ev.step (fun k => incunablelaw10_CycleTexts.j0.eq_2 ..) ?_
  have hby := byte_all (fun x hx => (hw.2 x hx).2)
  refine Ev.neg (by decide) (Ev.bindv (text_f hby (by omega)) (Ev.bind (right_ev l (by omega)) ?_))
  by_cases hr : l.all cycle_Text_right = true
  · rw [if_pos hr]
    refine Ev.pos hr (Ev.pos rfl (Ev.bind (ref_text_ev l hl hr hby) (Ev.pos rfl hn)))
  · rw [if_neg hr]
    exact Ev.neg hr (Ev.pos rfl (Ev.pos (by rw [ByteArray.toList_eq]) hn))
end Go.Proofs.Ytpabehkdedhncaa.Pure

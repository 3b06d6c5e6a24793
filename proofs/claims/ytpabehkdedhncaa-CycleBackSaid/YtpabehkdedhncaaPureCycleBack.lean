/-
  CycleBack: cycles made a text are parsed back, a parsed text is the text of what it parsed to. Conditions: the law's own.
-/
import Derived.Test.YtpabehkdedhncaaStmCycleBack
import Derived.Test.YtpabehkdedhncaaCycParseCycleBack
namespace Go.Proofs.Ytpabehkdedhncaa.Pure
open Go.RowKit Go.Proofs.Ytpabehkdedhncaa.QCycleBack Go.Proofs.YtpabehkdedhncaaW.PrintWords Go.Proofs.Ytpabehkdedhncaa.EvKit Go.Proofs.Ytpabehkdedhncaa.PureCycleBack
theorem cycleBack_j1 (s : ByteArray) (hs : s.size ≤ 1000) : Ev (fun k => incunablelaw10_CycleBack.j1 k s) true := by
  refine Ev.step (fun k => incunablelaw10_CycleBack.j1.eq_2 ..) ?_
  refine Ev.bind (parse_ev (by omega)) ?_
  have hl : s.data.toList.length = s.size := by simp
  cases hp : parseT s.data.toList with
  | inl m =>
    obtain ⟨h1, h2, h3, h4⟩ := parseT_inl hp
    refine Ev.pos rfl (Ev.bindv (text_f (l := m) h3 (by omega)) ?_)
    rw [if_pos h2]
    refine Ev.pos rfl (Ev.ret ?_)
    rw [beq_iff_eq, ByteArray.toList_eq, ByteArray.toList_eq]
    exact h1
  | inr e =>
    have h := parseT_inr hp
    refine Ev.neg (by show ¬ (11 : Int) = 0; decide) (Ev.pos (by show (e : Int) ≥ 1; omega) (Ev.ret ?_))
    rw [w64_succ (by omega)]
    exact decide_eq_true (by show (e : Int) ≤ _; omega)
theorem CycleBack : StmCycleBack := by
  intro l a _ hw _
  refine Ev.rounds (Ev.congr (fun k => by rw [incunablelaw10_CycleBack.f]) ?_)
  refine Ev.bindv awake (Ev.pos rfl ?_)
  have hj : Ev (fun k => incunablelaw10_CycleBack.j0 k l a true) true := Ev.step (fun k => incunablelaw10_CycleBack.j0.eq_2 ..) (Ev.pos rfl (Ev.ret rfl))
  refine Ev.ite (fun _ => hj) (fun h1 => ?_)
  by_cases h2 : (a.size : Int) > 1000
  · rw [decide_eq_true h2]
    exact hj
  rw [decide_eq_false h2]
  refine Ev.step (fun k => incunablelaw10_CycleBack.j0.eq_2 ..) ?_
  have hb := byte_all (fun x hx => (hw.2 x hx).2)
  refine Ev.neg (by decide) (Ev.bindv (text_f hb (by omega)) ?_)
  by_cases hr : l.all cycle_Text_right = true
  · rw [if_pos hr]
    have hsz := text_size l
    refine Ev.pos rfl (Ev.bind (parse_ev (S := ⟨(cycle_Text_text l).toArray⟩) (by omega)) ?_)
    rw [parseT_text hr hb]
    refine Ev.pos rfl (Ev.pos rfl (Ev.bind (same_ev l _ (by omega)) (Ev.pos ?_ (cycleBack_j1 a (by omega)))))
    exact decide_eq_true rfl
  · rw [if_neg hr]
    exact Ev.neg (by decide) (cycleBack_j1 a (by omega))
end Go.Proofs.Ytpabehkdedhncaa.Pure

/-
  CycleParses: the program's parser and the document's answer alike. Conditions: the law's own.
-/
import Derived.Test.YtpabehkdedhncaaStmCycleParses
import Derived.Test.YtpabehkdedhncaaCycRefCycleParses
namespace Go.Proofs.Ytpabehkdedhncaa.Pure
open Go.RowKit Go.Proofs.Ytpabehkdedhncaa.QCycleParses Go.Proofs.YtpabehkdedhncaaW.PrintWords Go.Proofs.Ytpabehkdedhncaa.EvKit Go.Proofs.Ytpabehkdedhncaa.PureCycleParses
theorem CycleParses : StmCycleParses := by
  intro s _
  refine Ev.rounds (Ev.congr (fun k => by rw [incunablelaw10_CycleParses.f]) ?_)
  refine Ev.bindv awake (Ev.pos rfl (Ev.ite (fun _ => Ev.ret rfl) (fun h1 => ?_)))
  refine Ev.bind (parse_ev (by omega)) (Ev.bind (ref_parse_ev (by omega)) ?_)
  have hl : s.data.toList.length = s.size := by simp
  cases hp : parseT s.data.toList with
  | inl m =>
    obtain ⟨h1, h2, h3, h4⟩ := parseT_inl hp
    refine Ev.neg (by show ¬ (0 : Int) > 0; decide) (Ev.pos rfl (Ev.pos rfl ?_))
    refine Ev.bind (same_ev ([] ++ m) ([] ++ m) (by rw [List.nil_append]; omega)) (Ev.ret ?_)
    exact decide_eq_true rfl
  | inr e =>
    have h := parseT_inr hp
    exact Ev.pos (by show (e : Int) > 0; omega) (Ev.pos rfl (Ev.pos rfl (Ev.ret rfl)))
end Go.Proofs.Ytpabehkdedhncaa.Pure

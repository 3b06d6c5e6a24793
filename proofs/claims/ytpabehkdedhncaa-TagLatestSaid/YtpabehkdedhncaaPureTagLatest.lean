/-
  TagLatest: of any tags none is later than the one that is told, and none ahead of it is as late. Conditions: the law's own.
-/
import Derived.Test.YtpabehkdedhncaaStmTagLatest
import Derived.Test.YtpabehkdedhncaaTagLatestTagLatest
namespace Go.Proofs.Ytpabehkdedhncaa.Pure
open Go.RowKit Go.Proofs.Ytpabehkdedhncaa.PTagLatest Go.Proofs.YtpabehkdedhncaaW.PrintWords Go.Proofs.YtpabehkdedhncaaW.PrintLast Go.Proofs.Ytpabehkdedhncaa.EvKit Go.Proofs.Ytpabehkdedhncaa.PureTagLatest
theorem told_l0 (l : List S31) (hl : l.length < 1000000000) (r : Nat) (hr : r < l.length) (h : IsLatest l l.length r) (d : Nat) : ∀ i : Nat, i + d = l.length → Ev (fun k => incunablelaw07_TagLatest.l0 k l (r : Int) l (l.length : Int) (i : Int)) true := by
  induction d with
  | zero =>
    intro i hi
    refine Ev.step (fun k => incunablelaw07_TagLatest.l0.eq_2 ..) ?_
    exact Ev.neg (by omega) (Ev.ret rfl)
  | succ d ih =>
    intro i hi
    have hL := h i (by omega)
    have next := ih (i + 1) (by omega)
    refine Ev.step (fun k => incunablelaw07_TagLatest.l0.eq_2 ..) ?_
    refine Ev.pos (by omega) ?_
    refine Ev.pos (by omega) ?_
    refine Ev.pos (by omega) ?_
    refine Ev.pos (by omega) ?_
    refine Ev.pos (by omega) ?_
    rw [sq_rd, sq_rd, w64_succ (by omega)]
    refine Ev.neg (by omega) ?_
    refine Ev.ite (fun hlt => ?_) (fun _ => next)
    have := hL.2 (by omega)
    exact Ev.neg (by omega) next
theorem TagLatest : StmTagLatest := by
  intro l _ _
  refine Ev.rounds (Ev.congr (fun k => by rw [incunablelaw07_TagLatest.f]) ?_)
  refine Ev.bind tag_awake_ev (Ev.pos rfl ?_)
  refine Ev.ite (fun _ => Ev.ret rfl) (fun h200 => ?_)
  obtain ⟨r, hr, hL, hlt⟩ := latest_ev l (by omega)
  refine Ev.bind hr ?_
  refine Ev.ite (fun h0 => ?_) (fun h0 => ?_)
  · have hn : ¬ (l.length : Int) > 0 := by omega
    have hr0 : r = 0 := by omega
    subst hr0
    exact Ev.neg (by rw [decide_eq_false hn]; decide) (Ev.ret rfl)
  · have hn : (l.length : Int) > 0 := by omega
    have hrl : r < l.length := by omega
    refine Ev.pos (decide_eq_true hn) ?_
    refine Ev.neg (by omega) ?_
    have hd : decide ((r : Int) ≥ (l.length : Int)) = false := decide_eq_false (by omega)
    simp only [hd]
    refine Ev.step (fun k => incunablelaw07_TagLatest.j0.eq_2 ..) ?_
    refine Ev.neg (by decide) ?_
    exact told_l0 l (by omega) r hrl hL l.length 0 (by omega)
end Go.Proofs.Ytpabehkdedhncaa.Pure

/-
  TagParts: the latest of two lists, one behind the other, is the later one of both latest. Conditions: the law's own.
-/
import Derived.Test.YtpabehkdedhncaaStmTagParts
import Derived.Test.YtpabehkdedhncaaTagLatestTagParts
namespace Go.Proofs.Ytpabehkdedhncaa.Pure
open Go.RowKit Go.Proofs.Ytpabehkdedhncaa.PTagParts Go.Proofs.YtpabehkdedhncaaW.PrintWords Go.Proofs.YtpabehkdedhncaaW.PrintLast Go.Proofs.Ytpabehkdedhncaa.EvKit Go.Proofs.Ytpabehkdedhncaa.PureTagParts
theorem sq_left {a b : List S31} {j : Nat} (h : j < a.length) : sq (a ++ b) j = sq a j := by
  unfold sq
  rw [List.getD_eq_getElem?_getD, List.getD_eq_getElem?_getD, List.getElem?_append_left h]
theorem sq_right {a b : List S31} {j : Nat} (h : a.length ≤ j) : sq (a ++ b) j = sq b (j - a.length) := by
  unfold sq
  rw [List.getD_eq_getElem?_getD, List.getD_eq_getElem?_getD, List.getElem?_append_right h]
theorem latest_parts {a b : List S31} {i k : Nat} (hi : i < a.length) (h1 : IsLatest a a.length i) (h2 : IsLatest b b.length k) :
    IsLatest (a ++ b) (a ++ b).length (if sq b k > sq a i then a.length + k else i) := by
  intro j hj
  rw [List.length_append] at hj
  by_cases hc : sq b k > sq a i
  · rw [if_pos hc, sq_right (j := a.length + k) (by omega), show a.length + k - a.length = k by omega]
    by_cases hja : j < a.length
    · rw [sq_left hja]
      have := (h1 j hja).1
      exact ⟨by omega, fun _ => by omega⟩
    · rw [sq_right (by omega)]
      have := h2 (j - a.length) (by omega)
      exact ⟨this.1, fun h => this.2 (by omega)⟩
  · rw [if_neg hc, sq_left (j := i) hi]
    by_cases hja : j < a.length
    · rw [sq_left hja]
      exact h1 j hja
    · rw [sq_right (by omega)]
      have := (h2 (j - a.length) (by omega)).1
      exact ⟨by omega, fun h => absurd h (by omega)⟩
theorem TagParts : StmTagParts := by
  intro a b _ _ _ _
  refine Ev.rounds (Ev.congr (fun k => by rw [incunablelaw07_TagParts.f]) ?_)
  refine Ev.bind tag_awake_ev (Ev.pos rfl ?_)
  have hj : Ev (fun k => incunablelaw07_TagParts.j0 k a b true) true := by
    refine Ev.step (fun k => incunablelaw07_TagParts.j0.eq_2 ..) ?_
    exact Ev.pos rfl (Ev.ret rfl)
  refine Ev.ite (fun _ => hj) (fun ha => Ev.ite (fun _ => hj) (fun hb => Ev.ite (fun _ => hj) (fun ha0 => ?_)))
  by_cases hb0 : (b.length : Int) = 0
  · have : ((b.length : Int) == 0) = true := beq_iff_eq.2 hb0
    rw [this]
    exact hj
  have hbe : ((b.length : Int) == 0) = false := beq_eq_false_iff_ne.2 hb0
  rw [hbe]
  refine Ev.step (fun k => incunablelaw07_TagParts.j0.eq_2 ..) ?_
  refine Ev.neg (by decide) ?_
  obtain ⟨i, hi, hiL, hil⟩ := latest_ev a (by omega)
  obtain ⟨k, hk, hkL, hkl⟩ := latest_ev b (by omega)
  obtain ⟨r, hr, hrL, hrl⟩ := latest_ev (a ++ b) (by rw [List.length_append]; omega)
  rw [List.length_append] at hrl
  have e := latest_unique (by rw [List.length_append]; omega) (by rw [List.length_append]; split <;> omega) hrL (latest_parts (by omega) hiL hkL)
  refine Ev.bind hi ?_
  refine Ev.bind hk ?_
  simp only [Option.bind_some, List.nil_append, List.length_nil]
  refine Ev.pos (by omega) ?_
  refine Ev.pos (by omega) ?_
  refine Ev.bind hr ?_
  refine Ev.pos (by rw [List.length_append]; exact decide_eq_true (by omega)) ?_
  refine Ev.neg (by omega) ?_
  refine Ev.neg (by omega) ?_
  refine Ev.neg (by omega) ?_
  have hd : decide ((k : Int) ≥ (b.length : Int)) = false := decide_eq_false (by omega)
  simp only [hd]
  refine Ev.step (fun k => incunablelaw07_TagParts.j1.eq_2 ..) ?_
  refine Ev.neg (by decide) ?_
  refine Ev.pos (by omega) ?_
  refine Ev.pos (by omega) ?_
  refine Ev.pos (by omega) ?_
  refine Ev.pos (by omega) ?_
  rw [sq_rd, sq_rd]
  refine Ev.ite (fun h => Ev.ret ?_) (fun h => Ev.ret ?_)
  · rw [if_pos h] at e
    rw [w64_id (by omega) (by omega), e]
    simp
  · rw [if_neg h] at e
    rw [e]
    simp
end Go.Proofs.Ytpabehkdedhncaa.Pure

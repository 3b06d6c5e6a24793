/-
  What pack.Size and pack.Fits come to.
-/
import Derived.Test.YtpabehkdedhncaaPackMath
import Derived.Test.YtpabehkdedhncaaQBadBackx
namespace Go.Proofs.Ytpabehkdedhncaa.PureBadBack
open Go.RowKit Go.Proofs.Ytpabehkdedhncaa.QBadBack Go.Proofs.YtpabehkdedhncaaW.PrintWords Go.Proofs.YtpabehkdedhncaaW.PrintLast Go.Proofs.YtpabehkdedhncaaW.PrintMore Go.Proofs.Ytpabehkdedhncaa.EvKit Go.Proofs.Ytpabehkdedhncaa.PackMath

theorem size_l0 (l : List Int) (hl : l.length ≤ 64) (d : Nat) : ∀ (i : Nat) (n : Int), i + d = l.length → 0 ≤ n → n ≤ 8 * i →
    Ev (fun k => pack_Size.l0 k n l (l.length : Int) (i : Int)) (if (l.drop i).all (fun s => decide (1 ≤ s) && decide (s ≤ 8)) then (n + (l.drop i).sum, true) else (0, false)) := by
  induction d with
  | zero =>
    intro i n hi h0 h1
    refine Ev.step (fun k => pack_Size.l0.eq_2 ..) ?_
    refine Ev.neg (by omega) (Ev.ret ?_)
    rw [List.drop_of_length_le (by omega)]
    simp
  | succ d ih =>
    intro i n hi h0 h1
    refine Ev.step (fun k => pack_Size.l0.eq_2 ..) ?_
    refine Ev.pos (by omega) (Ev.pos (by omega) (Ev.pos (by omega) ?_))
    rw [drop_rd (l := l) (i := i) (by omega)]
    generalize rd l (i : Int) = s
    refine Ev.ite (fun h => Ev.ret ?_) (fun h => Ev.ite (fun h' => Ev.ret ?_) (fun h' => ?_))
    · have : ¬ 1 ≤ s := by omega
      simp [this]
    · have : ¬ s ≤ 8 := by omega
      simp [this]
    · rw [w64_succ (by omega), w64_id (by omega) (by omega)]
      refine Ev.eq (ih (i + 1) (n + s) (by omega) (by omega) (by omega)) ?_
      have e1 : 1 ≤ s := by omega
      have e2 : s ≤ 8 := by omega
      simp only [List.all_cons, List.sum_cons, e1, e2, decide_true, Bool.true_and, Int.add_assoc]
theorem size_ev (l : List Int) : Ev (fun k => pack_Size.f k l) (pkSize l) := by
  refine Ev.congr (fun k => by rw [pack_Size.f]) ?_
  refine Ev.ite (fun h => Ev.ret ?_) (fun h => ?_)
  · have : ¬ l.length ≤ 64 := by omega
    simp [pkSize, okSizes, this]
  · have h' : l.length ≤ 64 := by omega
    refine Ev.eq (size_l0 l h' l.length 0 0 (by omega) (by omega) (by omega)) ?_
    simp [pkSize, okSizes, h']
end Go.Proofs.Ytpabehkdedhncaa.PureBadBack

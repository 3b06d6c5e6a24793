/-
  BadJoins: joined lists do not hang on their order. Conditions: the law's own.
-/
import Derived.Test.YtpabehkdedhncaaStmBadJoins
import Derived.Test.YtpabehkdedhncaaJoinBadJoins
namespace Go.Proofs.Ytpabehkdedhncaa.Pure
open Go.RowKit Go.Proofs.Ytpabehkdedhncaa.QBadJoins Go.Proofs.YtpabehkdedhncaaW.PrintWords Go.Proofs.Ytpabehkdedhncaa.EvKit Go.Proofs.Ytpabehkdedhncaa.PureBadJoins
theorem BadJoins : StmBadJoins := by
  intro a b c _ _ _ _ _ _
  refine Ev.rounds (Ev.congr (fun k => by rw [incunablelaw25_BadJoins.f]) ?_)
  refine Ev.bindv room_awake (Ev.pos rfl ?_)
  have hj : Ev (fun k => incunablelaw25_BadJoins.j0 k a b c true) true := Ev.step (fun k => incunablelaw25_BadJoins.j0.eq_2 ..) (Ev.pos rfl (Ev.ret rfl))
  refine Ev.ite (fun _ => hj) (fun _ => Ev.ite (fun _ => hj) (fun _ => ?_))
  by_cases h : (c.length : Int) > 300
  · rw [decide_eq_true h]
    exact hj
  rw [decide_eq_false h]
  refine Ev.step (fun k => incunablelaw25_BadJoins.j0.eq_2 ..) ?_
  refine Ev.neg (by decide) ?_
  have hsm : ∀ x y : List Int, (bad_Join_upto x y 256).length < 1000000000 := fun x y => Nat.lt_of_le_of_lt (join_le x y) (by decide)
  have e1 : bad_Join_upto b a 256 = bad_Join_upto a b 256 := join_same fun n _ _ => Or.comm
  generalize hX : bad_Join_upto a b 256 = X at e1
  have hXl : X.length < 1000000000 := by rw [← hX]; exact hsm a b
  have e2 : bad_Join_upto X c 256 = bad_Join_upto a (bad_Join_upto b c 256) 256 := join_same fun n h0 h1 => by
    rw [← hX, mem_join, mem_join]
    constructor
    · rintro (⟨_, _, h | h⟩ | h)
      · exact Or.inl h
      · exact Or.inr ⟨h0, h1, Or.inl h⟩
      · exact Or.inr ⟨h0, h1, Or.inr h⟩
    · rintro (h | ⟨_, _, h | h⟩)
      · exact Or.inl ⟨h0, h1, Or.inl h⟩
      · exact Or.inl ⟨h0, h1, Or.inr h⟩
      · exact Or.inr h
  have e3 : bad_Join_upto X a 256 = X := join_self hX.symm fun n h0 h1 hn => by
    rw [← hX, mem_join]
    exact ⟨h0, h1, Or.inl hn⟩
  have e4 : bad_Join_upto X [] 256 = X := join_self hX.symm fun n _ _ hn => absurd hn (by simp)
  have f : ∀ x y : List Int, bad_Join.f x y = some (bad_Join_upto x y 256) := fun _ _ => rfl
  refine Ev.bindv ((f a b).trans (by rw [hX])) (Ev.bindv ((f b a).trans (by rw [e1])) ?_)
  refine Ev.bind (ints_self_ev X hXl) (Ev.pos rfl ?_)
  refine Ev.bindv ((f X c).trans (by rw [e2])) (Ev.bindv (f b c) (Ev.bindv (f a _) ?_))
  refine Ev.bind (ints_self_ev _ (hsm _ _)) (Ev.pos rfl ?_)
  refine Ev.bindv ((f X a).trans (by rw [e3])) (Ev.bind (ints_self_ev X hXl) (Ev.pos rfl ?_))
  refine Ev.bindv ((f X []).trans (by rw [e4])) (Ev.bind (ints_self_ev X hXl) (Ev.ret rfl))
end Go.Proofs.Ytpabehkdedhncaa.Pure

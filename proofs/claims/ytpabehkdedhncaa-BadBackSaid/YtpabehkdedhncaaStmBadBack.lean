/-
  The pure statement of the law BadBack: what is to be proved of the printed functions.
-/
import Derived.Test.YtpabehkdedhncaaQBadBackx6
namespace Go.Proofs.Ytpabehkdedhncaa.QBadBack
open Go.RowKit Go.Proofs.YtpabehkdedhncaaW.PrintWords
structure S65 where
  f0 : Int
  f1 : Int
  f2 : List Int
def z65 : S65 := ⟨0, 0, []⟩
def k65 : Kd S65 := Kd.iso (Kd.pair (Kd.int .i64) (Kd.pair (Kd.int .i64) (Kd.slice 3 (Kd.int .i64)))) (fun x : S65 => (x.f0, x.f1, x.f2))
theorem k65_open {w : World} {x : S65} {cs : List Value} (h : k65.K w x cs) : ∃ A2 c2, cs = [.int .i64 x.f0, .int .i64 x.f1, .slice A2 x.f2.length c2] ∧ x.f2.length ≤ c2 ∧ Kd.C (Kd.int .i64) w A2 x.f2.length x.f2 := by
  obtain ⟨_, _, rfl, rfl, ⟨_, _, rfl, rfl, ⟨A2, c2, rfl, hc2, hr2⟩⟩⟩ := h
  exact ⟨A2, c2, rfl, hc2, hr2⟩
end Go.Proofs.Ytpabehkdedhncaa.QBadBack
namespace Go.Proofs.Ytpabehkdedhncaa.Pure
open Go.RowKit Go.Proofs.Ytpabehkdedhncaa.QBadBack Go.Proofs.YtpabehkdedhncaaW.PrintWords
def StmBadBack : Prop := ∀ (x0 : S65) (l1 : List Int) (l2 : List Int), ((fun y : S65 => (fun a : Int => (Lit.int .i64 a).wf = true) y.f0 ∧ (fun a : Int => (Lit.int .i64 a).wf = true) y.f1 ∧ (fun xs : List Int => xs.length ≤ maxLen ∧ ∀ x ∈ xs, (fun a : Int => (Lit.int .i64 a).wf = true) x) y.f2) x0) → (l1.length * 1 ≤ 140737488351232) → ((fun xs : List Int => xs.length ≤ maxLen ∧ ∀ x ∈ xs, (fun a : Int => (Lit.int .u8 a).wf = true) x) l1) → (l2.length * 8 ≤ 140737488351232) → ((fun xs : List Int => xs.length ≤ maxLen ∧ ∀ x ∈ xs, (fun a : Int => (Lit.int .i64 a).wf = true) x) l2) → ∃ k, incunablelaw25_BadBack.f k x0.f0 x0.f1 x0.f2 l1 l2 = some true
end Go.Proofs.Ytpabehkdedhncaa.Pure

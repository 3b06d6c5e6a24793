/-
  The pure statement of the law BadJoins: what is to be proved of the printed functions.
-/
import Derived.Test.YtpabehkdedhncaaQBadJoinsx1
namespace Go.Proofs.Ytpabehkdedhncaa.Pure
open Go.RowKit Go.Proofs.Ytpabehkdedhncaa.QBadJoins Go.Proofs.YtpabehkdedhncaaW.PrintWords
def StmBadJoins : Prop := ∀ (l0 : List Int) (l1 : List Int) (l2 : List Int), (l0.length * 8 ≤ 140737488351232) → ((fun xs : List Int => xs.length ≤ maxLen ∧ ∀ x ∈ xs, (fun a : Int => (Lit.int .i64 a).wf = true) x) l0) → (l1.length * 8 ≤ 140737488351232) → ((fun xs : List Int => xs.length ≤ maxLen ∧ ∀ x ∈ xs, (fun a : Int => (Lit.int .i64 a).wf = true) x) l1) → (l2.length * 8 ≤ 140737488351232) → ((fun xs : List Int => xs.length ≤ maxLen ∧ ∀ x ∈ xs, (fun a : Int => (Lit.int .i64 a).wf = true) x) l2) → ∃ k, incunablelaw25_BadJoins.f k l0 l1 l2 = some true
end Go.Proofs.Ytpabehkdedhncaa.Pure

/-
  The pure statement of the law TagParts: what is to be proved of the printed functions.
-/
import Derived.Test.YtpabehkdedhncaaPTagPartsx3
namespace Go.Proofs.Ytpabehkdedhncaa.Pure
open Go.RowKit Go.Proofs.Ytpabehkdedhncaa.PTagParts Go.Proofs.YtpabehkdedhncaaW.PrintWords
def StmTagParts : Prop := ∀ (l0 : List (S31)) (l1 : List (S31)), (l0.length * 32 ≤ 140737488351232) → ((fun xs : List (S31) => xs.length ≤ maxLen ∧ ∀ x ∈ xs, (fun y : S31 => (fun a : Int => (Lit.int .i64 a).wf = true) y.f0 ∧ (fun a : Int => (Lit.int .i64 a).wf = true) y.f1 ∧ (fun a : Int => (Lit.int .i64 a).wf = true) y.f2 ∧ (fun a : Int => (Lit.int .i64 a).wf = true) y.f3) x) l0) → (l1.length * 32 ≤ 140737488351232) → ((fun xs : List (S31) => xs.length ≤ maxLen ∧ ∀ x ∈ xs, (fun y : S31 => (fun a : Int => (Lit.int .i64 a).wf = true) y.f0 ∧ (fun a : Int => (Lit.int .i64 a).wf = true) y.f1 ∧ (fun a : Int => (Lit.int .i64 a).wf = true) y.f2 ∧ (fun a : Int => (Lit.int .i64 a).wf = true) y.f3) x) l1) → ∃ k, incunablelaw07_TagParts.f k l0 l1 = some true
end Go.Proofs.Ytpabehkdedhncaa.Pure

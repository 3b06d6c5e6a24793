/-
  The pure statement of the law TagBack: what is to be proved of the printed functions.
-/
import Derived.Test.YtpabehkdedhncaaQTagBackx6
namespace Go.Proofs.Ytpabehkdedhncaa.QTagBack
open Go.RowKit Go.Proofs.YtpabehkdedhncaaW.PrintWords
structure S31 where
  f0 : Int
  f1 : Int
  f2 : Int
  f3 : Int
def z31 : S31 := ⟨0, 0, 0, 0⟩
def k31 : Kd S31 := Kd.iso (Kd.pair (Kd.int .i64) (Kd.pair (Kd.int .i64) (Kd.pair (Kd.int .i64) (Kd.int .i64)))) (fun x : S31 => (x.f0, x.f1, x.f2, x.f3))
theorem k31_open {w : World} {x : S31} {cs : List Value} (h : k31.K w x cs) : cs = [.int .i64 x.f0, .int .i64 x.f1, .int .i64 x.f2, .int .i64 x.f3] := by
  obtain ⟨_, _, rfl, rfl, ⟨_, _, rfl, rfl, ⟨_, _, rfl, rfl, rfl⟩⟩⟩ := h
  exact rfl
end Go.Proofs.Ytpabehkdedhncaa.QTagBack
namespace Go.Proofs.Ytpabehkdedhncaa.Pure
open Go.RowKit Go.Proofs.Ytpabehkdedhncaa.QTagBack Go.Proofs.YtpabehkdedhncaaW.PrintWords
def StmTagBack : Prop := ∀ (x0 : S31) (l1 : List Int), ((fun y : S31 => (fun a : Int => (Lit.int .i64 a).wf = true) y.f0 ∧ (fun a : Int => (Lit.int .i64 a).wf = true) y.f1 ∧ (fun a : Int => (Lit.int .i64 a).wf = true) y.f2 ∧ (fun a : Int => (Lit.int .i64 a).wf = true) y.f3) x0) → (l1.length * 1 ≤ 140737488351232) → ((fun xs : List Int => xs.length ≤ maxLen ∧ ∀ x ∈ xs, (fun a : Int => (Lit.int .u8 a).wf = true) x) l1) → ∃ k, incunablelaw07_TagBack.f k x0.f0 x0.f1 x0.f2 x0.f3 l1 = some true
end Go.Proofs.Ytpabehkdedhncaa.Pure

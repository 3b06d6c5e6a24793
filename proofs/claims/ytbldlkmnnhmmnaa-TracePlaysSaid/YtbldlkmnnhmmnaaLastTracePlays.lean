/-
  The law TracePlays: for every input that can be read the call returns true, and each argument reads behind it as before. No condition beyond the row's own.
-/
import Derived.Test.YtbldlkmnnhmmnaaRows
import Derived.WalkKit
import Derived.ProofKit
import Derived.OpenShut
import Derived.ShutString
import Derived.ChangeOld
import Derived.Below
import Derived.SizedLaws
import Derived.Test.YtbldlkmnnhmmnaaMTracePlaysx1
namespace Go.Proofs.Ytbldlkmnnhmmnaa.tracePlays
open Go.ChangeShapes Go.WideShapes Go.ChangeAt Go.RowKit Go.Proofs.Ytbldlkmnnhmmnaa.OpenKit Go.Proofs.Ytbldlkmnnhmmnaa.QTracePlays Go.Proofs.YtbldlkmnnhmmnaaW.PrintWords
open Go.ChangeMaps (open_string shut_string)
set_option linter.unusedVariables false
theorem own : ownKnob Try.prog.godebug = none := by kernel_rfl
theorem laidOut : laidOutB Try.prog = true := by kernel_rfl
instance : Inhabited S28 := ⟨z28⟩
instance : Inhabited S38 := ⟨z38⟩
set_option maxRecDepth 100000 in
set_option maxHeartbeats 1000000 in
theorem lifted (os : Os) (started : os.Started) (H : Type) (enc : TypeId × Value → H) :
    ReturnsInHanded {} Try.checked os 3 .any (Rows.tracePlaysSpec.pre6 enc Try.prog Try.f3 Rows.tracePlaysRow.domain false) (Rows.tracePlaysSpec.post enc Try.prog Try.f3 false true false false) := by
  refine returnsInHanded_of_change_sized (C := Try.checked) own started (by kernel_rfl) Try.func3
    (ChangeSpec.witness6 (enc := enc) (C := Try.checked) false ⟨#[], #[.slice none 0 0], []⟩ 8 (by kernel_rfl) (by kernel_rfl) (by kernel_rfl) (by kernel_rfl)) ?_
  intro W base args ds gs before hval0 hW hcnd hsz0 _
  have hsz : (DataW.weightsEach Try.prog (Try.f3.params.toList ++ Rows.tracePlaysSpec.plain.varTypes Try.prog) (ds ++ gs)).all (· ≤ reachBytes) = true := hsz0
  have hval : ∀ (j : Nat) t v, Try.f3.params[j]? = some t → args[j]? = some v → Value.okWide Try.prog W .any base t v := hval0
  have hW' := hW
  obtain ⟨p, q, hA0, hV, rfl, hfz, hnd⟩ := hW
  have hA : DataW.TrodAll enc Try.prog W 0 (fun _ => true) true Try.f3.params.toList args.toList ds p := hA0
  rw [Try.params3] at hA hval hsz
  obtain ⟨v0, vs0, d0, ds0, p0, q0, hargs, rfl, rfl, h0, r0⟩ := trodAll_cons hA
  obtain ⟨rfl, rfl, rfl⟩ := trodAll_nil r0
  obtain rfl : args = #[v0] := by cases args; simp_all
  obtain ⟨rfl, rfl⟩ := trodVars_none hV
  have k0 := h0
  have lt0 : ∀ x ∈ p0, x.block < W.heap.size := by obtain ⟨m, hm⟩ := k0; exact DataW.trod_lt m _ _ _ hm
  obtain ⟨A0, len0, cap0, rfl⟩ := okWide_slice Try.underlying22 (hval 0 22 v0 rfl rfl)
  obtain ⟨l0, hk0, w0⟩ : ∃ a, ((Kd.slice 28 k28)).K W a (Value.slice A0 len0 cap0).cells.toList ∧ (fun xs : List (S28) => xs.length ≤ maxLen ∧ ∀ x ∈ xs, (fun y : S28 => (fun s : ByteArray => s.size ≤ maxLen) y.f0 ∧ (fun xs : List (S38) => xs.length ≤ maxLen ∧ ∀ x ∈ xs, (fun y : S38 => (fun a : Int => (Lit.int .i64 a).wf = true) y.f0 ∧ (fun a : Int => (Lit.int .u8 a).wf = true) y.f1) x) y.f1) x) a := (by obtain ⟨fuel, hf⟩ := h0; exact (opens_slice Try.underlying22 (opens_struct Try.underlying28 (opensF_cons rfl (opens_string Try.underlying9) (by kernel_rfl) (opensF_one rfl (opens_slice Try.underlying26 (opens_struct Try.underlying38 (opensF_cons rfl (opens_int Try.underlying3) (by kernel_rfl) (opensF_one rfl (opens_int Try.underlying5) (by kernel_rfl))) (by kernel_rfl) (fun y : S38 => (y.f0, y.f1)) (fun x => (⟨x.1, x.2⟩ : S38)) (fun _ => rfl)) (by kernel_rfl)) (by kernel_rfl))) (by kernel_rfl) (fun y : S28 => (y.f0, y.f1)) (fun x => (⟨x.1, x.2⟩ : S28)) (fun _ => rfl)) (by kernel_rfl)) enc W _ _ fuel _ _ hf)
  have y0 : len0 * 40 ≤ 140737488351232 := sized_any hsz (j := 0) (t := 22) rfl rfl Try.underlying22 (by kernel_rfl) h0
  obtain ⟨A0', c0', e0, hc0, hr0⟩ := hk0
  simp only [Value.cells, List.cons.injEq, Value.slice.injEq, and_true] at e0
  obtain ⟨rfl, rfl, rfl⟩ := e0
  clear hA0 hval0 hsz0 hsz
  have h := Pure.TracePlays l0 y0 w0
  refine (QTracePlays.incunablelaw11_TracePlays.calls A0 cap0 l0 true W hr0 hc0 h).mono fun e W' ⟨he, bel0⟩ => ?_
  have bel : Below W.heap.size W W' := bel0
  subst he
  exact ⟨_, rfl, _, _, _, [], _, [], hW', trodAll_mk1 (shut_bool Try.underlying4 _), (trodAll_cons_mk (Below.trod laidOut (by kernel_rfl) (of_decide_eq_true (by kernel_rfl)) k0 bel lt0) trodAll_mk0), rfl, bel.frame _, fun h => by cases h⟩
theorem over : Rows.tracePlaysRow.holds Try.pinned (OpenSpec.ofChange Rows.tracePlaysSpec) :=
  OpenClaim.holds_of_wide 3 Try.f3 rfl rfl rfl rfl rfl rfl rfl ⟨rfl, rfl, rfl, rfl, rfl⟩ rfl rfl rfl rfl rfl (by kernel_rfl) Try.func3 (by kernel_rfl)
    (of_decide_eq_true (by kernel_rfl)) (by unfold Func.isWrapper; first | (rw [if_pos (by decide +kernel)]; kernel_rfl) | (rw [if_neg (by decide +kernel)]; exact ⟨rfl, rfl⟩))
    (fun os started H enc _ => lifted os started H enc)
end Go.Proofs.Ytbldlkmnnhmmnaa.tracePlays
namespace Go.Proofs.Ytbldlkmnnhmmnaa
theorem tracePlays_holds : Rows.TracePlaysSaid := tracePlays.over
#print axioms tracePlays_holds
end Go.Proofs.Ytbldlkmnnhmmnaa

/-
  The law ArrayFits: for every input that can be read the call returns true, and each argument reads behind it as before. No condition beyond the row's own.
-/
import Derived.Test.YtlhjnhjghjdeeaaRows
import Derived.WalkKit
import Derived.ProofKit
import Derived.OpenShut
import Derived.ShutString
import Derived.ChangeOld
import Derived.Below
import Derived.SizedLaws
import Derived.Test.YtlhjnhjghjdeeaaMArrayFitsx2
namespace Go.Proofs.Ytlhjnhjghjdeeaa.arrayFits
open Go.ChangeShapes Go.WideShapes Go.ChangeAt Go.RowKit Go.Proofs.Ytlhjnhjghjdeeaa.OpenKit Go.Proofs.Ytlhjnhjghjdeeaa.QArrayFits Go.Proofs.YtlhjnhjghjdeeaaW.PrintWords
open Go.ChangeMaps (open_string shut_string)
set_option linter.unusedVariables false
theorem own : ownKnob Try.prog.godebug = none := by kernel_rfl
theorem laidOut : laidOutB Try.prog = true := by kernel_rfl
instance : Inhabited S23 := ⟨z23⟩
instance : Inhabited S50 := ⟨z50⟩
set_option maxRecDepth 100000 in
set_option maxHeartbeats 1000000 in
theorem lifted (os : Os) (started : os.Started) (H : Type) (enc : TypeId × Value → H) :
    ReturnsInHanded {} Try.checked os 5 .any (Rows.arrayFitsSpec.pre6 enc Try.prog Try.f5 Rows.arrayFitsRow.domain false) (Rows.arrayFitsSpec.post enc Try.prog Try.f5 false true false false) := by
  refine returnsInHanded_of_change_sized (C := Try.checked) own started (by kernel_rfl) Try.func5
    (ChangeSpec.witness6 (enc := enc) (C := Try.checked) false ⟨#[], #[.agg #[.int .i64 0, .int .i64 0, .int .i64 0, .int .i64 0, .int .i64 0, .int .i64 0, .int .i64 0], .slice none 0 0, .agg #[.int .u8 0, .int .u8 0, .int .u8 0]], []⟩ 8 (by kernel_rfl) (by kernel_rfl) (by kernel_rfl) (by kernel_rfl)) ?_
  intro W base args ds gs before hval0 hW hcnd hsz0 _
  have hsz : (DataW.weightsEach Try.prog (Try.f5.params.toList ++ Rows.arrayFitsSpec.plain.varTypes Try.prog) (ds ++ gs)).all (· ≤ reachBytes) = true := hsz0
  have hval : ∀ (j : Nat) t v, Try.f5.params[j]? = some t → args[j]? = some v → Value.okWide Try.prog W .any base t v := hval0
  have hW' := hW
  obtain ⟨p, q, hA0, hV, rfl, hfz, hnd⟩ := hW
  have hA : DataW.TrodAll enc Try.prog W 0 (fun _ => true) true Try.f5.params.toList args.toList ds p := hA0
  rw [Try.params5] at hA hval hsz
  obtain ⟨v0, vs0, d0, ds0, p0, q0, hargs, rfl, rfl, h0, r0⟩ := trodAll_cons hA
  obtain ⟨v1, vs1, d1, ds1, p1, q1, rfl, rfl, rfl, h1, r1⟩ := trodAll_cons r0
  obtain ⟨v2, vs2, d2, ds2, p2, q2, rfl, rfl, rfl, h2, r2⟩ := trodAll_cons r1
  obtain ⟨rfl, rfl, rfl⟩ := trodAll_nil r2
  obtain rfl : args = #[v0, v1, v2] := by cases args; simp_all
  obtain ⟨rfl, rfl⟩ := trodVars_none hV
  have k0 := h0
  have lt0 : ∀ x ∈ p0, x.block < W.heap.size := by obtain ⟨m, hm⟩ := k0; exact DataW.trod_lt m _ _ _ hm
  obtain ⟨cs0, rfl, hs0⟩ := okWide_struct Try.underlying23 (hval 0 23 v0 rfl rfl)
  obtain ⟨x0, hk0, w0⟩ : ∃ a, (k23).K W a (Value.agg cs0).cells.toList ∧ (fun y : S23 => (fun a : Int => (Lit.int .i64 a).wf = true) y.f0 ∧ (fun a : Int => (Lit.int .i64 a).wf = true) y.f1 ∧ (fun a : Int => (Lit.int .i64 a).wf = true) y.f2 ∧ (fun a : Int => (Lit.int .i64 a).wf = true) y.f3 ∧ (fun a : Int => (Lit.int .i64 a).wf = true) y.f4 ∧ (fun a : Int => (Lit.int .i64 a).wf = true) y.f5 ∧ (fun a : Int => (Lit.int .i64 a).wf = true) y.f6) a := (by obtain ⟨fuel, hf⟩ := h0; exact (opens_struct Try.underlying23 (opensF_cons rfl (opens_int Try.underlying3) (by kernel_rfl) (opensF_cons rfl (opens_int Try.underlying3) (by kernel_rfl) (opensF_cons rfl (opens_int Try.underlying3) (by kernel_rfl) (opensF_cons rfl (opens_int Try.underlying3) (by kernel_rfl) (opensF_cons rfl (opens_int Try.underlying3) (by kernel_rfl) (opensF_cons rfl (opens_int Try.underlying3) (by kernel_rfl) (opensF_one rfl (opens_int Try.underlying3) (by kernel_rfl)))))))) (by kernel_rfl) (fun y : S23 => (y.f0, y.f1, y.f2, y.f3, y.f4, y.f5, y.f6)) (fun x => (⟨x.1, x.2.1, x.2.2.1, x.2.2.2.1, x.2.2.2.2.1, x.2.2.2.2.2.1, x.2.2.2.2.2.2⟩ : S23)) (fun _ => rfl)) enc W _ _ fuel _ _ hf)
  have e0 : cs0.toList = _ := k23_open hk0
  obtain rfl : cs0 = List.toArray _ := Array.toList_inj.1 e0
  have k1 := h1
  have lt1 : ∀ x ∈ p1, x.block < W.heap.size := by obtain ⟨m, hm⟩ := k1; exact DataW.trod_lt m _ _ _ hm
  obtain ⟨A1, len1, cap1, rfl⟩ := okWide_slice Try.underlying32 (hval 1 32 v1 rfl rfl)
  obtain ⟨l1, hk1, w1⟩ : ∃ a, ((Kd.slice 24 (Kd.slice 5 (Kd.int .u8)))).K W a (Value.slice A1 len1 cap1).cells.toList ∧ (fun xs : List (List Int) => xs.length ≤ maxLen ∧ ∀ x ∈ xs, (fun xs : List Int => xs.length ≤ maxLen ∧ ∀ x ∈ xs, (fun a : Int => (Lit.int .u8 a).wf = true) x) x) a := (by obtain ⟨fuel, hf⟩ := h1; exact (opens_slice Try.underlying32 (opens_slice Try.underlying24 (opens_int Try.underlying5) (by kernel_rfl)) (by kernel_rfl)) enc W _ _ fuel _ _ hf)
  have y1 : len1 * 24 ≤ 140737488351232 := sized_any hsz (j := 1) (t := 32) rfl rfl Try.underlying32 (by kernel_rfl) h1
  obtain ⟨A1', c1', e1, hc1, hr1⟩ := hk1
  simp only [Value.cells, List.cons.injEq, Value.slice.injEq, and_true] at e1
  obtain ⟨rfl, rfl, rfl⟩ := e1
  have k2 := h2
  have lt2 : ∀ x ∈ p2, x.block < W.heap.size := by obtain ⟨m, hm⟩ := k2; exact DataW.trod_lt m _ _ _ hm
  obtain ⟨cs2, rfl, hs2⟩ := okWide_array Try.underlying50 (hval 2 50 v2 rfl rfl)
  obtain ⟨x2, hk2, w2⟩ : ∃ a, (k50).K W a (Value.agg cs2).cells.toList ∧ (fun y : S50 => (fun a : Int => (Lit.int .u8 a).wf = true) y.f0 ∧ (fun a : Int => (Lit.int .u8 a).wf = true) y.f1 ∧ (fun a : Int => (Lit.int .u8 a).wf = true) y.f2) a := (by obtain ⟨fuel, hf⟩ := h2; exact (opens_array Try.underlying50 [⟨"", 5, 0, false, "", "", 0⟩, ⟨"", 5, 1, false, "", "", 0⟩, ⟨"", 5, 2, false, "", "", 0⟩] (by kernel_rfl) (by decide) (opensF_cons rfl (opens_int Try.underlying5) (by kernel_rfl) (opensF_cons rfl (opens_int Try.underlying5) (by kernel_rfl) (opensF_one rfl (opens_int Try.underlying5) (by kernel_rfl)))) (by kernel_rfl) (fun y : S50 => (y.f0, y.f1, y.f2)) (fun x => (⟨x.1, x.2.1, x.2.2⟩ : S50)) (fun _ => rfl)) enc W _ _ fuel _ _ hf)
  have e2 : cs2.toList = _ := k50_open hk2
  obtain rfl : cs2 = List.toArray _ := Array.toList_inj.1 e2
  clear hA0 hval0 hsz0 hsz
  have h := Pure.ArrayFits x0 l1 x2 w0 y1 w1 w2
  refine (QArrayFits.incunablelaw13_ArrayFits.calls x0.f0 x0.f1 x0.f2 x0.f3 x0.f4 x0.f5 x0.f6 A1 cap1 l1 x2.f0 x2.f1 x2.f2 true W hr1 hc1 h).mono fun e W' ⟨he, bel0⟩ => ?_
  have bel : Below W.heap.size W W' := bel0
  subst he
  exact ⟨_, rfl, _, _, _, [], _, [], hW', trodAll_mk1 (shut_bool Try.underlying4 _), (trodAll_cons_mk (Below.trod laidOut (by kernel_rfl) (of_decide_eq_true (by kernel_rfl)) k0 bel lt0) (trodAll_cons_mk (Below.trod laidOut (by kernel_rfl) (of_decide_eq_true (by kernel_rfl)) k1 bel lt1) (trodAll_cons_mk (Below.trod laidOut (by kernel_rfl) (of_decide_eq_true (by kernel_rfl)) k2 bel lt2) trodAll_mk0))), rfl, bel.frame _, fun h => by cases h⟩
theorem over : Rows.arrayFitsRow.holds Try.pinned (OpenSpec.ofChange Rows.arrayFitsSpec) :=
  OpenClaim.holds_of_wide 5 Try.f5 rfl rfl rfl rfl rfl rfl rfl ⟨rfl, rfl, rfl, rfl, rfl⟩ rfl rfl rfl rfl rfl (by kernel_rfl) Try.func5 (by kernel_rfl)
    (of_decide_eq_true (by kernel_rfl)) (by unfold Func.isWrapper; first | (rw [if_pos (by decide +kernel)]; kernel_rfl) | (rw [if_neg (by decide +kernel)]; exact ⟨rfl, rfl⟩))
    (fun os started H enc _ => lifted os started H enc)
end Go.Proofs.Ytlhjnhjghjdeeaa.arrayFits
namespace Go.Proofs.Ytlhjnhjghjdeeaa
theorem arrayFits_holds : Rows.ArrayFitsSaid := arrayFits.over
#print axioms arrayFits_holds
end Go.Proofs.Ytlhjnhjghjdeeaa

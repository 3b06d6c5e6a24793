/-
  What the document's Fits and Put come to.
-/
import Derived.Test.YtpabehkdedhncaaRefSizeTagBytes
namespace Go.Proofs.Ytpabehkdedhncaa.PureTagBytes
open Go.RowKit Go.Proofs.Ytpabehkdedhncaa.PTagBytes Go.Proofs.YtpabehkdedhncaaW.PrintWords Go.Proofs.YtpabehkdedhncaaW.PrintLast Go.Proofs.YtpabehkdedhncaaW.PrintMore Go.Proofs.Ytpabehkdedhncaa.EvKit Go.Proofs.Ytpabehkdedhncaa.PackMath

theorem rfits_l0 {s : Int} (hs : s ≤ 8) (d : Nat) : ∀ (n j : Int), 0 ≤ j → j + d = s → 0 ≤ n → n ≤ 4611686018427387904 → Ev (fun k => incunableref03_Fits.l0 k n s j) (decide (n < 256 ^ d)) := by
  induction d with
  | zero =>
    intro n j h0 hj hn hn'
    refine Ev.step (fun k => incunableref03_Fits.l0.eq_2 ..) ?_
    refine Ev.neg (by omega) (Ev.ret ?_)
    rw [Bool.eq_iff_iff, beq_iff_eq, decide_eq_true_eq, Int.pow_zero]
    omega
  | succ d ih =>
    intro n j h0 hj hn hn'
    refine Ev.step (fun k => incunableref03_Fits.l0.eq_2 ..) ?_
    refine Ev.pos (by omega) ?_
    rw [Int.tdiv_eq_ediv_of_nonneg hn, w64_id (by omega) (by omega), w64_id (x := j + 1) (by omega) (by omega)]
    refine Ev.eq (ih (n / 256) (j + 1) (by omega) (by omega) (by omega) (by omega)) ?_
    rw [Bool.eq_iff_iff, decide_eq_true_eq, decide_eq_true_eq, Int.pow_succ]
    omega
theorem rfits_ev (n s : Int) : Ev (fun k => incunableref03_Fits.f k n s) (pkFits n s) := by
  refine Ev.congr (fun k => by rw [incunableref03_Fits.f]) ?_
  have hj : ∀ {b : Bool}, pkFits n s = false → b = true → Ev (fun k => incunableref03_Fits.j0 k n s b) (pkFits n s) := by
    rintro b h rfl
    refine Ev.step (fun k => incunableref03_Fits.j0.eq_2 ..) ?_
    refine Ev.pos rfl (Ev.ret h.symm)
  refine Ev.ite (fun h => hj ?_ rfl) (fun h => Ev.ite (fun h' => hj ?_ rfl) (fun h' => Ev.ite (fun h0 => hj ?_ rfl) (fun h0 => ?_)))
  · have : ¬ 1 ≤ s := by omega
    simp [pkFits, this]
  · have : ¬ s ≤ 8 := by omega
    simp [pkFits, this]
  · have : ¬ 0 ≤ n := by omega
    simp [pkFits, this]
  · by_cases hb : n > 4611686018427387904
    · refine hj ?_ (by simpa using hb)
      have : ¬ n ≤ 4611686018427387904 := by omega
      simp [pkFits, this]
    · refine Ev.step (fun k => incunableref03_Fits.j0.eq_2 ..) (Ev.neg (by simpa using hb) ?_)
      refine Ev.eq (rfits_l0 (by omega) s.toNat n 0 (by omega) (by omega) (by omega) (by omega)) ?_
      have e1 : 1 ≤ s := by omega
      have e2 : s ≤ 8 := by omega
      have e3 : 0 ≤ n := by omega
      have e4 : n ≤ 4611686018427387904 := by omega
      simp [pkFits, e1, e2, e3, e4]
theorem rput_l1 {sizes ns : List Int} {s : Int} {i : Nat} {r : List Int × Int} (hi : i < sizes.length) (hs : rd sizes (i : Int) = s) (hs8 : s ≤ 8) (d : Nat) : ∀ (n : Int) (out : List Int) (j : Int), 0 ≤ j → j + d = s → 0 ≤ n → n ≤ 4611686018427387904 → out.length + d < 100000 →
    Ev (fun k => incunableref03_Put.l0 k sizes ns (out ++ le d n) (wrap64 ((i : Int) + 1))) r → Ev (fun k => incunableref03_Put.l1 k sizes ns out (i : Int) n j) r := by
  induction d with
  | zero =>
    intro n out j h0 hj hn hn' ho h
    refine Ev.step (fun k => incunableref03_Put.l1.eq_2 ..) ?_
    refine Ev.pos (by omega) (Ev.pos (by omega) (Ev.neg (by omega) ?_))
    simpa [le] using h
  | succ d ih =>
    intro n out j h0 hj hn hn' ho h
    refine Ev.step (fun k => incunableref03_Put.l1.eq_2 ..) ?_
    refine Ev.pos (by omega) (Ev.pos (by omega) (Ev.pos (by omega) (Ev.pos (by omega) ?_)))
    rw [Int.tdiv_eq_ediv_of_nonneg hn, Int.tmod_eq_emod_of_nonneg hn, w64_id (by omega) (by omega), w64_id (x := j + 1) (by omega) (by omega), Int.emod_emod_of_dvd n (by decide : (256 : Int) ∣ 256)]
    refine ih (n / 256) (out ++ [n % 256]) (j + 1) (by omega) (by omega) (by omega) (by omega) (by simp; omega) ?_
    simpa [le] using h
theorem rput_l0 {sizes ns : List Int} (hok : okSizes sizes = true) (hl : sizes.length = ns.length) (d : Nat) : ∀ (i : Nat) (out : List Int), i + d = sizes.length → out.length ≤ 8 * i →
    Ev (fun k => incunableref03_Put.l0 k sizes ns out (i : Int)) (endPut out (putGo (sizes.drop i) (ns.drop i))) := by
  have hk := okSizes_iff.1 hok
  induction d with
  | zero =>
    intro i out hi ho
    refine Ev.step (fun k => incunableref03_Put.l0.eq_2 ..) ?_
    refine Ev.neg (by omega) (Ev.ret ?_)
    rw [List.drop_of_length_le (by omega), List.drop_of_length_le (by omega)]
    simp [putGo, endPut]
  | succ d ih =>
    intro i out hi ho
    refine Ev.step (fun k => incunableref03_Put.l0.eq_2 ..) ?_
    refine Ev.pos (by omega) (Ev.pos (by omega) (Ev.pos (by omega) ?_))
    have hs := hk.2 _ (rd_mem (l := sizes) (i := (i : Int)) (by omega) (by omega))
    rw [drop_rd (l := sizes) (i := i) (by omega), drop_rd (l := ns) (i := i) (by omega)]
    generalize hsv : rd sizes (i : Int) = s at hs ⊢
    generalize rd ns (i : Int) = n
    refine Ev.bind (rfits_ev n s) (Ev.ite (fun h => ?_) (fun h => Ev.ret ?_))
    · obtain ⟨f1, f2, f3, f4, f5⟩ := fits_iff.1 h
      refine rput_l1 (by omega) hsv (by omega) s.toNat n out 0 (by omega) (by omega) f3 f4 (by omega) ?_
      rw [w64_succ (by omega)]
      refine Ev.eq (ih (i + 1) (out ++ le s.toNat n) (by omega) (by simp [le_length]; omega)) ?_
      simp only [putGo, h, if_true]
      cases putGo (sizes.drop (i + 1)) (ns.drop (i + 1)) <;> simp [endPut]
    · simp [putGo, h, endPut]
theorem rput_ev (sizes ns : List Int) (hl : sizes.length ≤ 1000000) : Ev (fun k => incunableref03_Put.f k sizes ns) (pkPut sizes ns) := by
  refine Ev.congr (fun k => by rw [incunableref03_Put.f]) ?_
  refine Ev.bind (rsize_ev sizes hl) ?_
  refine Ev.ite (fun h => ?_) (fun h => ?_)
  · have hok : okSizes sizes = true := by
      cases e : okSizes sizes
      · simp [pkSize, e] at h
      · rfl
    refine Ev.step (fun k => incunableref03_Put.j0.eq_2 ..) ?_
    refine Ev.ite (fun hn => Ev.ret ?_) (fun hn => ?_)
    · have hn' : sizes.length ≠ ns.length := fun e => by simp [e] at hn
      simp [pkPut, hok, putGo_len hn', endPut]
    · have hn' : sizes.length = ns.length := by
        have : ¬ ((sizes.length : Int) ≠ (ns.length : Int)) := by simpa using hn
        omega
      refine Ev.eq (rput_l0 hok hn' sizes.length 0 [] (by omega) (by simp)) ?_
      simp [pkPut, hok]
  · have hok : okSizes sizes = false := by
      cases e : okSizes sizes
      · rfl
      · simp [pkSize, e] at h
    refine Ev.step (fun k => incunableref03_Put.j0.eq_2 ..) ?_
    refine Ev.pos rfl (Ev.ret ?_)
    simp [pkPut, hok]
end Go.Proofs.Ytpabehkdedhncaa.PureTagBytes

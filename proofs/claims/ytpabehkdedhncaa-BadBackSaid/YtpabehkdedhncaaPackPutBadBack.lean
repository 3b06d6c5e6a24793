/-
  What pack.Put comes to: each number's bytes, the lowest first.
-/
import Derived.Test.YtpabehkdedhncaaPackSizeBadBack
namespace Go.Proofs.Ytpabehkdedhncaa.PureBadBack
open Go.RowKit Go.Proofs.Ytpabehkdedhncaa.QBadBack Go.Proofs.YtpabehkdedhncaaW.PrintWords Go.Proofs.YtpabehkdedhncaaW.PrintLast Go.Proofs.YtpabehkdedhncaaW.PrintMore Go.Proofs.Ytpabehkdedhncaa.EvKit Go.Proofs.Ytpabehkdedhncaa.PackMath

theorem fits_ev (n s : Int) : Ev (fun k => pack_Fits.f k n s) (pkFits n s) := by
  refine Ev.congr (fun k => by rw [pack_Fits.f]) ?_
  refine Ev.ite (fun h => ?_) (fun h => Ev.ite (fun h' => ?_) (fun h' => ?_))
  · refine Ev.step (fun k => pack_Fits.j0.eq_2 ..) (Ev.pos rfl (Ev.ret ?_))
    have : ¬ 1 ≤ s := by omega
    simp [pkFits, this]
  · refine Ev.step (fun k => pack_Fits.j0.eq_2 ..) (Ev.pos rfl (Ev.ret ?_))
    have : ¬ s ≤ 8 := by omega
    simp [pkFits, this]
  · refine Ev.step (fun k => pack_Fits.j0.eq_2 ..) (Ev.ite (fun h0 => Ev.ret ?_) (fun h0 => ?_))
    · have h0 : n < 0 := by simpa using h0
      have : ¬ 0 ≤ n := by omega
      simp [pkFits, this]
    · have h0 : 0 ≤ n := by simpa using h0
      refine Ev.ite (fun h8 => Ev.ret ?_) (fun h8 => ?_)
      · subst h8
        rw [Bool.eq_iff_iff, fits_iff, decide_eq_true_eq]
        have e : (256 : Int) ^ (8 : Int).toNat = 18446744073709551616 := by decide
        rw [e]
        omega
      · have hs : s = 1 ∨ s = 2 ∨ s = 3 ∨ s = 4 ∨ s = 5 ∨ s = 6 ∨ s = 7 := by omega
        have hw : IntKind.u64.wrap (wrap64 (8 * s)) = 8 * s := by rw [w64_id (by omega) (by omega), w_u64 _ (by omega) (by omega)]
        rw [hw]
        refine Ev.pos (by omega) (Ev.ret ?_)
        rw [Bool.eq_iff_iff, fits_iff, beq_iff_eq]
        rcases hs with rfl | rfl | rfl | rfl | rfl | rfl | rfl
        · rw [show shr .i64 n (8 * 1) = n / 256 from by simp [shr, IntKind.bits], show (256 : Int) ^ (1 : Int).toNat = 256 from by decide]; omega
        · rw [show shr .i64 n (8 * 2) = n / 65536 from by simp [shr, IntKind.bits], show (256 : Int) ^ (2 : Int).toNat = 65536 from by decide]; omega
        · rw [show shr .i64 n (8 * 3) = n / 16777216 from by simp [shr, IntKind.bits], show (256 : Int) ^ (3 : Int).toNat = 16777216 from by decide]; omega
        · rw [show shr .i64 n (8 * 4) = n / 4294967296 from by simp [shr, IntKind.bits], show (256 : Int) ^ (4 : Int).toNat = 4294967296 from by decide]; omega
        · rw [show shr .i64 n (8 * 5) = n / 1099511627776 from by simp [shr, IntKind.bits], show (256 : Int) ^ (5 : Int).toNat = 1099511627776 from by decide]; omega
        · rw [show shr .i64 n (8 * 6) = n / 281474976710656 from by simp [shr, IntKind.bits], show (256 : Int) ^ (6 : Int).toNat = 281474976710656 from by decide]; omega
        · rw [show shr .i64 n (8 * 7) = n / 72057594037927936 from by simp [shr, IntKind.bits], show (256 : Int) ^ (7 : Int).toNat = 72057594037927936 from by decide]; omega

theorem put_l1 {sizes ns : List Int} {len i s : Int} {r : List Int × Int} (hs : s ≤ 8) (d : Nat) : ∀ (n : Int) (out : List Int) (j : Int), 0 ≤ j → j + d = s → out.length + d < 100000 →
    Ev (fun k => pack_Put.l0 k sizes (out ++ le d n) ns len (wrap64 (i + 1))) r → Ev (fun k => pack_Put.l1 k sizes out n ns len i s j) r := by
  induction d with
  | zero =>
    intro n out j h0 hj ho h
    refine Ev.step (fun k => pack_Put.l1.eq_2 ..) ?_
    refine Ev.neg (by omega) ?_
    simpa [le] using h
  | succ d ih =>
    intro n out j h0 hj ho h
    refine Ev.step (fun k => pack_Put.l1.eq_2 ..) ?_
    refine Ev.pos (by omega) (Ev.pos (by omega) ?_)
    rw [w64_id (by omega) (by omega)]
    refine ih (n / 256) (out ++ [n % 256]) (j + 1) (by omega) (by omega) (by simp; omega) ?_
    simpa [le] using h
theorem put_l0 {sizes ns : List Int} (hok : okSizes sizes = true) (hl : sizes.length = ns.length) (d : Nat) : ∀ (i : Nat) (out : List Int), i + d = ns.length → out.length ≤ 8 * i →
    Ev (fun k => pack_Put.l0 k sizes out ns (ns.length : Int) (i : Int)) (endPut out (putGo (sizes.drop i) (ns.drop i))) := by
  have hk := okSizes_iff.1 hok
  induction d with
  | zero =>
    intro i out hi ho
    refine Ev.step (fun k => pack_Put.l0.eq_2 ..) ?_
    refine Ev.neg (by omega) (Ev.ret ?_)
    rw [List.drop_of_length_le (by omega), List.drop_of_length_le (by omega)]
    simp [putGo, endPut]
  | succ d ih =>
    intro i out hi ho
    refine Ev.step (fun k => pack_Put.l0.eq_2 ..) ?_
    refine Ev.pos (by omega) (Ev.pos (by omega) (Ev.pos (by omega) (Ev.pos (by omega) ?_)))
    have hm := rd_mem (l := sizes) (i := (i : Int)) (by omega) (by omega)
    have hs := hk.2 _ hm
    rw [drop_rd (l := sizes) (i := i) (by omega), drop_rd (l := ns) (i := i) (by omega)]
    generalize hsv : rd sizes (i : Int) = s at hs ⊢
    generalize rd ns (i : Int) = n
    refine Ev.bind (fits_ev n s) ?_
    refine Ev.ite (fun h => ?_) (fun h => Ev.ret ?_)
    · refine put_l1 (by omega) s.toNat n out 0 (by omega) (by omega) (by omega) ?_
      rw [w64_succ (by omega)]
      refine Ev.eq (ih (i + 1) (out ++ le s.toNat n) (by omega) (by simp [le_length]; omega)) ?_
      simp only [putGo, h, if_true]
      cases putGo (sizes.drop (i + 1)) (ns.drop (i + 1)) <;> simp [endPut]
    · simp [putGo, h, endPut]
theorem put_ev (sizes ns : List Int) : Ev (fun k => pack_Put.f k sizes ns) (pkPut sizes ns) := by
  refine Ev.congr (fun k => by rw [pack_Put.f]) ?_
  refine Ev.bind (size_ev sizes) ?_
  refine Ev.ite (fun h => ?_) (fun h => ?_)
  · have hok : okSizes sizes = true := by
      cases e : okSizes sizes
      · simp [pkSize, e] at h
      · rfl
    refine Ev.step (fun k => pack_Put.j0.eq_2 ..) ?_
    refine Ev.ite (fun hn => Ev.ret ?_) (fun hn => ?_)
    · have hn' : sizes.length ≠ ns.length := fun e => by simp [e] at hn
      simp [pkPut, hok, putGo_len hn', endPut]
    · have hn' : sizes.length = ns.length := by
        have : ¬ ((ns.length : Int) ≠ (sizes.length : Int)) := by simpa using hn
        omega
      refine Ev.eq (put_l0 hok hn' ns.length 0 [] (by omega) (by simp)) ?_
      simp [pkPut, hok]
  · have hok : okSizes sizes = false := by
      cases e : okSizes sizes
      · rfl
      · simp [pkSize, e] at h
    refine Ev.step (fun k => pack_Put.j0.eq_2 ..) ?_
    refine Ev.pos rfl (Ev.ret ?_)
    simp [pkPut, hok]
end Go.Proofs.Ytpabehkdedhncaa.PureBadBack

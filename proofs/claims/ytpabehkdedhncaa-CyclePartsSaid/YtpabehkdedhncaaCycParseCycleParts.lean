/-
  What cycle.Parse, the document's comparison of cycles and the waking call come to.
-/
import Derived.Test.YtpabehkdedhncaaCycleCycleParts
import Derived.Test.YtpabehkdedhncaaBits
namespace Go.Proofs.Ytpabehkdedhncaa.PureCycleParts
open Go.RowKit Go.Proofs.Ytpabehkdedhncaa.QCycleParts Go.Proofs.YtpabehkdedhncaaW.PrintWords Go.Proofs.YtpabehkdedhncaaW.PrintLast Go.Proofs.YtpabehkdedhncaaW.PrintMore Go.Proofs.Ytpabehkdedhncaa.EvKit Go.Proofs.Ytpabehkdedhncaa.BitsKit
theorem rdT_nat {l : List Cyc} {i : Nat} (h : i < l.length) : rd_T42 l (i : Int) = l[i] := by
  simp [rd_T42, h]
theorem drop_rdT {l : List Cyc} {i : Nat} (h : i < l.length) : l.drop i = rd_T42 l (i : Int) :: l.drop (i + 1) := by
  rw [rdT_nat h]
  exact List.drop_eq_getElem_cons h
theorem cyc_eq {x y : Cyc} : x = y ↔ x.f0 = y.f0 ∧ x.f1 = y.f1 := ⟨fun e => e ▸ ⟨rfl, rfl⟩, fun h => by
  obtain ⟨u0, u1⟩ := x
  obtain ⟨v0, v1⟩ := y
  obtain ⟨h1, h2⟩ := h
  dsimp only at h1 h2
  rw [h1, h2]⟩
instance : DecidableEq Cyc := fun _ _ => decidable_of_iff _ cyc_eq.symm
theorem same_l0 (a b : List Cyc) (hl : a.length = b.length) (hb : a.length < 1000000000) (d : Nat) : ∀ i : Nat, i + d = a.length →
    Ev (fun k => incunableref10_Same.l0 k a b (i : Int)) (decide (a.drop i = b.drop i)) := by
  induction d with
  | zero =>
    intro i hi
    refine Ev.step (fun k => incunableref10_Same.l0.eq_2 ..) ?_
    refine Ev.neg (by omega) (Ev.ret ?_)
    rw [List.drop_of_length_le (by omega), List.drop_of_length_le (by omega)]
    rfl
  | succ d ih =>
    intro i hi
    refine Ev.step (fun k => incunableref10_Same.l0.eq_2 ..) ?_
    refine Ev.pos (by omega) (Ev.pos (by omega) (Ev.pos (by omega) ?_))
    rw [drop_rdT (l := a) (i := i) (by omega), drop_rdT (l := b) (i := i) (by omega)]
    refine Ev.ite (fun h1 => Ev.ite (fun h2 => ?_) (fun h => Ev.ret ?_)) (fun h => Ev.ret ?_)
    · have h : rd_T42 a (i : Int) = rd_T42 b (i : Int) := cyc_eq.2 ⟨h1, h2⟩
      rw [w64_succ (by omega), h]
      refine Ev.eq (ih (i + 1) (by omega)) ?_
      simp
    · refine (decide_eq_false fun e => h ?_).symm
      rw [(List.cons.inj e).1]
    · refine (decide_eq_false fun e => h ?_).symm
      rw [(List.cons.inj e).1]
theorem same_ev (a b : List Cyc) (hb : a.length < 1000000000) : Ev (fun k => incunableref10_Same.f k a b) (decide (a = b)) := by
  refine Ev.congr (fun k => by rw [incunableref10_Same.f]) ?_
  refine Ev.ite (fun h => ?_) (fun h => Ev.ret ?_)
  · exact same_l0 a b (by omega) hb a.length 0 (by omega)
  · have : a ≠ b := fun e => h (by rw [e])
    simp [this]
theorem text_f {l : List Cyc} (h : l.all cycle_Text_byte = true) (hl : l.length ≤ 16777216) : cycle_Text.f l = some (if l.all cycle_Text_right = true then (⟨(cycle_Text_text l).toArray⟩, 0) else (⟨#[]⟩, 2)) := by
  unfold cycle_Text.f
  rw [if_pos h, if_neg (Nat.not_lt.2 hl)]
theorem awake : incunablelaw10_awake.f = some true := by
  unfold incunablelaw10_awake.f
  rw [text_f (by decide) (by decide), if_pos (by decide)]
  show (if (0 : Int) = 0 then some (ByteArray.toList ⟨(cycle_Text_text [⟨1, 112⟩, ⟨4, 224⟩]).toArray⟩ == [99, 55, 48, 32, 114, 101, 48]) else some false) = some true
  rw [if_pos rfl, ByteArray.toList_eq]
  decide +kernel
theorem bt_drop {S : ByteArray} {n : Nat} {b : UInt8} {l : List UInt8} (h : S.data.toList.drop n = b :: l) : n < S.size ∧ bt S (n : Int) = (b.toNat : Int) ∧ S.data.toList.drop (n + 1) = l := by
  have h1 : n < S.data.toList.length := by
    refine Nat.lt_of_not_le fun hh => ?_
    rw [List.drop_of_length_le hh] at h
    cases h
  rw [List.drop_eq_getElem_cons h1] at h
  obtain ⟨e1, e2⟩ := List.cons.inj h
  have h2 : n < S.size := by simpa using h1
  refine ⟨h2, ?_, e2⟩
  unfold bt
  rw [dif_pos (by rw [Int.toNat_natCast]; exact h2), ← e1]
  rfl
theorem byte_back (b : UInt8) : ((b.toNat : Int)).toNat.toUInt8 = b := by
  rw [Int.toNat_natCast]
  exact UInt8.ofNat_toNat
theorem ix_dig (b : UInt8) : strings_IndexByte.f (⟨#[48, 49, 50, 51, 52, 53, 54, 55, 56, 57, 97, 98, 99, 100, 101, 102]⟩ : ByteArray) (b.toNat : Int) = some (digIx b) := by
  unfold strings_IndexByte.f
  rw [byte_back]
  rfl
theorem ix_let (b : UInt8) : strings_IndexByte.f (⟨#[99, 97, 119, 114]⟩ : ByteArray) (b.toNat : Int) = some (letIx b) := by
  unfold strings_IndexByte.f
  rw [byte_back]
  rfl
theorem ix_sp (b : UInt8) : strings_IndexByte.f (⟨#[32]⟩ : ByteArray) (b.toNat : Int) = some (if b = 32 then 0 else -1) := by
  unfold strings_IndexByte.f
  rw [byte_back]
  exact congrArg some (all256 (P := fun b => Lib.indexByte [32] b = if b = 32 then 0 else -1) (by decide +kernel) b)
theorem or_dig {x y : Int} (h0 : 0 ≤ x) (h1 : x ≤ 15) (h2 : 0 ≤ y) (h3 : y ≤ 15) : Go.bits .or .u8 (x * 16) (mx y 0 % 256) = x * 16 + y := by
  have key : ∀ a b : Fin 16, Go.bits .or .u8 ((a.val : Int) * 16) (mx (b.val : Int) 0 % 256) = (a.val : Int) * 16 + (b.val : Int) := by decide +kernel
  have := key ⟨x.toNat, by omega⟩ ⟨y.toNat, by omega⟩
  rwa [show ((x.toNat : Nat) : Int) = x by omega, show ((y.toNat : Nat) : Int) = y by omega] at this
def res (acc : List Cyc) : List Cyc ⊕ Nat → List Cyc × Int × Int
  | .inl m => (acc ++ m, 0, 0)
  | .inr e => ([], (e : Int), 11)
section
variable {S : ByteArray} (hS : S.size ≤ 67108864)
include hS
theorem p_end {acc : List Cyc} {n : Nat} {K B : Int} {r : List Cyc × Int × Int} (hn : n = S.size) (hr : r = if n % 4 = 3 then (acc, 0, 0) else ([], ((n + 1 : Nat) : Int), 11)) : Ev (fun k => cycle_Parse.l0 k S acc (S.size : Int) (n : Int) K B) r := by
  refine Ev.step (fun k => cycle_Parse.l0.eq_2 ..) ?_
  refine Ev.neg (by omega) ?_
  subst hr
  by_cases h : n % 4 = 3
  · rw [if_pos h]
    exact Ev.pos (by omega) (Ev.ret rfl)
  · rw [if_neg h]
    refine Ev.neg (by omega) (Ev.ret ?_)
    rw [← hn, w64_succ (by omega)]
theorem p_let {acc : List Cyc} {n : Nat} {K B : Int} {b : UInt8} {l : List UInt8} {r : List Cyc × Int × Int} (h4 : n % 4 = 0) (hl : S.data.toList.drop n = b :: l)
    (hf : letIx b < 0 → r = ([], ((n + 1 : Nat) : Int), 11)) (hg : 0 ≤ letIx b → Ev (fun k => cycle_Parse.l0 k S acc (S.size : Int) ((n + 1 : Nat) : Int) (letIx b + 1) B) r) :
    Ev (fun k => cycle_Parse.l0 k S acc (S.size : Int) (n : Int) K B) r := by
  obtain ⟨h1, h2, _⟩ := bt_drop hl
  have hb := letIx_range b
  have hm : Int.tmod (n : Int) 4 = 0 := by rw [Int.tmod_eq_emod_of_nonneg (Int.natCast_nonneg n)]; omega
  refine Ev.step (fun k => cycle_Parse.l0.eq_2 ..) ?_
  refine Ev.pos (by omega) (Ev.pos (by omega) (Ev.pos (by omega) ?_))
  rw [h2]
  refine Ev.bindv (ix_dig b) (Ev.pos hm (Ev.bindv (ix_let b) ?_))
  have e1 : wrap64 (letIx b + 1) = letIx b + 1 := w64_id (by omega) (by omega)
  have e2 : wrap64 (letIx b + 1 - 1) = letIx b := by rw [w64_id (by omega) (by omega)]; omega
  rw [e1, e2, w64_succ (by omega)]
  exact Ev.ite (fun h => Ev.ret (hf h).symm) (fun h => hg (by omega))
theorem p_dig {acc : List Cyc} {n : Nat} {K B : Int} {b : UInt8} {l : List UInt8} {r : List Cyc × Int × Int} (h4 : n % 4 = 1) (hl : S.data.toList.drop n = b :: l)
    (hf : digIx b < 0 → r = ([], ((n + 1 : Nat) : Int), 11)) (hg : 0 ≤ digIx b → Ev (fun k => cycle_Parse.l0 k S acc (S.size : Int) ((n + 1 : Nat) : Int) K (digIx b * 16)) r) :
    Ev (fun k => cycle_Parse.l0 k S acc (S.size : Int) (n : Int) K B) r := by
  obtain ⟨h1, h2, _⟩ := bt_drop hl
  have hb := digIx_range b
  have hm : Int.tmod (n : Int) 4 = 1 := by rw [Int.tmod_eq_emod_of_nonneg (Int.natCast_nonneg n)]; omega
  refine Ev.step (fun k => cycle_Parse.l0.eq_2 ..) ?_
  refine Ev.pos (by omega) (Ev.pos (by omega) (Ev.pos (by omega) ?_))
  rw [h2]
  refine Ev.bindv (ix_dig b) ?_
  rw [hm]
  refine Ev.neg (by decide) (Ev.pos rfl ?_)
  rw [w64_succ (by omega)]
  refine Ev.ite (fun h => Ev.ret (hf h).symm) (fun h => ?_)
  rw [w64_id (by omega) (by omega), Int.emod_eq_of_lt (by omega) (by omega)]
  exact hg (by omega)
theorem p_two {acc : List Cyc} {n : Nat} {K x : Int} {b : UInt8} {l : List UInt8} {r : List Cyc × Int × Int} (h4 : n % 4 = 2) (hx0 : 0 ≤ x) (hx1 : x ≤ 15) (ha : acc.length ≤ 67108864) (hl : S.data.toList.drop n = b :: l)
    (hf : digIx b < 0 → r = ([], ((n + 1 : Nat) : Int), 11)) (hg : 0 ≤ digIx b → Ev (fun k => cycle_Parse.l0 k S (acc ++ [⟨K, x * 16 + digIx b⟩]) (S.size : Int) ((n + 1 : Nat) : Int) K (x * 16 + digIx b)) r) :
    Ev (fun k => cycle_Parse.l0 k S acc (S.size : Int) (n : Int) K (x * 16)) r := by
  obtain ⟨h1, h2, _⟩ := bt_drop hl
  have hb := digIx_range b
  have hm : Int.tmod (n : Int) 4 = 2 := by rw [Int.tmod_eq_emod_of_nonneg (Int.natCast_nonneg n)]; omega
  refine Ev.step (fun k => cycle_Parse.l0.eq_2 ..) ?_
  refine Ev.pos (by omega) (Ev.pos (by omega) (Ev.pos (by omega) ?_))
  rw [h2]
  refine Ev.bindv (ix_dig b) ?_
  rw [hm]
  refine Ev.neg (by decide) (Ev.neg (by decide) (Ev.pos rfl (Ev.pos (by omega) ?_)))
  rw [w64_succ (by omega)]
  refine Ev.ite (fun h => Ev.ret (hf h).symm) (fun h => ?_)
  rw [or_dig hx0 hx1 (by omega) hb.2]
  exact hg (by omega)
theorem p_sp {acc : List Cyc} {n : Nat} {K B : Int} {b : UInt8} {l : List UInt8} {r : List Cyc × Int × Int} (h4 : n % 4 = 3) (hl : S.data.toList.drop n = b :: l)
    (hf : b ≠ 32 → r = ([], ((n + 1 : Nat) : Int), 11)) (hg : b = 32 → Ev (fun k => cycle_Parse.l0 k S acc (S.size : Int) ((n + 1 : Nat) : Int) K B) r) :
    Ev (fun k => cycle_Parse.l0 k S acc (S.size : Int) (n : Int) K B) r := by
  obtain ⟨h1, h2, _⟩ := bt_drop hl
  have hm : Int.tmod (n : Int) 4 = 3 := by rw [Int.tmod_eq_emod_of_nonneg (Int.natCast_nonneg n)]; omega
  refine Ev.step (fun k => cycle_Parse.l0.eq_2 ..) ?_
  refine Ev.pos (by omega) (Ev.pos (by omega) (Ev.pos (by omega) ?_))
  rw [h2]
  refine Ev.bindv (ix_dig b) ?_
  rw [hm]
  refine Ev.neg (by decide) (Ev.neg (by decide) (Ev.neg (by decide) (Ev.bindv (ix_sp b) ?_)))
  rw [w64_succ (by omega)]
  by_cases h : b = 32
  · rw [if_pos h]
    exact Ev.neg (by decide) (hg h)
  · rw [if_neg h]
    exact Ev.pos (by decide) (Ev.ret (hf h).symm)
omit hS in
theorem drop_end {n : Nat} (h : S.data.toList.drop n = []) (hn : n ≤ S.size) : n = S.size := by
  have := congrArg List.length h
  rw [List.length_drop] at this
  have e : S.data.toList.length = S.size := by simp
  rw [e] at this
  simp only [List.length_nil] at this
  omega
theorem parse_go : ∀ (l : List UInt8) (n : Nat) (acc : List Cyc) (K B : Int), n % 4 = 0 → n ≤ S.size → S.data.toList.drop n = l → acc.length ≤ n →
    Ev (fun k => cycle_Parse.l0 k S acc (S.size : Int) (n : Int) K B) (res acc (parseL l n))
  | a :: b :: c :: d :: rest, n, acc, K, B, h4, hn, hl, ha => by
    obtain ⟨s1, _, l1⟩ := bt_drop hl
    obtain ⟨s2, _, l2⟩ := bt_drop l1
    obtain ⟨s3, _, l3⟩ := bt_drop l2
    obtain ⟨s4, _, l4⟩ := bt_drop l3
    have rb := digIx_range b
    rw [parseL]
    refine p_let hS h4 hl (fun h => by rw [if_pos h]; rfl) (fun h0 => ?_)
    rw [if_neg (Int.not_lt.2 h0)]
    refine p_dig hS (by omega) l1 (fun h => by rw [if_pos h]; rfl) (fun h1 => ?_)
    rw [if_neg (Int.not_lt.2 h1)]
    refine p_two hS (by omega) h1 rb.2 (by omega) l2 (fun h => by rw [if_pos h]; rfl) (fun h2 => ?_)
    rw [if_neg (Int.not_lt.2 h2)]
    refine p_sp hS (by omega) l3 (fun h => by rw [if_pos h]; rfl) (fun h3 => ?_)
    rw [if_neg (not_not_intro h3)]
    refine Ev.eq (parse_go rest (n + 4) _ _ _ (by omega) (by omega) l4 (by rw [List.length_append]; show acc.length + 1 ≤ n + 4; omega)) ?_
    cases parseL rest (n + 4) with
    | inl m => exact congrArg (fun z => (z, (0 : Int), (0 : Int))) (List.append_assoc acc [_] m)
    | inr e => rfl
  | [a, b, c], n, acc, K, B, h4, hn, hl, ha => by
    obtain ⟨s1, _, l1⟩ := bt_drop hl
    obtain ⟨s2, _, l2⟩ := bt_drop l1
    obtain ⟨s3, _, l3⟩ := bt_drop l2
    have rb := digIx_range b
    rw [parseL]
    refine p_let hS h4 hl (fun h => by rw [if_pos h]; rfl) (fun h0 => ?_)
    rw [if_neg (Int.not_lt.2 h0)]
    refine p_dig hS (by omega) l1 (fun h => by rw [if_pos h]; rfl) (fun h1 => ?_)
    rw [if_neg (Int.not_lt.2 h1)]
    refine p_two hS (by omega) h1 rb.2 (by omega) l2 (fun h => by rw [if_pos h]; rfl) (fun h2 => ?_)
    rw [if_neg (Int.not_lt.2 h2)]
    refine p_end hS (drop_end l3 (by omega)) ?_
    rw [if_pos (by omega)]
    rfl
  | [a, b], n, acc, K, B, h4, hn, hl, ha => by
    obtain ⟨s1, _, l1⟩ := bt_drop hl
    obtain ⟨s2, _, l2⟩ := bt_drop l1
    rw [parseL]
    refine p_let hS h4 hl (fun h => by rw [if_pos h]; rfl) (fun h0 => ?_)
    rw [if_neg (Int.not_lt.2 h0)]
    refine p_dig hS (by omega) l1 (fun h => by rw [if_pos h]; rfl) (fun h1 => ?_)
    rw [if_neg (Int.not_lt.2 h1)]
    refine p_end hS (drop_end l2 (by omega)) ?_
    rw [if_neg (by omega)]
    rfl
  | [a], n, acc, K, B, h4, hn, hl, ha => by
    obtain ⟨s1, _, l1⟩ := bt_drop hl
    rw [parseL]
    refine p_let hS h4 hl (fun h => by rw [if_pos h]; rfl) (fun h0 => ?_)
    rw [if_neg (Int.not_lt.2 h0)]
    refine p_end hS (drop_end l1 (by omega)) ?_
    rw [if_neg (by omega)]
    rfl
  | [], n, acc, K, B, h4, hn, hl, ha => by
    rw [parseL]
    refine p_end hS (drop_end hl (by omega)) ?_
    rw [if_neg (by omega)]
    rfl
theorem parse_ev : Ev (fun k => cycle_Parse.f k S) (res [] (parseT S.data.toList)) := by
  refine Ev.congr (fun k => by rw [cycle_Parse.f]) ?_
  refine Ev.neg (by omega) ?_
  unfold parseT
  rw [ByteArray.toList_eq]
  by_cases h : S.data.toList = []
  · rw [if_pos h]
    exact Ev.pos h (Ev.ret rfl)
  · rw [if_neg h]
    exact Ev.neg h (parse_go hS _ 0 [] 0 0 rfl (Nat.zero_le _) rfl (Nat.le_refl _))
end
theorem parseT_text {l : List Cyc} (h1 : l.all cycle_Text_right = true) (h2 : l.all cycle_Text_byte = true) : parseT (cycle_Text_text l) = .inl l := by
  unfold parseT
  by_cases h : l = []
  · subst h
    rfl
  · have e := parse_text l 0 h h1 h2
    by_cases hs : cycle_Text_text l = []
    · rw [hs, parseL] at e
      cases e
    · rw [if_neg hs, e]
theorem parseT_inl {s : List UInt8} {m : List Cyc} (h : parseT s = .inl m) : cycle_Text_text m = s ∧ m.all cycle_Text_right = true ∧ m.all cycle_Text_byte = true ∧ 4 * m.length ≤ s.length + 1 := by
  unfold parseT at h
  split at h
  · rename_i hs
    have e := Sum.inl.inj h
    subst e
    exact ⟨hs.symm, rfl, rfl, by simp⟩
  · obtain ⟨t1, t2, t3, _, t5⟩ := text_parse s 0 m h
    exact ⟨t1, t2, t3, Nat.le_of_eq t5⟩
theorem parseT_inr {s : List UInt8} {e : Nat} (h : parseT s = .inr e) : 1 ≤ e ∧ e ≤ s.length + 1 := by
  unfold parseT at h
  split at h
  · cases h
  · have := err_range s 0 e h
    omega
theorem byte_all {l : List Cyc} (h : ∀ x ∈ l, (Lit.int .u8 x.f1).wf = true) : l.all cycle_Text_byte = true := by
  rw [List.all_eq_true]
  intro x hx
  have := wf_u8 (h x hx)
  unfold cycle_Text_byte
  rw [Bool.and_eq_true, decide_eq_true_eq, decide_eq_true_eq]
  exact this
theorem text_size (l : List Cyc) : (⟨(cycle_Text_text l).toArray⟩ : ByteArray).size ≤ 4 * l.length := by
  show (cycle_Text_text l).toArray.size ≤ _
  rw [List.size_toArray]
  exact cycle_Text_text_length l
end Go.Proofs.Ytpabehkdedhncaa.PureCycleParts

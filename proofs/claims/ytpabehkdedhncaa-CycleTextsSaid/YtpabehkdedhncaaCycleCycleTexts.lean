/-
  Plain laws on cycles as texts: what a text is parsed to, group by group, and that texts and lists are each other's; then: what cycle.Parse comes to.
-/
import Derived.Test.YtpabehkdedhncaaEv
import Derived.Lib.Bytealg
import Derived.Test.YtpabehkdedhncaaQCycleTextsx
namespace Go.Proofs.Ytpabehkdedhncaa.PureCycleTexts
open Go.RowKit Go.Proofs.Ytpabehkdedhncaa.QCycleTexts Go.Proofs.YtpabehkdedhncaaW.PrintWords Go.Proofs.YtpabehkdedhncaaW.PrintLast Go.Proofs.YtpabehkdedhncaaW.PrintMore Go.Proofs.Ytpabehkdedhncaa.EvKit
abbrev Cyc := S42
/-- a letter's kind, a digit's value; -1: there is none -/
def letIx (b : UInt8) : Int := Lib.indexByte [99, 97, 119, 114] b
def digIx (b : UInt8) : Int := Lib.indexByte [48, 49, 50, 51, 52, 53, 54, 55, 56, 57, 97, 98, 99, 100, 101, 102] b
theorem all256 {P : UInt8 → Prop} [DecidablePred P] (h : ∀ n : Fin 256, P (UInt8.ofNat n.val)) (b : UInt8) : P b := by
  have := h ⟨b.toNat, b.toNat_lt⟩
  simpa using this
theorem letIx_range (b : UInt8) : -1 ≤ letIx b ∧ letIx b ≤ 3 := all256 (P := fun b => -1 ≤ letIx b ∧ letIx b ≤ 3) (by decide +kernel) b
theorem digIx_range (b : UInt8) : -1 ≤ digIx b ∧ digIx b ≤ 15 := all256 (P := fun b => -1 ≤ digIx b ∧ digIx b ≤ 15) (by decide +kernel) b
theorem letIx_back (b : UInt8) (h : 0 ≤ letIx b) : [99, 97, 119, 114].getD (letIx b).toNat 0 = b := all256 (P := fun b => 0 ≤ letIx b → [99, 97, 119, 114].getD (letIx b).toNat (0 : UInt8) = b) (by decide +kernel) b h
theorem digIx_back (b : UInt8) (h : 0 ≤ digIx b) : [48, 49, 50, 51, 52, 53, 54, 55, 56, 57, 97, 98, 99, 100, 101, 102].getD (digIx b).toNat 0 = b := all256 (P := fun b => 0 ≤ digIx b → [48, 49, 50, 51, 52, 53, 54, 55, 56, 57, 97, 98, 99, 100, 101, 102].getD (digIx b).toNat (0 : UInt8) = b) (by decide +kernel) b h
theorem letIx_of : ∀ k : Nat, k < 4 → letIx ([99, 97, 119, 114].getD k 0) = (k : Int) := by decide
theorem digIx_of : ∀ k : Nat, k < 16 → digIx ([48, 49, 50, 51, 52, 53, 54, 55, 56, 57, 97, 98, 99, 100, 101, 102].getD k 0) = (k : Int) := by decide
def cyc (a b c : UInt8) : Cyc := ⟨letIx a + 1, digIx b * 16 + digIx c⟩
/-- what a text is parsed to, from place at on: the cycles, or the place that is wrong -/
def parseL : List UInt8 → Nat → List Cyc ⊕ Nat
  | a :: b :: c :: d :: rest, n => if letIx a < 0 then .inr (n + 1) else if digIx b < 0 then .inr (n + 2) else if digIx c < 0 then .inr (n + 3) else if d ≠ 32 then .inr (n + 4) else
    match parseL rest (n + 4) with
    | .inl m => .inl (cyc a b c :: m)
    | .inr e => .inr e
  | [a, b, c], n => if letIx a < 0 then .inr (n + 1) else if digIx b < 0 then .inr (n + 2) else if digIx c < 0 then .inr (n + 3) else .inl [cyc a b c]
  | [a, b], n => if letIx a < 0 then .inr (n + 1) else if digIx b < 0 then .inr (n + 2) else .inr (n + 3)
  | [a], n => if letIx a < 0 then .inr (n + 1) else .inr (n + 2)
  | [], n => .inr (n + 1)
def parseT (s : List UInt8) : List Cyc ⊕ Nat := if s = [] then .inl [] else parseL s 0
theorem cyc_eta (c : Cyc) (h1 : cycle_Text_right c = true) (h2 : cycle_Text_byte c = true) : ∃ a b d : UInt8, cycle_Text_item c = [a, b, d] ∧ 0 ≤ letIx a ∧ 0 ≤ digIx b ∧ 0 ≤ digIx d ∧ cyc a b d = c ∧ a ≠ 32 := by
  obtain ⟨k, v⟩ := c
  unfold cycle_Text_right at h1
  unfold cycle_Text_byte at h2
  rw [Bool.and_eq_true, decide_eq_true_eq, decide_eq_true_eq] at h1 h2
  dsimp only at h1 h2
  refine ⟨_, _, _, rfl, ?_, ?_, ?_, ?_, ?_⟩
  · have := letIx_of (k - 1).toNat (by omega)
    show 0 ≤ letIx ([99, 97, 119, 114].getD (k - 1).toNat 0)
    rw [this]; omega
  · have := digIx_of (v.toNat / 16) (by omega)
    show 0 ≤ digIx ([48, 49, 50, 51, 52, 53, 54, 55, 56, 57, 97, 98, 99, 100, 101, 102].getD (v.toNat / 16) 0)
    rw [this]; omega
  · have := digIx_of (v.toNat % 16) (by omega)
    show 0 ≤ digIx ([48, 49, 50, 51, 52, 53, 54, 55, 56, 57, 97, 98, 99, 100, 101, 102].getD (v.toNat % 16) 0)
    rw [this]; omega
  · have e1 := letIx_of (k - 1).toNat (by omega)
    have e2 := digIx_of (v.toNat / 16) (by omega)
    have e3 := digIx_of (v.toNat % 16) (by omega)
    show (⟨letIx ([99, 97, 119, 114].getD (k - 1).toNat 0) + 1, digIx ([48, 49, 50, 51, 52, 53, 54, 55, 56, 57, 97, 98, 99, 100, 101, 102].getD (v.toNat / 16) 0) * 16 + digIx ([48, 49, 50, 51, 52, 53, 54, 55, 56, 57, 97, 98, 99, 100, 101, 102].getD (v.toNat % 16) 0)⟩ : Cyc) = ⟨k, v⟩
    rw [e1, e2, e3]
    congr 1
    · omega
    · omega
  · have key : ∀ k : Nat, k < 4 → [99, 97, 119, 114].getD k (0 : UInt8) ≠ 32 := by decide
    exact key (k - 1).toNat (by omega)
theorem text_cons (c d : Cyc) (l : List Cyc) : cycle_Text_text (c :: d :: l) = cycle_Text_item c ++ 32 :: cycle_Text_text (d :: l) := by
  show cycle_Text_item c ++ (32 :: cycle_Text_item d ++ l.flatMap fun c => 32 :: cycle_Text_item c) = _
  rfl
theorem text_one (c : Cyc) : cycle_Text_text [c] = cycle_Text_item c := List.append_nil _
theorem parse_text : ∀ (l : List Cyc) (n : Nat), l ≠ [] → l.all cycle_Text_right = true → l.all cycle_Text_byte = true → parseL (cycle_Text_text l) n = .inl l
  | [], _, h, _, _ => absurd rfl h
  | [c], n, _, h1, h2 => by
    obtain ⟨a, b, d, e, ha, hb, hd, hc, _⟩ := cyc_eta c (by simpa using h1) (by simpa using h2)
    rw [text_one, e]
    unfold parseL
    rw [if_neg (by omega), if_neg (by omega), if_neg (by omega), hc]
  | c :: d' :: l, n, _, h1, h2 => by
    rw [List.all_cons, Bool.and_eq_true] at h1 h2
    obtain ⟨a, b, d, e, ha, hb, hd, hc, _⟩ := cyc_eta c h1.1 h2.1
    have ih := parse_text (d' :: l) (n + 4) (by simp) h1.2 h2.2
    rw [text_cons, e]
    show parseL (a :: b :: d :: 32 :: cycle_Text_text (d' :: l)) n = _
    rw [parseL, if_neg (by omega), if_neg (by omega), if_neg (by omega), if_neg (by decide), ih]
    dsimp only
    rw [hc]
theorem cyc_item {a b d : UInt8} (ha : 0 ≤ letIx a) (hb : 0 ≤ digIx b) (hd : 0 ≤ digIx d) : cycle_Text_item (cyc a b d) = [a, b, d] ∧ cycle_Text_right (cyc a b d) = true ∧ cycle_Text_byte (cyc a b d) = true := by
  have ra := letIx_range a
  have rb := digIx_range b
  have rd := digIx_range d
  have ea := letIx_back a ha
  have eb := digIx_back b hb
  have ed := digIx_back d hd
  refine ⟨?_, ?_, ?_⟩
  · show [[99, 97, 119, 114].getD (letIx a + 1 - 1).toNat 0, [48, 49, 50, 51, 52, 53, 54, 55, 56, 57, 97, 98, 99, 100, 101, 102].getD ((digIx b * 16 + digIx d).toNat / 16) 0, [48, 49, 50, 51, 52, 53, 54, 55, 56, 57, 97, 98, 99, 100, 101, 102].getD ((digIx b * 16 + digIx d).toNat % 16) 0] = _
    rw [show (letIx a + 1 - 1).toNat = (letIx a).toNat by omega, show (digIx b * 16 + digIx d).toNat / 16 = (digIx b).toNat by omega, show (digIx b * 16 + digIx d).toNat % 16 = (digIx d).toNat by omega, ea, eb, ed]
  · unfold cycle_Text_right
    rw [Bool.and_eq_true, decide_eq_true_eq, decide_eq_true_eq]
    show 1 ≤ letIx a + 1 ∧ letIx a + 1 ≤ 4
    omega
  · unfold cycle_Text_byte
    rw [Bool.and_eq_true, decide_eq_true_eq, decide_eq_true_eq]
    show 0 ≤ digIx b * 16 + digIx d ∧ digIx b * 16 + digIx d < 256
    omega
theorem text_parse : ∀ (s : List UInt8) (n : Nat) (m : List Cyc), parseL s n = .inl m → cycle_Text_text m = s ∧ m.all cycle_Text_right = true ∧ m.all cycle_Text_byte = true ∧ m ≠ [] ∧ 4 * m.length = s.length + 1
  | a :: b :: c :: d :: rest, n, m, h => by
    rw [parseL] at h
    split at h
    · cases h
    rename_i h1
    split at h
    · cases h
    rename_i h2
    split at h
    · cases h
    rename_i h3
    split at h
    · cases h
    rename_i h4
    have hd : d = 32 := by simpa using h4
    obtain ⟨ei, er, eb⟩ := cyc_item (a := a) (b := b) (d := c) (by omega) (by omega) (by omega)
    split at h
    · rename_i m' hm
      obtain ⟨t1, t2, t3, t4, t5⟩ := text_parse rest (n + 4) m' hm
      have e := Sum.inl.inj h
      subst e
      refine ⟨?_, ?_, ?_, by simp, ?_⟩
      · match m', t4, t1 with
        | x :: m'', _, t1 => rw [text_cons, ei, t1, hd]; rfl
      · rw [List.all_cons, er, t2]; rfl
      · rw [List.all_cons, eb, t3]; rfl
      · simp only [List.length_cons]; omega
    · cases h
  | [a, b, c], n, m, h => by
    rw [parseL] at h
    split at h
    · cases h
    rename_i h1
    split at h
    · cases h
    rename_i h2
    split at h
    · cases h
    rename_i h3
    obtain ⟨ei, er, eb⟩ := cyc_item (a := a) (b := b) (d := c) (by omega) (by omega) (by omega)
    have e := Sum.inl.inj h
    subst e
    exact ⟨by rw [text_one, ei], by rw [List.all_cons, er]; rfl, by rw [List.all_cons, eb]; rfl, by simp, by simp⟩
  | [a, b], n, m, h => by
    rw [parseL] at h
    split at h
    · cases h
    split at h <;> cases h
  | [a], n, m, h => by
    rw [parseL] at h
    split at h <;> cases h
  | [], n, m, h => by
    rw [parseL] at h
    cases h
theorem err_range : ∀ (s : List UInt8) (n e : Nat), parseL s n = .inr e → n + 1 ≤ e ∧ e ≤ n + s.length + 1
  | a :: b :: c :: d :: rest, n, e, h => by
    rw [parseL] at h
    simp only [List.length_cons]
    split at h
    · cases h; omega
    split at h
    · cases h; omega
    split at h
    · cases h; omega
    split at h
    · cases h; omega
    split at h
    · cases h
    · rename_i e' hm
      have := err_range rest (n + 4) e' hm
      cases h
      omega
  | [a, b, c], n, e, h => by
    rw [parseL] at h
    simp only [List.length_cons, List.length_nil]
    split at h
    · cases h; omega
    split at h
    · cases h; omega
    split at h
    · cases h; omega
    · cases h
  | [a, b], n, e, h => by
    rw [parseL] at h
    simp only [List.length_cons, List.length_nil]
    split at h
    · cases h; omega
    split at h <;> (cases h; omega)
  | [a], n, e, h => by
    rw [parseL] at h
    simp only [List.length_cons, List.length_nil]
    split at h <;> (cases h; omega)
  | [], n, e, h => by
    rw [parseL] at h
    cases h
    exact ⟨Nat.le_refl _, Nat.le_refl _⟩
end Go.Proofs.Ytpabehkdedhncaa.PureCycleTexts

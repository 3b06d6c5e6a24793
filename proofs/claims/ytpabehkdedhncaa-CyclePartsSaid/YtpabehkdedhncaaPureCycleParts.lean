/-
  CycleParts: two lists' text is their texts with a space between; without the space the parser tells the place. Conditions: the law's own.
-/
import Derived.Test.YtpabehkdedhncaaStmCycleParts
import Derived.Test.YtpabehkdedhncaaCycParseCycleParts
namespace Go.Proofs.Ytpabehkdedhncaa.Pure
open Go.RowKit Go.Proofs.Ytpabehkdedhncaa.QCycleParts Go.Proofs.YtpabehkdedhncaaW.PrintWords Go.Proofs.Ytpabehkdedhncaa.EvKit Go.Proofs.Ytpabehkdedhncaa.PureCycleParts
theorem right_l0 (a : List Cyc) (hb : a.length < 1000000000) (d : Nat) : ∀ i : Nat, i + d = a.length →
    Ev (fun k => incunablelaw10_right.l0 k a (a.length : Int) (i : Int)) ((a.drop i).all cycle_Text_right) := by
  induction d with
  | zero =>
    intro i hi
    refine Ev.step (fun k => incunablelaw10_right.l0.eq_2 ..) ?_
    refine Ev.neg (by omega) (Ev.ret ?_)
    rw [List.drop_of_length_le (by omega)]
    rfl
  | succ d ih =>
    intro i hi
    refine Ev.step (fun k => incunablelaw10_right.l0.eq_2 ..) ?_
    refine Ev.pos (by omega) (Ev.pos (by omega) (Ev.pos (by omega) ?_))
    rw [drop_rdT (l := a) (i := i) (by omega), List.all_cons]
    generalize rd_T42 a (i : Int) = x
    unfold cycle_Text_right
    refine Ev.ite (fun h => Ev.ret ?_) (fun h => Ev.ite (fun h2 => Ev.ret ?_) (fun h2 => ?_))
    · rw [decide_eq_false (by omega)]; rfl
    · rw [decide_eq_false (p := x.f0 ≤ 4) (by omega), Bool.and_false]; rfl
    · rw [decide_eq_true (by omega), decide_eq_true (by omega), w64_succ (by omega)]
      exact ih (i + 1) (by omega)
theorem right_ev (a : List Cyc) (hb : a.length < 1000000000) : Ev (fun k => incunablelaw10_right.f k a) (a.all cycle_Text_right) := by
  refine Ev.congr (fun k => by rw [incunablelaw10_right.f]) ?_
  exact right_l0 a hb a.length 0 (by omega)
theorem text_app : ∀ (a b : List Cyc), a ≠ [] → b ≠ [] → cycle_Text_text (a ++ b) = cycle_Text_text a ++ 32 :: cycle_Text_text b
  | [], _, h, _ => absurd rfl h
  | [c], d :: l, _, _ => by
    show cycle_Text_text (c :: d :: l) = _
    rw [text_cons, text_one]
  | c :: c' :: l, b, _, hb => by
    show cycle_Text_text (c :: c' :: (l ++ b)) = _
    have ih := text_app (c' :: l) b (by simp) hb
    rw [text_cons, text_cons, List.append_assoc]
    show _ ++ 32 :: cycle_Text_text (c' :: l ++ b) = _
    rw [ih]
    rfl
theorem glue : ∀ (a : List Cyc) (n : Nat) (h : UInt8) (t : List UInt8), a ≠ [] → a.all cycle_Text_right = true → a.all cycle_Text_byte = true → h ≠ 32 →
    parseL (cycle_Text_text a ++ h :: t) n = .inr (n + (cycle_Text_text a).length + 1)
  | [], _, _, _, h, _, _, _ => absurd rfl h
  | [c], n, h, t, _, h1, h2, hh => by
    obtain ⟨x, y, z, e, hx, hy, hz, _, _⟩ := cyc_eta c (by simpa using h1) (by simpa using h2)
    rw [text_one, e]
    show parseL (x :: y :: z :: h :: t) n = _
    rw [parseL, if_neg (by omega), if_neg (by omega), if_neg (by omega), if_pos hh]
    rfl
  | c :: d' :: l, n, h, t, _, h1, h2, hh => by
    rw [List.all_cons, Bool.and_eq_true] at h1 h2
    obtain ⟨x, y, z, e, hx, hy, hz, _, _⟩ := cyc_eta c h1.1 h2.1
    have ih := glue (d' :: l) (n + 4) h t (by simp) h1.2 h2.2 hh
    rw [text_cons, e]
    show parseL (x :: y :: z :: 32 :: (cycle_Text_text (d' :: l) ++ h :: t)) n = _
    rw [parseL, if_neg (by omega), if_neg (by omega), if_neg (by omega), if_neg (by decide), ih]
    dsimp only
    congr 1
    simp only [List.cons_append, List.nil_append, List.length_cons]
    omega
theorem text_head {b : List Cyc} (hb : b ≠ []) (h1 : b.all cycle_Text_right = true) (h2 : b.all cycle_Text_byte = true) : ∃ h t, cycle_Text_text b = h :: t ∧ h ≠ 32 := by
  match b, hb with
  | c :: l, _ =>
    rw [List.all_cons, Bool.and_eq_true] at h1 h2
    obtain ⟨x, y, z, e, _, _, _, _, hx⟩ := cyc_eta c h1.1 h2.1
    exact ⟨x, _, by show cycle_Text_item c ++ _ = _; rw [e]; rfl, hx⟩
theorem CycleParts : StmCycleParts := by
  intro a b _ hwa _ hwb
  refine Ev.rounds (Ev.congr (fun k => by rw [incunablelaw10_CycleParts.f]) ?_)
  refine Ev.bindv awake (Ev.pos rfl ?_)
  have hj : Ev (fun k => incunablelaw10_CycleParts.j0 k a b true) true := Ev.step (fun k => incunablelaw10_CycleParts.j0.eq_2 ..) (Ev.pos rfl (Ev.ret rfl))
  refine Ev.ite (fun _ => hj) (fun ha => Ev.ite (fun _ => hj) (fun hb => Ev.ite (fun _ => hj) (fun ha0 => Ev.ite (fun _ => hj) (fun hb0 => ?_))))
  have ba := byte_all (fun x hx => (hwa.2 x hx).2)
  have bb := byte_all (fun x hx => (hwb.2 x hx).2)
  refine Ev.bind (right_ev a (by omega)) (Ev.ite (fun ra => Ev.bind (right_ev b (by omega)) ?_) (fun _ => hj))
  by_cases rb : b.all cycle_Text_right = true
  · rw [rb]
    have na : a ≠ [] := fun e => ha0 (by rw [e]; rfl)
    have nb : b ≠ [] := fun e => hb0 (by rw [e]; rfl)
    refine Ev.step (fun k => incunablelaw10_CycleParts.j0.eq_2 ..) ?_
    refine Ev.neg (by decide) (Ev.bindv rfl (Ev.pos (by show 0 + a.length < _; omega) (Ev.bindv rfl (Ev.pos (by show a.length + b.length < _; omega) (Ev.bindv rfl ?_)))))
    simp only [List.nil_append]
    have rab : (a ++ b).all cycle_Text_right = true := by rw [List.all_append, ra, rb]; rfl
    have bab : (a ++ b).all cycle_Text_byte = true := by rw [List.all_append, ba, bb]; rfl
    have sa := cycle_Text_text_length a
    have sb := cycle_Text_text_length b
    refine Ev.bindv (text_f ba (by omega)) (Ev.bindv (text_f bb (by omega)) (Ev.bindv (text_f (l := a ++ b) bab (by rw [List.length_append]; omega)) ?_))
    rw [if_pos ra, if_pos rb, if_pos rab]
    obtain ⟨h, t, et, hh⟩ := text_head nb rb bb
    have e1 : parseT ((⟨(cycle_Text_text a).toArray⟩ : ByteArray) ++ (⟨#[32]⟩ : ByteArray) ++ (⟨(cycle_Text_text b).toArray⟩ : ByteArray)).data.toList = .inl (a ++ b) := by
      rw [← parseT_text rab bab, text_app a b na nb]
      simp
    have e2 : parseT ((⟨(cycle_Text_text a).toArray⟩ : ByteArray) ++ (⟨(cycle_Text_text b).toArray⟩ : ByteArray)).data.toList = .inr ((cycle_Text_text a).length + 1) := by
      have g := glue a 0 h t na ra ba hh
      rw [Nat.zero_add] at g
      have el : ((⟨(cycle_Text_text a).toArray⟩ : ByteArray) ++ (⟨(cycle_Text_text b).toArray⟩ : ByteArray)).data.toList = cycle_Text_text a ++ h :: t := by
        simp [et]
      unfold parseT
      rw [el, if_neg (by simp), g]
    have za : (⟨(cycle_Text_text a).toArray⟩ : ByteArray).size = (cycle_Text_text a).length := by
      show (cycle_Text_text a).toArray.size = _
      rw [List.size_toArray]
    have zb : (⟨(cycle_Text_text b).toArray⟩ : ByteArray).size = (cycle_Text_text b).length := by
      show (cycle_Text_text b).toArray.size = _
      rw [List.size_toArray]
    have zs : (⟨#[32]⟩ : ByteArray).size = 1 := rfl
    generalize hX : (⟨(cycle_Text_text a).toArray⟩ : ByteArray) = X at e1 e2 za
    generalize hY : (⟨(cycle_Text_text b).toArray⟩ : ByteArray) = Y at e1 e2 zb
    have q1 : X.size + 1 ≤ 9223372036854775807 := by omega
    have q2 : (X ++ (⟨#[32]⟩ : ByteArray)).size + Y.size ≤ 9223372036854775807 := by rw [ByteArray.size_append]; omega
    have q3 : X.size + Y.size ≤ 9223372036854775807 := by omega
    have q4 : (X ++ (⟨#[32]⟩ : ByteArray) ++ Y).size ≤ 67108864 := by rw [ByteArray.size_append, ByteArray.size_append]; omega
    have q5 : (X ++ Y).size ≤ 67108864 := by rw [ByteArray.size_append]; omega
    refine Ev.pos q1 (Ev.pos q2 ?_)
    refine Ev.bind (parse_ev q4) ?_
    rw [e1]
    refine Ev.pos q3 ?_
    refine Ev.bind (parse_ev q5) ?_
    rw [e2]
    refine Ev.pos rfl (Ev.pos rfl (Ev.pos rfl (Ev.pos ?_ (Ev.pos rfl (Ev.pos rfl ?_)))))
    · rw [ByteArray.toList_eq, ByteArray.toList_eq]
      show cycle_Text_text (a ++ b) = (X ++ ⟨#[32]⟩ ++ Y).data.toList
      rw [text_app a b na nb, ← hX, ← hY]
      simp
    · refine Ev.bind (same_ev ([] ++ (a ++ b)) (a ++ b) (by simp only [List.nil_append, List.length_append]; omega)) (Ev.pos (decide_eq_true rfl) (Ev.pos rfl (Ev.ret ?_)))
      show ((((cycle_Text_text a).length + 1 : Nat) : Int) == wrap64 ((X.size : Int) + 1)) = true
      rw [beq_iff_eq, w64_succ (by omega), za]
  · rw [Bool.eq_false_iff.mpr rb]
    exact hj
end Go.Proofs.Ytpabehkdedhncaa.Pure

import Derived.Test.YtmehbabchakkpaaMLadderWalksx1
import Derived.RangeFuncNested
import Derived.RangeFuncBound
import Derived.RangeFuncCalls
import Derived.RangeFuncLeaves
import Derived.RangeFuncFrom
import Derived.Shelf.Abstract
import Derived.OwnWalkIn
import Derived.TacticsInMore
import Derived.LoopNIn
import Derived.LoopIn
import Derived.Outline
import Derived.Test.YtmehbabchakkpaaProg
import Derived.WalkSpells
import Derived.Lib.SliceRun
import Derived.Lib.BufferMore
import Derived.LoopN
import Derived.WalkSmall
namespace Go.Proofs.Ytmehbabchakkpaa.Pieces
set_option linter.unusedVariables false
open Go.RowKit YtmehbabchakkpaaW.PrintWords
def Stays (G B : Nat) (W W' : World) : Prop := W.heap.size ≤ W'.heap.size ∧ ∀ k, k < W.heap.size → (k < G ∨ k = B ∨ k = B + 1) → W'.heap[k]? = W.heap[k]?
theorem Stays.trans {G B : Nat} {X Y Z : World} (h : Stays G B X Y) (k : Stays G B Y Z) : Stays G B X Z := ⟨Nat.le_trans h.1 k.1, fun i hi hc => (k.2 i (Nat.lt_of_lt_of_le hi h.1) hc).trans (h.2 i hi hc)⟩
theorem Stays.refl (G B : Nat) (W : World) : Stays G B W W := ⟨Nat.le_refl _, fun _ _ _ => rfl⟩
theorem Stays.of_below {G B : Nat} {W W' : World} (h : Below W.heap.size W W') : Stays G B W W' := ⟨h.size, fun k hk _ => h.block k hk⟩
theorem Stays.of_grown {G B : Nat} {W W' : World} {row : Option Nat} (h : W.grownBy W' row) (hr : ∀ r, row = some r → G ≤ r ∧ r ≠ B ∧ r ≠ B + 1) : Stays G B W W' :=
 ⟨h.size, fun k hk hc => h.block k hk (fun e => by have := hr k e.symm; omega)⟩
theorem Stays.set {G B : Nat} {W W' : World} (h : Stays G B W W') {a : Addr} (v : Value) (ha : G ≤ a.block ∧ a.block ≠ B ∧ a.block ≠ B + 1) : Stays G B W (W'.setCell a v) :=
 h.trans ⟨by simp, fun k _ hc => Below.heap_setCell W' a v k (by omega)⟩
def PiecesC (F : Fence) (n : Nat) (P : Program) (gf G B : Nat) (lb : Array Value) (m : Nat) (A : Option Addr) (c : Nat) (L : List Int) (w : World) : Prop :=
 ∀ (l : Nat) (J : List Int → World → Prop) (Jx : World → Prop) (W : World), Below w.heap.size w W →
  (∀ s W v, J s W → J s (W.setCell ⟨B, 0, none⟩ v)) →
  (∀ (A' : Option Addr) (c' : Nat) (L' : List Int) (W1 : World), L' ≠ [] → m ≤ L'.length → L'.length % m = 0 → (L'.take m).length ≤ c' → J L' W1 → Kd.C (Kd.int .u8) W1 A' (L'.take m).length (L'.take m) → YieldAt F (n - 1) P l #[.slice A' (L'.take m).length c'] W1 fun e W' =>
   (e = .returned (.bool true) ∧ J (L'.drop m) W' ∧ Stays G B W1 W') ∨ (e = .returned (.bool false) ∧ Jx W')) →
  J L W → CallsIn F n P gf (#[.func (.yield l) #[] #[]] ++ lb) W fun e W' => (∃ v, e = .returned v) ∧ (J [] W' ∨ Jx W')
def piecesPost (G B : Nat) (I : World → Prop) (Ix : Code → World → Prop) (W : World) : Exit → Act → World → Prop
 | .normal, _, W' => KeepsOthers W W' ∧ Stays G B W W' ∧ I W'
 | .ret, _, W' => KeepsOthers W W' ∧ Ix .ret W'
 | _, _, _ => False
variable {F : Fence} {n : Nat} {P : Program}
def Cells (B2 : Nat) (I : World → Prop) : Prop := ∀ W W' row, I W → W.grownBy W' row → (∀ r, row = some r → B2 ≤ r ∧ ∃ o : Obj, W.heap[r]? = some o ∧ o.isCells = false) → I W'
theorem Cells.putObj {B2 : Nat} {I : World → Prop} (h : Cells B2 I) {W : World} {l : Nat} {o : Obj} (o' : Obj) (hs : I W) (hB : B2 ≤ l) (hl : W.heap[l]? = some o) (ho : o.isCells = false) : I (W.putObj l o') :=
 h W _ (some l) hs (grownBy_putObj' W l o') (fun r e => by cases e; exact ⟨hB, o, hl, ho⟩)
theorem Cells.alloc {B2 : Nat} {I : World → Prop} (h : Cells B2 I) {W : World} (o : Obj) (hs : I W) : I (W.alloc o) :=
 h W _ none hs (World.grownBy_alloc W o none) (fun r e => by cases e)
theorem Cells.and {B2 : Nat} {I I' : World → Prop} (h : Cells B2 I) (h' : Cells B2 I') : Cells B2 (fun W => I W ∧ I' W) := fun W W' row hs hg hr => ⟨h W W' row hs.1 hg hr, h' W W' row hs.2 hg hr⟩
theorem wpIn_rangeFunc_pieces {g : Operand} {ps : Array Tmp} {assign body : Code} {Q : Exit → Act → World → Prop} {a : Act} {w : World}
  (hro : F.round = none) (h1 : 1 ≤ n) {gf : Nat} {lb : Array Value} (hg : a.eval g = .func (.func gf) #[] lb) (hFg : F.fn gf) (eg : ∀ args w, (callFunc gf args).run P w = .ok (.enter gf args) w)
  {G B m : Nat} {A : Option Addr} {c : Nat} {L : List Int} {w0 : World} (hGB : G ≤ B) (hseq : PiecesC F (n - 1) P gf G B lb m A c L w0) (hb0 : Below w0.heap.size w0 w) (hB : B + 2 ≤ w.heap.size) (hps : ps.size = 1)
  (I : List Int → World → Prop) (Ix : Code → World → Prop) (hI : ∀ s, Cells (B + 2) (I s)) (hIx : ∀ c, Cells (B + 2) (Ix c)) (hIB : ∀ s W v, I s W → I s (W.setCell ⟨B, 0, none⟩ v)) (h0 : I L w) (a₁ : Value → Act)
  (hassign : ∀ (l : Nat) (x : Value) (W : World) (K : Act → World → Prop), K (a₁ x) W →
   assign.wpIn (F.inRound l) (n - 1 - 1) P (Exit.then K (fun _ _ _ => False)) { tmps := (ps.zip #[x]).foldl (fun t (p, v) => t.setIfInBounds p v) a.tmps, defers := [] } W)
  (hbody : ∀ (l : Nat) (A' : Option Addr) (c' : Nat) (L' : List Int) (W : World), L' ≠ [] → m ≤ L'.length → L'.length % m = 0 → (L'.take m).length ≤ c' → I L' W → w.heap.size + 2 ≤ W.heap.size → Kd.C (Kd.int .u8) W A' (L'.take m).length (L'.take m) → body.wpIn (F.inRound l) (n - 1 - 1) P (piecesPost G B (I (L'.drop m)) Ix W) (a₁ (.slice A' (L'.take m).length c')) W)
  (hdone : ∀ (D : Nat) (W : World), I [] W → w.heap.size ≤ D → W.heap[D]? = some (.deferred (some [])) → Q .normal { a with defers := { target := .collected D, args := #[] } :: a.defers } W)
  (hstop : ∀ (D : Nat) (c : Code) (W : World), Ix c W → w.heap.size ≤ D → W.heap[D]? = some (.deferred (some [])) → c.wpIn F n P Q { a with defers := { target := .collected D, args := #[] } :: a.defers } W) :
  (Code.rangeFunc g ps assign body).wpIn F n P Q a w := by
 refine wpIn_rangeFunc ?_
 intro fn hfn
 rw [hro]
 obtain ⟨rec, hrec⟩ : ∃ rec : LoopState → Option Code → Loop, rec = fun st pe => { state := st, pending := pe, fn, tmps := a.tmps, params := ps, assign, body, defers := w.heap.size } := ⟨_, rfl⟩
 obtain ⟨W1, hW1⟩ : ∃ W1, (w.alloc (.deferred (some []))).alloc (.loop (rec .ready none)) = W1 := ⟨_, rfl⟩
 have hL1 : W1.heap[w.heap.size + 1]? = some (.loop (rec .ready none)) := by
  rw [← hW1]; have := World.alloc_heap_new (w.alloc (.deferred (some []))) (.loop (rec .ready none)); rwa [World.size_alloc] at this
 have hK1 : W1.heap[w.heap.size]? = some (.deferred (some [])) := by
  rw [← hW1]; exact (Below.heap_alloc _ _ _ (by simp)).trans (World.alloc_heap_new w _)
 have hI1 : I L W1 := by rw [← hW1]; exact (hI L).alloc _ ((hI L).alloc _ h0)
 have hb1 : Below w0.heap.size w0 W1 := by
  rw [← hW1]; exact hb0.trans ((((Below.refl _ w).alloc (Nat.le_refl _) _).alloc (by simp) _).mono hb0.size)
 refine ⟨w.heap.size + 1, [{ target := .collected w.heap.size, args := #[] }], W1, { target := .fn (.func gf) lb, args := #[.func (.yield (w.heap.size + 1)) #[] #[]] }, W1, gf,
  #[.func (.yield (w.heap.size + 1)) #[] #[]] ++ lb, W1, ?_, ?_, ?_, ?_, fun _ => h1, ?_⟩
 ·rw [← hW1, hrec]; exact run_enterLoop_outer _ _ _ _ _
 ·simp only [resolve, hg]
  simp [go_sem]
 ·intro f' hf'; simp [Target.leads] at hf'; subst hf'; exact hFg
 ·simp [invoke, go_sem, eg]
 ·have hset : ∀ (W : World) (v : Value) (k : Nat) (o : Obj), B < k → W.heap[k]? = some o → (W.setCell ⟨B, 0, none⟩ v).heap[k]? = some o := fun W v k o hk h => (Below.heap_setCell W ⟨B, 0, none⟩ v k (by show k ≠ B; omega)).trans h
  refine (hseq (w.heap.size + 1)
   (fun s W => I s W ∧ W.heap[w.heap.size + 1]? = some (.loop (rec .ready none)) ∧ W.heap[w.heap.size]? = some (.deferred (some [])))
   (fun W => ∃ c, Ix c W ∧ W.heap[w.heap.size + 1]? = some (.loop (rec .done (some c))) ∧ W.heap[w.heap.size]? = some (.deferred (some [])))
   W1 hb1
   (fun s W v ⟨h1, h2, h3⟩ => ⟨hIB s W v h1, hset W v _ _ (by omega) h2, hset W v _ _ (by omega) h3⟩)
   ?_ ⟨hI1, hL1, hK1⟩).mono ?_
  ·-- one round
   rintro A' c' L' W hne hml hmod hlc ⟨hi, hl, hk⟩ hC
   have hlt : w.heap.size + 1 < W.heap.size := (Array.getElem?_eq_some_iff.1 hl).1
   have hy := run_yield (P := P) (args := #[.slice A' (L'.take m).length c']) hl (by rw [hrec]; exact hps.symm)
   rw [hrec] at hy
   refine ⟨fn, _, assign, body, hy, roundIn_of_wpIn hfn (hassign _ _ W _ ⟨_, run_beginRound hl (by rw [hrec]), ?_⟩)⟩
   have hl2 : (W.putObj (w.heap.size + 1) (.loop { rec .ready none with state := .busy })).heap[w.heap.size + 1]? = some (.loop { rec .ready none with state := .busy }) := World.putObj_heap_same hlt
   have hk2 : (W.putObj (w.heap.size + 1) (.loop { rec .ready none with state := .busy })).heap[w.heap.size]? = some (.deferred (some [])) := (World.putObj_heap_other (by omega)).trans hk
   have hC2 : Kd.C (Kd.int .u8) (W.putObj (w.heap.size + 1) (.loop { rec .ready none with state := .busy })) A' (L'.take m).length (L'.take m) := by
    refine ⟨hC.1, hC.2.1, fun hp => ?_⟩
    obtain ⟨ad, e, hc⟩ := hC.2.2 hp
    refine ⟨ad, e, fun j p hj => ?_⟩
    obtain ⟨cs, h1, h2, h3⟩ := hc j p hj
    exact ⟨cs, h1, h2, fun i u hu => cell_kept (h3 i u hu) (grownBy_putObj' W _ _) (fun r e => by cases e; exact ⟨_, hl, rfl⟩)⟩
   have hput : ∀ (X : World) (o : Obj), Stays G B X (X.putObj (w.heap.size + 1) o) := fun X o => Stays.of_grown (grownBy_putObj' X _ o) (fun r e => by cases e; omega)
   have hw2 : Stays G B W (W.putObj (w.heap.size + 1) (.loop { rec .ready none with state := .busy })) := hput W _
   refine wpIn_mono (hbody _ A' c' L' _ hne hml hmod hlc ((hI L').putObj _ hi (by omega) hl rfl) (by simp [World.putObj]; omega) hC2) ?_
   have fin : ∀ (jump : Option Code) (W3 : World), KeepsOthers (W.putObj (w.heap.size + 1) (.loop { rec .ready none with state := .busy })) W3 →
     (Instr.endRound (w.heap.size + 1) jump).run P W3 = .ok (.bool jump.isNone) (W3.putObj (w.heap.size + 1) (.loop (rec (if jump.isNone then .ready else .done) jump))) ∧
     W3.heap[w.heap.size + 1]? = some (.loop { rec .ready none with state := .busy }) ∧
     (W3.putObj (w.heap.size + 1) (.loop (rec (if jump.isNone then .ready else .done) jump))).heap[w.heap.size + 1]? = some (.loop (rec (if jump.isNone then .ready else .done) jump)) ∧
     (W3.putObj (w.heap.size + 1) (.loop (rec (if jump.isNone then .ready else .done) jump))).heap[w.heap.size]? = some (.deferred (some [])) := fun jump W3 hk3 => by
    have hl3 := hk3.same _ _ hl2 rfl
    have := run_endRound (P := P) jump hl3
    rw [hrec] at this ⊢
    exact ⟨this, by rw [hrec] at hl3; exact hl3, World.putObj_heap_same (Array.getElem?_eq_some_iff.1 hl3).1, (World.putObj_heap_other (by omega)).trans (hk3.same _ _ hk2 rfl)⟩
   rintro e a3 W3 hp
   cases e with
   | normal =>
    obtain ⟨hk3, hkp3, hi3⟩ := hp
    obtain ⟨hr, hl3, hl4, hk4⟩ := fin none W3 hk3
    exact ⟨_, _, hr, .inl ⟨rfl, ⟨(hI _).putObj _ hi3 (by omega) hl3 rfl, hl4, hk4⟩, (hw2.trans hkp3).trans (hput W3 _)⟩⟩
   | ret =>
    obtain ⟨hk3, hi3⟩ := hp
    obtain ⟨hr, hl3, hl4, hk4⟩ := fin (some .ret) W3 hk3
    exact ⟨_, _, hr, .inr ⟨rfl, .ret, (hIx _).putObj _ hi3 (by omega) hl3 rfl, hl4, hk4⟩⟩
   | exit id => exact hp.elim
   | goto t => exact hp.elim
   | panic ch => exact hp.elim
   | outgrown => exact hp.elim
  ·-- behind the iterator
   rintro e W2 ⟨⟨v, rfl⟩, (⟨hi, hl, hk⟩ | ⟨c, hi, hl, hk⟩)⟩
   ·exact ⟨none, _, by have := run_endLoop (P := P) hl (by rw [hrec]; simp); rw [hrec] at this; exact this, hdone _ _ ((hI _).putObj _ hi (by omega) hl rfl) (Nat.le_refl _) ((World.putObj_heap_other (by omega)).trans hk)⟩
   ·exact ⟨some c, _, by have := run_endLoop (P := P) hl (by rw [hrec]; simp); rw [hrec] at this; exact this, hstop _ c _ ((hIx c).putObj _ hi (by omega) hl rfl) (Nat.le_refl _) ((World.putObj_heap_other (by omega)).trans hk)⟩
end Go.Proofs.Ytmehbabchakkpaa.Pieces
namespace Go.Proofs.Ytmehbabchakkpaa.Read
open Go.RowKit YtmehbabchakkpaaW.PrintWords
def IsRow {α : Type} (d : Kd α) (w : World) (v : Value) (xs : List α) : Prop := ∃ A c, v = .slice A xs.length c ∧ xs.length ≤ c ∧ Kd.C d w A xs.length xs
theorem c3_ {α : Type} {d : Kd α} {w : World} {v0 v1 v2 : Value} {x0 x1 x2 : List α} (h0 : IsRow d w v0 x0) (h1 : IsRow d w v1 x1) (h2 : IsRow d w v2 x2) : ∀ (j : Nat) (x : List α), ([x0, x1, x2] : List (List α))[j]? = some x → ∃ v, (#[v0, v1, v2] : Array Value)[j]? = some v ∧ IsRow d w v x := by
 intro j x h
 match j, h with
 | 0, h => exact ⟨v0, rfl, by cases h; exact h0⟩
 | 1, h => exact ⟨v1, rfl, by cases h; exact h1⟩
 | 2, h => exact ⟨v2, rfl, by cases h; exact h2⟩
 | j + 3, h => cases h
section
variable {P : Program}
theorem cutT {k : IntKind} (t e : TypeId) {i : TypeInfo} (ht : P.underlying t = some (.slice e)) (hi : P.info? e = some i) (hsz : i.size = 1) (A : Option Addr) (c : Nat) (xs : List Int) (m : Nat) (hm : m ≤ xs.length) (hc : xs.length ≤ c) :
  ∃ L : List Int, L = xs.take m ∧ (∀ W : World, (Instr.slice t (.slice A xs.length c) none (some (.int .i64 (m : Int))) none).run P W = .ok (.slice A L.length c) W) ∧ (∀ w : World, Kd.C (Kd.int k) w A xs.length xs → Kd.C (Kd.int k) w A L.length L) ∧ L.length ≤ c := by
 obtain ⟨h1, _, h3⟩ := print_take_of (P := P) (Value.int .u8) 0 t e .i64 ht hi hsz A c xs (m : Int) (by omega) (by omega) hc
 rw [Int.toNat_natCast] at h1 h3
 exact ⟨_, rfl, h1, fun w h => Kd.C_take h hm, h3⟩
theorem cutD {k : IntKind} (t e : TypeId) {i : TypeInfo} (ht : P.underlying t = some (.slice e)) (hi : P.info? e = some i) (hsz : i.size = 1) (A : Option Addr) (c : Nat) (xs : List Int) (m : Nat) (hm : m ≤ xs.length) (hc : xs.length ≤ c) :
  ∃ (L : List Int) (A' : Option Addr) (c' : Nat), L = xs.drop m ∧ (∀ W : World, (Instr.slice t (.slice A xs.length c) (some (.int .i64 (m : Int))) none none).run P W = .ok (.slice A' L.length c') W) ∧ (∀ w : World, Kd.C (Kd.int k) w A xs.length xs → Kd.C (Kd.int k) w A' L.length L) ∧ L.length ≤ c' := by
 obtain ⟨A', h1, h2, h3⟩ := print_drop_of (P := P) (Value.int k) 0 t e .i64 ht hi hsz A c xs (m : Int) (by omega) (by omega) hc
 rw [Int.toNat_natCast] at h1 h2 h3
 exact ⟨_, A', _, rfl, h1, fun w h => Kd.C_of_reads (h1 := fun _ => rfl) (h2 w (Kd.reads_of_C h)), h3⟩
end
end Go.Proofs.Ytmehbabchakkpaa.Read
namespace Go.Proofs.Ytmehbabchakkpaa.Pieces
open Go.RowKit Go.Shelf YtmehbabchakkpaaW.PrintWords Go.Proofs.Ytmehbabchakkpaa.Read
attribute [local go_sem] Oper.semAt_some
set_option linter.unusedVariables false
def left (B : Nat) (w : World) : Nat := match w.heap[B]? with
 | some (.cells cs _ _) => (match (cs[0]? : Option Value) with
  | some (Value.slice _ k _) => k
  | _ => 0)
 | _ => 0
theorem left_of {B : Nat} {w : World} {A : Option Addr} {n c t : Nat} (h : w.heap[B]? = some (.cells #[.slice A n c] t (0, 0))) : left B w = n := by simp [left, h]
theorem infou8 : (Try.prog.info? 5).map (fun i => (i.zero, i.size, i.bytes)) = some (some (.int .u8 0), 1, 1) := by kernel_rfl
set_option maxRecDepth 100000 in
set_option maxHeartbeats 2000000 in
theorem pieces1_in (F : Fence) (n : Nat) (hF : F.fn 95) (hro : F.round = none) (hn : 1 ≤ n) (G B m : Nat) (hGB : G ≤ B) (hm : 3 ≤ m ∧ m ≤ 514) (A : Option Addr) (c : Nat) (L : List Int) (hLm : L.length % m = 0) (w : World)
  (hBw : B + 1 < w.heap.size) (hlc : L.length ≤ c) (hread : Kd.F (Kd.int .u8) w (fun k => k < G) A L.length L) (hb : w.heap[B]? = some (.cells #[.slice A L.length c] 24 (0, 0))) (hs : w.heap[B + 1]? = some (.cells #[.int .i64 ((m : Int) - 2)] 3 (0, 0))) :
  PiecesC F n Try.prog 95 G B #[.pointer (some ⟨B, 0, none⟩), .pointer (some ⟨B + 1, 0, none⟩)] m A c L w := by
 intro l J Jx W hW hJB hY h0
 have HM := hm.1
 have HM2 := hm.2
 have HJB := Aside0.mk hJB
 have HY := Aside0.mk hY
 have HR := Aside0.mk (Kd.F_below hread hW)
 have HB := Aside0.mk (blk_below hb hW)
 have HS := Aside0.mk (blk_below hs hW)
 have HLC := Aside0.mk hlc
 have HLM := Aside0.mk hLm
 have HJ0 := Aside0.mk h0
 clear hJB hY hread hb hs hlc hLm h0 hW hBw hm
 obtain ⟨ii, hii, hz_, hsz, hb_⟩ := info_parts infou8
 have HII := Aside0.mk hii
 have HSZ := Aside0.mk hsz
 clear hii hsz hz_ hb_
 refine callsIn_of_wp Try.func95 rfl hF ?_ hro
 simp only [Try.ntmps95, List.size_toArray, List.length_cons, List.length_nil, Nat.reduceAdd, Nat.reduceSub, Array.replicate_succ, Array.replicate_zero, List.push_toArray, List.append_toArray, List.nil_append, List.cons_append]
 gi_wp2
 gi_loopw [4] (fun _ wr => ∃ (A' : Option Addr) (c' : Nat) (L' : List Int), L'.length ≤ c' ∧ L'.length ≤ L.length ∧ Aside0 (L'.length % m = 0) ∧ Aside0 (Kd.F (Kd.int .u8) wr (fun k => k < G) A' L'.length L') ∧ Aside0 (wr.heap[B]? = some (.cells #[.slice A' L'.length c'] 24 (0, 0))) ∧ Aside0 (wr.heap[B + 1]? = some (.cells #[.int .i64 ((m : Int) - 2)] 3 (0, 0))) ∧ Aside0 (J L' wr)) (fun _ wr => left B wr)
 case atStart => exact ⟨A, c, L, HLC.out, Nat.le_refl _, HLM, HR, HB, HS, HJ0⟩
 case round =>
  clear HR HB HS HLC HLM HJ0
  obtain ⟨A', c', L', hlc, hll, HLM, HR, HB, HS, HJ⟩ := hrel
  have hcB := blk_cell HB.out 0
  have hfB := blk_frozen HB.out 0
  have hcS := blk_cell HS.out 0
  by_cases hlt : 0 < L'.length
  ·have hml : m ≤ L'.length := Nat.le_of_dvd hlt (Nat.dvd_of_mod_eq_zero HLM.out)
   have hmax := Kd.F_max HR.out
   obtain ⟨L1, hL1, hT, hTc, hTl⟩ := cutT (P := Try.prog) (k := .u8) 24 5 Try.underlying24 HII.out HSZ.out A' c' L' m hml hlc
   obtain ⟨L2, A2, c2, hL2, hD, hDc, hDl⟩ := cutD (P := Try.prog) (k := .u8) 24 5 Try.underlying24 HII.out HSZ.out A' c' L' m hml hlc
   have hy := HY.out A' c' L' wr (fun e => by rw [e] at hlt; exact absurd hlt (Nat.lt_irrefl 0)) hml HLM.out (by rw [← hL1]; exact hTl) HJ.out (by rw [← hL1]; exact hTc wr (Kd.F_now HR.out))
   rw [← hL1, ← hL2] at hy
   obtain ⟨fn, tmps, assign, body, hy, hR⟩ := hy
   have RR := Aside0.mk hR
   have w1_ : wrap64 ((m : Int) - 2 + 2) = (m : Int) := by unfold wrap64; omega
   have w2_ : (m : Int) - 2 + 2 = (m : Int) := by omega
   have w3_ : IntKind.i64.wrap ((m : Int) - 2 + 2) = (m : Int) := by rw [IntKind.wrap_i64]; unfold wrap64 at w1_; exact w1_
   have d1_ : decide ((L'.length : Int) > 0) = true := decide_eq_true (by omega)
   have d2_ : decide (0 < L'.length) = true := decide_eq_true hlt
   have HL1 := Aside0.mk hL1
   have HL2 := Aside0.mk hL2
   have HDc := Aside0.mk hDc
   have HDl := Aside0.mk hDl
   clear hL1 hL2 hDc hDl
   have HLT := Aside0.mk hlt
   have HLF := Aside0.mk (left_of HB.out)
   have HML := Aside0.mk hml
   clear hR hlt hml hmax hTc hTl
   gi_wp2
   refine RR.out.mono ?_
   rintro e W3 (⟨rfl, hJ3, hk3⟩ | ⟨rfl, hJx3⟩)
   ·have hb3 := (hk3.2 B (blk_lt HB.out) (by omega)).trans HB.out
    have hs3 := (hk3.2 (B + 1) (blk_lt HS.out) (by omega)).trans HS.out
    have HB3 := Aside0.mk hb3
    have HS3 := Aside0.mk hs3
    have HJ3 := Aside0.mk hJ3
    have HR3 := Aside0.mk (Kd.F_step HR.out (fun k hk hlt => hk3.2 k hlt (by omega)))
    have hcB3 := blk_cell hb3 0
    have hfB3 := blk_frozen hb3 0
    have hcS3 := blk_cell hs3 0
    clear hb3 hs3 hJ3 hk3 HR HB HS HJ hcB hfB hcS
    gi_wp2
    go_roundw
    case rel => exact ⟨A2, c2, L2, HDl.out, by rw [HL2.out, List.length_drop]; omega, ⟨by rw [HL2.out, List.length_drop, ← Nat.mod_eq_sub_mod HML.out]; exact HLM.out⟩, ⟨Kd.F_far (Kd.F_imp HR3.out (fun W' h => HDc.out W' h)) (fun k hk => by show k ≠ B; omega) _⟩, ⟨blk_set HB3.out 0 _⟩, ⟨blk_far HS3.out (by show B + 1 ≠ B; omega) _⟩, ⟨HJB.out _ _ _ HJ3.out⟩⟩
    case measure =>
     have h1 := left_of (B := B) (blk_set HB3.out 0 (.slice A2 L2.length c2))
     rw [h1, HLF.out, HL2.out, List.length_drop]
     have := HML.out
     omega
   ·gi_wp2
    refine bodyPost_ret (results_none rfl _ _ _) rfl ?_
    exact ⟨⟨_, rfl⟩, .inr hJx3⟩
  ·obtain rfl : L' = [] := List.eq_nil_of_length_eq_zero (by omega)
   gi_wp2
   go_end0
   exact ⟨⟨_, rfl⟩, .inl HJ.out⟩
set_option maxHeartbeats 1000000 in
theorem pieces_in (F : Fence) (n : Nat) (hF : F.fn 78) (hro : F.round = none) (A : Option Addr) (len c : Nat) (size : Int) (w : World) :
  CallsIn F n Try.prog 78 #[.slice A len c, .int .i64 size] w fun e w' => e = .returned (.func (.func 95) #[] #[.pointer (some ⟨w.heap.size, 0, none⟩), .pointer (some ⟨w.heap.size + 1, 0, none⟩)]) ∧ w' = (w.alloc (.cells #[.slice A len c] 24)).alloc (.cells #[.int .i64 size] 3) := by
 refine callsIn_of_wp Try.func78 rfl hF ?_ hro
 simp only [Try.ntmps78, List.size_toArray, List.length_cons, List.length_nil, Nat.reduceAdd, Nat.reduceSub, Array.replicate_succ, Array.replicate_zero, List.push_toArray, List.append_toArray, List.nil_append, List.cons_append]
 gi_wp2
 go_ret
 exact ⟨rfl, rfl⟩
end Go.Proofs.Ytmehbabchakkpaa.Pieces
namespace Go.Proofs.Ytmehbabchakkpaa.QLadderWalks
open Go.RowKit YtmehbabchakkpaaW.PrintWords YtmehbabchakkpaaW.PrintLast YtmehbabchakkpaaW.PrintMore
attribute [local go_sem] max2_int min2_int max_two min_two max_three min_three max_four min_four
set_option linter.unusedVariables false
set_option linter.unusedSimpArgs false
def errW : Option Int → Value
 | none => .nilIface
 | some c => .iface 0 (.int .i64 c)
theorem errW_none : errW none = .nilIface := rfl
theorem errW_some (c : Int) : errW (some c) = .iface 0 (.int .i64 c) := rfl
theorem info3 : (Try.prog.info? 3).map (fun i => (i.zero, i.size, i.bytes)) = some (some (.int .i64 0), 1, 8) := by kernel_rfl
theorem info5 : (Try.prog.info? 5).map (fun i => (i.zero, i.size, i.bytes)) = some (some (.int .u8 0), 1, 1) := by kernel_rfl
structure S23 where
 f0 : Int
 f1 : Int
 f2 : Int
 f3 : Int
 f4 : Int
 f5 : Int
 f6 : Int
def z23 : S23 := ⟨(0 : Int), (0 : Int), (0 : Int), (0 : Int), (0 : Int), (0 : Int), (0 : Int)⟩
def k23 : Kd S23 := Kd.iso (Kd.pair (Kd.int .i64) (Kd.pair (Kd.int .i64) (Kd.pair (Kd.int .i64) (Kd.pair (Kd.int .i64) (Kd.pair (Kd.int .i64) (Kd.pair (Kd.int .i64) (Kd.int .i64))))))) (fun x : S23 => (x.f0, x.f1, x.f2, x.f3, x.f4, x.f5, x.f6))
theorem k23_open {w : World} {x : S23} {cs : List Value} (h : k23.K w x cs) : cs = [.int .i64 x.f0, .int .i64 x.f1, .int .i64 x.f2, .int .i64 x.f3, .int .i64 x.f4, .int .i64 x.f5, .int .i64 x.f6] := by
 obtain ⟨_, _, rfl, rfl, ⟨_, _, rfl, rfl, ⟨_, _, rfl, rfl, ⟨_, _, rfl, rfl, ⟨_, _, rfl, rfl, ⟨_, _, rfl, rfl, rfl⟩⟩⟩⟩⟩⟩ := h
 exact rfl
def rd_L3 (xs : List (List Int)) (i : Int) : (List Int) := xs.getD i.toNat ([] : List Int)
theorem at_L3 {w : World} {A : Option Addr} {n : Nat} {xs : List (List Int)} (h : Kd.C (Kd.slice 5 (Kd.int .u8)) w A n xs) (i : Int) (h0 : 0 ≤ i) (h1 : i < n) : ∃ ad A0 c0, A = some ad ∧ w.cell? (ad.add i.toNat) = some (.slice A0 (rd_L3 xs i).length c0) ∧ (rd_L3 xs i).length ≤ c0 ∧ (Kd.int .u8).C w A0 (rd_L3 xs i).length (rd_L3 xs i) := by
 obtain ⟨ad, c, e, _, hK, hc0⟩ := Kd.C_get h ([] : List Int) i h0 h1
 have hc : ∀ j u, c[j]? = some u → w.cell? (ad.add (i.toNat * 1 + j)) = some u := hc0
 obtain ⟨A0, c0, rfl, l0, g0⟩ := hK
 exact ⟨ad, A0, c0, e, by have hq := hc 0 _ rfl; rwa [Nat.mul_one, Nat.add_zero] at hq, l0, g0⟩
end Go.Proofs.Ytmehbabchakkpaa.QLadderWalks
namespace Go.Proofs.Ytmehbabchakkpaa.QLadderWalks
open Go.RowKit YtmehbabchakkpaaW.PrintWords YtmehbabchakkpaaW.PrintLast YtmehbabchakkpaaW.PrintMore
attribute [local go_sem] max2_int min2_int max_two min_two max_three min_three max_four min_four
set_option linter.unusedVariables false
set_option linter.unusedSimpArgs false
theorem eqA26 (d : Nat) (w : World) (x0 y0 : Int) (x1 y1 : Int) (x2 y2 : Int) (x3 y3 : Int) :
  (Op.equalIn (d + 2) 26 (.agg #[.int .i64 x0, .int .i64 x1, .int .i64 x2, .int .i64 x3]) (.agg #[.int .i64 y0, .int .i64 y1, .int .i64 y2, .int .i64 y3])).run Try.prog w = .ok (x0 == y0 && (x1 == y1 && (x2 == y2 && (x3 == y3)))) w := by
 refine eqA_of Try.underlying26 (by kernel_rfl) ?_
 refine eqf_cons (by rfl) (by go_simp; rfl) (by go_simp; rfl) (by go_simp) ?_
 refine eqf_cons (by rfl) (by go_simp; rfl) (by go_simp; rfl) (by go_simp) ?_
 refine eqf_cons (by rfl) (by go_simp; rfl) (by go_simp; rfl) (by go_simp) ?_
 exact eqf_last (by rfl) (by go_simp; rfl) (by go_simp; rfl) (by go_simp)
end Go.Proofs.Ytmehbabchakkpaa.QLadderWalks
namespace Go.Proofs.Ytmehbabchakkpaa.Short
open Go.RowKit YtmehbabchakkpaaW.PrintWords YtmehbabchakkpaaW.PrintLast
theorem put4 {W : World} {g : Nat} {t : TypeId} {o0 o1 o2 o3 v0 v1 v2 v3 : Value} (h : W.heap[g]? = some (.cells #[o0, o1, o2, o3] t (0, 0))) : ((((W.setCell ⟨g, 0, none⟩ v0).setCell ⟨g, 1, none⟩ v1).setCell ⟨g, 2, none⟩ v2).setCell ⟨g, 3, none⟩ v3).heap[g]? = some (.cells #[v0, v1, v2, v3] t (0, 0)) := (blk_put (cs := #[v0, v1, v2, o3]) (blk_put (cs := #[v0, v1, o2, o3]) (blk_put (cs := #[v0, o1, o2, o3]) (blk_put (cs := #[o0, o1, o2, o3]) h 0 v0 rfl) 1 v1 rfl) 2 v2 rfl) 3 v3 rfl)
theorem far4 {W : World} {g g' : Nat} {t : TypeId} {cs : Array Value} {v0 v1 v2 v3 : Value} (h : W.heap[g]? = some (.cells cs t (0, 0))) (hne : g ≠ g') : ((((W.setCell ⟨g', 0, none⟩ v0).setCell ⟨g', 1, none⟩ v1).setCell ⟨g', 2, none⟩ v2).setCell ⟨g', 3, none⟩ v3).heap[g]? = some (.cells cs t (0, 0)) := (blk_far (blk_far (blk_far (blk_far h (p := ⟨g', 0, none⟩) hne v0) (p := ⟨g', 1, none⟩) hne v1) (p := ⟨g', 2, none⟩) hne v2) (p := ⟨g', 3, none⟩) hne v3)
theorem cells4 {W : World} {g : Nat} {t : TypeId} {v0 v1 v2 v3 : Value} (h : W.heap[g]? = some (.cells #[v0, v1, v2, v3] t (0, 0))) : W.cell? ⟨g, 0, none⟩ = some v0 ∧ W.cell? ⟨g, 1, none⟩ = some v1 ∧ W.cell? ⟨g, 2, none⟩ = some v2 ∧ W.cell? ⟨g, 3, none⟩ = some v3 := ⟨(blk_cell h 0).trans rfl, (blk_cell h 1).trans rfl, (blk_cell h 2).trans rfl, (blk_cell h 3).trans rfl⟩
theorem froz4 {W : World} {g : Nat} {t : TypeId} {v0 v1 v2 v3 : Value} (h : W.heap[g]? = some (.cells #[v0, v1, v2, v3] t (0, 0))) : W.frozen? ⟨g, 0, none⟩ = false ∧ W.frozen? ⟨g, 1, none⟩ = false ∧ W.frozen? ⟨g, 2, none⟩ = false ∧ W.frozen? ⟨g, 3, none⟩ = false := ⟨blk_frozen h 0, blk_frozen h 1, blk_frozen h 2, blk_frozen h 3⟩
theorem put7 {W : World} {g : Nat} {t : TypeId} {o0 o1 o2 o3 o4 o5 o6 v0 v1 v2 v3 v4 v5 v6 : Value} (h : W.heap[g]? = some (.cells #[o0, o1, o2, o3, o4, o5, o6] t (0, 0))) : (((((((W.setCell ⟨g, 0, none⟩ v0).setCell ⟨g, 1, none⟩ v1).setCell ⟨g, 2, none⟩ v2).setCell ⟨g, 3, none⟩ v3).setCell ⟨g, 4, none⟩ v4).setCell ⟨g, 5, none⟩ v5).setCell ⟨g, 6, none⟩ v6).heap[g]? = some (.cells #[v0, v1, v2, v3, v4, v5, v6] t (0, 0)) := (blk_put (cs := #[v0, v1, v2, v3, v4, v5, o6]) (blk_put (cs := #[v0, v1, v2, v3, v4, o5, o6]) (blk_put (cs := #[v0, v1, v2, v3, o4, o5, o6]) (blk_put (cs := #[v0, v1, v2, o3, o4, o5, o6]) (blk_put (cs := #[v0, v1, o2, o3, o4, o5, o6]) (blk_put (cs := #[v0, o1, o2, o3, o4, o5, o6]) (blk_put (cs := #[o0, o1, o2, o3, o4, o5, o6]) h 0 v0 rfl) 1 v1 rfl) 2 v2 rfl) 3 v3 rfl) 4 v4 rfl) 5 v5 rfl) 6 v6 rfl)
theorem cells7 {W : World} {g : Nat} {t : TypeId} {v0 v1 v2 v3 v4 v5 v6 : Value} (h : W.heap[g]? = some (.cells #[v0, v1, v2, v3, v4, v5, v6] t (0, 0))) : W.cell? ⟨g, 0, none⟩ = some v0 ∧ W.cell? ⟨g, 1, none⟩ = some v1 ∧ W.cell? ⟨g, 2, none⟩ = some v2 ∧ W.cell? ⟨g, 3, none⟩ = some v3 ∧ W.cell? ⟨g, 4, none⟩ = some v4 ∧ W.cell? ⟨g, 5, none⟩ = some v5 ∧ W.cell? ⟨g, 6, none⟩ = some v6 := ⟨(blk_cell h 0).trans rfl, (blk_cell h 1).trans rfl, (blk_cell h 2).trans rfl, (blk_cell h 3).trans rfl, (blk_cell h 4).trans rfl, (blk_cell h 5).trans rfl, (blk_cell h 6).trans rfl⟩
theorem froz7 {W : World} {g : Nat} {t : TypeId} {v0 v1 v2 v3 v4 v5 v6 : Value} (h : W.heap[g]? = some (.cells #[v0, v1, v2, v3, v4, v5, v6] t (0, 0))) : W.frozen? ⟨g, 0, none⟩ = false ∧ W.frozen? ⟨g, 1, none⟩ = false ∧ W.frozen? ⟨g, 2, none⟩ = false ∧ W.frozen? ⟨g, 3, none⟩ = false ∧ W.frozen? ⟨g, 4, none⟩ = false ∧ W.frozen? ⟨g, 5, none⟩ = false ∧ W.frozen? ⟨g, 6, none⟩ = false := ⟨blk_frozen h 0, blk_frozen h 1, blk_frozen h 2, blk_frozen h 3, blk_frozen h 4, blk_frozen h 5, blk_frozen h 6⟩
theorem put8 {W : World} {g : Nat} {t : TypeId} {o0 o1 o2 o3 o4 o5 o6 o7 v0 v1 v2 v3 v4 v5 v6 v7 : Value} (h : W.heap[g]? = some (.cells #[o0, o1, o2, o3, o4, o5, o6, o7] t (0, 0))) : ((((((((W.setCell ⟨g, 0, none⟩ v0).setCell ⟨g, 1, none⟩ v1).setCell ⟨g, 2, none⟩ v2).setCell ⟨g, 3, none⟩ v3).setCell ⟨g, 4, none⟩ v4).setCell ⟨g, 5, none⟩ v5).setCell ⟨g, 6, none⟩ v6).setCell ⟨g, 7, none⟩ v7).heap[g]? = some (.cells #[v0, v1, v2, v3, v4, v5, v6, v7] t (0, 0)) := (blk_put (cs := #[v0, v1, v2, v3, v4, v5, v6, o7]) (blk_put (cs := #[v0, v1, v2, v3, v4, v5, o6, o7]) (blk_put (cs := #[v0, v1, v2, v3, v4, o5, o6, o7]) (blk_put (cs := #[v0, v1, v2, v3, o4, o5, o6, o7]) (blk_put (cs := #[v0, v1, v2, o3, o4, o5, o6, o7]) (blk_put (cs := #[v0, v1, o2, o3, o4, o5, o6, o7]) (blk_put (cs := #[v0, o1, o2, o3, o4, o5, o6, o7]) (blk_put (cs := #[o0, o1, o2, o3, o4, o5, o6, o7]) h 0 v0 rfl) 1 v1 rfl) 2 v2 rfl) 3 v3 rfl) 4 v4 rfl) 5 v5 rfl) 6 v6 rfl) 7 v7 rfl)
theorem far8 {W : World} {g g' : Nat} {t : TypeId} {cs : Array Value} {v0 v1 v2 v3 v4 v5 v6 v7 : Value} (h : W.heap[g]? = some (.cells cs t (0, 0))) (hne : g ≠ g') : ((((((((W.setCell ⟨g', 0, none⟩ v0).setCell ⟨g', 1, none⟩ v1).setCell ⟨g', 2, none⟩ v2).setCell ⟨g', 3, none⟩ v3).setCell ⟨g', 4, none⟩ v4).setCell ⟨g', 5, none⟩ v5).setCell ⟨g', 6, none⟩ v6).setCell ⟨g', 7, none⟩ v7).heap[g]? = some (.cells cs t (0, 0)) := (blk_far (blk_far (blk_far (blk_far (blk_far (blk_far (blk_far (blk_far h (p := ⟨g', 0, none⟩) hne v0) (p := ⟨g', 1, none⟩) hne v1) (p := ⟨g', 2, none⟩) hne v2) (p := ⟨g', 3, none⟩) hne v3) (p := ⟨g', 4, none⟩) hne v4) (p := ⟨g', 5, none⟩) hne v5) (p := ⟨g', 6, none⟩) hne v6) (p := ⟨g', 7, none⟩) hne v7)
theorem cells8 {W : World} {g : Nat} {t : TypeId} {v0 v1 v2 v3 v4 v5 v6 v7 : Value} (h : W.heap[g]? = some (.cells #[v0, v1, v2, v3, v4, v5, v6, v7] t (0, 0))) : W.cell? ⟨g, 0, none⟩ = some v0 ∧ W.cell? ⟨g, 1, none⟩ = some v1 ∧ W.cell? ⟨g, 2, none⟩ = some v2 ∧ W.cell? ⟨g, 3, none⟩ = some v3 ∧ W.cell? ⟨g, 4, none⟩ = some v4 ∧ W.cell? ⟨g, 5, none⟩ = some v5 ∧ W.cell? ⟨g, 6, none⟩ = some v6 ∧ W.cell? ⟨g, 7, none⟩ = some v7 := ⟨(blk_cell h 0).trans rfl, (blk_cell h 1).trans rfl, (blk_cell h 2).trans rfl, (blk_cell h 3).trans rfl, (blk_cell h 4).trans rfl, (blk_cell h 5).trans rfl, (blk_cell h 6).trans rfl, (blk_cell h 7).trans rfl⟩
theorem froz8 {W : World} {g : Nat} {t : TypeId} {v0 v1 v2 v3 v4 v5 v6 v7 : Value} (h : W.heap[g]? = some (.cells #[v0, v1, v2, v3, v4, v5, v6, v7] t (0, 0))) : W.frozen? ⟨g, 0, none⟩ = false ∧ W.frozen? ⟨g, 1, none⟩ = false ∧ W.frozen? ⟨g, 2, none⟩ = false ∧ W.frozen? ⟨g, 3, none⟩ = false ∧ W.frozen? ⟨g, 4, none⟩ = false ∧ W.frozen? ⟨g, 5, none⟩ = false ∧ W.frozen? ⟨g, 6, none⟩ = false ∧ W.frozen? ⟨g, 7, none⟩ = false := ⟨blk_frozen h 0, blk_frozen h 1, blk_frozen h 2, blk_frozen h 3, blk_frozen h 4, blk_frozen h 5, blk_frozen h 6, blk_frozen h 7⟩
theorem pu {P : Program} {md : Region.Mode} {ops : Array Oper} {Q : Exit → Act → World → Prop} {S : World → Prop} {ds : List Nat} {T : Bool × List (List Nat × List Nat)} (i : Nat) (N : Option Tmp) {oi : Oper} {v : Value} {fuel : Nat} {l : Array Bool} {a : Act} {w : World} (l' : Array Bool) (hT : rtab md ops = T) (hi : ops[i]? = some oi) (hN : oi.dst = N) {a' : Act}
  (h : wpAnyLast P md ops Q S ds fuel l' a' w) (hc : anyT T l.toList l'.toList i = true := by kernel_rfl) (hQ : ∀ c a w, Q (.panic c) (a.put oi.dst v) w → Q (.panic c) a w := by exact fun _ _ _ h => h) (hw : Region.wanted oi (yielded ops a.tmps) = true := by rfl)
  (hr : ∀ w' : World, (execOp a.eval oi).run P w' = .ok (.value v) w' := by (intro w'; go_simp; with_reducible rfl)) (ha : a.put N v = a' := by (simp only [Act.put, List.setIfInBounds_toArray, List.set_cons_zero, List.set_cons_succ, i64_w, i32_w]; rfl)) : wpAnyLast P md ops Q S ds (fuel + 1) l a w :=
 pure_ l' hi hN (any_of hT hc) hQ (Or.inl ⟨hw, hr⟩) ha h
theorem pv {P : Program} {md : Region.Mode} {ops : Array Oper} {Q : Exit → Act → World → Prop} {S : World → Prop} {ds : List Nat} (i : Nat) (N : Option Tmp) {oi : Oper} {v : Value} {fuel : Nat} {l : Array Bool} {a : Act} {w : World} (l' : Array Bool) (hi : ops[i]? = some oi) (hN : oi.dst = N) {a' : Act}
  (h : wpAnyLast P md ops Q S ds fuel l' a' w) (hc : anyB md ops l l' i = true := by kernel_rfl) (hQ : ∀ c a w, Q (.panic c) (a.put oi.dst v) w → Q (.panic c) a w := by exact fun _ _ _ h => h) (hw : Region.wanted oi (yielded ops a.tmps) = true := by rfl)
  (hr : ∀ w' : World, (execOp a.eval oi).run P w' = .ok (.value v) w' := by (intro w'; go_simp; with_reducible rfl)) (ha : a.put N v = a' := by (simp only [Act.put, List.setIfInBounds_toArray, List.set_cons_zero, List.set_cons_succ, i64_w, i32_w]; rfl)) : wpAnyLast P md ops Q S ds (fuel + 1) l a w :=
 pure_ l' hi hN hc hQ (Or.inl ⟨hw, hr⟩) ha h
end Go.Proofs.Ytmehbabchakkpaa.Short
namespace Go.Proofs.Ytmehbabchakkpaa.Short
open Go.RowKit YtmehbabchakkpaaW.PrintWords
theorem bs_ {α β : Type} {o : Option α} {f : α → Option β} {r : β} (h : o.bind f = some r) : ∃ t, Aside0 (o = some t) ∧ f t = some r := by
 obtain ⟨t, a, b⟩ := Option.bind_eq_some_iff.mp h
 exact ⟨t, ⟨a⟩, b⟩
theorem gw_ {n g m : Nat} (hg : g = m) (h : n ≤ m) : n ≤ g := hg ▸ h
theorem od_ {p : Prop} [Decidable p] (h : decide p = true) : p := of_decide_eq_true h
end Go.Proofs.Ytmehbabchakkpaa.Short
namespace Go.Proofs.Ytmehbabchakkpaa.QLadderWalks
open Go.RowKit YtmehbabchakkpaaW.PrintWords YtmehbabchakkpaaW.PrintLast YtmehbabchakkpaaW.PrintMore Short
attribute [local go_sem] max2_int min2_int max_two min_two max_three min_three max_four min_four
set_option linter.unusedVariables false
set_option maxHeartbeats 8000000
set_option maxRecDepth 100000
set_option linter.unusedSimpArgs false
def r04_from.f (a0 : Int) (a1 : Int) (a2 : Int) : Option (Bool) := if a0 ≥ a1 then (some (decide (a0 ≤ a2))) else (some false)
theorem r04_from.calls (a0 : Int) (a1 : Int) (a2 : Int) (r : Bool) (w : World) (h : r04_from.f a0 a1 a2 = some r) :
  Calls Try.prog 43 #[.int .i64 a0, .int .i64 a1, .int .i64 a2] w fun e w' => e = .returned (.bool r) ∧ Drawn0 w w' := by
 unfold r04_from.f at h
 have H := h
 clear h
 by_cases c4 : a0 ≥ a1
 ·rw [if_pos c4] at H
  have c4b0 : decide (a1 ≤ a0) = true := dt_ c4
  clear c4
  obtain rfl := si_ H
  go_enter Try.func43, Try.ntmps43
  go_wp2
  go_ret
  exact ⟨by rfl, by repeat (first | exact Drawn0.refl _ | apply Drawn0.step)⟩
 ·rw [if_neg c4] at H
  have c4b0 : decide (a1 ≤ a0) = false := df_ c4
  clear c4
  obtain rfl := si_ H
  go_enter Try.func43, Try.ntmps43
  go_wp2
  go_ret
  exact ⟨by rfl, by repeat (first | exact Drawn0.refl _ | apply Drawn0.step)⟩
def r04_Right.f (a0_0 : Int) (a0_1 : Int) (a0_2 : Int) (a0_3 : Int) (a0_4 : Int) (a0_5 : Int) (a0_6 : Int) : Option (Bool) := (r04_from.f a0_0 1 4).bind fun t102 => (if t102 = true then ((r04_from.f a0_1 2 256).bind fun t103 => (if t103 = true then ((r04_from.f a0_2 4 64).bind fun t104 => (if t104 = true then ((r04_from.f a0_3 1 16).bind fun t105 => (if t105 = true then ((r04_from.f a0_4 4 512).bind fun t106 => (if t106 = true then ((r04_from.f a0_5 1 8).bind fun t107 => (if t107 = true then ((r04_from.f a0_6 1 8).bind fun t108 => (if t108 = true then (if a0_0 = 0 then (none) else (if (wrap64 ((wrap64 (Int.tdiv a0_1 a0_0)) * a0_0)) = a0_1 then (some ((wrap64 ((wrap64 (Int.tdiv a0_2 2)) * 2)) == a0_2)) else (some false))) else (some false))) else (some false))) else (some false))) else (some false))) else (some false))) else (some false))) else (some false))
theorem r04_Right.calls (a0_0 : Int) (a0_1 : Int) (a0_2 : Int) (a0_3 : Int) (a0_4 : Int) (a0_5 : Int) (a0_6 : Int) (r : Bool) (w : World) (h : r04_Right.f a0_0 a0_1 a0_2 a0_3 a0_4 a0_5 a0_6 = some r) :
  Calls Try.prog 18 #[.agg #[.int .i64 a0_0, .int .i64 a0_1, .int .i64 a0_2, .int .i64 a0_3, .int .i64 a0_4, .int .i64 a0_5, .int .i64 a0_6]] w fun e w' => e = .returned (.bool r) ∧ Below w.heap.size w w' := by
 have hu23 := Try.underlying23
 have HB := br_ w
 unfold r04_Right.f at h
 have H := h
 clear h
 obtain ⟨t225, A2, H⟩ := bs_ H
 by_cases c3 : t225 = true
 ·subst c3
  rw [if_pos rfl] at H
  obtain ⟨t226, A4, H⟩ := bs_ H
  by_cases c5 : t226 = true
  ·subst c5
   rw [if_pos rfl] at H
   obtain ⟨t227, A6, H⟩ := bs_ H
   by_cases c7 : t227 = true
   ·subst c7
    rw [if_pos rfl] at H
    obtain ⟨t228, A8, H⟩ := bs_ H
    by_cases c9 : t228 = true
    ·subst c9
     rw [if_pos rfl] at H
     obtain ⟨t229, A10, H⟩ := bs_ H
     by_cases c11 : t229 = true
     ·subst c11
      rw [if_pos rfl] at H
      obtain ⟨t230, A12, H⟩ := bs_ H
      by_cases c13 : t230 = true
      ·subst c13
       rw [if_pos rfl] at H
       obtain ⟨t231, A14, H⟩ := bs_ H
       by_cases c15 : t231 = true
       ·subst c15
        rw [if_pos rfl] at H
        by_cases c16 : a0_0 = 0
        ·rw [if_pos c16] at H
         exact absurd H (by simp)
        ·rw [if_neg c16] at H
         have c16b0 := beq_eq_false_iff_ne.mpr c16
         have c16b1 := bne_iff_ne.mpr c16
         by_cases c17 : (wrap64 ((wrap64 (Int.tdiv a0_1 a0_0)) * a0_0)) = a0_1
         ·rw [if_pos c17] at H
          have c17b0 := beq_iff_eq.mpr c17
          have c17b1 := bne_eq_false_iff_eq.mpr c17
          clear c17
          obtain rfl := si_ H
          go_enter Try.func18, Try.ntmps18
          go_wp2_with (first | ((with_reducible refine gate_dst (N := 1) rfl ?_); refine box_event ?hg (N := 1) ?hd (cs := #[.int .i64 a0_0, .int .i64 a0_1, .int .i64 a0_2, .int .i64 a0_3, .int .i64 a0_4, .int .i64 a0_5, .int .i64 a0_6]) (t := 23) ?hr ?_; (case hd => rfl); (case hg => rfl); (case hr => (go_simp; done)); intro gb224 hg w18 hbox hb; have BK224 := ak_ (hbox); have GW224 := ak_ (gw_ hg (below_size HB.out)); have GE224 := ak_ (gw_ hg (below_size HB.out)); replace HB := ak_ (below_step HB.out hb); clear hb hbox hg; obtain ⟨hcz19_0, hcz19_1, hcz19_2, hcz19_3, hcz19_4, hcz19_5, hcz19_6⟩ := cells7 BK224.out; obtain ⟨hfz19_0, hfz19_1, hfz19_2, hfz19_3, hfz19_4, hfz19_5, hfz19_6⟩ := froz7 BK224.out) | (go_at_call 43; (with_reducible refine (r04_from.calls _ _ _ _ _ (Aside0.out (by assumption))).mono ?_); rintro e w' ⟨rfl, ⟨nd, rfl⟩⟩; (try first | exact ⟨rfl, _, World.drewN_drewN _ _ _⟩ | exact ⟨rfl, _, Eq.trans (World.drewN_drewN _ _ _) (congrArg (World.drewN _) (Nat.add_assoc _ _ _))⟩)))
          repeat (go_quiet (fail); try go_wp2_with (first | ((with_reducible refine gate_dst (N := 1) rfl ?_); refine box_event ?hg (N := 1) ?hd (cs := #[.int .i64 a0_0, .int .i64 a0_1, .int .i64 a0_2, .int .i64 a0_3, .int .i64 a0_4, .int .i64 a0_5, .int .i64 a0_6]) (t := 23) ?hr ?_; (case hd => rfl); (case hg => rfl); (case hr => first | (go_simp; done) | (go_simp; rfl)); intro gb224 hg w18 hbox hb; have BK224 := ak_ (hbox); have GW224 := ak_ ((by rw [hg]; exact (below_size (by repeat (first | (with_reducible first | exact HB.out | apply below_alloc | apply pw_below_drewN | apply below_drew1) | exact HB.out))) : w.heap.size ≤ gb224)); have GE224 := ak_ ((by rw [hg]; exact (below_size (by repeat (first | (with_reducible first | exact HB.out | apply below_alloc | apply pw_below_drewN | apply below_drew1) | exact HB.out))) : w.heap.size ≤ gb224)); replace HB := ak_ (below_step (by repeat (first | (with_reducible first | exact HB.out | apply below_alloc | apply pw_below_drewN | apply below_drew1) | exact HB.out)) hb); clear hb hbox hg; obtain ⟨hcz19_0, hcz19_1, hcz19_2, hcz19_3, hcz19_4, hcz19_5, hcz19_6⟩ := cells7 BK224.out; obtain ⟨hfz19_0, hfz19_1, hfz19_2, hfz19_3, hfz19_4, hfz19_5, hfz19_6⟩ := froz7 BK224.out) | (go_at_call 43; (with_reducible refine (r04_from.calls _ _ _ _ _ (Aside0.out (by assumption))).mono ?_); rintro e w' ⟨rfl, ⟨nd, rfl⟩⟩; (try first | exact ⟨rfl, _, World.drewN_drewN _ _ _⟩ | exact ⟨rfl, _, Eq.trans (World.drewN_drewN _ _ _) (congrArg (World.drewN _) (Nat.add_assoc _ _ _))⟩))))
          go_ret
          exact ⟨by rfl, by repeat (first | (with_reducible first | exact HB.out | apply below_alloc | apply pw_below_drewN | apply below_drew1 | refine below_set ?_ GE224.out) | exact HB.out)⟩
         ·rw [if_neg c17] at H
          have c17b0 := beq_eq_false_iff_ne.mpr c17
          have c17b1 := bne_iff_ne.mpr c17
          obtain rfl := si_ H
          go_enter Try.func18, Try.ntmps18
          go_wp2_with (first | ((with_reducible refine gate_dst (N := 1) rfl ?_); refine box_event ?hg (N := 1) ?hd (cs := #[.int .i64 a0_0, .int .i64 a0_1, .int .i64 a0_2, .int .i64 a0_3, .int .i64 a0_4, .int .i64 a0_5, .int .i64 a0_6]) (t := 23) ?hr ?_; (case hd => rfl); (case hg => rfl); (case hr => (go_simp; done)); intro gb224 hg w20 hbox hb; have BK224 := ak_ (hbox); have GW224 := ak_ (gw_ hg (below_size HB.out)); have GE224 := ak_ (gw_ hg (below_size HB.out)); replace HB := ak_ (below_step HB.out hb); clear hb hbox hg; obtain ⟨hcz21_0, hcz21_1, hcz21_2, hcz21_3, hcz21_4, hcz21_5, hcz21_6⟩ := cells7 BK224.out; obtain ⟨hfz21_0, hfz21_1, hfz21_2, hfz21_3, hfz21_4, hfz21_5, hfz21_6⟩ := froz7 BK224.out) | (go_at_call 43; (with_reducible refine (r04_from.calls _ _ _ _ _ (Aside0.out (by assumption))).mono ?_); rintro e w' ⟨rfl, ⟨nd, rfl⟩⟩; (try first | exact ⟨rfl, _, World.drewN_drewN _ _ _⟩ | exact ⟨rfl, _, Eq.trans (World.drewN_drewN _ _ _) (congrArg (World.drewN _) (Nat.add_assoc _ _ _))⟩)))
          repeat (go_quiet (fail); try go_wp2_with (first | ((with_reducible refine gate_dst (N := 1) rfl ?_); refine box_event ?hg (N := 1) ?hd (cs := #[.int .i64 a0_0, .int .i64 a0_1, .int .i64 a0_2, .int .i64 a0_3, .int .i64 a0_4, .int .i64 a0_5, .int .i64 a0_6]) (t := 23) ?hr ?_; (case hd => rfl); (case hg => rfl); (case hr => first | (go_simp; done) | (go_simp; rfl)); intro gb224 hg w20 hbox hb; have BK224 := ak_ (hbox); have GW224 := ak_ ((by rw [hg]; exact (below_size (by repeat (first | (with_reducible first | exact HB.out | apply below_alloc | apply pw_below_drewN | apply below_drew1) | exact HB.out))) : w.heap.size ≤ gb224)); have GE224 := ak_ ((by rw [hg]; exact (below_size (by repeat (first | (with_reducible first | exact HB.out | apply below_alloc | apply pw_below_drewN | apply below_drew1) | exact HB.out))) : w.heap.size ≤ gb224)); replace HB := ak_ (below_step (by repeat (first | (with_reducible first | exact HB.out | apply below_alloc | apply pw_below_drewN | apply below_drew1) | exact HB.out)) hb); clear hb hbox hg; obtain ⟨hcz21_0, hcz21_1, hcz21_2, hcz21_3, hcz21_4, hcz21_5, hcz21_6⟩ := cells7 BK224.out; obtain ⟨hfz21_0, hfz21_1, hfz21_2, hfz21_3, hfz21_4, hfz21_5, hfz21_6⟩ := froz7 BK224.out) | (go_at_call 43; (with_reducible refine (r04_from.calls _ _ _ _ _ (Aside0.out (by assumption))).mono ?_); rintro e w' ⟨rfl, ⟨nd, rfl⟩⟩; (try first | exact ⟨rfl, _, World.drewN_drewN _ _ _⟩ | exact ⟨rfl, _, Eq.trans (World.drewN_drewN _ _ _) (congrArg (World.drewN _) (Nat.add_assoc _ _ _))⟩))))
          go_ret
          exact ⟨by rfl, by repeat (first | (with_reducible first | exact HB.out | apply below_alloc | apply pw_below_drewN | apply below_drew1 | refine below_set ?_ GE224.out) | exact HB.out)⟩
       ·replace c15 := Bool.eq_false_iff.mpr c15
        subst c15
        rw [if_neg (show ¬ (false = true) by decide)] at H
        obtain rfl := si_ H
        go_enter Try.func18, Try.ntmps18
        go_wp2_with (first | ((with_reducible refine gate_dst (N := 1) rfl ?_); refine box_event ?hg (N := 1) ?hd (cs := #[.int .i64 a0_0, .int .i64 a0_1, .int .i64 a0_2, .int .i64 a0_3, .int .i64 a0_4, .int .i64 a0_5, .int .i64 a0_6]) (t := 23) ?hr ?_; (case hd => rfl); (case hg => rfl); (case hr => (go_simp; done)); intro gb224 hg w22 hbox hb; have BK224 := ak_ (hbox); have GW224 := ak_ (gw_ hg (below_size HB.out)); have GE224 := ak_ (gw_ hg (below_size HB.out)); replace HB := ak_ (below_step HB.out hb); clear hb hbox hg; obtain ⟨hcz23_0, hcz23_1, hcz23_2, hcz23_3, hcz23_4, hcz23_5, hcz23_6⟩ := cells7 BK224.out; obtain ⟨hfz23_0, hfz23_1, hfz23_2, hfz23_3, hfz23_4, hfz23_5, hfz23_6⟩ := froz7 BK224.out) | (go_at_call 43; (with_reducible refine (r04_from.calls _ _ _ _ _ (Aside0.out (by assumption))).mono ?_); rintro e w' ⟨rfl, ⟨nd, rfl⟩⟩; (try first | exact ⟨rfl, _, World.drewN_drewN _ _ _⟩ | exact ⟨rfl, _, Eq.trans (World.drewN_drewN _ _ _) (congrArg (World.drewN _) (Nat.add_assoc _ _ _))⟩)))
        repeat (go_quiet (fail); try go_wp2_with (fail))
        go_ret
        exact ⟨by rfl, by repeat (first | (with_reducible first | exact HB.out | apply below_alloc | apply pw_below_drewN | apply below_drew1 | refine below_set ?_ GE224.out) | exact HB.out)⟩
      ·replace c13 := Bool.eq_false_iff.mpr c13
       subst c13
       rw [if_neg (show ¬ (false = true) by decide)] at H
       obtain rfl := si_ H
       go_enter Try.func18, Try.ntmps18
       go_wp2_with (first | ((with_reducible refine gate_dst (N := 1) rfl ?_); refine box_event ?hg (N := 1) ?hd (cs := #[.int .i64 a0_0, .int .i64 a0_1, .int .i64 a0_2, .int .i64 a0_3, .int .i64 a0_4, .int .i64 a0_5, .int .i64 a0_6]) (t := 23) ?hr ?_; (case hd => rfl); (case hg => rfl); (case hr => (go_simp; done)); intro gb224 hg w24 hbox hb; have BK224 := ak_ (hbox); have GW224 := ak_ (gw_ hg (below_size HB.out)); have GE224 := ak_ (gw_ hg (below_size HB.out)); replace HB := ak_ (below_step HB.out hb); clear hb hbox hg; obtain ⟨hcz25_0, hcz25_1, hcz25_2, hcz25_3, hcz25_4, hcz25_5, hcz25_6⟩ := cells7 BK224.out; obtain ⟨hfz25_0, hfz25_1, hfz25_2, hfz25_3, hfz25_4, hfz25_5, hfz25_6⟩ := froz7 BK224.out) | (go_at_call 43; (with_reducible refine (r04_from.calls _ _ _ _ _ (Aside0.out (by assumption))).mono ?_); rintro e w' ⟨rfl, ⟨nd, rfl⟩⟩; (try first | exact ⟨rfl, _, World.drewN_drewN _ _ _⟩ | exact ⟨rfl, _, Eq.trans (World.drewN_drewN _ _ _) (congrArg (World.drewN _) (Nat.add_assoc _ _ _))⟩)))
       repeat (go_quiet (fail); try go_wp2_with (fail))
       go_ret
       exact ⟨by rfl, by repeat (first | (with_reducible first | exact HB.out | apply below_alloc | apply pw_below_drewN | apply below_drew1 | refine below_set ?_ GE224.out) | exact HB.out)⟩
     ·replace c11 := Bool.eq_false_iff.mpr c11
      subst c11
      rw [if_neg (show ¬ (false = true) by decide)] at H
      obtain rfl := si_ H
      go_enter Try.func18, Try.ntmps18
      go_wp2_with (first | ((with_reducible refine gate_dst (N := 1) rfl ?_); refine box_event ?hg (N := 1) ?hd (cs := #[.int .i64 a0_0, .int .i64 a0_1, .int .i64 a0_2, .int .i64 a0_3, .int .i64 a0_4, .int .i64 a0_5, .int .i64 a0_6]) (t := 23) ?hr ?_; (case hd => rfl); (case hg => rfl); (case hr => (go_simp; done)); intro gb224 hg w26 hbox hb; have BK224 := ak_ (hbox); have GW224 := ak_ (gw_ hg (below_size HB.out)); have GE224 := ak_ (gw_ hg (below_size HB.out)); replace HB := ak_ (below_step HB.out hb); clear hb hbox hg; obtain ⟨hcz27_0, hcz27_1, hcz27_2, hcz27_3, hcz27_4, hcz27_5, hcz27_6⟩ := cells7 BK224.out; obtain ⟨hfz27_0, hfz27_1, hfz27_2, hfz27_3, hfz27_4, hfz27_5, hfz27_6⟩ := froz7 BK224.out) | (go_at_call 43; (with_reducible refine (r04_from.calls _ _ _ _ _ (Aside0.out (by assumption))).mono ?_); rintro e w' ⟨rfl, ⟨nd, rfl⟩⟩; (try first | exact ⟨rfl, _, World.drewN_drewN _ _ _⟩ | exact ⟨rfl, _, Eq.trans (World.drewN_drewN _ _ _) (congrArg (World.drewN _) (Nat.add_assoc _ _ _))⟩)))
      repeat (go_quiet (fail); try go_wp2_with (fail))
      go_ret
      exact ⟨by rfl, by repeat (first | (with_reducible first | exact HB.out | apply below_alloc | apply pw_below_drewN | apply below_drew1 | refine below_set ?_ GE224.out) | exact HB.out)⟩
    ·replace c9 := Bool.eq_false_iff.mpr c9
     subst c9
     rw [if_neg (show ¬ (false = true) by decide)] at H
     obtain rfl := si_ H
     go_enter Try.func18, Try.ntmps18
     go_wp2_with (first | ((with_reducible refine gate_dst (N := 1) rfl ?_); refine box_event ?hg (N := 1) ?hd (cs := #[.int .i64 a0_0, .int .i64 a0_1, .int .i64 a0_2, .int .i64 a0_3, .int .i64 a0_4, .int .i64 a0_5, .int .i64 a0_6]) (t := 23) ?hr ?_; (case hd => rfl); (case hg => rfl); (case hr => (go_simp; done)); intro gb224 hg w28 hbox hb; have BK224 := ak_ (hbox); have GW224 := ak_ (gw_ hg (below_size HB.out)); have GE224 := ak_ (gw_ hg (below_size HB.out)); replace HB := ak_ (below_step HB.out hb); clear hb hbox hg; obtain ⟨hcz29_0, hcz29_1, hcz29_2, hcz29_3, hcz29_4, hcz29_5, hcz29_6⟩ := cells7 BK224.out; obtain ⟨hfz29_0, hfz29_1, hfz29_2, hfz29_3, hfz29_4, hfz29_5, hfz29_6⟩ := froz7 BK224.out) | (go_at_call 43; (with_reducible refine (r04_from.calls _ _ _ _ _ (Aside0.out (by assumption))).mono ?_); rintro e w' ⟨rfl, ⟨nd, rfl⟩⟩; (try first | exact ⟨rfl, _, World.drewN_drewN _ _ _⟩ | exact ⟨rfl, _, Eq.trans (World.drewN_drewN _ _ _) (congrArg (World.drewN _) (Nat.add_assoc _ _ _))⟩)))
     repeat (go_quiet (fail); try go_wp2_with (fail))
     go_ret
     exact ⟨by rfl, by repeat (first | (with_reducible first | exact HB.out | apply below_alloc | apply pw_below_drewN | apply below_drew1 | refine below_set ?_ GE224.out) | exact HB.out)⟩
   ·replace c7 := Bool.eq_false_iff.mpr c7
    subst c7
    rw [if_neg (show ¬ (false = true) by decide)] at H
    obtain rfl := si_ H
    go_enter Try.func18, Try.ntmps18
    go_wp2_with (first | ((with_reducible refine gate_dst (N := 1) rfl ?_); refine box_event ?hg (N := 1) ?hd (cs := #[.int .i64 a0_0, .int .i64 a0_1, .int .i64 a0_2, .int .i64 a0_3, .int .i64 a0_4, .int .i64 a0_5, .int .i64 a0_6]) (t := 23) ?hr ?_; (case hd => rfl); (case hg => rfl); (case hr => (go_simp; done)); intro gb224 hg w30 hbox hb; have BK224 := ak_ (hbox); have GW224 := ak_ (gw_ hg (below_size HB.out)); have GE224 := ak_ (gw_ hg (below_size HB.out)); replace HB := ak_ (below_step HB.out hb); clear hb hbox hg; obtain ⟨hcz31_0, hcz31_1, hcz31_2, hcz31_3, hcz31_4, hcz31_5, hcz31_6⟩ := cells7 BK224.out; obtain ⟨hfz31_0, hfz31_1, hfz31_2, hfz31_3, hfz31_4, hfz31_5, hfz31_6⟩ := froz7 BK224.out) | (go_at_call 43; (with_reducible refine (r04_from.calls _ _ _ _ _ (Aside0.out (by assumption))).mono ?_); rintro e w' ⟨rfl, ⟨nd, rfl⟩⟩; (try first | exact ⟨rfl, _, World.drewN_drewN _ _ _⟩ | exact ⟨rfl, _, Eq.trans (World.drewN_drewN _ _ _) (congrArg (World.drewN _) (Nat.add_assoc _ _ _))⟩)))
    repeat (go_quiet (fail); try go_wp2_with (fail))
    go_ret
    exact ⟨by rfl, by repeat (first | (with_reducible first | exact HB.out | apply below_alloc | apply pw_below_drewN | apply below_drew1 | refine below_set ?_ GE224.out) | exact HB.out)⟩
  ·replace c5 := Bool.eq_false_iff.mpr c5
   subst c5
   rw [if_neg (show ¬ (false = true) by decide)] at H
   obtain rfl := si_ H
   go_enter Try.func18, Try.ntmps18
   go_wp2_with (first | ((with_reducible refine gate_dst (N := 1) rfl ?_); refine box_event ?hg (N := 1) ?hd (cs := #[.int .i64 a0_0, .int .i64 a0_1, .int .i64 a0_2, .int .i64 a0_3, .int .i64 a0_4, .int .i64 a0_5, .int .i64 a0_6]) (t := 23) ?hr ?_; (case hd => rfl); (case hg => rfl); (case hr => (go_simp; done)); intro gb224 hg w32 hbox hb; have BK224 := ak_ (hbox); have GW224 := ak_ (gw_ hg (below_size HB.out)); have GE224 := ak_ (gw_ hg (below_size HB.out)); replace HB := ak_ (below_step HB.out hb); clear hb hbox hg; obtain ⟨hcz33_0, hcz33_1, hcz33_2, hcz33_3, hcz33_4, hcz33_5, hcz33_6⟩ := cells7 BK224.out; obtain ⟨hfz33_0, hfz33_1, hfz33_2, hfz33_3, hfz33_4, hfz33_5, hfz33_6⟩ := froz7 BK224.out) | (go_at_call 43; (with_reducible refine (r04_from.calls _ _ _ _ _ (Aside0.out (by assumption))).mono ?_); rintro e w' ⟨rfl, ⟨nd, rfl⟩⟩; (try first | exact ⟨rfl, _, World.drewN_drewN _ _ _⟩ | exact ⟨rfl, _, Eq.trans (World.drewN_drewN _ _ _) (congrArg (World.drewN _) (Nat.add_assoc _ _ _))⟩)))
   repeat (go_quiet (fail); try go_wp2_with (fail))
   go_ret
   exact ⟨by rfl, by repeat (first | (with_reducible first | exact HB.out | apply below_alloc | apply pw_below_drewN | apply below_drew1 | refine below_set ?_ GE224.out) | exact HB.out)⟩
 ·replace c3 := Bool.eq_false_iff.mpr c3
  subst c3
  rw [if_neg (show ¬ (false = true) by decide)] at H
  obtain rfl := si_ H
  go_enter Try.func18, Try.ntmps18
  go_wp2_with (first | ((with_reducible refine gate_dst (N := 1) rfl ?_); refine box_event ?hg (N := 1) ?hd (cs := #[.int .i64 a0_0, .int .i64 a0_1, .int .i64 a0_2, .int .i64 a0_3, .int .i64 a0_4, .int .i64 a0_5, .int .i64 a0_6]) (t := 23) ?hr ?_; (case hd => rfl); (case hg => rfl); (case hr => (go_simp; done)); intro gb224 hg w34 hbox hb; have BK224 := ak_ (hbox); have GW224 := ak_ (gw_ hg (below_size HB.out)); have GE224 := ak_ (gw_ hg (below_size HB.out)); replace HB := ak_ (below_step HB.out hb); clear hb hbox hg; obtain ⟨hcz35_0, hcz35_1, hcz35_2, hcz35_3, hcz35_4, hcz35_5, hcz35_6⟩ := cells7 BK224.out; obtain ⟨hfz35_0, hfz35_1, hfz35_2, hfz35_3, hfz35_4, hfz35_5, hfz35_6⟩ := froz7 BK224.out) | (go_at_call 43; (with_reducible refine (r04_from.calls a0_0 1 4 false _ A2.out).mono ?_); rintro e w' ⟨rfl, ⟨nd, rfl⟩⟩; (try first | exact ⟨rfl, _, World.drewN_drewN _ _ _⟩ | exact ⟨rfl, _, Eq.trans (World.drewN_drewN _ _ _) (congrArg (World.drewN _) (Nat.add_assoc _ _ _))⟩)))
  repeat (go_quiet (fail); try go_wp2_with (fail))
  go_ret
  exact ⟨by rfl, by repeat (first | (with_reducible first | exact HB.out | apply below_alloc | apply pw_below_drewN | apply below_drew1 | refine below_set ?_ GE224.out) | exact HB.out)⟩
def geom_Check_rows (a0 a1 a2 a3 a4 a5 a6 : Int) : List (Int × Int × Int) := [(a0, 1, 4), (a1, 2, 256), (a2, 4, 64), (a3, 1, 16), (a4, 4, 512), (a5, 1, 8), (a6, 1, 8)]
def geom_Check_in (t : Int × Int × Int) : Bool := decide (t.2.1 ≤ t.1) && decide (t.1 ≤ t.2.2)
def geom_Check.f (a0_0 : Int) (a0_1 : Int) (a0_2 : Int) (a0_3 : Int) (a0_4 : Int) (a0_5 : Int) (a0_6 : Int) : Option Int := some (if (geom_Check_rows a0_0 a0_1 a0_2 a0_3 a0_4 a0_5 a0_6).all geom_Check_in = true ∧ Int.tmod a0_1 a0_0 = 0 ∧ Int.tmod a0_2 2 = 0 then 0 else 2)
set_option maxRecDepth 100000 in
theorem geom_Check_index {a0 a1 a2 a3 a4 a5 a6 x lo hi : Int} {k : Nat} (h : k < 7) (e : (geom_Check_rows a0 a1 a2 a3 a4 a5 a6)[k]? = some (x, lo, hi)) (w : World) :
  (Instr.index 97 (.agg #[.int .i64 a0, .int .i64 1, .int .i64 4, .int .i64 a1, .int .i64 2, .int .i64 256, .int .i64 a2, .int .i64 4, .int .i64 64, .int .i64 a3, .int .i64 1, .int .i64 16, .int .i64 a4, .int .i64 4, .int .i64 512, .int .i64 a5, .int .i64 1, .int .i64 8, .int .i64 a6, .int .i64 1, .int .i64 8]) (.int .i64 (k : Int))).run Try.prog w = .ok (.agg #[.int .i64 x, .int .i64 lo, .int .i64 hi]) w := by
 have key : ∀ vs : Array Value, vs.size = 21 → ∀ v, .agg (vs.extract (k * 3) (k * 3 + 3)) = v → (Instr.index 97 (.agg vs) (.int .i64 (k : Int))).run Try.prog w = .ok v w := by
  intro vs hsz v hv
  simp [Instr.index, run_underlying (P := Try.prog) Try.underlying97, asIntOf, go_sem, hsz, h]
  exact hv
 refine key _ rfl _ ?_
 match k, h, e with
 | 0, _, e => cases e; rfl
 | 1, _, e => cases e; rfl
 | 2, _, e => cases e; rfl
 | 3, _, e => cases e; rfl
 | 4, _, e => cases e; rfl
 | 5, _, e => cases e; rfl
 | 6, _, e => cases e; rfl
theorem geom_Check_take {l : List (Int × Int × Int)} {k : Nat} {t : Int × Int × Int} (h : l[k]? = some t) : l.take (k + 1) = l.take k ++ [t] := by
 rw [List.take_add_one, h]
 rfl
theorem geom_Check_bad {l : List (Int × Int × Int)} {t : Int × Int × Int} {P : Prop} (h : t ∈ l) (e : geom_Check_in t = false) : ¬ (l.all geom_Check_in = true ∧ P) := fun a => by
 have := List.all_eq_true.1 a.1 t h
 rw [e] at this
 cases this
theorem geom_Check_meas {n k : Nat} (h : k < n) : n - (intOf (.int .i64 ((k : Int) + 1))).toNat < n - (intOf (.int .i64 (k : Int))).toNat := by
 simp only [intOf]
 omega
theorem geom_Check_info : (Try.prog.info? 96).map (fun i => (i.zero, i.size, i.bytes)) = some (some (.agg #[.int .i64 0, .int .i64 0, .int .i64 0]), 3, 24) := by kernel_rfl
theorem geom_Check.calls (a0_0 : Int) (a0_1 : Int) (a0_2 : Int) (a0_3 : Int) (a0_4 : Int) (a0_5 : Int) (a0_6 : Int) (r : Int) (w : World) (h : geom_Check.f a0_0 a0_1 a0_2 a0_3 a0_4 a0_5 a0_6 = some r) :
  Calls Try.prog 35 #[.agg #[.int .i64 a0_0, .int .i64 a0_1, .int .i64 a0_2, .int .i64 a0_3, .int .i64 a0_4, .int .i64 a0_5, .int .i64 a0_6]] w fun e w' => e = .returned (.int .i64 r) ∧ Below w.heap.size w w' := by
 have hu := Try.underlying23
 have hu96 := Try.underlying96
 have hu97 := Try.underlying97
 obtain ⟨i96, hi96, hz96, hs96, hb96⟩ := info_parts geom_Check_info
 have HH := ak_ (si_ h)
 clear h
 have HB := ak_ (below_alloc (Below.refl w.heap.size w) (.cells #[.int .i64 a0_0, .int .i64 a0_1, .int .i64 a0_2, .int .i64 a0_3, .int .i64 a0_4, .int .i64 a0_5, .int .i64 a0_6] 23))
 have BK := ak_ (blk_new w (.cells #[.int .i64 a0_0, .int .i64 a0_1, .int .i64 a0_2, .int .i64 a0_3, .int .i64 a0_4, .int .i64 a0_5, .int .i64 a0_6] 23))
 have hc0 := bc_ BK.out 0
 have hc1 := bc_ BK.out 1
 have hc2 := bc_ BK.out 2
 have hc3 := bc_ BK.out 3
 have hc4 := bc_ BK.out 4
 have hc5 := bc_ BK.out 5
 have hc6 := bc_ BK.out 6
 go_enter Try.func35, Try.ntmps35
 go_wp2
 clear hc0 hc1 hc2 hc3 hc4 hc5 hc6
 go_loopw [27] (fun v27 wr => ∃ k : Nat, k ≤ 7 ∧ v27 = .int .i64 (k : Int) ∧ Aside0 (((geom_Check_rows a0_0 a0_1 a0_2 a0_3 a0_4 a0_5 a0_6).take k).all geom_Check_in = true) ∧ Aside0 (wr.heap[w.heap.size]? = some (.cells #[.int .i64 a0_0, .int .i64 a0_1, .int .i64 a0_2, .int .i64 a0_3, .int .i64 a0_4, .int .i64 a0_5, .int .i64 a0_6] 23 (0, 0))) ∧ Aside0 (Below w.heap.size w wr)) (fun v27 _ => 7 - (intOf v27).toNat)
 case atStart => exact ⟨0, Nat.zero_le _, rfl, ⟨rfl⟩, BK, HB⟩
 case round =>
  clear BK HB
  obtain ⟨k, hk, rfl, HA, BK, HB⟩ := hrel
  by_cases hlt : k < 7
  ·obtain ⟨x, lo, hi, hrow⟩ : ∃ x lo hi : Int, (geom_Check_rows a0_0 a0_1 a0_2 a0_3 a0_4 a0_5 a0_6)[k]? = some (x, lo, hi) := ⟨_, _, _, List.getElem?_eq_getElem (l := geom_Check_rows a0_0 a0_1 a0_2 a0_3 a0_4 a0_5 a0_6) hlt⟩
   have hix : ∀ w, (Instr.index 97 (.agg #[.int .i64 a0_0, .int .i64 1, .int .i64 4, .int .i64 a0_1, .int .i64 2, .int .i64 256, .int .i64 a0_2, .int .i64 4, .int .i64 64, .int .i64 a0_3, .int .i64 1, .int .i64 16, .int .i64 a0_4, .int .i64 4, .int .i64 512, .int .i64 a0_5, .int .i64 1, .int .i64 8, .int .i64 a0_6, .int .i64 1, .int .i64 8]) (.int .i64 (k : Int))).run Try.prog w = .ok (.agg #[.int .i64 x, .int .i64 lo, .int .i64 hi]) w :=
    fun w => geom_Check_index hlt hrow w
   have HT := ak_ (geom_Check_take hrow)
   have c1 : decide ((k : Int) < 7) = true := dt_ (by omega)
   have c1b : decide (k < 7) = true := dt_ hlt
   have hw : wrap64 ((k : Int) + 1) = (k : Int) + 1 := by unfold wrap64; omega
   have HL := ak_ hlt
   have HM := ak_ (List.mem_of_getElem? hrow)
   clear hrow hk hlt
   by_cases g1 : x < lo
   ·have d1 : decide (x < lo) = true := dt_ g1
    have E := ak_ (geom_Check_bad (P := Int.tmod a0_1 a0_0 = 0 ∧ Int.tmod a0_2 2 = 0) HM.out (show geom_Check_in (x, lo, hi) = false from by
     unfold geom_Check_in
     rw [Bool.and_eq_false_iff]
     exact Or.inl (df_ (by show ¬ lo ≤ x; omega))))
    clear g1 HM
    have H := HH.out
    rw [if_neg E.out] at H
    subst H
    clear E HH
    go_wp2
    go_ret
    exact ⟨rfl, below_alloc HB.out _⟩
   ·have d1 : decide (x < lo) = false := df_ g1
    by_cases g2 : hi < x
    ·have d2 : decide (hi < x) = true := dt_ g2
     have E := ak_ (geom_Check_bad (P := Int.tmod a0_1 a0_0 = 0 ∧ Int.tmod a0_2 2 = 0) HM.out (show geom_Check_in (x, lo, hi) = false from by
      unfold geom_Check_in
      rw [Bool.and_eq_false_iff]
      exact Or.inr (df_ (by show ¬ x ≤ hi; omega))))
     clear g1 g2 HM
     have H := HH.out
     rw [if_neg E.out] at H
     subst H
     clear E HH
     go_wp2
     go_ret
     exact ⟨rfl, below_alloc HB.out _⟩
    ·have d2 : decide (hi < x) = false := df_ g2
     have E := ak_ (show geom_Check_in (x, lo, hi) = true from by
      unfold geom_Check_in
      rw [Bool.and_eq_true]
      exact ⟨dt_ (by show lo ≤ x; omega), dt_ (by show x ≤ hi; omega)⟩)
     clear g1 g2 HM
     go_wp2
     go_roundw
     case rel => exact ⟨k + 1, HL.out, by go_num, ⟨by rw [HT.out, List.all_append, HA.out, List.all_cons, E.out]; rfl⟩, ⟨blk_alloc BK.out _⟩, ⟨below_alloc HB.out _⟩⟩
     case measure => rw [hw]; exact geom_Check_meas HL.out
  ·obtain rfl : k = 7 := by omega
   have A := HA.out
   rw [List.take_of_length_le (by exact Nat.le_refl 7)] at A
   have hm : 1 ≤ a0_0 := by
    have := List.all_eq_true.1 A (a0_0, 1, 4) (List.Mem.head _)
    unfold geom_Check_in at this
    rw [Bool.and_eq_true, decide_eq_true_eq] at this
    exact this.1
   have AA := ak_ A
   clear A HA hk hlt
   have z0 : decide (a0_0 = 0) = false := df_ (by omega)
   have z0' : (a0_0 = 0) = False := eq_false (by omega)
   have HP := ak_ hm
   clear hm
   have hc0 := bc_ BK.out 0
   have hc1 := bc_ BK.out 1
   have hc2 := bc_ BK.out 2
   clear BK
   have H := HH.out
   by_cases g1 : Int.tmod a0_1 a0_0 = 0
   ·have d1 : (Int.tmod a0_1 a0_0 == 0) = true := beq_iff_eq.2 g1
    by_cases g2 : Int.tmod a0_2 2 = 0
    ·have d2 : (Int.tmod a0_2 2 == 0) = true := beq_iff_eq.2 g2
     rw [if_pos ⟨AA.out, g1, g2⟩] at H
     subst H
     clear HH AA
     go_wp2
     go_ret
     exact ⟨rfl, HB.out⟩
    ·have d2 : (Int.tmod a0_2 2 == 0) = false := beq_eq_false_iff_ne.2 g2
     rw [if_neg (fun e => g2 e.2.2)] at H
     subst H
     clear HH AA
     go_wp2
     go_ret
     exact ⟨rfl, HB.out⟩
   ·have d1 : (Int.tmod a0_1 a0_0 == 0) = false := beq_eq_false_iff_ne.2 g1
    rw [if_neg (fun e => g1 e.2.1)] at H
    subst H
    clear HH AA
    go_wp2
    go_ret
    exact ⟨rfl, HB.out⟩
def geom_Raw.f (a0_0 : Int) (a0_1 : Int) (a0_2 : Int) (a0_3 : Int) (a0_4 : Int) (a0_5 : Int) (a0_6 : Int) : Option (Int) := (geom_Check.f a0_0 a0_1 a0_2 a0_3 a0_4 a0_5 a0_6).bind fun t110 => (if t110 = 0 then (some (wrap64 ((wrap64 ((wrap64 ((wrap64 (a0_3 * (wrap64 (a0_4 + 2)))) + 28)) + 2)) + 1))) else (some 0))
theorem geom_Raw.calls (a0_0 : Int) (a0_1 : Int) (a0_2 : Int) (a0_3 : Int) (a0_4 : Int) (a0_5 : Int) (a0_6 : Int) (r : Int) (w : World) (h : geom_Raw.f a0_0 a0_1 a0_2 a0_3 a0_4 a0_5 a0_6 = some r) :
  Calls Try.prog 16 #[.agg #[.int .i64 a0_0, .int .i64 a0_1, .int .i64 a0_2, .int .i64 a0_3, .int .i64 a0_4, .int .i64 a0_5, .int .i64 a0_6]] w fun e w' => e = .returned (.int .i64 r) ∧ Below w.heap.size w w' := by
 have hu23 := Try.underlying23
 have HB := br_ w
 unfold geom_Raw.f at h
 have H := h
 clear h
 obtain ⟨t102, A2, H⟩ := bs_ H
 by_cases c3 : t102 = 0
 ·rw [if_pos c3] at H
  have c3b0 := beq_iff_eq.mpr c3
  have c3b1 := bne_eq_false_iff_eq.mpr c3
  clear c3
  obtain rfl := si_ H
  go_enter Try.func16, Try.ntmps16
  go_wp2_with (first | ((with_reducible refine gate_dst (N := 1) rfl ?_); refine box_event ?hg (N := 1) ?hd (cs := #[.int .i64 a0_0, .int .i64 a0_1, .int .i64 a0_2, .int .i64 a0_3, .int .i64 a0_4, .int .i64 a0_5, .int .i64 a0_6]) (t := 23) ?hr ?_; (case hd => rfl); (case hg => rfl); (case hr => (go_simp; done)); intro gb101 hg w4 hbox hb; have BK101 := ak_ (hbox); have GW101 := ak_ (gw_ hg (below_size HB.out)); have GE101 := ak_ (gw_ hg (below_size HB.out)); replace HB := ak_ (below_step HB.out hb); clear hb hbox hg; have hcz5_0 : w4.cell? ⟨gb101, 0, none⟩ = some (.int .i64 a0_0) := (bc_ BK101.out 0).trans rfl; have hcz5_1 : w4.cell? ⟨gb101, 1, none⟩ = some (.int .i64 a0_1) := (bc_ BK101.out 1).trans rfl; have hcz5_2 : w4.cell? ⟨gb101, 2, none⟩ = some (.int .i64 a0_2) := (bc_ BK101.out 2).trans rfl; have hcz5_3 : w4.cell? ⟨gb101, 3, none⟩ = some (.int .i64 a0_3) := (bc_ BK101.out 3).trans rfl; have hcz5_4 : w4.cell? ⟨gb101, 4, none⟩ = some (.int .i64 a0_4) := (bc_ BK101.out 4).trans rfl; have hcz5_5 : w4.cell? ⟨gb101, 5, none⟩ = some (.int .i64 a0_5) := (bc_ BK101.out 5).trans rfl; have hcz5_6 : w4.cell? ⟨gb101, 6, none⟩ = some (.int .i64 a0_6) := (bc_ BK101.out 6).trans rfl; have hfz5_0 := bf_ BK101.out 0; have hfz5_1 := bf_ BK101.out 1; have hfz5_2 := bf_ BK101.out 2; have hfz5_3 := bf_ BK101.out 3; have hfz5_4 := bf_ BK101.out 4; have hfz5_5 := bf_ BK101.out 5; have hfz5_6 := bf_ BK101.out 6) | ((with_reducible refine gate_callee (f := 35) rfl ?_); refine goesL_ (some 4) rfl rfl Try.func35 (by kernel_rfl) rfl #[.agg #[.int .i64 a0_0, .int .i64 a0_1, .int .i64 a0_2, .int .i64 a0_3, .int .i64 a0_4, .int .i64 a0_5, .int .i64 a0_6]] rfl (by (try simp only [List.map_toArray, List.map_cons, List.map_nil]); first | done | rfl | (simp only [List.length_drop, List.length_take]; rfl)) ?_; (with_reducible refine (geom_Check.calls a0_0 a0_1 a0_2 a0_3 a0_4 a0_5 a0_6 t102 _ A2.out).mono ?_); rintro e w6 ⟨rfl, hb⟩; refine ⟨_, rfl, ?_⟩; replace BK101 := ak_ (blk_below BK101.out hb); replace HB := ak_ (below_step HB.out hb); (try clear hb); have hcz7_0 : w6.cell? ⟨gb101, 0, none⟩ = some (.int .i64 a0_0) := (bc_ BK101.out 0).trans rfl; have hcz7_1 : w6.cell? ⟨gb101, 1, none⟩ = some (.int .i64 a0_1) := (bc_ BK101.out 1).trans rfl; have hcz7_2 : w6.cell? ⟨gb101, 2, none⟩ = some (.int .i64 a0_2) := (bc_ BK101.out 2).trans rfl; have hcz7_3 : w6.cell? ⟨gb101, 3, none⟩ = some (.int .i64 a0_3) := (bc_ BK101.out 3).trans rfl; have hcz7_4 : w6.cell? ⟨gb101, 4, none⟩ = some (.int .i64 a0_4) := (bc_ BK101.out 4).trans rfl; have hcz7_5 : w6.cell? ⟨gb101, 5, none⟩ = some (.int .i64 a0_5) := (bc_ BK101.out 5).trans rfl; have hcz7_6 : w6.cell? ⟨gb101, 6, none⟩ = some (.int .i64 a0_6) := (bc_ BK101.out 6).trans rfl; have hfz7_0 := bf_ BK101.out 0; have hfz7_1 := bf_ BK101.out 1; have hfz7_2 := bf_ BK101.out 2; have hfz7_3 := bf_ BK101.out 3; have hfz7_4 := bf_ BK101.out 4; have hfz7_5 := bf_ BK101.out 5; have hfz7_6 := bf_ BK101.out 6))
  go_ret
  exact ⟨by rfl, HB.out⟩
 ·rw [if_neg c3] at H
  have c3b0 := beq_eq_false_iff_ne.mpr c3
  have c3b1 := bne_iff_ne.mpr c3
  obtain rfl := si_ H
  go_enter Try.func16, Try.ntmps16
  go_wp2_with (first | ((with_reducible refine gate_dst (N := 1) rfl ?_); refine box_event ?hg (N := 1) ?hd (cs := #[.int .i64 a0_0, .int .i64 a0_1, .int .i64 a0_2, .int .i64 a0_3, .int .i64 a0_4, .int .i64 a0_5, .int .i64 a0_6]) (t := 23) ?hr ?_; (case hd => rfl); (case hg => rfl); (case hr => (go_simp; done)); intro gb101 hg w8 hbox hb; have BK101 := ak_ (hbox); have GW101 := ak_ (gw_ hg (below_size HB.out)); have GE101 := ak_ (gw_ hg (below_size HB.out)); replace HB := ak_ (below_step HB.out hb); clear hb hbox hg; have hcz9_0 : w8.cell? ⟨gb101, 0, none⟩ = some (.int .i64 a0_0) := (bc_ BK101.out 0).trans rfl; have hcz9_1 : w8.cell? ⟨gb101, 1, none⟩ = some (.int .i64 a0_1) := (bc_ BK101.out 1).trans rfl; have hcz9_2 : w8.cell? ⟨gb101, 2, none⟩ = some (.int .i64 a0_2) := (bc_ BK101.out 2).trans rfl; have hcz9_3 : w8.cell? ⟨gb101, 3, none⟩ = some (.int .i64 a0_3) := (bc_ BK101.out 3).trans rfl; have hcz9_4 : w8.cell? ⟨gb101, 4, none⟩ = some (.int .i64 a0_4) := (bc_ BK101.out 4).trans rfl; have hcz9_5 : w8.cell? ⟨gb101, 5, none⟩ = some (.int .i64 a0_5) := (bc_ BK101.out 5).trans rfl; have hcz9_6 : w8.cell? ⟨gb101, 6, none⟩ = some (.int .i64 a0_6) := (bc_ BK101.out 6).trans rfl; have hfz9_0 := bf_ BK101.out 0; have hfz9_1 := bf_ BK101.out 1; have hfz9_2 := bf_ BK101.out 2; have hfz9_3 := bf_ BK101.out 3; have hfz9_4 := bf_ BK101.out 4; have hfz9_5 := bf_ BK101.out 5; have hfz9_6 := bf_ BK101.out 6) | ((with_reducible refine gate_callee (f := 35) rfl ?_); refine goesL_ (some 4) rfl rfl Try.func35 (by kernel_rfl) rfl #[.agg #[.int .i64 a0_0, .int .i64 a0_1, .int .i64 a0_2, .int .i64 a0_3, .int .i64 a0_4, .int .i64 a0_5, .int .i64 a0_6]] rfl (by (try simp only [List.map_toArray, List.map_cons, List.map_nil]); first | done | rfl | (simp only [List.length_drop, List.length_take]; rfl)) ?_; (with_reducible refine (geom_Check.calls a0_0 a0_1 a0_2 a0_3 a0_4 a0_5 a0_6 t102 _ A2.out).mono ?_); rintro e w10 ⟨rfl, hb⟩; refine ⟨_, rfl, ?_⟩; replace BK101 := ak_ (blk_below BK101.out hb); replace HB := ak_ (below_step HB.out hb); (try clear hb)))
  go_ret
  exact ⟨by rfl, HB.out⟩
def page_Erased.l0 : Nat → List Int → Int → Int → Option (List Int)
 | 0, _, _, _ => none
 | k + 1, x3, x9, x10 => if x10 < x9 then (if 0 ≤ x10 then (if x10 < (x3.length : Int) then (page_Erased.l0 k (x3.set (x10 : Int).toNat 255) x9 (wrap64 (x10 + 1))) else (none)) else (none)) else (some x3)
def page_Erased.f (k : Nat) (a0_0 : Int) (a0_1 : Int) (a0_2 : Int) (a0_3 : Int) (a0_4 : Int) (a0_5 : Int) (a0_6 : Int) : Option (List Int) := (geom_Raw.f a0_0 a0_1 a0_2 a0_3 a0_4 a0_5 a0_6).bind fun t112 => (if 0 ≤ t112 then (if (t112 : Int).toNat ≤ 281474976710656 then ((some (List.replicate (t112 : Int).toNat 0 : List Int)).bind fun y113 => (page_Erased.l0 k y113 (y113.length : Int) 0)) else (none)) else (none))
theorem page_Erased.mono_l : ∀ k, (∀ y0 y1 y2, LeO (page_Erased.l0 k y0 y1 y2) (page_Erased.l0 (k + 1) y0 y1 y2))
 | 0 => fun _ _ _ r h => by simp [page_Erased.l0] at h
 | k + 1 => by
  have ih0 := page_Erased.mono_l k
  ·intro y0 y1 y2
   unfold page_Erased.l0
   repeat' first
   | (with_reducible exact ih0 _ _ _)
   | (with_reducible exact LeO.refl _)
   | (with_reducible exact LeO.none _)
   | (with_reducible refine LeO.ite ?_ ?_)
   | (with_reducible refine LeO.bind ?_ (fun _ => ?_))
theorem page_Erased.mono : ∀ a0 a1 a2 a3 a4 a5 a6 k, LeO (page_Erased.f k a0 a1 a2 a3 a4 a5 a6) (page_Erased.f (k + 1) a0 a1 a2 a3 a4 a5 a6) := by
 intro a0 a1 a2 a3 a4 a5 a6 k
 have ih0 := page_Erased.mono_l k
 unfold page_Erased.f
 repeat' with_reducible first
  | exact ih0 _ _ _
  | exact LeO.refl _
  | exact LeO.none _
  | refine LeO.ite ?_ ?_
  | refine LeO.bind ?_ (fun _ => ?_)
theorem page_Erased.calls (k : Nat) (a0_0 : Int) (a0_1 : Int) (a0_2 : Int) (a0_3 : Int) (a0_4 : Int) (a0_5 : Int) (a0_6 : Int) (r : List Int) (w : World) (h : page_Erased.f k a0_0 a0_1 a0_2 a0_3 a0_4 a0_5 a0_6 = some r) :
  Calls Try.prog 15 #[.agg #[.int .i64 a0_0, .int .i64 a0_1, .int .i64 a0_2, .int .i64 a0_3, .int .i64 a0_4, .int .i64 a0_5, .int .i64 a0_6]] w fun e w' => ∃ v0_ : Value, e = .returned (v0_) ∧ Kd.R (Kd.int .u8) 5 w' w.heap.size (fun _ => True) v0_ r ∧ Below w.heap.size w w' := by
 have hu23 := Try.underlying23
 have HB := br_ w
 unfold page_Erased.f at h
 have H := h
 clear h
 obtain ⟨t104, A2, H⟩ := bs_ H
 by_cases c3 : 0 ≤ t104
 ·rw [if_pos c3] at H
  have c3b0 := eq_true c3
  have c3b1 := dt_ c3
  clear c3
  by_cases c4 : (t104 : Int).toNat ≤ 281474976710656
  ·rw [if_pos c4] at H
   have c4b0 := eq_true c4
   have c4b1 := dt_ c4
   clear c4
   obtain ⟨y105, hy105⟩ : ∃ y_ : List Int, y_ = (List.replicate (t104 : Int).toNat 0) := ⟨_, rfl⟩
   replace H : (page_Erased.l0 k y105 (y105.length : Int) 0) = some r := by first | (rw [hy105]; with_reducible exact H) | (have H2_ := (Option.bind_some _ _).symm.trans H; rw [hy105]; with_reducible exact H2_) | (have H2_ := (Option.bind_some _ _).symm.trans H; with_reducible exact H2_) | with_reducible exact H | (rw [hy105]; exact H) | exact H
   have Ny105 := ak_ hy105
   clear hy105
   have H' := ak_ H
   clear H
   go_enter Try.func15, Try.ntmps15
   go_wp2_with (first | ((with_reducible refine gate_dst (N := 1) rfl ?_); refine box_event ?hg (N := 1) ?hd (cs := #[.int .i64 a0_0, .int .i64 a0_1, .int .i64 a0_2, .int .i64 a0_3, .int .i64 a0_4, .int .i64 a0_5, .int .i64 a0_6]) (t := 23) ?hr ?_; (case hd => rfl); (case hg => rfl); (case hr => (go_simp; done)); intro gb103 hg w5 hbox hb; have BK103 := ak_ (hbox); have GW103 := ak_ (gw_ hg (below_size HB.out)); have GE103 := ak_ (gw_ hg (below_size HB.out)); replace HB := ak_ (below_step HB.out hb); clear hb hbox hg; have hcz6_0 : w5.cell? ⟨gb103, 0, none⟩ = some (.int .i64 a0_0) := (bc_ BK103.out 0).trans rfl; have hcz6_1 : w5.cell? ⟨gb103, 1, none⟩ = some (.int .i64 a0_1) := (bc_ BK103.out 1).trans rfl; have hcz6_2 : w5.cell? ⟨gb103, 2, none⟩ = some (.int .i64 a0_2) := (bc_ BK103.out 2).trans rfl; have hcz6_3 : w5.cell? ⟨gb103, 3, none⟩ = some (.int .i64 a0_3) := (bc_ BK103.out 3).trans rfl; have hcz6_4 : w5.cell? ⟨gb103, 4, none⟩ = some (.int .i64 a0_4) := (bc_ BK103.out 4).trans rfl; have hcz6_5 : w5.cell? ⟨gb103, 5, none⟩ = some (.int .i64 a0_5) := (bc_ BK103.out 5).trans rfl; have hcz6_6 : w5.cell? ⟨gb103, 6, none⟩ = some (.int .i64 a0_6) := (bc_ BK103.out 6).trans rfl; have hfz6_0 := bf_ BK103.out 0; have hfz6_1 := bf_ BK103.out 1; have hfz6_2 := bf_ BK103.out 2; have hfz6_3 := bf_ BK103.out 3; have hfz6_4 := bf_ BK103.out 4; have hfz6_5 := bf_ BK103.out 5; have hfz6_6 := bf_ BK103.out 6) | ((with_reducible refine gate_callee (f := 16) rfl ?_); refine goesL_ (some 6) rfl rfl Try.func16 (by kernel_rfl) rfl #[.agg #[.int .i64 a0_0, .int .i64 a0_1, .int .i64 a0_2, .int .i64 a0_3, .int .i64 a0_4, .int .i64 a0_5, .int .i64 a0_6]] rfl (by (try simp only [List.map_toArray, List.map_cons, List.map_nil]); first | done | rfl | (simp only [List.length_drop, List.length_take]; rfl)) ?_; (with_reducible refine (geom_Raw.calls a0_0 a0_1 a0_2 a0_3 a0_4 a0_5 a0_6 t104 _ A2.out).mono ?_); rintro e w7 ⟨rfl, hb⟩; refine ⟨_, rfl, ?_⟩; replace BK103 := ak_ (blk_below BK103.out hb); replace HB := ak_ (below_step HB.out hb); (try clear hb)) | ((with_reducible refine gate_dst (N := 7) rfl ?_); refine Kd.R_make (Kd.int .u8) _ 5 rfl (N := 7) rfl 24 _ _ rfl t104 rfl rfl Try.underlying24 (.int .u8 0) 1 info5 rfl (by decide) (by omega) 0 (ok := fun _ => True) (okp := fun _ => True) rfl (fun _ hk => hk) trivial (od_ ‹_›) (Nat.le_trans (Nat.mul_le_mul_right _ (od_ ‹_› : t104.toNat ≤ 281474976710656)) (by omega)) (Below.refl _ _) (Nat.le_refl _) ?_; intro v106 w8 ho9 hb hg_ hnew_; clear hg_ hnew_; (rw [← Ny105.out] at ho9); have HO107 := ak_ (Kd.R_lower ho9 (below_size HB.out)); replace BK103 := ak_ (blk_below BK103.out hb); replace HB := ak_ (below_step HB.out hb); clear hb ho9; obtain ⟨Ao10, co10, eo10⟩ := Kd.R_slice HO107.out; subst eo10))
   go_loopg [10] k (fun kq v10 w' => ∃ (x3_1 : List Int) (x10_1 : Int), v10 = .int .i64 x10_1 ∧ Aside0 (page_Erased.l0 kq x3_1 (y105.length : Int) x10_1 = some r) ∧ Aside0 (kq ≤ k) ∧ Aside0 (Kd.R (Kd.int .u8) 5 w' w.heap.size (fun _ => True) (.slice Ao10 y105.length co10) x3_1) ∧ Aside0 (w'.heap[gb103]? = some (.cells #[.int .i64 a0_0, .int .i64 a0_1, .int .i64 a0_2, .int .i64 a0_3, .int .i64 a0_4, .int .i64 a0_5, .int .i64 a0_6] 23 (0, 0))) ∧ Aside0 (Below w.heap.size w w'))
   case atStart => exact ⟨(y105), (0), (by rfl), H', ⟨Nat.le_refl _⟩, ⟨HO107.out⟩, ⟨BK103.out⟩, ⟨HB.out⟩⟩
   case round =>
    clear H'
    clear c3b0 c3b1 c4b0 c4b1 hcz6_0 hcz6_1 hcz6_2 hcz6_3 hcz6_4 hcz6_5 hcz6_6 hfz6_0 hfz6_1 hfz6_2 hfz6_3 hfz6_4 hfz6_5 hfz6_6
    obtain ⟨x3_1, x10_1, rfl, HA, HK1, HO_3, BK103, HB⟩ := hrel
    have hl3_1 := (Kd.R_reads' HO_3.out).1
    rw [hl3_1] at HO_3
    (try simp only [hl3_1])
    cases gk with
    | zero => exact absurd HA.out (by simp [page_Erased.l0])
    | succ k1 =>
     have H := HA.out
     clear HA
     simp only [page_Erased.l0] at H
     by_cases c11 : x10_1 < (y105.length : Int)
     ·rw [if_pos c11] at H
      have c11b0 := dt_ c11
      (try (have c11b0h := c11b0; simp only [hl3_1] at c11b0h))
      clear c11
      by_cases c12 : 0 ≤ x10_1
      ·rw [if_pos c12] at H
       have c12b0 := dt_ c12
       clear c12
       by_cases c13 : x10_1 < (x3_1.length : Int)
       ·rw [if_pos c13] at H
        have c13b0 := dt_ c13
        (try (have c13b0h := c13b0; simp only [hl3_1] at c13b0h))
        clear c13
        obtain ⟨y108, hy108⟩ : ∃ y_ : List Int, y_ = (x3_1.set (x10_1 : Int).toNat 255) := ⟨_, rfl⟩
        replace H : (page_Erased.l0 k1 y108 (y105.length : Int) (wrap64 (x10_1 + 1))) = some r := (by rw [hy108]; with_reducible exact H)
        have Ny108 := ak_ hy108
        clear hy108
        have H' := ak_ H
        clear H
        have p14 : 0 ≤ (x10_1 : Int) := od_ ‹_›
        have q14 : (x10_1 : Int) < ((x3_1.length : Int) : Int) := od_ ‹_›
        obtain ⟨go14, co14, eo14, gb14, gl14, cl14, HG14⟩ := Kd.R_form HO_3.out (by omega)
        (first | cases eo14 | (injection eo14 with ea_ en_ ec_; (fail); subst ec_; clear en_))
        have GB14 := ak_ gb14
        have GG14 := ak_ HG14
        clear gb14 gl14 HG14
        obtain ⟨hx14_0, hf14_0⟩ := Kd.R_celln 0 HO_3.out (x10_1 : Int) p14 q14
        replace p14 := eq_true p14
        replace q14 := eq_true q14
        have HP15 := Kd.R_putg HO_3.out (x10_1 : Int) 255
        go_wp2_with ((with_reducible refine gate_store (t := 5) (p := 15) rfl ?_); refine store_event (t := 5) (p := 15) (v := ?vo_w16) (w1 := (wr.setCell ⟨go14, (x10_1 : Int).toNat, none⟩ (.int .u8 255))) ?hg ?ho ?hn ?hr ?_; (case ho => rfl); (case hg => rfl); (case hn => rfl); (case hr => (go_simp; done)); intro w16 hw; have hg : wr.grownBy w16 (some go14) := (by rw [hw]; exact HP15.2); have hp_ : Kd.R (Kd.int .u8) 5 w16 w.heap.size (fun _ => True) (.slice (some ⟨go14, 0, none⟩) x3_1.length co10) y108 := (by rw [hw, Ny108.out]; exact HP15.1); clear HP15; replace BK103 := ak_ (blk_grown BK103.out hg (Kd.R_ne HO_3.out BK103.out (by decide))); replace HO_3 := ak_ (hp_); replace HB := ak_ ((by rw [hw]; exact below_set (HB.out) GB14.out : Below w.heap.size w w16)); clear hg hw hp_)
        (try simp only [← hl3_1])
        go_roundg k1
        case measure => have := HK1.out; omega
        case rel => exact ⟨(y108), (wrap64 (x10_1 + 1)), (by rfl), H', ⟨by have := HK1.out; omega⟩, ⟨by (try simp only [hl3_1]); (with_reducible repeat (first | apply Kd.R_alloc | apply Kd.R_drewN | apply Kd.R_drew)); exact HO_3.out⟩, ⟨by (with_reducible repeat (first | apply blk_drewN | apply blk_drew | apply blk_alloc)); exact BK103.out⟩, ⟨HB.out⟩⟩
       ·rw [if_neg c13] at H
        exact absurd H (by simp)
      ·rw [if_neg c12] at H
       exact absurd H (by simp)
     ·rw [if_neg c11] at H
      have c11b0 := df_ c11
      (try (have c11b0h := c11b0; simp only [hl3_1] at c11b0h))
      clear c11
      obtain rfl := si_ H
      go_wp2
      go_ret
      exact ⟨_, by rfl, by (with_reducible repeat (first | apply Kd.R_alloc | apply Kd.R_drewN | apply Kd.R_drew)); exact HO_3.out, HB.out⟩
  ·rw [if_neg c4] at H
   exact absurd H (by simp)
 ·rw [if_neg c3] at H
  exact absurd H (by simp)
def bits_OnesCount8.f (a0 : Int) : Option (Int) := if 0 ≤ a0 then (if a0 < 256 then (some (wrap64 (bt (⟨#[0, 1, 1, 2, 1, 2, 2, 3, 1, 2, 2, 3, 2, 3, 3, 4, 1, 2, 2, 3, 2, 3, 3, 4, 2, 3, 3, 4, 3, 4, 4, 5, 1, 2, 2, 3, 2, 3, 3, 4, 2, 3, 3, 4, 3, 4, 4, 5, 2, 3, 3, 4, 3, 4, 4, 5, 3, 4, 4, 5, 4, 5, 5, 6, 1, 2, 2, 3, 2, 3, 3, 4, 2, 3, 3, 4, 3, 4, 4, 5, 2, 3, 3, 4, 3, 4, 4, 5, 3, 4, 4, 5, 4, 5, 5, 6, 2, 3, 3, 4, 3, 4, 4, 5, 3, 4, 4, 5, 4, 5, 5, 6, 3, 4, 4, 5, 4, 5, 5, 6, 4, 5, 5, 6, 5, 6, 6, 7, 1, 2, 2, 3, 2, 3, 3, 4, 2, 3, 3, 4, 3, 4, 4, 5, 2, 3, 3, 4, 3, 4, 4, 5, 3, 4, 4, 5, 4, 5, 5, 6, 2, 3, 3, 4, 3, 4, 4, 5, 3, 4, 4, 5, 4, 5, 5, 6, 3, 4, 4, 5, 4, 5, 5, 6, 4, 5, 5, 6, 5, 6, 6, 7, 2, 3, 3, 4, 3, 4, 4, 5, 3, 4, 4, 5, 4, 5, 5, 6, 3, 4, 4, 5, 4, 5, 5, 6, 4, 5, 5, 6, 5, 6, 6, 7, 3, 4, 4, 5, 4, 5, 5, 6, 4, 5, 5, 6, 5, 6, 6, 7, 4, 5, 5, 6, 5, 6, 6, 7, 5, 6, 6, 7, 6, 7, 7, 8]⟩ : ByteArray) a0))) else (none)) else (none)
theorem bits_OnesCount8.calls (a0 : Int) (r : Int) (w : World) (h : bits_OnesCount8.f a0 = some r) :
  Calls Try.prog 64 #[.int .u8 a0] w fun e w' => e = .returned (.int .i64 r) ∧ Drawn0 w w' := by
 unfold bits_OnesCount8.f at h
 have H := h
 clear h
 by_cases c2 : 0 ≤ a0
 ·rw [if_pos c2] at H
  have c2b0 := dt_ c2
  clear c2
  by_cases c3 : a0 < 256
  ·rw [if_pos c3] at H
   have c3b0 := dt_ c3
   clear c3
   obtain rfl := si_ H
   have p4 : 0 ≤ (a0 : Int) := od_ ‹_›
   have q4 : a0 < (256 : Int) := od_ ‹_›
   have hx4 := bt_at (⟨#[0, 1, 1, 2, 1, 2, 2, 3, 1, 2, 2, 3, 2, 3, 3, 4, 1, 2, 2, 3, 2, 3, 3, 4, 2, 3, 3, 4, 3, 4, 4, 5, 1, 2, 2, 3, 2, 3, 3, 4, 2, 3, 3, 4, 3, 4, 4, 5, 2, 3, 3, 4, 3, 4, 4, 5, 3, 4, 4, 5, 4, 5, 5, 6, 1, 2, 2, 3, 2, 3, 3, 4, 2, 3, 3, 4, 3, 4, 4, 5, 2, 3, 3, 4, 3, 4, 4, 5, 3, 4, 4, 5, 4, 5, 5, 6, 2, 3, 3, 4, 3, 4, 4, 5, 3, 4, 4, 5, 4, 5, 5, 6, 3, 4, 4, 5, 4, 5, 5, 6, 4, 5, 5, 6, 5, 6, 6, 7, 1, 2, 2, 3, 2, 3, 3, 4, 2, 3, 3, 4, 3, 4, 4, 5, 2, 3, 3, 4, 3, 4, 4, 5, 3, 4, 4, 5, 4, 5, 5, 6, 2, 3, 3, 4, 3, 4, 4, 5, 3, 4, 4, 5, 4, 5, 5, 6, 3, 4, 4, 5, 4, 5, 5, 6, 4, 5, 5, 6, 5, 6, 6, 7, 2, 3, 3, 4, 3, 4, 4, 5, 3, 4, 4, 5, 4, 5, 5, 6, 3, 4, 4, 5, 4, 5, 5, 6, 4, 5, 5, 6, 5, 6, 6, 7, 3, 4, 4, 5, 4, 5, 5, 6, 4, 5, 5, 6, 5, 6, 6, 7, 4, 5, 5, 6, 5, 6, 6, 7, 5, 6, 6, 7, 6, 7, 7, 8]⟩ : ByteArray) a0
   replace p4 := eq_true p4
   replace q4 := eq_true q4
   go_enter Try.func64, Try.ntmps64
   go_wp2
   go_ret
   exact ⟨by rfl, by repeat (first | exact Drawn0.refl _ | apply Drawn0.step)⟩
  ·rw [if_neg c3] at H
   exact absurd H (by simp)
 ·rw [if_neg c2] at H
  exact absurd H (by simp)
def bits_Count.l0 : Nat → Int → List Int → Int → Int → Option (Int)
 | 0, _, _, _, _ => none
 | k + 1, x3, x6, x7, x8 => if x8 < x7 then (if 0 ≤ x8 then (if x8 < (x6.length : Int) then ((bits_OnesCount8.f (rd x6 x8)).bind fun t118 => (bits_Count.l0 k (wrap64 (x3 + t118)) x6 x7 (wrap64 (x8 + 1)))) else (none)) else (none)) else (some x3)
def bits_Count.f (k : Nat) (l0 : List Int) : Option (Int) := bits_Count.l0 k 0 l0 (l0.length : Int) 0
theorem bits_Count.mono_l : ∀ k, (∀ y0 y1 y2 y3, LeO (bits_Count.l0 k y0 y1 y2 y3) (bits_Count.l0 (k + 1) y0 y1 y2 y3))
 | 0 => fun _ _ _ _ r h => by simp [bits_Count.l0] at h
 | k + 1 => by
  have ih0 := bits_Count.mono_l k
  ·intro y0 y1 y2 y3
   unfold bits_Count.l0
   repeat' first
   | (with_reducible exact ih0 _ _ _ _)
   | (with_reducible exact LeO.refl _)
   | (with_reducible exact LeO.none _)
   | (with_reducible refine LeO.ite ?_ ?_)
   | (with_reducible refine LeO.bind ?_ (fun _ => ?_))
theorem bits_Count.mono : ∀ a0 k, LeO (bits_Count.f k a0) (bits_Count.f (k + 1) a0) := by
 intro a0 k
 have ih0 := bits_Count.mono_l k
 unfold bits_Count.f
 repeat' with_reducible first
  | exact ih0 _ _ _ _
  | exact LeO.refl _
  | exact LeO.none _
  | refine LeO.ite ?_ ?_
  | refine LeO.bind ?_ (fun _ => ?_)
theorem bits_Count.calls (k : Nat) (A0 : Option Addr) (c0 : Nat) (l0 : List Int) (r : Int) (w : World) (hr0 : Kd.C (Kd.int .u8) w A0 l0.length l0) (hc0 : l0.length ≤ c0) (h : bits_Count.f k l0 = some r) :
  Calls Try.prog 36 #[.slice A0 l0.length c0] w fun e w' => e = .returned (.int .i64 r) ∧ Drawn0 w w' := by
 have HR0 := ak_ hr0
 have HC0 := ak_ hc0
 clear hr0 hc0
 unfold bits_Count.f at h
 have H := h
 clear h
 have H' := ak_ H
 clear H
 go_enter Try.func36, Try.ntmps36
 go_wp2
 go_loopg [3, 8] k (fun kq v3 v8 w' => ∃ (x3_1 : Int) (x8_1 : Int), v3 = .int .i64 x3_1 ∧ v8 = .int .i64 x8_1 ∧ Aside0 (bits_Count.l0 kq x3_1 l0 (l0.length : Int) x8_1 = some r) ∧ Aside0 (kq ≤ k) ∧ Drawn0 w w')
 case atStart => exact ⟨(0), (0), (by rfl), (by rfl), H', ⟨Nat.le_refl _⟩, by repeat (first | exact Drawn0.refl _ | apply Drawn0.step)⟩
 case round =>
  clear H'
  obtain ⟨x3_1, x8_1, rfl, rfl, HA, HK1, ⟨m1, rfl⟩⟩ := hrel
  cases gk with
  | zero => exact absurd HA.out (by simp [bits_Count.l0])
  | succ k1 =>
   have H := HA.out
   clear HA
   simp only [bits_Count.l0] at H
   by_cases c2 : x8_1 < (l0.length : Int)
   ·rw [if_pos c2] at H
    have c2b0 := dt_ c2
    clear c2
    by_cases c3 : 0 ≤ x8_1
    ·rw [if_pos c3] at H
     have c3b0 := dt_ c3
     clear c3
     by_cases c4 : x8_1 < (l0.length : Int)
     ·rw [if_pos c4] at H
      have c4b0 := dt_ c4
      clear c4
      obtain ⟨t110, A5, H⟩ := bs_ H
      have H' := ak_ H
      clear H
      have p109 : 0 ≤ (x8_1 : Int) := od_ ‹_›
      have q109 : x8_1 < (l0.length : Int) := od_ ‹_›
      obtain ⟨ad109, e109, hx109_0⟩ := Kd.at_int HR0.out x8_1 p109 q109
      cases e109
      replace p109 := eq_true p109
      replace q109 := eq_true q109
      go_wp2_with ((with_reducible refine gate_callee (f := 64) rfl ?_); refine goesL_ (some 14) rfl rfl Try.func64 (by kernel_rfl) rfl #[.int .u8 (rd l0 x8_1)] rfl (by (try simp only [List.map_toArray, List.map_cons, List.map_nil]); first | done | rfl | (simp only [List.length_drop, List.length_take]; rfl)) ?_; (with_reducible refine (bits_OnesCount8.calls (rd l0 x8_1) t110 _ A5.out).mono ?_); rintro e w' ⟨rfl, ⟨nd, rfl⟩⟩; refine ⟨_, rfl, ?_⟩)
      go_roundg k1
      case measure => have := HK1.out; omega
      case rel => exact ⟨(wrap64 (x3_1 + t110)), (wrap64 (x8_1 + 1)), (by rfl), (by rfl), H', ⟨by have := HK1.out; omega⟩, by repeat (first | exact Drawn0.refl _ | apply Drawn0.step)⟩
     ·rw [if_neg c4] at H
      exact absurd H (by simp)
    ·rw [if_neg c3] at H
     exact absurd H (by simp)
   ·rw [if_neg c2] at H
    have c2b0 := df_ c2
    clear c2
    obtain rfl := si_ H
    go_wp2
    go_ret
    exact ⟨by rfl, by repeat (first | exact Drawn0.refl _ | apply Drawn0.step)⟩
def bits_Zeros.f (k : Nat) (l0 : List Int) : Option (Int) := (bits_Count.f k l0).bind fun t119 => (some (wrap64 ((wrap64 (8 * (l0.length : Int))) - t119)))
theorem bits_Zeros.mono : ∀ a0 k, LeO (bits_Zeros.f k a0) (bits_Zeros.f (k + 1) a0) := by
 intro a0 k
 unfold bits_Zeros.f
 repeat' with_reducible first
  | exact bits_Count.mono _ _
  | exact LeO.refl _
  | exact LeO.none _
  | refine LeO.ite ?_ ?_
  | refine LeO.bind ?_ (fun _ => ?_)
theorem bits_Zeros.calls (k : Nat) (A0 : Option Addr) (c0 : Nat) (l0 : List Int) (r : Int) (w : World) (hr0 : Kd.C (Kd.int .u8) w A0 l0.length l0) (hc0 : l0.length ≤ c0) (h : bits_Zeros.f k l0 = some r) :
  Calls Try.prog 17 #[.slice A0 l0.length c0] w fun e w' => e = .returned (.int .i64 r) ∧ Drawn0 w w' := by
 have HR0 := ak_ hr0
 have HC0 := ak_ hc0
 clear hr0 hc0
 unfold bits_Zeros.f at h
 have H := h
 clear h
 obtain ⟨t111, A2, H⟩ := bs_ H
 obtain rfl := si_ H
 go_enter Try.func17, Try.ntmps17
 go_wp2_with ((with_reducible refine gate_callee (f := 36) rfl ?_); refine goesL_ (some 7) rfl rfl Try.func36 (by kernel_rfl) rfl #[.slice A0 l0.length c0] rfl (by (try simp only [List.map_toArray, List.map_cons, List.map_nil]); first | done | rfl | (simp only [List.length_drop, List.length_take]; rfl)) ?_; (with_reducible refine (bits_Count.calls k _ _ l0 t111 _ ?side1 ?side2 A2.out).mono ?_); (case side1 => exact HR0.out); (case side2 => exact HC0.out); rintro e w' ⟨rfl, ⟨nd, rfl⟩⟩; refine ⟨_, rfl, ?_⟩)
 go_ret
 exact ⟨by rfl, by repeat (first | exact Drawn0.refl _ | apply Drawn0.step)⟩
end Go.Proofs.Ytmehbabchakkpaa.QLadderWalks

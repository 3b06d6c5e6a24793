import Derived.Test.YtmehbabchakkpaaMPageBackx2
import Derived.RangeFuncNested
import Derived.RangeFuncBound
import Derived.RangeFuncCalls
import Derived.RangeFuncLeaves
import Derived.RangeFuncFrom
import Derived.Shelf.Abstract
import Derived.OwnWalkIn
import Derived.TacticsInMore
import Derived.LoopNIn
import Derived.LoopIn
import Derived.Outline
import Derived.Test.YtmehbabchakkpaaProg
import Derived.WalkSpells
import Derived.Lib.SliceRun
import Derived.Lib.BufferMore
import Derived.LoopN
import Derived.WalkSmall
namespace Go.Proofs.Ytmehbabchakkpaa.Pieces
set_option linter.unusedVariables false
open Go.RowKit YtmehbabchakkpaaW.PrintWords
def Stays (G B : Nat) (W W' : World) : Prop := W.heap.size ≤ W'.heap.size ∧ ∀ k, k < W.heap.size → (k < G ∨ k = B ∨ k = B + 1) → W'.heap[k]? = W.heap[k]?
theorem Stays.trans {G B : Nat} {X Y Z : World} (h : Stays G B X Y) (k : Stays G B Y Z) : Stays G B X Z := ⟨Nat.le_trans h.1 k.1, fun i hi hc => (k.2 i (Nat.lt_of_lt_of_le hi h.1) hc).trans (h.2 i hi hc)⟩
theorem Stays.refl (G B : Nat) (W : World) : Stays G B W W := ⟨Nat.le_refl _, fun _ _ _ => rfl⟩
theorem Stays.of_below {G B : Nat} {W W' : World} (h : Below W.heap.size W W') : Stays G B W W' := ⟨h.size, fun k hk _ => h.block k hk⟩
theorem Stays.of_grown {G B : Nat} {W W' : World} {row : Option Nat} (h : W.grownBy W' row) (hr : ∀ r, row = some r → G ≤ r ∧ r ≠ B ∧ r ≠ B + 1) : Stays G B W W' :=
 ⟨h.size, fun k hk hc => h.block k hk (fun e => by have := hr k e.symm; omega)⟩
theorem Stays.set {G B : Nat} {W W' : World} (h : Stays G B W W') {a : Addr} (v : Value) (ha : G ≤ a.block ∧ a.block ≠ B ∧ a.block ≠ B + 1) : Stays G B W (W'.setCell a v) :=
 h.trans ⟨by simp, fun k _ hc => Below.heap_setCell W' a v k (by omega)⟩
def PiecesC (F : Fence) (n : Nat) (P : Program) (gf G B : Nat) (lb : Array Value) (m : Nat) (A : Option Addr) (c : Nat) (L : List Int) (w : World) : Prop :=
 ∀ (l : Nat) (J : List Int → World → Prop) (Jx : World → Prop) (W : World), Below w.heap.size w W →
  (∀ s W v, J s W → J s (W.setCell ⟨B, 0, none⟩ v)) →
  (∀ (A' : Option Addr) (c' : Nat) (L' : List Int) (W1 : World), L' ≠ [] → m ≤ L'.length → L'.length % m = 0 → (L'.take m).length ≤ c' → J L' W1 → Kd.C (Kd.int .u8) W1 A' (L'.take m).length (L'.take m) → YieldAt F (n - 1) P l #[.slice A' (L'.take m).length c'] W1 fun e W' =>
   (e = .returned (.bool true) ∧ J (L'.drop m) W' ∧ Stays G B W1 W') ∨ (e = .returned (.bool false) ∧ Jx W')) →
  J L W → CallsIn F n P gf (#[.func (.yield l) #[] #[]] ++ lb) W fun e W' => (∃ v, e = .returned v) ∧ (J [] W' ∨ Jx W')
def piecesPost (G B : Nat) (I : World → Prop) (Ix : Code → World → Prop) (W : World) : Exit → Act → World → Prop
 | .normal, _, W' => KeepsOthers W W' ∧ Stays G B W W' ∧ I W'
 | .ret, _, W' => KeepsOthers W W' ∧ Ix .ret W'
 | _, _, _ => False
variable {F : Fence} {n : Nat} {P : Program}
def Cells (B2 : Nat) (I : World → Prop) : Prop := ∀ W W' row, I W → W.grownBy W' row → (∀ r, row = some r → B2 ≤ r ∧ ∃ o : Obj, W.heap[r]? = some o ∧ o.isCells = false) → I W'
theorem Cells.putObj {B2 : Nat} {I : World → Prop} (h : Cells B2 I) {W : World} {l : Nat} {o : Obj} (o' : Obj) (hs : I W) (hB : B2 ≤ l) (hl : W.heap[l]? = some o) (ho : o.isCells = false) : I (W.putObj l o') :=
 h W _ (some l) hs (grownBy_putObj' W l o') (fun r e => by cases e; exact ⟨hB, o, hl, ho⟩)
theorem Cells.alloc {B2 : Nat} {I : World → Prop} (h : Cells B2 I) {W : World} (o : Obj) (hs : I W) : I (W.alloc o) :=
 h W _ none hs (World.grownBy_alloc W o none) (fun r e => by cases e)
theorem Cells.and {B2 : Nat} {I I' : World → Prop} (h : Cells B2 I) (h' : Cells B2 I') : Cells B2 (fun W => I W ∧ I' W) := fun W W' row hs hg hr => ⟨h W W' row hs.1 hg hr, h' W W' row hs.2 hg hr⟩
theorem wpIn_rangeFunc_pieces {g : Operand} {ps : Array Tmp} {assign body : Code} {Q : Exit → Act → World → Prop} {a : Act} {w : World}
  (hro : F.round = none) (h1 : 1 ≤ n) {gf : Nat} {lb : Array Value} (hg : a.eval g = .func (.func gf) #[] lb) (hFg : F.fn gf) (eg : ∀ args w, (callFunc gf args).run P w = .ok (.enter gf args) w)
  {G B m : Nat} {A : Option Addr} {c : Nat} {L : List Int} {w0 : World} (hGB : G ≤ B) (hseq : PiecesC F (n - 1) P gf G B lb m A c L w0) (hb0 : Below w0.heap.size w0 w) (hB : B + 2 ≤ w.heap.size) (hps : ps.size = 1)
  (I : List Int → World → Prop) (Ix : Code → World → Prop) (hI : ∀ s, Cells (B + 2) (I s)) (hIx : ∀ c, Cells (B + 2) (Ix c)) (hIB : ∀ s W v, I s W → I s (W.setCell ⟨B, 0, none⟩ v)) (h0 : I L w) (a₁ : Value → Act)
  (hassign : ∀ (l : Nat) (x : Value) (W : World) (K : Act → World → Prop), K (a₁ x) W →
   assign.wpIn (F.inRound l) (n - 1 - 1) P (Exit.then K (fun _ _ _ => False)) { tmps := (ps.zip #[x]).foldl (fun t (p, v) => t.setIfInBounds p v) a.tmps, defers := [] } W)
  (hbody : ∀ (l : Nat) (A' : Option Addr) (c' : Nat) (L' : List Int) (W : World), L' ≠ [] → m ≤ L'.length → L'.length % m = 0 → (L'.take m).length ≤ c' → I L' W → w.heap.size + 2 ≤ W.heap.size → Kd.C (Kd.int .u8) W A' (L'.take m).length (L'.take m) → body.wpIn (F.inRound l) (n - 1 - 1) P (piecesPost G B (I (L'.drop m)) Ix W) (a₁ (.slice A' (L'.take m).length c')) W)
  (hdone : ∀ (D : Nat) (W : World), I [] W → w.heap.size ≤ D → W.heap[D]? = some (.deferred (some [])) → Q .normal { a with defers := { target := .collected D, args := #[] } :: a.defers } W)
  (hstop : ∀ (D : Nat) (c : Code) (W : World), Ix c W → w.heap.size ≤ D → W.heap[D]? = some (.deferred (some [])) → c.wpIn F n P Q { a with defers := { target := .collected D, args := #[] } :: a.defers } W) :
  (Code.rangeFunc g ps assign body).wpIn F n P Q a w := by
 refine wpIn_rangeFunc ?_
 intro fn hfn
 rw [hro]
 obtain ⟨rec, hrec⟩ : ∃ rec : LoopState → Option Code → Loop, rec = fun st pe => { state := st, pending := pe, fn, tmps := a.tmps, params := ps, assign, body, defers := w.heap.size } := ⟨_, rfl⟩
 obtain ⟨W1, hW1⟩ : ∃ W1, (w.alloc (.deferred (some []))).alloc (.loop (rec .ready none)) = W1 := ⟨_, rfl⟩
 have hL1 : W1.heap[w.heap.size + 1]? = some (.loop (rec .ready none)) := by
  rw [← hW1]; have := World.alloc_heap_new (w.alloc (.deferred (some []))) (.loop (rec .ready none)); rwa [World.size_alloc] at this
 have hK1 : W1.heap[w.heap.size]? = some (.deferred (some [])) := by
  rw [← hW1]; exact (Below.heap_alloc _ _ _ (by simp)).trans (World.alloc_heap_new w _)
 have hI1 : I L W1 := by rw [← hW1]; exact (hI L).alloc _ ((hI L).alloc _ h0)
 have hb1 : Below w0.heap.size w0 W1 := by
  rw [← hW1]; exact hb0.trans ((((Below.refl _ w).alloc (Nat.le_refl _) _).alloc (by simp) _).mono hb0.size)
 refine ⟨w.heap.size + 1, [{ target := .collected w.heap.size, args := #[] }], W1, { target := .fn (.func gf) lb, args := #[.func (.yield (w.heap.size + 1)) #[] #[]] }, W1, gf,
  #[.func (.yield (w.heap.size + 1)) #[] #[]] ++ lb, W1, ?_, ?_, ?_, ?_, fun _ => h1, ?_⟩
 ·rw [← hW1, hrec]; exact run_enterLoop_outer _ _ _ _ _
 ·simp only [resolve, hg]
  simp [go_sem]
 ·intro f' hf'; simp [Target.leads] at hf'; subst hf'; exact hFg
 ·simp [invoke, go_sem, eg]
 ·have hset : ∀ (W : World) (v : Value) (k : Nat) (o : Obj), B < k → W.heap[k]? = some o → (W.setCell ⟨B, 0, none⟩ v).heap[k]? = some o := fun W v k o hk h => (Below.heap_setCell W ⟨B, 0, none⟩ v k (by show k ≠ B; omega)).trans h
  refine (hseq (w.heap.size + 1)
   (fun s W => I s W ∧ W.heap[w.heap.size + 1]? = some (.loop (rec .ready none)) ∧ W.heap[w.heap.size]? = some (.deferred (some [])))
   (fun W => ∃ c, Ix c W ∧ W.heap[w.heap.size + 1]? = some (.loop (rec .done (some c))) ∧ W.heap[w.heap.size]? = some (.deferred (some [])))
   W1 hb1
   (fun s W v ⟨h1, h2, h3⟩ => ⟨hIB s W v h1, hset W v _ _ (by omega) h2, hset W v _ _ (by omega) h3⟩)
   ?_ ⟨hI1, hL1, hK1⟩).mono ?_
  ·-- one round
   rintro A' c' L' W hne hml hmod hlc ⟨hi, hl, hk⟩ hC
   have hlt : w.heap.size + 1 < W.heap.size := (Array.getElem?_eq_some_iff.1 hl).1
   have hy := run_yield (P := P) (args := #[.slice A' (L'.take m).length c']) hl (by rw [hrec]; exact hps.symm)
   rw [hrec] at hy
   refine ⟨fn, _, assign, body, hy, roundIn_of_wpIn hfn (hassign _ _ W _ ⟨_, run_beginRound hl (by rw [hrec]), ?_⟩)⟩
   have hl2 : (W.putObj (w.heap.size + 1) (.loop { rec .ready none with state := .busy })).heap[w.heap.size + 1]? = some (.loop { rec .ready none with state := .busy }) := World.putObj_heap_same hlt
   have hk2 : (W.putObj (w.heap.size + 1) (.loop { rec .ready none with state := .busy })).heap[w.heap.size]? = some (.deferred (some [])) := (World.putObj_heap_other (by omega)).trans hk
   have hC2 : Kd.C (Kd.int .u8) (W.putObj (w.heap.size + 1) (.loop { rec .ready none with state := .busy })) A' (L'.take m).length (L'.take m) := by
    refine ⟨hC.1, hC.2.1, fun hp => ?_⟩
    obtain ⟨ad, e, hc⟩ := hC.2.2 hp
    refine ⟨ad, e, fun j p hj => ?_⟩
    obtain ⟨cs, h1, h2, h3⟩ := hc j p hj
    exact ⟨cs, h1, h2, fun i u hu => cell_kept (h3 i u hu) (grownBy_putObj' W _ _) (fun r e => by cases e; exact ⟨_, hl, rfl⟩)⟩
   have hput : ∀ (X : World) (o : Obj), Stays G B X (X.putObj (w.heap.size + 1) o) := fun X o => Stays.of_grown (grownBy_putObj' X _ o) (fun r e => by cases e; omega)
   have hw2 : Stays G B W (W.putObj (w.heap.size + 1) (.loop { rec .ready none with state := .busy })) := hput W _
   refine wpIn_mono (hbody _ A' c' L' _ hne hml hmod hlc ((hI L').putObj _ hi (by omega) hl rfl) (by simp [World.putObj]; omega) hC2) ?_
   have fin : ∀ (jump : Option Code) (W3 : World), KeepsOthers (W.putObj (w.heap.size + 1) (.loop { rec .ready none with state := .busy })) W3 →
     (Instr.endRound (w.heap.size + 1) jump).run P W3 = .ok (.bool jump.isNone) (W3.putObj (w.heap.size + 1) (.loop (rec (if jump.isNone then .ready else .done) jump))) ∧
     W3.heap[w.heap.size + 1]? = some (.loop { rec .ready none with state := .busy }) ∧
     (W3.putObj (w.heap.size + 1) (.loop (rec (if jump.isNone then .ready else .done) jump))).heap[w.heap.size + 1]? = some (.loop (rec (if jump.isNone then .ready else .done) jump)) ∧
     (W3.putObj (w.heap.size + 1) (.loop (rec (if jump.isNone then .ready else .done) jump))).heap[w.heap.size]? = some (.deferred (some [])) := fun jump W3 hk3 => by
    have hl3 := hk3.same _ _ hl2 rfl
    have := run_endRound (P := P) jump hl3
    rw [hrec] at this ⊢
    exact ⟨this, by rw [hrec] at hl3; exact hl3, World.putObj_heap_same (Array.getElem?_eq_some_iff.1 hl3).1, (World.putObj_heap_other (by omega)).trans (hk3.same _ _ hk2 rfl)⟩
   rintro e a3 W3 hp
   cases e with
   | normal =>
    obtain ⟨hk3, hkp3, hi3⟩ := hp
    obtain ⟨hr, hl3, hl4, hk4⟩ := fin none W3 hk3
    exact ⟨_, _, hr, .inl ⟨rfl, ⟨(hI _).putObj _ hi3 (by omega) hl3 rfl, hl4, hk4⟩, (hw2.trans hkp3).trans (hput W3 _)⟩⟩
   | ret =>
    obtain ⟨hk3, hi3⟩ := hp
    obtain ⟨hr, hl3, hl4, hk4⟩ := fin (some .ret) W3 hk3
    exact ⟨_, _, hr, .inr ⟨rfl, .ret, (hIx _).putObj _ hi3 (by omega) hl3 rfl, hl4, hk4⟩⟩
   | exit id => exact hp.elim
   | goto t => exact hp.elim
   | panic ch => exact hp.elim
   | outgrown => exact hp.elim
  ·-- behind the iterator
   rintro e W2 ⟨⟨v, rfl⟩, (⟨hi, hl, hk⟩ | ⟨c, hi, hl, hk⟩)⟩
   ·exact ⟨none, _, by have := run_endLoop (P := P) hl (by rw [hrec]; simp); rw [hrec] at this; exact this, hdone _ _ ((hI _).putObj _ hi (by omega) hl rfl) (Nat.le_refl _) ((World.putObj_heap_other (by omega)).trans hk)⟩
   ·exact ⟨some c, _, by have := run_endLoop (P := P) hl (by rw [hrec]; simp); rw [hrec] at this; exact this, hstop _ c _ ((hIx c).putObj _ hi (by omega) hl rfl) (Nat.le_refl _) ((World.putObj_heap_other (by omega)).trans hk)⟩
end Go.Proofs.Ytmehbabchakkpaa.Pieces
namespace Go.Proofs.Ytmehbabchakkpaa.Read
open Go.RowKit YtmehbabchakkpaaW.PrintWords
section
variable {P : Program}
theorem cutT {k : IntKind} (t e : TypeId) {i : TypeInfo} (ht : P.underlying t = some (.slice e)) (hi : P.info? e = some i) (hsz : i.size = 1) (A : Option Addr) (c : Nat) (xs : List Int) (m : Nat) (hm : m ≤ xs.length) (hc : xs.length ≤ c) :
  ∃ L : List Int, L = xs.take m ∧ (∀ W : World, (Instr.slice t (.slice A xs.length c) none (some (.int .i64 (m : Int))) none).run P W = .ok (.slice A L.length c) W) ∧ (∀ w : World, Kd.C (Kd.int k) w A xs.length xs → Kd.C (Kd.int k) w A L.length L) ∧ L.length ≤ c := by
 obtain ⟨h1, _, h3⟩ := print_take_of (P := P) (Value.int .u8) 0 t e .i64 ht hi hsz A c xs (m : Int) (by omega) (by omega) hc
 rw [Int.toNat_natCast] at h1 h3
 exact ⟨_, rfl, h1, fun w h => Kd.C_take h hm, h3⟩
theorem cutD {k : IntKind} (t e : TypeId) {i : TypeInfo} (ht : P.underlying t = some (.slice e)) (hi : P.info? e = some i) (hsz : i.size = 1) (A : Option Addr) (c : Nat) (xs : List Int) (m : Nat) (hm : m ≤ xs.length) (hc : xs.length ≤ c) :
  ∃ (L : List Int) (A' : Option Addr) (c' : Nat), L = xs.drop m ∧ (∀ W : World, (Instr.slice t (.slice A xs.length c) (some (.int .i64 (m : Int))) none none).run P W = .ok (.slice A' L.length c') W) ∧ (∀ w : World, Kd.C (Kd.int k) w A xs.length xs → Kd.C (Kd.int k) w A' L.length L) ∧ L.length ≤ c' := by
 obtain ⟨A', h1, h2, h3⟩ := print_drop_of (P := P) (Value.int k) 0 t e .i64 ht hi hsz A c xs (m : Int) (by omega) (by omega) hc
 rw [Int.toNat_natCast] at h1 h2 h3
 exact ⟨_, A', _, rfl, h1, fun w h => Kd.C_of_reads (h1 := fun _ => rfl) (h2 w (Kd.reads_of_C h)), h3⟩
end
end Go.Proofs.Ytmehbabchakkpaa.Read
namespace Go.Proofs.Ytmehbabchakkpaa.Pieces
open Go.RowKit Go.Shelf YtmehbabchakkpaaW.PrintWords Go.Proofs.Ytmehbabchakkpaa.Read
attribute [local go_sem] Oper.semAt_some
set_option linter.unusedVariables false
def left (B : Nat) (w : World) : Nat := match w.heap[B]? with
 | some (.cells cs _ _) => (match (cs[0]? : Option Value) with
  | some (Value.slice _ k _) => k
  | _ => 0)
 | _ => 0
theorem left_of {B : Nat} {w : World} {A : Option Addr} {n c t : Nat} (h : w.heap[B]? = some (.cells #[.slice A n c] t (0, 0))) : left B w = n := by simp [left, h]
theorem infou8 : (Try.prog.info? 5).map (fun i => (i.zero, i.size, i.bytes)) = some (some (.int .u8 0), 1, 1) := by kernel_rfl
set_option maxRecDepth 100000 in
set_option maxHeartbeats 2000000 in
theorem pieces1_in (F : Fence) (n : Nat) (hF : F.fn 95) (hro : F.round = none) (hn : 1 ≤ n) (G B m : Nat) (hGB : G ≤ B) (hm : 3 ≤ m ∧ m ≤ 514) (A : Option Addr) (c : Nat) (L : List Int) (hLm : L.length % m = 0) (w : World)
  (hBw : B + 1 < w.heap.size) (hlc : L.length ≤ c) (hread : Kd.F (Kd.int .u8) w (fun k => k < G) A L.length L) (hb : w.heap[B]? = some (.cells #[.slice A L.length c] 24 (0, 0))) (hs : w.heap[B + 1]? = some (.cells #[.int .i64 ((m : Int) - 2)] 3 (0, 0))) :
  PiecesC F n Try.prog 95 G B #[.pointer (some ⟨B, 0, none⟩), .pointer (some ⟨B + 1, 0, none⟩)] m A c L w := by
 intro l J Jx W hW hJB hY h0
 have HM := hm.1
 have HM2 := hm.2
 have HJB := Aside0.mk hJB
 have HY := Aside0.mk hY
 have HR := Aside0.mk (Kd.F_below hread hW)
 have HB := Aside0.mk (blk_below hb hW)
 have HS := Aside0.mk (blk_below hs hW)
 have HLC := Aside0.mk hlc
 have HLM := Aside0.mk hLm
 have HJ0 := Aside0.mk h0
 clear hJB hY hread hb hs hlc hLm h0 hW hBw hm
 obtain ⟨ii, hii, hz_, hsz, hb_⟩ := info_parts infou8
 have HII := Aside0.mk hii
 have HSZ := Aside0.mk hsz
 clear hii hsz hz_ hb_
 refine callsIn_of_wp Try.func95 rfl hF ?_ hro
 simp only [Try.ntmps95, List.size_toArray, List.length_cons, List.length_nil, Nat.reduceAdd, Nat.reduceSub, Array.replicate_succ, Array.replicate_zero, List.push_toArray, List.append_toArray, List.nil_append, List.cons_append]
 gi_wp2
 gi_loopw [4] (fun _ wr => ∃ (A' : Option Addr) (c' : Nat) (L' : List Int), L'.length ≤ c' ∧ L'.length ≤ L.length ∧ Aside0 (L'.length % m = 0) ∧ Aside0 (Kd.F (Kd.int .u8) wr (fun k => k < G) A' L'.length L') ∧ Aside0 (wr.heap[B]? = some (.cells #[.slice A' L'.length c'] 24 (0, 0))) ∧ Aside0 (wr.heap[B + 1]? = some (.cells #[.int .i64 ((m : Int) - 2)] 3 (0, 0))) ∧ Aside0 (J L' wr)) (fun _ wr => left B wr)
 case atStart => exact ⟨A, c, L, HLC.out, Nat.le_refl _, HLM, HR, HB, HS, HJ0⟩
 case round =>
  clear HR HB HS HLC HLM HJ0
  obtain ⟨A', c', L', hlc, hll, HLM, HR, HB, HS, HJ⟩ := hrel
  have hcB := blk_cell HB.out 0
  have hfB := blk_frozen HB.out 0
  have hcS := blk_cell HS.out 0
  by_cases hlt : 0 < L'.length
  ·have hml : m ≤ L'.length := Nat.le_of_dvd hlt (Nat.dvd_of_mod_eq_zero HLM.out)
   have hmax := Kd.F_max HR.out
   obtain ⟨L1, hL1, hT, hTc, hTl⟩ := cutT (P := Try.prog) (k := .u8) 24 5 Try.underlying24 HII.out HSZ.out A' c' L' m hml hlc
   obtain ⟨L2, A2, c2, hL2, hD, hDc, hDl⟩ := cutD (P := Try.prog) (k := .u8) 24 5 Try.underlying24 HII.out HSZ.out A' c' L' m hml hlc
   have hy := HY.out A' c' L' wr (fun e => by rw [e] at hlt; exact absurd hlt (Nat.lt_irrefl 0)) hml HLM.out (by rw [← hL1]; exact hTl) HJ.out (by rw [← hL1]; exact hTc wr (Kd.F_now HR.out))
   rw [← hL1, ← hL2] at hy
   obtain ⟨fn, tmps, assign, body, hy, hR⟩ := hy
   have RR := Aside0.mk hR
   have w1_ : wrap64 ((m : Int) - 2 + 2) = (m : Int) := by unfold wrap64; omega
   have w2_ : (m : Int) - 2 + 2 = (m : Int) := by omega
   have w3_ : IntKind.i64.wrap ((m : Int) - 2 + 2) = (m : Int) := by rw [IntKind.wrap_i64]; unfold wrap64 at w1_; exact w1_
   have d1_ : decide ((L'.length : Int) > 0) = true := decide_eq_true (by omega)
   have d2_ : decide (0 < L'.length) = true := decide_eq_true hlt
   have HL1 := Aside0.mk hL1
   have HL2 := Aside0.mk hL2
   have HDc := Aside0.mk hDc
   have HDl := Aside0.mk hDl
   clear hL1 hL2 hDc hDl
   have HLT := Aside0.mk hlt
   have HLF := Aside0.mk (left_of HB.out)
   have HML := Aside0.mk hml
   clear hR hlt hml hmax hTc hTl
   gi_wp2
   refine RR.out.mono ?_
   rintro e W3 (⟨rfl, hJ3, hk3⟩ | ⟨rfl, hJx3⟩)
   ·have hb3 := (hk3.2 B (blk_lt HB.out) (by omega)).trans HB.out
    have hs3 := (hk3.2 (B + 1) (blk_lt HS.out) (by omega)).trans HS.out
    have HB3 := Aside0.mk hb3
    have HS3 := Aside0.mk hs3
    have HJ3 := Aside0.mk hJ3
    have HR3 := Aside0.mk (Kd.F_step HR.out (fun k hk hlt => hk3.2 k hlt (by omega)))
    have hcB3 := blk_cell hb3 0
    have hfB3 := blk_frozen hb3 0
    have hcS3 := blk_cell hs3 0
    clear hb3 hs3 hJ3 hk3 HR HB HS HJ hcB hfB hcS
    gi_wp2
    go_roundw
    case rel => exact ⟨A2, c2, L2, HDl.out, by rw [HL2.out, List.length_drop]; omega, ⟨by rw [HL2.out, List.length_drop, ← Nat.mod_eq_sub_mod HML.out]; exact HLM.out⟩, ⟨Kd.F_far (Kd.F_imp HR3.out (fun W' h => HDc.out W' h)) (fun k hk => by show k ≠ B; omega) _⟩, ⟨blk_set HB3.out 0 _⟩, ⟨blk_far HS3.out (by show B + 1 ≠ B; omega) _⟩, ⟨HJB.out _ _ _ HJ3.out⟩⟩
    case measure =>
     have h1 := left_of (B := B) (blk_set HB3.out 0 (.slice A2 L2.length c2))
     rw [h1, HLF.out, HL2.out, List.length_drop]
     have := HML.out
     omega
   ·gi_wp2
    refine bodyPost_ret (results_none rfl _ _ _) rfl ?_
    exact ⟨⟨_, rfl⟩, .inr hJx3⟩
  ·obtain rfl : L' = [] := List.eq_nil_of_length_eq_zero (by omega)
   gi_wp2
   go_end0
   exact ⟨⟨_, rfl⟩, .inl HJ.out⟩
set_option maxHeartbeats 1000000 in
theorem pieces_in (F : Fence) (n : Nat) (hF : F.fn 78) (hro : F.round = none) (A : Option Addr) (len c : Nat) (size : Int) (w : World) :
  CallsIn F n Try.prog 78 #[.slice A len c, .int .i64 size] w fun e w' => e = .returned (.func (.func 95) #[] #[.pointer (some ⟨w.heap.size, 0, none⟩), .pointer (some ⟨w.heap.size + 1, 0, none⟩)]) ∧ w' = (w.alloc (.cells #[.slice A len c] 24)).alloc (.cells #[.int .i64 size] 3) := by
 refine callsIn_of_wp Try.func78 rfl hF ?_ hro
 simp only [Try.ntmps78, List.size_toArray, List.length_cons, List.length_nil, Nat.reduceAdd, Nat.reduceSub, Array.replicate_succ, Array.replicate_zero, List.push_toArray, List.append_toArray, List.nil_append, List.cons_append]
 gi_wp2
 go_ret
 exact ⟨rfl, rfl⟩
end Go.Proofs.Ytmehbabchakkpaa.Pieces
namespace Go.Proofs.Ytmehbabchakkpaa.QPageBack
open Go.RowKit YtmehbabchakkpaaW.PrintWords YtmehbabchakkpaaW.PrintLast YtmehbabchakkpaaW.PrintMore
attribute [local go_sem] max2_int min2_int max_two min_two max_three min_three max_four min_four
set_option linter.unusedVariables false
set_option linter.unusedSimpArgs false
def errW : Option Int → Value
 | none => .nilIface
 | some c => .iface 0 (.int .i64 c)
theorem errW_none : errW none = .nilIface := rfl
theorem errW_some (c : Int) : errW (some c) = .iface 0 (.int .i64 c) := rfl
theorem info3 : (Try.prog.info? 3).map (fun i => (i.zero, i.size, i.bytes)) = some (some (.int .i64 0), 1, 8) := by kernel_rfl
theorem info5 : (Try.prog.info? 5).map (fun i => (i.zero, i.size, i.bytes)) = some (some (.int .u8 0), 1, 1) := by kernel_rfl
structure S23 where
 f0 : Int
 f1 : Int
 f2 : Int
 f3 : Int
 f4 : Int
 f5 : Int
 f6 : Int
def z23 : S23 := ⟨(0 : Int), (0 : Int), (0 : Int), (0 : Int), (0 : Int), (0 : Int), (0 : Int)⟩
def k23 : Kd S23 := Kd.iso (Kd.pair (Kd.int .i64) (Kd.pair (Kd.int .i64) (Kd.pair (Kd.int .i64) (Kd.pair (Kd.int .i64) (Kd.pair (Kd.int .i64) (Kd.pair (Kd.int .i64) (Kd.int .i64))))))) (fun x : S23 => (x.f0, x.f1, x.f2, x.f3, x.f4, x.f5, x.f6))
theorem k23_open {w : World} {x : S23} {cs : List Value} (h : k23.K w x cs) : cs = [.int .i64 x.f0, .int .i64 x.f1, .int .i64 x.f2, .int .i64 x.f3, .int .i64 x.f4, .int .i64 x.f5, .int .i64 x.f6] := by
 obtain ⟨_, _, rfl, rfl, ⟨_, _, rfl, rfl, ⟨_, _, rfl, rfl, ⟨_, _, rfl, rfl, ⟨_, _, rfl, rfl, ⟨_, _, rfl, rfl, rfl⟩⟩⟩⟩⟩⟩ := h
 exact rfl
def rd_L3 (xs : List (List Int)) (i : Int) : (List Int) := xs.getD i.toNat ([] : List Int)
theorem at_L3 {w : World} {A : Option Addr} {n : Nat} {xs : List (List Int)} (h : Kd.C (Kd.slice 5 (Kd.int .u8)) w A n xs) (i : Int) (h0 : 0 ≤ i) (h1 : i < n) : ∃ ad A0 c0, A = some ad ∧ w.cell? (ad.add i.toNat) = some (.slice A0 (rd_L3 xs i).length c0) ∧ (rd_L3 xs i).length ≤ c0 ∧ (Kd.int .u8).C w A0 (rd_L3 xs i).length (rd_L3 xs i) := by
 obtain ⟨ad, c, e, _, hK, hc0⟩ := Kd.C_get h ([] : List Int) i h0 h1
 have hc : ∀ j u, c[j]? = some u → w.cell? (ad.add (i.toNat * 1 + j)) = some u := hc0
 obtain ⟨A0, c0, rfl, l0, g0⟩ := hK
 exact ⟨ad, A0, c0, e, by have hq := hc 0 _ rfl; rwa [Nat.mul_one, Nat.add_zero] at hq, l0, g0⟩
end Go.Proofs.Ytmehbabchakkpaa.QPageBack
namespace Go.Proofs.Ytmehbabchakkpaa.QPageBack
open Go.RowKit YtmehbabchakkpaaW.PrintWords YtmehbabchakkpaaW.PrintLast YtmehbabchakkpaaW.PrintMore
attribute [local go_sem] max2_int min2_int max_two min_two max_three min_three max_four min_four
set_option linter.unusedVariables false
set_option linter.unusedSimpArgs false
theorem eqA26 (d : Nat) (w : World) (x0 y0 : Int) (x1 y1 : Int) (x2 y2 : Int) (x3 y3 : Int) :
  (Op.equalIn (d + 2) 26 (.agg #[.int .i64 x0, .int .i64 x1, .int .i64 x2, .int .i64 x3]) (.agg #[.int .i64 y0, .int .i64 y1, .int .i64 y2, .int .i64 y3])).run Try.prog w = .ok (x0 == y0 && (x1 == y1 && (x2 == y2 && (x3 == y3)))) w := by
 refine eqA_of Try.underlying26 (by kernel_rfl) ?_
 refine eqf_cons (by rfl) (by go_simp; rfl) (by go_simp; rfl) (by go_simp) ?_
 refine eqf_cons (by rfl) (by go_simp; rfl) (by go_simp; rfl) (by go_simp) ?_
 refine eqf_cons (by rfl) (by go_simp; rfl) (by go_simp; rfl) (by go_simp) ?_
 exact eqf_last (by rfl) (by go_simp; rfl) (by go_simp; rfl) (by go_simp)
end Go.Proofs.Ytmehbabchakkpaa.QPageBack
namespace Go.Proofs.Ytmehbabchakkpaa.Short
open Go.RowKit YtmehbabchakkpaaW.PrintWords YtmehbabchakkpaaW.PrintLast
theorem put4 {W : World} {g : Nat} {t : TypeId} {o0 o1 o2 o3 v0 v1 v2 v3 : Value} (h : W.heap[g]? = some (.cells #[o0, o1, o2, o3] t (0, 0))) : ((((W.setCell ⟨g, 0, none⟩ v0).setCell ⟨g, 1, none⟩ v1).setCell ⟨g, 2, none⟩ v2).setCell ⟨g, 3, none⟩ v3).heap[g]? = some (.cells #[v0, v1, v2, v3] t (0, 0)) := (blk_put (cs := #[v0, v1, v2, o3]) (blk_put (cs := #[v0, v1, o2, o3]) (blk_put (cs := #[v0, o1, o2, o3]) (blk_put (cs := #[o0, o1, o2, o3]) h 0 v0 rfl) 1 v1 rfl) 2 v2 rfl) 3 v3 rfl)
theorem far4 {W : World} {g g' : Nat} {t : TypeId} {cs : Array Value} {v0 v1 v2 v3 : Value} (h : W.heap[g]? = some (.cells cs t (0, 0))) (hne : g ≠ g') : ((((W.setCell ⟨g', 0, none⟩ v0).setCell ⟨g', 1, none⟩ v1).setCell ⟨g', 2, none⟩ v2).setCell ⟨g', 3, none⟩ v3).heap[g]? = some (.cells cs t (0, 0)) := (blk_far (blk_far (blk_far (blk_far h (p := ⟨g', 0, none⟩) hne v0) (p := ⟨g', 1, none⟩) hne v1) (p := ⟨g', 2, none⟩) hne v2) (p := ⟨g', 3, none⟩) hne v3)
theorem cells4 {W : World} {g : Nat} {t : TypeId} {v0 v1 v2 v3 : Value} (h : W.heap[g]? = some (.cells #[v0, v1, v2, v3] t (0, 0))) : W.cell? ⟨g, 0, none⟩ = some v0 ∧ W.cell? ⟨g, 1, none⟩ = some v1 ∧ W.cell? ⟨g, 2, none⟩ = some v2 ∧ W.cell? ⟨g, 3, none⟩ = some v3 := ⟨(blk_cell h 0).trans rfl, (blk_cell h 1).trans rfl, (blk_cell h 2).trans rfl, (blk_cell h 3).trans rfl⟩
theorem froz4 {W : World} {g : Nat} {t : TypeId} {v0 v1 v2 v3 : Value} (h : W.heap[g]? = some (.cells #[v0, v1, v2, v3] t (0, 0))) : W.frozen? ⟨g, 0, none⟩ = false ∧ W.frozen? ⟨g, 1, none⟩ = false ∧ W.frozen? ⟨g, 2, none⟩ = false ∧ W.frozen? ⟨g, 3, none⟩ = false := ⟨blk_frozen h 0, blk_frozen h 1, blk_frozen h 2, blk_frozen h 3⟩
theorem put7 {W : World} {g : Nat} {t : TypeId} {o0 o1 o2 o3 o4 o5 o6 v0 v1 v2 v3 v4 v5 v6 : Value} (h : W.heap[g]? = some (.cells #[o0, o1, o2, o3, o4, o5, o6] t (0, 0))) : (((((((W.setCell ⟨g, 0, none⟩ v0).setCell ⟨g, 1, none⟩ v1).setCell ⟨g, 2, none⟩ v2).setCell ⟨g, 3, none⟩ v3).setCell ⟨g, 4, none⟩ v4).setCell ⟨g, 5, none⟩ v5).setCell ⟨g, 6, none⟩ v6).heap[g]? = some (.cells #[v0, v1, v2, v3, v4, v5, v6] t (0, 0)) := (blk_put (cs := #[v0, v1, v2, v3, v4, v5, o6]) (blk_put (cs := #[v0, v1, v2, v3, v4, o5, o6]) (blk_put (cs := #[v0, v1, v2, v3, o4, o5, o6]) (blk_put (cs := #[v0, v1, v2, o3, o4, o5, o6]) (blk_put (cs := #[v0, v1, o2, o3, o4, o5, o6]) (blk_put (cs := #[v0, o1, o2, o3, o4, o5, o6]) (blk_put (cs := #[o0, o1, o2, o3, o4, o5, o6]) h 0 v0 rfl) 1 v1 rfl) 2 v2 rfl) 3 v3 rfl) 4 v4 rfl) 5 v5 rfl) 6 v6 rfl)
theorem cells7 {W : World} {g : Nat} {t : TypeId} {v0 v1 v2 v3 v4 v5 v6 : Value} (h : W.heap[g]? = some (.cells #[v0, v1, v2, v3, v4, v5, v6] t (0, 0))) : W.cell? ⟨g, 0, none⟩ = some v0 ∧ W.cell? ⟨g, 1, none⟩ = some v1 ∧ W.cell? ⟨g, 2, none⟩ = some v2 ∧ W.cell? ⟨g, 3, none⟩ = some v3 ∧ W.cell? ⟨g, 4, none⟩ = some v4 ∧ W.cell? ⟨g, 5, none⟩ = some v5 ∧ W.cell? ⟨g, 6, none⟩ = some v6 := ⟨(blk_cell h 0).trans rfl, (blk_cell h 1).trans rfl, (blk_cell h 2).trans rfl, (blk_cell h 3).trans rfl, (blk_cell h 4).trans rfl, (blk_cell h 5).trans rfl, (blk_cell h 6).trans rfl⟩
theorem froz7 {W : World} {g : Nat} {t : TypeId} {v0 v1 v2 v3 v4 v5 v6 : Value} (h : W.heap[g]? = some (.cells #[v0, v1, v2, v3, v4, v5, v6] t (0, 0))) : W.frozen? ⟨g, 0, none⟩ = false ∧ W.frozen? ⟨g, 1, none⟩ = false ∧ W.frozen? ⟨g, 2, none⟩ = false ∧ W.frozen? ⟨g, 3, none⟩ = false ∧ W.frozen? ⟨g, 4, none⟩ = false ∧ W.frozen? ⟨g, 5, none⟩ = false ∧ W.frozen? ⟨g, 6, none⟩ = false := ⟨blk_frozen h 0, blk_frozen h 1, blk_frozen h 2, blk_frozen h 3, blk_frozen h 4, blk_frozen h 5, blk_frozen h 6⟩
theorem put8 {W : World} {g : Nat} {t : TypeId} {o0 o1 o2 o3 o4 o5 o6 o7 v0 v1 v2 v3 v4 v5 v6 v7 : Value} (h : W.heap[g]? = some (.cells #[o0, o1, o2, o3, o4, o5, o6, o7] t (0, 0))) : ((((((((W.setCell ⟨g, 0, none⟩ v0).setCell ⟨g, 1, none⟩ v1).setCell ⟨g, 2, none⟩ v2).setCell ⟨g, 3, none⟩ v3).setCell ⟨g, 4, none⟩ v4).setCell ⟨g, 5, none⟩ v5).setCell ⟨g, 6, none⟩ v6).setCell ⟨g, 7, none⟩ v7).heap[g]? = some (.cells #[v0, v1, v2, v3, v4, v5, v6, v7] t (0, 0)) := (blk_put (cs := #[v0, v1, v2, v3, v4, v5, v6, o7]) (blk_put (cs := #[v0, v1, v2, v3, v4, v5, o6, o7]) (blk_put (cs := #[v0, v1, v2, v3, v4, o5, o6, o7]) (blk_put (cs := #[v0, v1, v2, v3, o4, o5, o6, o7]) (blk_put (cs := #[v0, v1, v2, o3, o4, o5, o6, o7]) (blk_put (cs := #[v0, v1, o2, o3, o4, o5, o6, o7]) (blk_put (cs := #[v0, o1, o2, o3, o4, o5, o6, o7]) (blk_put (cs := #[o0, o1, o2, o3, o4, o5, o6, o7]) h 0 v0 rfl) 1 v1 rfl) 2 v2 rfl) 3 v3 rfl) 4 v4 rfl) 5 v5 rfl) 6 v6 rfl) 7 v7 rfl)
theorem far8 {W : World} {g g' : Nat} {t : TypeId} {cs : Array Value} {v0 v1 v2 v3 v4 v5 v6 v7 : Value} (h : W.heap[g]? = some (.cells cs t (0, 0))) (hne : g ≠ g') : ((((((((W.setCell ⟨g', 0, none⟩ v0).setCell ⟨g', 1, none⟩ v1).setCell ⟨g', 2, none⟩ v2).setCell ⟨g', 3, none⟩ v3).setCell ⟨g', 4, none⟩ v4).setCell ⟨g', 5, none⟩ v5).setCell ⟨g', 6, none⟩ v6).setCell ⟨g', 7, none⟩ v7).heap[g]? = some (.cells cs t (0, 0)) := (blk_far (blk_far (blk_far (blk_far (blk_far (blk_far (blk_far (blk_far h (p := ⟨g', 0, none⟩) hne v0) (p := ⟨g', 1, none⟩) hne v1) (p := ⟨g', 2, none⟩) hne v2) (p := ⟨g', 3, none⟩) hne v3) (p := ⟨g', 4, none⟩) hne v4) (p := ⟨g', 5, none⟩) hne v5) (p := ⟨g', 6, none⟩) hne v6) (p := ⟨g', 7, none⟩) hne v7)
theorem cells8 {W : World} {g : Nat} {t : TypeId} {v0 v1 v2 v3 v4 v5 v6 v7 : Value} (h : W.heap[g]? = some (.cells #[v0, v1, v2, v3, v4, v5, v6, v7] t (0, 0))) : W.cell? ⟨g, 0, none⟩ = some v0 ∧ W.cell? ⟨g, 1, none⟩ = some v1 ∧ W.cell? ⟨g, 2, none⟩ = some v2 ∧ W.cell? ⟨g, 3, none⟩ = some v3 ∧ W.cell? ⟨g, 4, none⟩ = some v4 ∧ W.cell? ⟨g, 5, none⟩ = some v5 ∧ W.cell? ⟨g, 6, none⟩ = some v6 ∧ W.cell? ⟨g, 7, none⟩ = some v7 := ⟨(blk_cell h 0).trans rfl, (blk_cell h 1).trans rfl, (blk_cell h 2).trans rfl, (blk_cell h 3).trans rfl, (blk_cell h 4).trans rfl, (blk_cell h 5).trans rfl, (blk_cell h 6).trans rfl, (blk_cell h 7).trans rfl⟩
theorem froz8 {W : World} {g : Nat} {t : TypeId} {v0 v1 v2 v3 v4 v5 v6 v7 : Value} (h : W.heap[g]? = some (.cells #[v0, v1, v2, v3, v4, v5, v6, v7] t (0, 0))) : W.frozen? ⟨g, 0, none⟩ = false ∧ W.frozen? ⟨g, 1, none⟩ = false ∧ W.frozen? ⟨g, 2, none⟩ = false ∧ W.frozen? ⟨g, 3, none⟩ = false ∧ W.frozen? ⟨g, 4, none⟩ = false ∧ W.frozen? ⟨g, 5, none⟩ = false ∧ W.frozen? ⟨g, 6, none⟩ = false ∧ W.frozen? ⟨g, 7, none⟩ = false := ⟨blk_frozen h 0, blk_frozen h 1, blk_frozen h 2, blk_frozen h 3, blk_frozen h 4, blk_frozen h 5, blk_frozen h 6, blk_frozen h 7⟩
theorem pu {P : Program} {md : Region.Mode} {ops : Array Oper} {Q : Exit → Act → World → Prop} {S : World → Prop} {ds : List Nat} {T : Bool × List (List Nat × List Nat)} (i : Nat) (N : Option Tmp) {oi : Oper} {v : Value} {fuel : Nat} {l : Array Bool} {a : Act} {w : World} (l' : Array Bool) (hT : rtab md ops = T) (hi : ops[i]? = some oi) (hN : oi.dst = N) {a' : Act}
  (h : wpAnyLast P md ops Q S ds fuel l' a' w) (hc : anyT T l.toList l'.toList i = true := by kernel_rfl) (hQ : ∀ c a w, Q (.panic c) (a.put oi.dst v) w → Q (.panic c) a w := by exact fun _ _ _ h => h) (hw : Region.wanted oi (yielded ops a.tmps) = true := by rfl)
  (hr : ∀ w' : World, (execOp a.eval oi).run P w' = .ok (.value v) w' := by (intro w'; go_simp; with_reducible rfl)) (ha : a.put N v = a' := by (simp only [Act.put, List.setIfInBounds_toArray, List.set_cons_zero, List.set_cons_succ, i64_w, i32_w]; rfl)) : wpAnyLast P md ops Q S ds (fuel + 1) l a w :=
 pure_ l' hi hN (any_of hT hc) hQ (Or.inl ⟨hw, hr⟩) ha h
theorem pv {P : Program} {md : Region.Mode} {ops : Array Oper} {Q : Exit → Act → World → Prop} {S : World → Prop} {ds : List Nat} (i : Nat) (N : Option Tmp) {oi : Oper} {v : Value} {fuel : Nat} {l : Array Bool} {a : Act} {w : World} (l' : Array Bool) (hi : ops[i]? = some oi) (hN : oi.dst = N) {a' : Act}
  (h : wpAnyLast P md ops Q S ds fuel l' a' w) (hc : anyB md ops l l' i = true := by kernel_rfl) (hQ : ∀ c a w, Q (.panic c) (a.put oi.dst v) w → Q (.panic c) a w := by exact fun _ _ _ h => h) (hw : Region.wanted oi (yielded ops a.tmps) = true := by rfl)
  (hr : ∀ w' : World, (execOp a.eval oi).run P w' = .ok (.value v) w' := by (intro w'; go_simp; with_reducible rfl)) (ha : a.put N v = a' := by (simp only [Act.put, List.setIfInBounds_toArray, List.set_cons_zero, List.set_cons_succ, i64_w, i32_w]; rfl)) : wpAnyLast P md ops Q S ds (fuel + 1) l a w :=
 pure_ l' hi hN hc hQ (Or.inl ⟨hw, hr⟩) ha h
end Go.Proofs.Ytmehbabchakkpaa.Short
namespace Go.Proofs.Ytmehbabchakkpaa.Short
open Go.RowKit YtmehbabchakkpaaW.PrintWords
theorem bs_ {α β : Type} {o : Option α} {f : α → Option β} {r : β} (h : o.bind f = some r) : ∃ t, Aside0 (o = some t) ∧ f t = some r := by
 obtain ⟨t, a, b⟩ := Option.bind_eq_some_iff.mp h
 exact ⟨t, ⟨a⟩, b⟩
theorem gw_ {n g m : Nat} (hg : g = m) (h : n ≤ m) : n ≤ g := hg ▸ h
theorem od_ {p : Prop} [Decidable p] (h : decide p = true) : p := of_decide_eq_true h
end Go.Proofs.Ytmehbabchakkpaa.Short
namespace Go.Proofs.Ytmehbabchakkpaa.QPageBack
open Go.RowKit YtmehbabchakkpaaW.PrintWords YtmehbabchakkpaaW.PrintLast YtmehbabchakkpaaW.PrintMore Short
attribute [local go_sem] max2_int min2_int max_two min_two max_three min_three max_four min_four
set_option linter.unusedVariables false
set_option maxHeartbeats 8000000
set_option maxRecDepth 100000
set_option linter.unusedSimpArgs false
def geom_Check_rows (a0 a1 a2 a3 a4 a5 a6 : Int) : List (Int × Int × Int) := [(a0, 1, 4), (a1, 2, 256), (a2, 4, 64), (a3, 1, 16), (a4, 4, 512), (a5, 1, 8), (a6, 1, 8)]
def geom_Check_in (t : Int × Int × Int) : Bool := decide (t.2.1 ≤ t.1) && decide (t.1 ≤ t.2.2)
def geom_Check.f (a0_0 : Int) (a0_1 : Int) (a0_2 : Int) (a0_3 : Int) (a0_4 : Int) (a0_5 : Int) (a0_6 : Int) : Option Int := some (if (geom_Check_rows a0_0 a0_1 a0_2 a0_3 a0_4 a0_5 a0_6).all geom_Check_in = true ∧ Int.tmod a0_1 a0_0 = 0 ∧ Int.tmod a0_2 2 = 0 then 0 else 2)
set_option maxRecDepth 100000 in
theorem geom_Check_index {a0 a1 a2 a3 a4 a5 a6 x lo hi : Int} {k : Nat} (h : k < 7) (e : (geom_Check_rows a0 a1 a2 a3 a4 a5 a6)[k]? = some (x, lo, hi)) (w : World) :
  (Instr.index 97 (.agg #[.int .i64 a0, .int .i64 1, .int .i64 4, .int .i64 a1, .int .i64 2, .int .i64 256, .int .i64 a2, .int .i64 4, .int .i64 64, .int .i64 a3, .int .i64 1, .int .i64 16, .int .i64 a4, .int .i64 4, .int .i64 512, .int .i64 a5, .int .i64 1, .int .i64 8, .int .i64 a6, .int .i64 1, .int .i64 8]) (.int .i64 (k : Int))).run Try.prog w = .ok (.agg #[.int .i64 x, .int .i64 lo, .int .i64 hi]) w := by
 have key : ∀ vs : Array Value, vs.size = 21 → ∀ v, .agg (vs.extract (k * 3) (k * 3 + 3)) = v → (Instr.index 97 (.agg vs) (.int .i64 (k : Int))).run Try.prog w = .ok v w := by
  intro vs hsz v hv
  simp [Instr.index, run_underlying (P := Try.prog) Try.underlying97, asIntOf, go_sem, hsz, h]
  exact hv
 refine key _ rfl _ ?_
 match k, h, e with
 | 0, _, e => cases e; rfl
 | 1, _, e => cases e; rfl
 | 2, _, e => cases e; rfl
 | 3, _, e => cases e; rfl
 | 4, _, e => cases e; rfl
 | 5, _, e => cases e; rfl
 | 6, _, e => cases e; rfl
theorem geom_Check_take {l : List (Int × Int × Int)} {k : Nat} {t : Int × Int × Int} (h : l[k]? = some t) : l.take (k + 1) = l.take k ++ [t] := by
 rw [List.take_add_one, h]
 rfl
theorem geom_Check_bad {l : List (Int × Int × Int)} {t : Int × Int × Int} {P : Prop} (h : t ∈ l) (e : geom_Check_in t = false) : ¬ (l.all geom_Check_in = true ∧ P) := fun a => by
 have := List.all_eq_true.1 a.1 t h
 rw [e] at this
 cases this
theorem geom_Check_meas {n k : Nat} (h : k < n) : n - (intOf (.int .i64 ((k : Int) + 1))).toNat < n - (intOf (.int .i64 (k : Int))).toNat := by
 simp only [intOf]
 omega
theorem geom_Check_info : (Try.prog.info? 96).map (fun i => (i.zero, i.size, i.bytes)) = some (some (.agg #[.int .i64 0, .int .i64 0, .int .i64 0]), 3, 24) := by kernel_rfl
theorem geom_Check.calls (a0_0 : Int) (a0_1 : Int) (a0_2 : Int) (a0_3 : Int) (a0_4 : Int) (a0_5 : Int) (a0_6 : Int) (r : Int) (w : World) (h : geom_Check.f a0_0 a0_1 a0_2 a0_3 a0_4 a0_5 a0_6 = some r) :
  Calls Try.prog 35 #[.agg #[.int .i64 a0_0, .int .i64 a0_1, .int .i64 a0_2, .int .i64 a0_3, .int .i64 a0_4, .int .i64 a0_5, .int .i64 a0_6]] w fun e w' => e = .returned (.int .i64 r) ∧ Below w.heap.size w w' := by
 have hu := Try.underlying23
 have hu96 := Try.underlying96
 have hu97 := Try.underlying97
 obtain ⟨i96, hi96, hz96, hs96, hb96⟩ := info_parts geom_Check_info
 have HH := ak_ (si_ h)
 clear h
 have HB := ak_ (below_alloc (Below.refl w.heap.size w) (.cells #[.int .i64 a0_0, .int .i64 a0_1, .int .i64 a0_2, .int .i64 a0_3, .int .i64 a0_4, .int .i64 a0_5, .int .i64 a0_6] 23))
 have BK := ak_ (blk_new w (.cells #[.int .i64 a0_0, .int .i64 a0_1, .int .i64 a0_2, .int .i64 a0_3, .int .i64 a0_4, .int .i64 a0_5, .int .i64 a0_6] 23))
 have hc0 := bc_ BK.out 0
 have hc1 := bc_ BK.out 1
 have hc2 := bc_ BK.out 2
 have hc3 := bc_ BK.out 3
 have hc4 := bc_ BK.out 4
 have hc5 := bc_ BK.out 5
 have hc6 := bc_ BK.out 6
 go_enter Try.func35, Try.ntmps35
 go_wp2
 clear hc0 hc1 hc2 hc3 hc4 hc5 hc6
 go_loopw [27] (fun v27 wr => ∃ k : Nat, k ≤ 7 ∧ v27 = .int .i64 (k : Int) ∧ Aside0 (((geom_Check_rows a0_0 a0_1 a0_2 a0_3 a0_4 a0_5 a0_6).take k).all geom_Check_in = true) ∧ Aside0 (wr.heap[w.heap.size]? = some (.cells #[.int .i64 a0_0, .int .i64 a0_1, .int .i64 a0_2, .int .i64 a0_3, .int .i64 a0_4, .int .i64 a0_5, .int .i64 a0_6] 23 (0, 0))) ∧ Aside0 (Below w.heap.size w wr)) (fun v27 _ => 7 - (intOf v27).toNat)
 case atStart => exact ⟨0, Nat.zero_le _, rfl, ⟨rfl⟩, BK, HB⟩
 case round =>
  clear BK HB
  obtain ⟨k, hk, rfl, HA, BK, HB⟩ := hrel
  by_cases hlt : k < 7
  ·obtain ⟨x, lo, hi, hrow⟩ : ∃ x lo hi : Int, (geom_Check_rows a0_0 a0_1 a0_2 a0_3 a0_4 a0_5 a0_6)[k]? = some (x, lo, hi) := ⟨_, _, _, List.getElem?_eq_getElem (l := geom_Check_rows a0_0 a0_1 a0_2 a0_3 a0_4 a0_5 a0_6) hlt⟩
   have hix : ∀ w, (Instr.index 97 (.agg #[.int .i64 a0_0, .int .i64 1, .int .i64 4, .int .i64 a0_1, .int .i64 2, .int .i64 256, .int .i64 a0_2, .int .i64 4, .int .i64 64, .int .i64 a0_3, .int .i64 1, .int .i64 16, .int .i64 a0_4, .int .i64 4, .int .i64 512, .int .i64 a0_5, .int .i64 1, .int .i64 8, .int .i64 a0_6, .int .i64 1, .int .i64 8]) (.int .i64 (k : Int))).run Try.prog w = .ok (.agg #[.int .i64 x, .int .i64 lo, .int .i64 hi]) w :=
    fun w => geom_Check_index hlt hrow w
   have HT := ak_ (geom_Check_take hrow)
   have c1 : decide ((k : Int) < 7) = true := dt_ (by omega)
   have c1b : decide (k < 7) = true := dt_ hlt
   have hw : wrap64 ((k : Int) + 1) = (k : Int) + 1 := by unfold wrap64; omega
   have HL := ak_ hlt
   have HM := ak_ (List.mem_of_getElem? hrow)
   clear hrow hk hlt
   by_cases g1 : x < lo
   ·have d1 : decide (x < lo) = true := dt_ g1
    have E := ak_ (geom_Check_bad (P := Int.tmod a0_1 a0_0 = 0 ∧ Int.tmod a0_2 2 = 0) HM.out (show geom_Check_in (x, lo, hi) = false from by
     unfold geom_Check_in
     rw [Bool.and_eq_false_iff]
     exact Or.inl (df_ (by show ¬ lo ≤ x; omega))))
    clear g1 HM
    have H := HH.out
    rw [if_neg E.out] at H
    subst H
    clear E HH
    go_wp2
    go_ret
    exact ⟨rfl, below_alloc HB.out _⟩
   ·have d1 : decide (x < lo) = false := df_ g1
    by_cases g2 : hi < x
    ·have d2 : decide (hi < x) = true := dt_ g2
     have E := ak_ (geom_Check_bad (P := Int.tmod a0_1 a0_0 = 0 ∧ Int.tmod a0_2 2 = 0) HM.out (show geom_Check_in (x, lo, hi) = false from by
      unfold geom_Check_in
      rw [Bool.and_eq_false_iff]
      exact Or.inr (df_ (by show ¬ x ≤ hi; omega))))
     clear g1 g2 HM
     have H := HH.out
     rw [if_neg E.out] at H
     subst H
     clear E HH
     go_wp2
     go_ret
     exact ⟨rfl, below_alloc HB.out _⟩
    ·have d2 : decide (hi < x) = false := df_ g2
     have E := ak_ (show geom_Check_in (x, lo, hi) = true from by
      unfold geom_Check_in
      rw [Bool.and_eq_true]
      exact ⟨dt_ (by show lo ≤ x; omega), dt_ (by show x ≤ hi; omega)⟩)
     clear g1 g2 HM
     go_wp2
     go_roundw
     case rel => exact ⟨k + 1, HL.out, by go_num, ⟨by rw [HT.out, List.all_append, HA.out, List.all_cons, E.out]; rfl⟩, ⟨blk_alloc BK.out _⟩, ⟨below_alloc HB.out _⟩⟩
     case measure => rw [hw]; exact geom_Check_meas HL.out
  ·obtain rfl : k = 7 := by omega
   have A := HA.out
   rw [List.take_of_length_le (by exact Nat.le_refl 7)] at A
   have hm : 1 ≤ a0_0 := by
    have := List.all_eq_true.1 A (a0_0, 1, 4) (List.Mem.head _)
    unfold geom_Check_in at this
    rw [Bool.and_eq_true, decide_eq_true_eq] at this
    exact this.1
   have AA := ak_ A
   clear A HA hk hlt
   have z0 : decide (a0_0 = 0) = false := df_ (by omega)
   have z0' : (a0_0 = 0) = False := eq_false (by omega)
   have HP := ak_ hm
   clear hm
   have hc0 := bc_ BK.out 0
   have hc1 := bc_ BK.out 1
   have hc2 := bc_ BK.out 2
   clear BK
   have H := HH.out
   by_cases g1 : Int.tmod a0_1 a0_0 = 0
   ·have d1 : (Int.tmod a0_1 a0_0 == 0) = true := beq_iff_eq.2 g1
    by_cases g2 : Int.tmod a0_2 2 = 0
    ·have d2 : (Int.tmod a0_2 2 == 0) = true := beq_iff_eq.2 g2
     rw [if_pos ⟨AA.out, g1, g2⟩] at H
     subst H
     clear HH AA
     go_wp2
     go_ret
     exact ⟨rfl, HB.out⟩
    ·have d2 : (Int.tmod a0_2 2 == 0) = false := beq_eq_false_iff_ne.2 g2
     rw [if_neg (fun e => g2 e.2.2)] at H
     subst H
     clear HH AA
     go_wp2
     go_ret
     exact ⟨rfl, HB.out⟩
   ·have d1 : (Int.tmod a0_1 a0_0 == 0) = false := beq_eq_false_iff_ne.2 g1
    rw [if_neg (fun e => g1 e.2.1)] at H
    subst H
    clear HH AA
    go_wp2
    go_ret
    exact ⟨rfl, HB.out⟩
def page_of.f (a0_0 : Int) (a0_1 : Int) (a0_2 : Int) (a0_3 : Int) (a0_4 : Int) (a0_5 : Int) (a0_6 : Int) : Option (Int × Int × Int × Int × Int × Int × Int × Int × Bool) := (geom_Check.f a0_0 a0_1 a0_2 a0_3 a0_4 a0_5 a0_6).bind fun t103 => (some (a0_0, a0_1, a0_2, a0_3, a0_4, a0_5, a0_6, wrap64 (a0_3 * (wrap64 (a0_4 + 2))), (t103 == 0)))
def page_of.T1 : Bool × List (List Nat × List Nat) := (true, [([], []), ([], []), ([1], [1]), ([], []), ([3], [3]), ([4], [4]), ([2, 5], [2, 5]), ([0, 6], [0, 6]), ([], []), ([8], [8]), ([9], [9]), ([7, 9, 0, 1, 2, 3, 4, 5, 6, 7], [7]), ([10, 11, 0, 1, 2, 3, 4, 5, 6, 7, 8, 9, 10, 11], [10])])
def page_of.B1 : List Nat := [0, 0, 2, 0, 8, 24, 62, 127, 0, 256, 768, 1023, 4095]
theorem page_of.tab1 : rtab .any (opsOf Try.f37 1) = page_of.T1 := by kernel_rfl
theorem page_of.bits1 : waitsOk page_of.T1.2 page_of.B1 = true := by kernel_rfl
theorem page_of.calls (a0_0 : Int) (a0_1 : Int) (a0_2 : Int) (a0_3 : Int) (a0_4 : Int) (a0_5 : Int) (a0_6 : Int) (r1 : Int) (r2 : Int) (r3 : Int) (r4 : Int) (r5 : Int) (r6 : Int) (r7 : Int) (r8 : Int) (r9 : Bool) (w : World) (h : page_of.f a0_0 a0_1 a0_2 a0_3 a0_4 a0_5 a0_6 = some (r1, r2, r3, r4, r5, r6, r7, r8, r9)) :
  Calls Try.prog 37 #[.agg #[.int .i64 a0_0, .int .i64 a0_1, .int .i64 a0_2, .int .i64 a0_3, .int .i64 a0_4, .int .i64 a0_5, .int .i64 a0_6]] w fun e w' => e = .returned (.tuple #[.agg #[.int .i64 r1, .int .i64 r2, .int .i64 r3, .int .i64 r4, .int .i64 r5, .int .i64 r6, .int .i64 r7, .int .i64 r8], .bool r9]) ∧ Below w.heap.size w w' := by
 have hu23 := Try.underlying23
 have hu70 := Try.underlying70
 have HB := br_ w
 unfold page_of.f at h
 have H := h
 clear h
 obtain ⟨t103, A2, H⟩ := bs_ H
 simp only [Option.some.injEq, Prod.mk.injEq] at H
 obtain ⟨rfl, rfl, rfl, rfl, rfl, rfl, rfl, rfl, rfl⟩ := H
 go_enter Try.func37, Try.ntmps37
 try go_wp2_with (first | ((with_reducible refine gate_dst (N := 1) rfl ?_); refine box_event ?hg (N := 1) ?hd (cs := #[.int .i64 a0_0, .int .i64 a0_1, .int .i64 a0_2, .int .i64 a0_3, .int .i64 a0_4, .int .i64 a0_5, .int .i64 a0_6]) (t := 23) ?hr ?_; (case hd => rfl); (case hg => rfl); (case hr => (go_simp; done)); intro gb101 hg w3 hbox hb; have BK101 := ak_ (hbox); have GW101 := ak_ ((by rw [hg]; exact (below_size HB.out) : w.heap.size ≤ gb101)); have GE101 := ak_ ((by rw [hg]; exact (below_size HB.out) : w.heap.size ≤ gb101)); replace HB := ak_ (below_step HB.out hb); clear hb hbox hg) | ((with_reducible refine gate_dst (N := 2) rfl ?_); refine box_event ?hg (N := 2) ?hd (cs := #[.int .i64 0, .int .i64 0, .int .i64 0, .int .i64 0, .int .i64 0, .int .i64 0, .int .i64 0, .int .i64 0]) (t := 70) ?hr ?_; (case hd => rfl); (case hg => rfl); (case hr => (go_simp; done)); intro gb102 hg w4 hbox hb; have BK102 := ak_ (hbox); have GW102 := ak_ ((by rw [hg]; exact (below_size HB.out) : w.heap.size ≤ gb102)); have GE102 := ak_ ((by rw [hg]; exact (below_size HB.out) : w.heap.size ≤ gb102)); replace HB := ak_ (below_step HB.out hb); have NB101_102 := ak_ ((by rw [hg]; exact Nat.ne_of_lt (blk_lt BK101.out) : gb101 ≠ gb102)); have NB102_101 := ak_ ((by rw [hg]; exact Nat.ne_of_gt (blk_lt BK101.out) : gb102 ≠ gb101)); replace BK101 := ak_ (blk_below BK101.out hb); clear hb hbox hg))
 replace BK101 := ak_ (blk_drew BK101.out)
 replace BK102 := ak_ (blk_drew BK102.out)
 replace HB := ak_ (below_drew1 HB.out)
 refine start_ (n := 13) (S := fun w' => w'.cell? ⟨gb101, 0, none⟩ = some (.int .i64 a0_0) ∧ w'.cell? ⟨gb101, 1, none⟩ = some (.int .i64 a0_1) ∧ w'.cell? ⟨gb101, 2, none⟩ = some (.int .i64 a0_2) ∧ w'.cell? ⟨gb101, 3, none⟩ = some (.int .i64 a0_3) ∧ w'.cell? ⟨gb101, 4, none⟩ = some (.int .i64 a0_4) ∧ w'.cell? ⟨gb101, 5, none⟩ = some (.int .i64 a0_5) ∧ w'.cell? ⟨gb101, 6, none⟩ = some (.int .i64 a0_6)) (ds := []) #[false, false, false, false, false, false, false, false, false, false, false, false, false] (by kernel_rfl) rfl rfl ⟨(bc_ BK101.out 0).trans rfl, (bc_ BK101.out 1).trans rfl, (bc_ BK101.out 2).trans rfl, (bc_ BK101.out 3).trans rfl, (bc_ BK101.out 4).trans rfl, (bc_ BK101.out 5).trans rfl, (bc_ BK101.out 6).trans rfl⟩ (fun hHeld => ?_); refine with_tabW page_of.tab1 page_of.bits1 (fun HT_ HW_ => ?_)
 generalize w4.drew = w5 at BK101 BK102 HB hHeld ⊢
 refine pu 1 (some 5) #[false, true, false, false, false, false, false, false, false, false, false, false, false] HT_.out rfl rfl ?_
 refine pu 3 (some 7) #[false, true, false, true, false, false, false, false, false, false, false, false, false] HT_.out rfl rfl ?_
 refine take_ (i := 0) (N := some 4) (v := ?_) (a' := ?_) #[true, true, false, true, false, false, false, false, false, false, false, false, false] rfl rfl (take_ofW HT_.out HW_.out (by kernel_rfl)) (fun _ _ _ h => h) (Or.inl ⟨by rfl, ?_⟩) hHeld ?_ ?_
 rotate_left
 ·rintro w' ⟨s0, s1, s2, s3, s4, s5, s6⟩
  go_simp
  with_reducible rfl
 rotate_left
 ·simp only [Act.put, sb_, sz_, su_, i64_w, i32_w]
  rfl
 refine take_ (i := 2) (N := some 6) (v := ?_) (a' := ?_) #[true, true, true, true, false, false, false, false, false, false, false, false, false] rfl rfl (take_ofW HT_.out HW_.out (by kernel_rfl)) (fun _ _ _ h => h) (Or.inl ⟨by rfl, ?_⟩) hHeld ?_ ?_
 rotate_left
 ·rintro w' ⟨s0, s1, s2, s3, s4, s5, s6⟩
  go_simp
  with_reducible rfl
 rotate_left
 ·simp only [Act.put, sb_, sz_, su_, i64_w, i32_w]
  rfl
 refine take_ (i := 4) (N := some 8) (v := ?_) (a' := ?_) #[true, true, true, true, true, false, false, false, false, false, false, false, false] rfl rfl (take_ofW HT_.out HW_.out (by kernel_rfl)) (fun _ _ _ h => h) (Or.inl ⟨by rfl, ?_⟩) hHeld ?_ ?_
 rotate_left
 ·rintro w' ⟨s0, s1, s2, s3, s4, s5, s6⟩
  go_simp
  with_reducible rfl
 rotate_left
 ·simp only [Act.put, sb_, sz_, su_, i64_w, i32_w]
  rfl
 refine pu 5 (some 9) #[true, true, true, true, true, true, false, false, false, false, false, false, false] HT_.out rfl rfl ?_
 refine pu 6 (some 10) #[true, true, true, true, true, true, true, false, false, false, false, false, false] HT_.out rfl rfl ?_
 refine pu 7 (some 11) #[true, true, true, true, true, true, true, true, false, false, false, false, false] HT_.out rfl rfl ?_
 refine take_ (i := 8) (N := some 12) (v := ?_) (a' := ?_) #[true, true, true, true, true, true, true, true, true, false, false, false, false] rfl rfl (take_ofW HT_.out HW_.out (by kernel_rfl)) (fun _ _ _ h => h) (Or.inl ⟨by rfl, ?_⟩) hHeld ?_ ?_
 rotate_left
 ·rintro w' ⟨s0, s1, s2, s3, s4, s5, s6⟩
  go_simp
  with_reducible rfl
 rotate_left
 ·simp only [Act.put, sb_, sz_, su_, i64_w, i32_w]
  rfl
 refine one_ (i := 9) (N := some 13) #[true, true, true, true, true, true, true, true, true, true, false, false, false] rfl rfl (one_of HT_.out (by kernel_rfl)) (by decide) (fun K hK => ?_)
 refine goes_ Try.func35 (by kernel_rfl) rfl #[.agg #[.int .i64 a0_0, .int .i64 a0_1, .int .i64 a0_2, .int .i64 a0_3, .int .i64 a0_4, .int .i64 a0_5, .int .i64 a0_6]] (by rfl) rfl rfl (by (try simp only [List.map_toArray, List.map_cons, List.map_nil]); first | done | rfl | (simp only [List.length_drop, List.length_take]; rfl)) ?_
 with_reducible refine (geom_Check.calls a0_0 a0_1 a0_2 a0_3 a0_4 a0_5 a0_6 t103 _ A2.out).mono ?_
 rintro e w6 ⟨rfl, hb⟩
 refine ⟨_, rfl, ?_⟩
 replace BK101 := ak_ (blk_below BK101.out hb)
 replace BK102 := ak_ (blk_below BK102.out hb)
 replace HB := ak_ (below_step HB.out hb)
 (try clear hb)
 skip
 skip
 skip
 refine hK.out _ _ (cells7 BK101.out) (fun hHeld => ?_)
 clear hK K
 refine norm_ (a' := ?_) ?_ ?_
 rotate_left
 ·show Act.put _ (some 13) _ = _
  simp only [Act.put, sb_, sz_, su_, i64_w, i32_w]
  rfl
 refine pu 10 (some 14) #[true, true, true, true, true, true, true, true, true, true, true, false, false] HT_.out rfl rfl ?_
 refine one_ (i := 11) (N := none) #[true, true, true, true, true, true, true, true, true, true, true, true, false] rfl rfl (one_of HT_.out (by kernel_rfl)) (by decide) (fun K hK => ?_)
 have hs7 : w6.cell? ⟨gb102, 0, none⟩ = some (.int .i64 0) := (bc_ BK102.out 0).trans rfl
 have hfs7 := bf_ BK102.out 0
 have hns7_0 := NB101_102.out
 have hms7_0 := NB102_101.out
 have hs8 : w6.cell? ⟨gb102, 1, none⟩ = some (.int .i64 0) := (bc_ BK102.out 1).trans rfl
 have hfs8 := bf_ BK102.out 1
 have hns8_0 := NB101_102.out
 have hms8_0 := NB102_101.out
 have hs9 : w6.cell? ⟨gb102, 2, none⟩ = some (.int .i64 0) := (bc_ BK102.out 2).trans rfl
 have hfs9 := bf_ BK102.out 2
 have hns9_0 := NB101_102.out
 have hms9_0 := NB102_101.out
 have hs10 : w6.cell? ⟨gb102, 3, none⟩ = some (.int .i64 0) := (bc_ BK102.out 3).trans rfl
 have hfs10 := bf_ BK102.out 3
 have hns10_0 := NB101_102.out
 have hms10_0 := NB102_101.out
 have hs11 : w6.cell? ⟨gb102, 4, none⟩ = some (.int .i64 0) := (bc_ BK102.out 4).trans rfl
 have hfs11 := bf_ BK102.out 4
 have hns11_0 := NB101_102.out
 have hms11_0 := NB102_101.out
 have hs12 : w6.cell? ⟨gb102, 5, none⟩ = some (.int .i64 0) := (bc_ BK102.out 5).trans rfl
 have hfs12 := bf_ BK102.out 5
 have hns12_0 := NB101_102.out
 have hms12_0 := NB102_101.out
 have hs13 : w6.cell? ⟨gb102, 6, none⟩ = some (.int .i64 0) := (bc_ BK102.out 6).trans rfl
 have hfs13 := bf_ BK102.out 6
 have hns13_0 := NB101_102.out
 have hms13_0 := NB102_101.out
 have hs14 : w6.cell? ⟨gb102, 7, none⟩ = some (.int .i64 0) := (bc_ BK102.out 7).trans rfl
 have hfs14 := bf_ BK102.out 7
 have hns14_0 := NB101_102.out
 have hms14_0 := NB102_101.out
 refine skip_ (w1 := ?_) (by rfl) rfl ?_ ?_
 rotate_left
 ·go_simp
  rfl
 refine hK.out _ _ ⟨((cell_far (p := ⟨gb102, _, none⟩) NB101_102.out _).trans (((cell_far (p := ⟨gb102, _, none⟩) NB101_102.out _).trans (((cell_far (p := ⟨gb102, _, none⟩) NB101_102.out _).trans (((cell_far (p := ⟨gb102, _, none⟩) NB101_102.out _).trans (((cell_far (p := ⟨gb102, _, none⟩) NB101_102.out _).trans (((cell_far (p := ⟨gb102, _, none⟩) NB101_102.out _).trans (((cell_far (p := ⟨gb102, _, none⟩) NB101_102.out _).trans (((cell_far (p := ⟨gb102, _, none⟩) NB101_102.out _).trans (hHeld.1)))))))))))))))), ((cell_far (p := ⟨gb102, _, none⟩) NB101_102.out _).trans (((cell_far (p := ⟨gb102, _, none⟩) NB101_102.out _).trans (((cell_far (p := ⟨gb102, _, none⟩) NB101_102.out _).trans (((cell_far (p := ⟨gb102, _, none⟩) NB101_102.out _).trans (((cell_far (p := ⟨gb102, _, none⟩) NB101_102.out _).trans (((cell_far (p := ⟨gb102, _, none⟩) NB101_102.out _).trans (((cell_far (p := ⟨gb102, _, none⟩) NB101_102.out _).trans (((cell_far (p := ⟨gb102, _, none⟩) NB101_102.out _).trans (hHeld.2.1)))))))))))))))), ((cell_far (p := ⟨gb102, _, none⟩) NB101_102.out _).trans (((cell_far (p := ⟨gb102, _, none⟩) NB101_102.out _).trans (((cell_far (p := ⟨gb102, _, none⟩) NB101_102.out _).trans (((cell_far (p := ⟨gb102, _, none⟩) NB101_102.out _).trans (((cell_far (p := ⟨gb102, _, none⟩) NB101_102.out _).trans (((cell_far (p := ⟨gb102, _, none⟩) NB101_102.out _).trans (((cell_far (p := ⟨gb102, _, none⟩) NB101_102.out _).trans (((cell_far (p := ⟨gb102, _, none⟩) NB101_102.out _).trans (hHeld.2.2.1)))))))))))))))), ((cell_far (p := ⟨gb102, _, none⟩) NB101_102.out _).trans (((cell_far (p := ⟨gb102, _, none⟩) NB101_102.out _).trans (((cell_far (p := ⟨gb102, _, none⟩) NB101_102.out _).trans (((cell_far (p := ⟨gb102, _, none⟩) NB101_102.out _).trans (((cell_far (p := ⟨gb102, _, none⟩) NB101_102.out _).trans (((cell_far (p := ⟨gb102, _, none⟩) NB101_102.out _).trans (((cell_far (p := ⟨gb102, _, none⟩) NB101_102.out _).trans (((cell_far (p := ⟨gb102, _, none⟩) NB101_102.out _).trans (hHeld.2.2.2.1)))))))))))))))), ((cell_far (p := ⟨gb102, _, none⟩) NB101_102.out _).trans (((cell_far (p := ⟨gb102, _, none⟩) NB101_102.out _).trans (((cell_far (p := ⟨gb102, _, none⟩) NB101_102.out _).trans (((cell_far (p := ⟨gb102, _, none⟩) NB101_102.out _).trans (((cell_far (p := ⟨gb102, _, none⟩) NB101_102.out _).trans (((cell_far (p := ⟨gb102, _, none⟩) NB101_102.out _).trans (((cell_far (p := ⟨gb102, _, none⟩) NB101_102.out _).trans (((cell_far (p := ⟨gb102, _, none⟩) NB101_102.out _).trans (hHeld.2.2.2.2.1)))))))))))))))), ((cell_far (p := ⟨gb102, _, none⟩) NB101_102.out _).trans (((cell_far (p := ⟨gb102, _, none⟩) NB101_102.out _).trans (((cell_far (p := ⟨gb102, _, none⟩) NB101_102.out _).trans (((cell_far (p := ⟨gb102, _, none⟩) NB101_102.out _).trans (((cell_far (p := ⟨gb102, _, none⟩) NB101_102.out _).trans (((cell_far (p := ⟨gb102, _, none⟩) NB101_102.out _).trans (((cell_far (p := ⟨gb102, _, none⟩) NB101_102.out _).trans (((cell_far (p := ⟨gb102, _, none⟩) NB101_102.out _).trans (hHeld.2.2.2.2.2.1)))))))))))))))), ((cell_far (p := ⟨gb102, _, none⟩) NB101_102.out _).trans (((cell_far (p := ⟨gb102, _, none⟩) NB101_102.out _).trans (((cell_far (p := ⟨gb102, _, none⟩) NB101_102.out _).trans (((cell_far (p := ⟨gb102, _, none⟩) NB101_102.out _).trans (((cell_far (p := ⟨gb102, _, none⟩) NB101_102.out _).trans (((cell_far (p := ⟨gb102, _, none⟩) NB101_102.out _).trans (((cell_far (p := ⟨gb102, _, none⟩) NB101_102.out _).trans (((cell_far (p := ⟨gb102, _, none⟩) NB101_102.out _).trans (hHeld.2.2.2.2.2.2))))))))))))))))⟩ (fun hHeld => ?_)
 clear hK K
 refine pu 12 (some 3) #[true, true, true, true, true, true, true, true, true, true, true, true, true] HT_.out rfl rfl ?_
 refine done_ (done_of HT_.out (by kernel_rfl)) ?_
 try go_wp2
 refine bodyPost_ret (results_ct rfl _ _ gb102 70 #[.int .i64 a0_0, .int .i64 a0_1, .int .i64 a0_2, .int .i64 a0_3, .int .i64 a0_4, .int .i64 a0_5, .int .i64 a0_6, .int .i64 (wrap64 (a0_3 * (wrap64 (a0_4 + 2))))] (0, 0) _ rfl (put8 BK102.out) Try.underlying70 rfl (by kernel_rfl)) rfl ?_
 exact ⟨by first | rfl | (simp [errW_none, errW_some] <;> rfl) | (simp [*, errW_none, errW_some] <;> rfl) | (have hz_ : ∀ z : Int, -9223372036854775808 ≤ z → z ≤ 9223372036854775807 → wrap64 z = z := (fun z h1_ h2_ => by unfold wrap64; omega); rw [hz_] <;> first | rfl | omega), by repeat (first | (with_reducible first | exact HB.out | apply below_alloc | apply pw_below_drewN | apply below_drew1 | refine below_set ?_ GE101.out | refine below_set ?_ GE102.out) | exact HB.out)⟩
def tag_within.f (a0 : Int) (a1 : Int) (a2 : Int) : Option (Bool) := if a0 ≥ a1 then (some (decide (a0 ≤ a2))) else (some false)
theorem tag_within.calls (a0 : Int) (a1 : Int) (a2 : Int) (r : Bool) (w : World) (h : tag_within.f a0 a1 a2 = some r) :
  Calls Try.prog 81 #[.int .i64 a0, .int .i64 a1, .int .i64 a2] w fun e w' => e = .returned (.bool r) ∧ Drawn0 w w' := by
 unfold tag_within.f at h
 have H := h
 clear h
 by_cases c4 : a0 ≥ a1
 ·rw [if_pos c4] at H
  have c4b0 : decide (a1 ≤ a0) = true := dt_ c4
  clear c4
  obtain rfl := si_ H
  go_enter Try.func81, Try.ntmps81
  go_wp2
  go_ret
  exact ⟨by rfl, by repeat (first | exact Drawn0.refl _ | apply Drawn0.step)⟩
 ·rw [if_neg c4] at H
  have c4b0 : decide (a1 ≤ a0) = false := df_ c4
  clear c4
  obtain rfl := si_ H
  go_enter Try.func81, Try.ntmps81
  go_wp2
  go_ret
  exact ⟨by rfl, by repeat (first | exact Drawn0.refl _ | apply Drawn0.step)⟩
def tag_May.f (a0_0 : Int) (a0_1 : Int) (a0_2 : Int) (a0_3 : Int) : Option (Bool) := (tag_within.f a0_0 1 4).bind fun t105 => (if t105 = true then ((tag_within.f a0_1 0 2147483648).bind fun t106 => (if t106 = true then ((tag_within.f a0_2 0 2305843009213693952).bind fun t107 => (if t107 = true then ((tag_within.f a0_3 0 2147483648).bind fun t108 => (some t108)) else (some false))) else (some false))) else (some false))
theorem tag_May.calls (a0_0 : Int) (a0_1 : Int) (a0_2 : Int) (a0_3 : Int) (r : Bool) (w : World) (h : tag_May.f a0_0 a0_1 a0_2 a0_3 = some r) :
  Calls Try.prog 65 #[.agg #[.int .i64 a0_0, .int .i64 a0_1, .int .i64 a0_2, .int .i64 a0_3]] w fun e w' => e = .returned (.bool r) ∧ Below w.heap.size w w' := by
 have hu26 := Try.underlying26
 have HB := br_ w
 unfold tag_May.f at h
 have H := h
 clear h
 obtain ⟨t105, A2, H⟩ := bs_ H
 by_cases c3 : t105 = true
 ·subst c3
  rw [if_pos rfl] at H
  obtain ⟨t106, A4, H⟩ := bs_ H
  by_cases c5 : t106 = true
  ·subst c5
   rw [if_pos rfl] at H
   obtain ⟨t107, A6, H⟩ := bs_ H
   by_cases c7 : t107 = true
   ·subst c7
    rw [if_pos rfl] at H
    obtain ⟨t108, A8, H⟩ := bs_ H
    obtain rfl := si_ H
    go_enter Try.func65, Try.ntmps65
    go_wp2_with (first | ((with_reducible refine gate_dst (N := 1) rfl ?_); refine box_event ?hg (N := 1) ?hd (cs := #[.int .i64 a0_0, .int .i64 a0_1, .int .i64 a0_2, .int .i64 a0_3]) (t := 26) ?hr ?_; (case hd => rfl); (case hg => rfl); (case hr => (go_simp; done)); intro gb104 hg w9 hbox hb; have BK104 := ak_ (hbox); have GW104 := ak_ ((by rw [hg]; exact (below_size HB.out) : w.heap.size ≤ gb104)); have GE104 := ak_ ((by rw [hg]; exact (below_size HB.out) : w.heap.size ≤ gb104)); replace HB := ak_ (below_step HB.out hb); clear hb hbox hg; obtain ⟨hcz10_0, hcz10_1, hcz10_2, hcz10_3⟩ := cells4 BK104.out; obtain ⟨hfz10_0, hfz10_1, hfz10_2, hfz10_3⟩ := froz4 BK104.out) | ((with_reducible refine gate_callee (f := 81) rfl ?_); refine goesL_ (some 5) rfl rfl Try.func81 (by kernel_rfl) rfl #[.int .i64 a0_0, .int .i64 1, .int .i64 4] rfl (by (try simp only [List.map_toArray, List.map_cons, List.map_nil]); first | done | rfl | (simp only [List.length_drop, List.length_take]; rfl)) ?_; (with_reducible refine (tag_within.calls a0_0 1 4 true _ A2.out).mono ?_); rintro e w' ⟨rfl, ⟨nd, rfl⟩⟩; refine ⟨_, rfl, ?_⟩) | (go_at_call 81; (with_reducible refine (tag_within.calls _ _ _ _ _ (Aside0.out (by assumption))).mono ?_); rintro e w' ⟨rfl, ⟨nd, rfl⟩⟩))
    go_ret
    exact ⟨by first | rfl | (simp [errW_none, errW_some] <;> rfl) | (simp [*, errW_none, errW_some] <;> rfl) | (have hz_ : ∀ z : Int, -9223372036854775808 ≤ z → z ≤ 9223372036854775807 → wrap64 z = z := (fun z h1_ h2_ => by unfold wrap64; omega); rw [hz_] <;> first | rfl | omega), by repeat (first | (with_reducible first | exact HB.out | apply below_alloc | apply pw_below_drewN | apply below_drew1 | refine below_set ?_ GE104.out) | exact HB.out)⟩
   ·replace c7 := Bool.eq_false_iff.mpr c7
    subst c7
    rw [if_neg (show ¬ (false = true) by decide)] at H
    obtain rfl := si_ H
    go_enter Try.func65, Try.ntmps65
    go_wp2_with (first | ((with_reducible refine gate_dst (N := 1) rfl ?_); refine box_event ?hg (N := 1) ?hd (cs := #[.int .i64 a0_0, .int .i64 a0_1, .int .i64 a0_2, .int .i64 a0_3]) (t := 26) ?hr ?_; (case hd => rfl); (case hg => rfl); (case hr => (go_simp; done)); intro gb104 hg w11 hbox hb; have BK104 := ak_ (hbox); have GW104 := ak_ ((by rw [hg]; exact (below_size HB.out) : w.heap.size ≤ gb104)); have GE104 := ak_ ((by rw [hg]; exact (below_size HB.out) : w.heap.size ≤ gb104)); replace HB := ak_ (below_step HB.out hb); clear hb hbox hg; obtain ⟨hcz12_0, hcz12_1, hcz12_2, hcz12_3⟩ := cells4 BK104.out; obtain ⟨hfz12_0, hfz12_1, hfz12_2, hfz12_3⟩ := froz4 BK104.out) | ((with_reducible refine gate_callee (f := 81) rfl ?_); refine goesL_ (some 5) rfl rfl Try.func81 (by kernel_rfl) rfl #[.int .i64 a0_0, .int .i64 1, .int .i64 4] rfl (by (try simp only [List.map_toArray, List.map_cons, List.map_nil]); first | done | rfl | (simp only [List.length_drop, List.length_take]; rfl)) ?_; (with_reducible refine (tag_within.calls a0_0 1 4 true _ A2.out).mono ?_); rintro e w' ⟨rfl, ⟨nd, rfl⟩⟩; refine ⟨_, rfl, ?_⟩) | (go_at_call 81; (with_reducible refine (tag_within.calls _ _ _ _ _ (Aside0.out (by assumption))).mono ?_); rintro e w' ⟨rfl, ⟨nd, rfl⟩⟩))
    go_ret
    exact ⟨by first | rfl | (simp [errW_none, errW_some] <;> rfl) | (simp [*, errW_none, errW_some] <;> rfl) | (have hz_ : ∀ z : Int, -9223372036854775808 ≤ z → z ≤ 9223372036854775807 → wrap64 z = z := (fun z h1_ h2_ => by unfold wrap64; omega); rw [hz_] <;> first | rfl | omega), by repeat (first | (with_reducible first | exact HB.out | apply below_alloc | apply pw_below_drewN | apply below_drew1 | refine below_set ?_ GE104.out) | exact HB.out)⟩
  ·replace c5 := Bool.eq_false_iff.mpr c5
   subst c5
   rw [if_neg (show ¬ (false = true) by decide)] at H
   obtain rfl := si_ H
   go_enter Try.func65, Try.ntmps65
   go_wp2_with (first | ((with_reducible refine gate_dst (N := 1) rfl ?_); refine box_event ?hg (N := 1) ?hd (cs := #[.int .i64 a0_0, .int .i64 a0_1, .int .i64 a0_2, .int .i64 a0_3]) (t := 26) ?hr ?_; (case hd => rfl); (case hg => rfl); (case hr => (go_simp; done)); intro gb104 hg w13 hbox hb; have BK104 := ak_ (hbox); have GW104 := ak_ ((by rw [hg]; exact (below_size HB.out) : w.heap.size ≤ gb104)); have GE104 := ak_ ((by rw [hg]; exact (below_size HB.out) : w.heap.size ≤ gb104)); replace HB := ak_ (below_step HB.out hb); clear hb hbox hg; obtain ⟨hcz14_0, hcz14_1, hcz14_2, hcz14_3⟩ := cells4 BK104.out; obtain ⟨hfz14_0, hfz14_1, hfz14_2, hfz14_3⟩ := froz4 BK104.out) | ((with_reducible refine gate_callee (f := 81) rfl ?_); refine goesL_ (some 5) rfl rfl Try.func81 (by kernel_rfl) rfl #[.int .i64 a0_0, .int .i64 1, .int .i64 4] rfl (by (try simp only [List.map_toArray, List.map_cons, List.map_nil]); first | done | rfl | (simp only [List.length_drop, List.length_take]; rfl)) ?_; (with_reducible refine (tag_within.calls a0_0 1 4 true _ A2.out).mono ?_); rintro e w' ⟨rfl, ⟨nd, rfl⟩⟩; refine ⟨_, rfl, ?_⟩) | (go_at_call 81; (with_reducible refine (tag_within.calls a0_1 0 2147483648 false _ A4.out).mono ?_); rintro e w' ⟨rfl, ⟨nd, rfl⟩⟩))
   go_ret
   exact ⟨by first | rfl | (simp [errW_none, errW_some] <;> rfl) | (simp [*, errW_none, errW_some] <;> rfl) | (have hz_ : ∀ z : Int, -9223372036854775808 ≤ z → z ≤ 9223372036854775807 → wrap64 z = z := (fun z h1_ h2_ => by unfold wrap64; omega); rw [hz_] <;> first | rfl | omega), by repeat (first | (with_reducible first | exact HB.out | apply below_alloc | apply pw_below_drewN | apply below_drew1 | refine below_set ?_ GE104.out) | exact HB.out)⟩
 ·replace c3 := Bool.eq_false_iff.mpr c3
  subst c3
  rw [if_neg (show ¬ (false = true) by decide)] at H
  obtain rfl := si_ H
  go_enter Try.func65, Try.ntmps65
  go_wp2_with (first | ((with_reducible refine gate_dst (N := 1) rfl ?_); refine box_event ?hg (N := 1) ?hd (cs := #[.int .i64 a0_0, .int .i64 a0_1, .int .i64 a0_2, .int .i64 a0_3]) (t := 26) ?hr ?_; (case hd => rfl); (case hg => rfl); (case hr => (go_simp; done)); intro gb104 hg w15 hbox hb; have BK104 := ak_ (hbox); have GW104 := ak_ ((by rw [hg]; exact (below_size HB.out) : w.heap.size ≤ gb104)); have GE104 := ak_ ((by rw [hg]; exact (below_size HB.out) : w.heap.size ≤ gb104)); replace HB := ak_ (below_step HB.out hb); clear hb hbox hg; obtain ⟨hcz16_0, hcz16_1, hcz16_2, hcz16_3⟩ := cells4 BK104.out; obtain ⟨hfz16_0, hfz16_1, hfz16_2, hfz16_3⟩ := froz4 BK104.out) | ((with_reducible refine gate_callee (f := 81) rfl ?_); refine goesL_ (some 5) rfl rfl Try.func81 (by kernel_rfl) rfl #[.int .i64 a0_0, .int .i64 1, .int .i64 4] rfl (by (try simp only [List.map_toArray, List.map_cons, List.map_nil]); first | done | rfl | (simp only [List.length_drop, List.length_take]; rfl)) ?_; (with_reducible refine (tag_within.calls a0_0 1 4 false _ A2.out).mono ?_); rintro e w' ⟨rfl, ⟨nd, rfl⟩⟩; refine ⟨_, rfl, ?_⟩))
  go_ret
  exact ⟨by first | rfl | (simp [errW_none, errW_some] <;> rfl) | (simp [*, errW_none, errW_some] <;> rfl) | (have hz_ : ∀ z : Int, -9223372036854775808 ≤ z → z ≤ 9223372036854775807 → wrap64 z = z := (fun z h1_ h2_ => by unfold wrap64; omega); rw [hz_] <;> first | rfl | omega), by repeat (first | (with_reducible first | exact HB.out | apply below_alloc | apply pw_below_drewN | apply below_drew1 | refine below_set ?_ GE104.out) | exact HB.out)⟩
def pack_Size.l0 : Nat → Int → List Int → Int → Int → Option (Int × Bool)
 | 0, _, _, _, _ => none
 | k + 1, x4, x10, x11, x12 => if x12 < x11 then (if 0 ≤ x12 then (if x12 < (x10.length : Int) then (if (rd x10 x12) < 1 then (some (0, false)) else (if (rd x10 x12) > 8 then (some (0, false)) else (pack_Size.l0 k (wrap64 (x4 + (rd x10 x12))) x10 x11 (wrap64 (x12 + 1))))) else (none)) else (none)) else (some (x4, true))
def pack_Size.f (k : Nat) (l0 : List Int) : Option (Int × Bool) := if (l0.length : Int) > 64 then (some (0, false)) else (pack_Size.l0 k 0 l0 (l0.length : Int) 0)
theorem pack_Size.mono_l : ∀ k, (∀ y0 y1 y2 y3, LeO (pack_Size.l0 k y0 y1 y2 y3) (pack_Size.l0 (k + 1) y0 y1 y2 y3))
 | 0 => fun _ _ _ _ r h => by simp [pack_Size.l0] at h
 | k + 1 => by
  have ih0 := pack_Size.mono_l k
  ·intro y0 y1 y2 y3
   unfold pack_Size.l0
   repeat' with_reducible first
   | exact ih0 _ _ _ _
   | exact LeO.refl _
   | exact LeO.none _
   | refine LeO.ite ?_ ?_
   | refine LeO.bind ?_ (fun _ => ?_)
theorem pack_Size.mono : ∀ a0 k, LeO (pack_Size.f k a0) (pack_Size.f (k + 1) a0) := by
 intro a0 k
 have ih0 := pack_Size.mono_l k
 unfold pack_Size.f
 repeat' with_reducible first
  | exact ih0 _ _ _ _
  | exact LeO.refl _
  | exact LeO.none _
  | refine LeO.ite ?_ ?_
  | refine LeO.bind ?_ (fun _ => ?_)
theorem pack_Size.calls (k : Nat) (A0 : Option Addr) (c0 : Nat) (l0 : List Int) (r1 : Int) (r2 : Bool) (w : World) (hr0 : Kd.C (Kd.int .i64) w A0 l0.length l0) (hc0 : l0.length ≤ c0) (h : pack_Size.f k l0 = some (r1, r2)) :
  Calls Try.prog 82 #[.slice A0 l0.length c0] w fun e w' => e = .returned (.tuple #[.int .i64 r1, .bool r2]) ∧ Drawn0 w w' := by
 have HR0 := ak_ hr0
 have HC0 := ak_ hc0
 clear hr0 hc0
 unfold pack_Size.f at h
 have H := h
 clear h
 by_cases c2 : (l0.length : Int) > 64
 ·rw [if_pos c2] at H
  have c2b0 : decide (64 < (l0.length : Int)) = true := dt_ c2
  have c2b1 : decide (64 < l0.length) = true := dt_ (by omega)
  clear c2
  simp only [Option.some.injEq, Prod.mk.injEq] at H
  obtain ⟨rfl, rfl⟩ := H
  go_enter Try.func82, Try.ntmps82
  go_wp2
  go_ret2
  exact ⟨by rfl, by repeat (first | exact Drawn0.refl _ | apply Drawn0.step)⟩
 ·rw [if_neg c2] at H
  have c2b0 : decide (64 < (l0.length : Int)) = false := df_ c2
  have c2b1 : decide (64 < l0.length) = false := df_ (by omega)
  clear c2
  have H' := ak_ H
  clear H
  go_enter Try.func82, Try.ntmps82
  go_wp2
  go_loopg [4, 12] k (fun kq v4 v12 w' => ∃ (x4_1 : Int) (x12_1 : Int), v4 = .int .i64 x4_1 ∧ v12 = .int .i64 x12_1 ∧ Aside0 (pack_Size.l0 kq x4_1 l0 (l0.length : Int) x12_1 = some (r1, r2)) ∧ Aside0 (kq ≤ k) ∧ Drawn0 w w')
  case atStart => exact ⟨(0), (0), (by rfl), (by rfl), H', ⟨Nat.le_refl _⟩, by repeat (first | exact Drawn0.refl _ | apply Drawn0.step)⟩
  case round =>
   clear H'
   clear c2b0 c2b1
   obtain ⟨x4_1, x12_1, rfl, rfl, HA, HK1, ⟨m1, rfl⟩⟩ := hrel
   cases gk with
   | zero => exact absurd HA.out (by simp [pack_Size.l0])
   | succ k1 =>
    have H := HA.out
    clear HA
    simp only [pack_Size.l0] at H
    by_cases c3 : x12_1 < (l0.length : Int)
    ·rw [if_pos c3] at H
     have c3b0 := dt_ c3
     clear c3
     by_cases c4 : 0 ≤ x12_1
     ·rw [if_pos c4] at H
      have c4b0 := dt_ c4
      clear c4
      by_cases c5 : x12_1 < (l0.length : Int)
      ·rw [if_pos c5] at H
       have c5b0 := dt_ c5
       clear c5
       by_cases c6 : (rd l0 x12_1) < 1
       ·rw [if_pos c6] at H
        have c6b0 := dt_ c6
        clear c6
        simp only [Option.some.injEq, Prod.mk.injEq] at H
        obtain ⟨rfl, rfl⟩ := H
        have p109 : 0 ≤ (x12_1 : Int) := of_decide_eq_true (by with_reducible assumption)
        have q109 : x12_1 < (l0.length : Int) := of_decide_eq_true (by with_reducible assumption)
        obtain ⟨ad109, e109, hx109_0⟩ := Kd.at_int HR0.out x12_1 p109 q109
        cases e109
        replace p109 := eq_true p109
        replace q109 := eq_true q109
        go_wp2
        go_ret2
        exact ⟨by rfl, by repeat (first | exact Drawn0.refl _ | apply Drawn0.step)⟩
       ·rw [if_neg c6] at H
        have c6b0 := df_ c6
        clear c6
        by_cases c7 : (rd l0 x12_1) > 8
        ·rw [if_pos c7] at H
         have c7b0 : decide (8 < (rd l0 x12_1)) = true := dt_ c7
         clear c7
         simp only [Option.some.injEq, Prod.mk.injEq] at H
         obtain ⟨rfl, rfl⟩ := H
         have p109 : 0 ≤ (x12_1 : Int) := of_decide_eq_true (by with_reducible assumption)
         have q109 : x12_1 < (l0.length : Int) := of_decide_eq_true (by with_reducible assumption)
         obtain ⟨ad109, e109, hx109_0⟩ := Kd.at_int HR0.out x12_1 p109 q109
         cases e109
         replace p109 := eq_true p109
         replace q109 := eq_true q109
         go_wp2
         go_ret2
         exact ⟨by rfl, by repeat (first | exact Drawn0.refl _ | apply Drawn0.step)⟩
        ·rw [if_neg c7] at H
         have c7b0 : decide (8 < (rd l0 x12_1)) = false := df_ c7
         clear c7
         have H' := ak_ H
         clear H
         have p109 : 0 ≤ (x12_1 : Int) := of_decide_eq_true (by with_reducible assumption)
         have q109 : x12_1 < (l0.length : Int) := of_decide_eq_true (by with_reducible assumption)
         obtain ⟨ad109, e109, hx109_0⟩ := Kd.at_int HR0.out x12_1 p109 q109
         cases e109
         replace p109 := eq_true p109
         replace q109 := eq_true q109
         go_wp2
         go_roundg k1
         case measure => have := HK1.out; omega
         case rel => exact ⟨(wrap64 (x4_1 + (rd l0 x12_1))), (wrap64 (x12_1 + 1)), (by rfl), (by rfl), H', ⟨by have := HK1.out; omega⟩, by repeat (first | exact Drawn0.refl _ | apply Drawn0.step)⟩
      ·rw [if_neg c5] at H
       exact absurd H (by simp)
     ·rw [if_neg c4] at H
      exact absurd H (by simp)
    ·rw [if_neg c3] at H
     have c3b0 := df_ c3
     clear c3
     simp only [Option.some.injEq, Prod.mk.injEq] at H
     obtain ⟨rfl, rfl⟩ := H
     go_wp2
     go_ret2
     exact ⟨by rfl, by repeat (first | exact Drawn0.refl _ | apply Drawn0.step)⟩
def pack_Fits.j0 : Nat → Int → Int → Bool → Option (Bool)
 | 0, _, _, _ => none
 | k + 1, x0, x1, x14 => if x14 = true then (some false) else (if x1 = 8 then (some (decide (x0 ≤ 4611686018427387904))) else (if 0 ≤ (IntKind.u64.wrap (wrap64 (8 * x1))) then (some ((shr .i64 x0 (IntKind.u64.wrap (wrap64 (8 * x1)))) == 0)) else (none)))
def pack_Fits.f (k : Nat) (a0 : Int) (a1 : Int) : Option (Bool) := if a1 < 1 then (pack_Fits.j0 k a0 a1 true) else (if a1 > 8 then (pack_Fits.j0 k a0 a1 true) else (pack_Fits.j0 k a0 a1 (decide (a0 < 0))))
theorem pack_Fits.mono_l : ∀ k, (∀ y0 y1 y2, LeO (pack_Fits.j0 k y0 y1 y2) (pack_Fits.j0 (k + 1) y0 y1 y2))
 | 0 => fun _ _ _ r h => by simp [pack_Fits.j0] at h
 | k + 1 => by
  have ih0 := pack_Fits.mono_l k
  ·intro y0 y1 y2
   unfold pack_Fits.j0
   repeat' with_reducible first
   | exact ih0 _ _ _
   | exact LeO.refl _
   | exact LeO.none _
   | refine LeO.ite ?_ ?_
   | refine LeO.bind ?_ (fun _ => ?_)
theorem pack_Fits.mono : ∀ a0 a1 k, LeO (pack_Fits.f k a0 a1) (pack_Fits.f (k + 1) a0 a1) := by
 intro a0 a1 k
 have ih0 := pack_Fits.mono_l k
 unfold pack_Fits.f
 repeat' with_reducible first
  | exact ih0 _ _ _
  | exact LeO.refl _
  | exact LeO.none _
  | refine LeO.ite ?_ ?_
  | refine LeO.bind ?_ (fun _ => ?_)
theorem pack_Fits.calls (k : Nat) (a0 : Int) (a1 : Int) (r : Bool) (w : World) (h : pack_Fits.f k a0 a1 = some r) :
  Calls Try.prog 83 #[.int .i64 a0, .int .i64 a1] w fun e w' => e = .returned (.bool r) ∧ Drawn0 w w' := by
 unfold pack_Fits.f at h
 have H := h
 clear h
 have HC3 := ak_ H
 clear H
 go_enter Try.func83, Try.ntmps83
 go_upto_region 1 with (fail)
 go_cut [14] (fun v14 wc => ∃ (kq : Nat) (x14_2 : Bool), v14 = .bool x14_2 ∧ Aside0 (pack_Fits.j0 kq a0 a1 x14_2 = some r) ∧ Aside0 (kq ≤ k) ∧ Drawn0 w wc)
 case first =>
  have H := HC3.out
  clear HC3
  by_cases c4 : a1 < 1
  ·rw [if_pos c4] at H
   have c4b0 := dt_ c4
   clear c4
   (first | rw [c4b0] | (simp only [i64_w, i32_w]; rw [c4b0]) | skip)
   have H' := ak_ H
   clear H
   go_wp2
   go_meet
   case rel => exact ⟨_, (true), (by rfl), H', ⟨by omega⟩, by repeat (first | exact Drawn0.refl _ | apply Drawn0.step)⟩
  ·rw [if_neg c4] at H
   have c4b0 := df_ c4
   clear c4
   (first | rw [c4b0] | (simp only [i64_w, i32_w]; rw [c4b0]) | skip)
   by_cases c5 : a1 > 8
   ·rw [if_pos c5] at H
    have c5b0 : decide (8 < a1) = true := dt_ c5
    clear c5
    have H' := ak_ H
    clear H
    go_wp2
    go_meet
    case rel => exact ⟨_, (true), (by rfl), H', ⟨by omega⟩, by repeat (first | exact Drawn0.refl _ | apply Drawn0.step)⟩
   ·rw [if_neg c5] at H
    have c5b0 : decide (8 < a1) = false := df_ c5
    clear c5
    have H' := ak_ H
    clear H
    go_wp2
    go_meet
    case rel => exact ⟨_, (decide (a0 < 0)), (by rfl), H', ⟨by omega⟩, by repeat (first | exact Drawn0.refl _ | apply Drawn0.step)⟩
 case rest =>
  clear HC3
  obtain ⟨kq, x14_2, rfl, HA, HJ2, ⟨mc2, rfl⟩⟩ := hcut
  cases kq with
  | zero => exact absurd HA.out (by simp [pack_Fits.j0])
  | succ kj2 =>
   have H := HA.out
   clear HA
   simp only [pack_Fits.j0] at H
   by_cases c6 : x14_2 = true
   ·subst c6
    rw [if_pos rfl] at H
    obtain rfl := si_ H
    go_wp2
    go_ret
    exact ⟨by rfl, by repeat (first | exact Drawn0.refl _ | apply Drawn0.step)⟩
   ·replace c6 := Bool.eq_false_iff.mpr c6
    subst c6
    rw [if_neg (show ¬ (false = true) by decide)] at H
    by_cases c7 : a1 = 8
    ·rw [if_pos c7] at H
     have c7b0 := beq_iff_eq.mpr c7
     have c7b1 := bne_eq_false_iff_eq.mpr c7
     clear c7
     obtain rfl := si_ H
     go_wp2
     go_ret
     exact ⟨by rfl, by repeat (first | exact Drawn0.refl _ | apply Drawn0.step)⟩
    ·rw [if_neg c7] at H
     have c7b0 := beq_eq_false_iff_ne.mpr c7
     have c7b1 := bne_iff_ne.mpr c7
     obtain ⟨ji8, hji8⟩ : ∃ j_ : Int, (IntKind.u64.wrap (wrap64 (8 * a1))) = j_ := ⟨_, rfl⟩
     replace H : (if 0 ≤ (ji8) then (some ((shr .i64 a0 (ji8)) == 0)) else (none)) = some r := (by rw [hji8] at H; exact H)
     by_cases c9 : 0 ≤ (ji8)
     ·rw [if_pos c9] at H
      have c9b0 := eq_true c9
      have c9b1 := dt_ c9
      clear c9
      obtain ⟨ji10, hji10⟩ : ∃ j_ : Int, (shr .i64 a0 (ji8)) = j_ := ⟨_, rfl⟩
      replace H : (some ((ji10) == 0)) = some r := (by rw [hji10] at H; exact H)
      have hji10_ : (a0 / 2 ^ min (ji8).toNat 64) = ji10 := hji10
      have hji10z : (ji8) ≤ 64 → (a0 / 2 ^ (ji8).toNat) = ji10 := shr_small hji10
      obtain rfl := si_ H
      go_wp2
      go_ret
      exact ⟨by first | rfl | (simp; done) | (simp only [← hji8, ← hji10] <;> (first | rfl | simp)) | (simp [*]; done), by repeat (first | exact Drawn0.refl _ | apply Drawn0.step)⟩
     ·rw [if_neg c9] at H
      exact absurd H (by simp)
end Go.Proofs.Ytmehbabchakkpaa.QPageBack

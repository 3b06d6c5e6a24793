/-
  Rows of bytes as lists of natural numbers, and back.
-/
import Derived.Test.YtpabehkdedhncaaCrcMath
import Derived.Laws.BytesArg
namespace Go.Proofs.Ytpabehkdedhncaa.NatKit
open Go.RowKit Go.Proofs.YtpabehkdedhncaaW.PrintWords Go.Proofs.Ytpabehkdedhncaa.EvKit
def nats (l : List Int) : List Nat := l.map Int.toNat
def ints (l : List Nat) : List Int := l.map Int.ofNat
theorem nats_length (l : List Int) : (nats l).length = l.length := List.length_map _
theorem nats_lt {l : List Int} (h : ∀ x ∈ l, 0 ≤ x ∧ x < 256) : ∀ b ∈ nats l, b < 256 := by
  intro b hb
  obtain ⟨x, hx, rfl⟩ := List.mem_map.1 hb
  have := h x hx
  omega
theorem ints_nats {l : List Int} (h : ∀ x ∈ l, 0 ≤ x) : ints (nats l) = l := by
  unfold ints nats
  rw [List.map_map]
  conv => rhs; rw [← List.map_id l]
  refine List.map_congr_left fun x hx => ?_
  have := h x hx
  show ((x.toNat : Nat) : Int) = x
  omega
theorem nats_ints (l : List Nat) : nats (ints l) = l := by
  unfold ints nats
  rw [List.map_map]
  conv => rhs; rw [← List.map_id l]
  exact List.map_congr_left fun x _ => rfl
theorem nats_append (a b : List Int) : nats (a ++ b) = nats a ++ nats b := List.map_append
theorem nats_take (a : List Int) (n : Nat) : nats (a.take n) = (nats a).take n := List.map_take
theorem nats_drop (a : List Int) (n : Nat) : nats (a.drop n) = (nats a).drop n := List.map_drop
theorem rd_ints {l : List Nat} {i : Nat} : rd (ints l) (i : Int) = ((l.getD i 0 : Nat) : Int) := by
  unfold rd ints
  rw [Int.toNat_natCast, List.getD_eq_getElem?_getD, List.getD_eq_getElem?_getD, List.getElem?_map]
  cases l[i]? <;> rfl
theorem rd_nats {l : List Int} (h : ∀ x ∈ l, 0 ≤ x) (i : Nat) : rd l (i : Int) = (((nats l).getD i 0 : Nat) : Int) := by
  conv => lhs; rw [← ints_nats h]
  exact rd_ints
theorem nats_inj {a b : List Int} (ha : ∀ x ∈ a, 0 ≤ x) (hb : ∀ x ∈ b, 0 ≤ x) (h : nats a = nats b) : a = b := by
  rw [← ints_nats ha, ← ints_nats hb, h]
theorem str_eq {a b : List Int} (ha : ∀ x ∈ a, 0 ≤ x ∧ x < 256) (hb : ∀ x ∈ b, 0 ≤ x ∧ x < 256) (h : strOfNums a = strOfNums b) : a = b := by
  have h1 : (a.map fun n => UInt8.ofNat n.toNat) = b.map fun n => UInt8.ofNat n.toNat := by
    have := congrArg (fun s : ByteArray => s.data.toList) h
    simpa [strOfNums] using this
  have h2 : a.map Int.toNat = b.map Int.toNat := by
    have := congrArg (List.map UInt8.toNat) h1
    rw [List.map_map, List.map_map] at this
    have key : ∀ l : List Int, (∀ x ∈ l, 0 ≤ x ∧ x < 256) → l.map (UInt8.toNat ∘ fun n => UInt8.ofNat n.toNat) = l.map Int.toNat := by
      intro l hl
      refine List.map_congr_left fun x hx => ?_
      have := hl x hx
      show (UInt8.ofNat x.toNat).toNat = x.toNat
      rw [UInt8.toNat_ofNat']
      omega
    rw [key a ha, key b hb] at this
    exact this
  exact nats_inj (fun x hx => (ha x hx).1) (fun x hx => (hb x hx).1) h2
theorem rd_ints_lt {l : List Nat} {i : Nat} (h : i < l.length) : rd (ints l) (i : Int) = ((l[i] : Nat) : Int) := by
  rw [rd_ints, List.getD_eq_getElem?_getD, List.getElem?_eq_getElem h]
  rfl
theorem ints_set (l : List Nat) (i v : Nat) : (ints l).set i (v : Int) = ints (l.set i v) := by
  unfold ints
  rw [List.map_set]
  rfl
theorem ints_length (l : List Nat) : (ints l).length = l.length := List.length_map _
theorem ints_byte {l : List Nat} (h : ∀ b ∈ l, b < 256) : ∀ x ∈ ints l, 0 ≤ x ∧ x < 256 := by
  intro x hx
  obtain ⟨b, hb, rfl⟩ := List.mem_map.1 hx
  have := h b hb
  exact ⟨Int.natCast_nonneg b, by show ((b : Nat) : Int) < 256; omega⟩
end Go.Proofs.Ytpabehkdedhncaa.NatKit

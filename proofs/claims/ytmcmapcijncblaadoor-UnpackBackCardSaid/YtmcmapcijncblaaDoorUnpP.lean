/- Plain: what is read of a head was laid the shortest way, and what is laid so is read. -/
import Derived.Test.YtmcmapcijncblaaDoorHigh
namespace Go.Proofs.YtmcmapcijncblaaDoor
open Go.RowKit
set_option linter.unusedSimpArgs false
set_option linter.unusedVariables false

theorem hiL_snoc (n : Int) : ∀ k, hiL n (k + 1) = hiL (n / 256) k ++ [n % 256]
  | 0 => by simp [hiL]
  | k + 1 => by
    have e : n / 256 / 256 ^ k = n / (256 * 256 ^ k) := by rw [Int.ediv_ediv]; simp
    rw [hiL, hiL_snoc n k, hiL, List.cons_append, e, Int.pow_succ, Int.mul_comm]

/-- A number as a byte. -/
def toB (x : Int) : UInt8 := UInt8.ofNat x.toNat
theorem toB_nat (x : UInt8) : toB (x.toNat : Int) = x := by simp [toB]
theorem toB_inj {a b : Int} (a0 : 0 ≤ a) (a1 : a < 256) (b0 : 0 ≤ b) (b1 : b < 256) (h : toB a = toB b) : a = b := by
  unfold toB at h
  have := congrArg UInt8.toNat h
  rw [UInt8.toNat_ofNat', UInt8.toNat_ofNat'] at this
  omega

theorem ba_ext {s t : ByteArray} (h : s.data.toList = t.data.toList) : s = t := ByteArray.ext (Array.ext' h)
theorem ba_len (s : ByteArray) : s.data.toList.length = s.size := by rw [Array.length_toList]; rfl
theorem byte_get {s : ByteArray} {i : Nat} (h : i < s.size) : ∃ x, s.data.toList[i]? = some x ∧ byte s i = x.toNat := by
  have : i < s.data.toList.length := by rw [ba_len]; exact h
  exact ⟨_, List.getElem?_eq_getElem this, by unfold byte; rw [List.getD_eq_getElem?_getD, List.getElem?_eq_getElem this]; rfl⟩
theorem bytes0 {s : ByteArray} (h : 0 < s.size) : s.data.toList = toB (byte s 0) :: s.data.toList.drop 1 := by
  obtain ⟨x, hx, hb⟩ := byte_get h
  rw [hb, toB_nat]
  cases hl : s.data.toList with
  | nil => rw [hl] at hx; cases hx
  | cons y r => rw [hl] at hx; cases hx; rfl

theorem be_hi {s : ByteArray} : ∀ k, 1 + k ≤ s.size → (s.data.toList.drop 1).take k = (hiL (be s k) k).map toB
  | 0, _ => by simp [hiL]
  | k + 1, h => by
    obtain ⟨x, hx, hb⟩ := byte_get (s := s) (i := 1 + k) (by omega)
    have hlt := UInt8.toNat_lt x
    rw [List.take_add_one, be_hi k (by omega), hiL_snoc, be, hb, List.getElem?_drop, hx]
    have e1 : (be s k * 256 + (x.toNat : Int)) / 256 = be s k := by omega
    have e2 : (be s k * 256 + (x.toNat : Int)) % 256 = x.toNat := by omega
    rw [e1, e2, List.map_append, List.map_cons, toB_nat]
    rfl
theorem hi_inj : ∀ (k : Nat) {a b : Int}, 0 ≤ a → a < 256 ^ k → 0 ≤ b → b < 256 ^ k → (hiL a k).map toB = (hiL b k).map toB → a = b
  | 0, a, b, a0, a1, b0, b1, _ => by simp at a1 b1; omega
  | k + 1, a, b, a0, a1, b0, b1, h => by
    rw [hiL_snoc, hiL_snoc, List.map_append, List.map_append] at h
    obtain ⟨h1, h2⟩ := List.append_inj' h rfl
    rw [Int.pow_succ] at a1 b1
    have e1 := hi_inj k (by omega) (by omega) (by omega) (by omega) h1
    simp only [List.map_cons, List.map_nil, List.cons.injEq, and_true] at h2
    have e2 := toB_inj (by omega) (by omega) (by omega) (by omega) h2
    omega
theorem be_of_hi {s : ByteArray} {k : Nat} {n : Int} {R : List UInt8} {c : UInt8} (n0 : 0 ≤ n) (n1 : n < 256 ^ k) (h : s.data.toList = c :: ((hiL n k).map toB ++ R)) : be s k = n := by
  have hs : 1 + k ≤ s.size := by rw [← ba_len, h, List.length_cons, List.length_append, List.length_map, hiL_len]; omega
  have hb := be_hi k hs
  rw [h, List.drop_one, List.tail_cons, List.take_left' (by rw [List.length_map, hiL_len])] at hb
  have := be_bd s k
  exact (hi_inj k n0 n1 this.1 this.2 hb).symm

/-- The row by which a number is laid the shortest way. -/
def rowFor (sort : Nat) (n : Int) : URow :=
  match sort with
  | 1 => if n < 256 then ⟨196, 196, 1, 0⟩ else ⟨197, 197, 2, 256⟩
  | 2 => if n < 32 then ⟨160, 191, 0, 0⟩ else if n < 256 then ⟨217, 217, 1, 32⟩ else ⟨218, 218, 2, 256⟩
  | 3 => if n < 16 then ⟨144, 159, 0, 0⟩ else ⟨220, 220, 2, 16⟩
  | 4 => if n < 16 then ⟨128, 143, 0, 0⟩ else ⟨222, 222, 2, 16⟩
  | _ => if n < 128 then ⟨0, 127, 0, 0⟩ else if n < 256 then ⟨204, 204, 1, 128⟩ else if n < 65536 then ⟨205, 205, 2, 256⟩ else if n < 4294967296 then ⟨206, 206, 4, 65536⟩ else ⟨207, 207, 8, 4294967296⟩
/-- The head's bytes by a row. -/
def headB (r : URow) (n : Int) : List UInt8 := if r.size = 0 then [toB (r.lo + n)] else toB r.lo :: (hiL n r.size.toNat).map toB

theorem head_split {s : ByteArray} {l : List URow} {n : Int} {rest : ByteArray} (hok : ∀ r ∈ l, 0 ≤ r.size) (h : headOf s l = .ok (n, rest)) :
    ∃ r ∈ l, r.least ≤ n ∧ r.lo ≤ byte s 0 ∧ byte s 0 ≤ r.hi ∧ 1 + r.size.toNat ≤ s.size ∧ n = (if r.size = 0 then byte s 0 - r.lo else be s r.size.toNat) ∧ rest = s.extract (1 + r.size.toNat) s.size := by
  unfold headOf at h
  split at h
  · cases h
  · split at h
    · cases h
    · next r hf =>
      have hm := List.mem_of_find?_eq_some hf
      have hp := List.find?_some hf
      simp only [Bool.and_eq_true, decide_eq_true_eq] at hp
      have := hok r hm
      by_cases h1 : (s.size : Int) < 1 + r.size
      · rw [if_pos h1] at h; cases h
      · rw [if_neg h1] at h
        obtain ⟨v, hv⟩ : ∃ v, (if r.size = 0 then byte s 0 - r.lo else be s r.size.toNat) = v := ⟨_, rfl⟩
        rw [hv] at h
        by_cases h2 : v < r.least
        · rw [if_pos h2] at h; cases h
        · rw [if_neg h2] at h
          cases h
          exact ⟨r, hm, by omega, hp.1, hp.2, by omega, hv.symm, rfl⟩

theorem head_bytes {s : ByteArray} {r : URow} {n : Int} {rest : ByteArray} (h1 : r.lo ≤ byte s 0) (h2 : byte s 0 ≤ r.hi) (h3 : 1 + r.size.toNat ≤ s.size) (hn : n = (if r.size = 0 then byte s 0 - r.lo else be s r.size.toNat)) (hr : rest = s.extract (1 + r.size.toNat) s.size) (hx : r.size = 0 ∨ r.lo = r.hi) :
    s.data.toList = headB r n ++ rest.data.toList := by
  rw [hr, Lib.extract_data, List.take_of_length_le (by rw [List.length_drop, ba_len]; omega)]
  refine (bytes0 (s := s) (by omega)).trans ?_
  unfold headB
  by_cases hz : r.size = 0
  · rw [if_pos hz, hz]
    rw [if_pos hz] at hn
    rw [hn, show r.lo + (byte s 0 - r.lo) = byte s 0 by omega]
    simp
  · rw [if_neg hz]
    rw [if_neg hz] at hn
    have e : byte s 0 = r.lo := by rcases hx with h | h <;> omega
    rw [hn, ← be_hi _ h3, e, List.cons_append]
    congr 1
    rw [show (s.data.toList.drop (1 + r.size.toNat)) = (s.data.toList.drop 1).drop r.size.toNat by rw [List.drop_drop]]
    exact (List.take_append_drop _ _).symm
end Go.Proofs.YtmcmapcijncblaaDoor

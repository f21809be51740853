/- Plain: how the fields of a thing are laid as a map. -/
import Derived.Test.YtihiaopilnjonaaGreatDoorHiP
namespace Go.Proofs.YtihiaopilnjonaaGreatDoor
open Go.RowKit
set_option linter.unusedSimpArgs false
set_option linter.unusedVariables false

def catB : List ByteArray → ByteArray
  | [] => ByteArray.empty
  | x :: r => x ++ catB r
theorem catB_app : ∀ a b : List ByteArray, catB (a ++ b) = catB a ++ catB b
  | [], b => by simp [catB]
  | x :: r, b => by rw [List.cons_append, catB, catB_app r b, catB, ByteArray.append_assoc]
theorem catB_snoc (a : List ByteArray) (x : ByteArray) : catB (a ++ [x]) = catB a ++ x := by rw [catB_app]; simp [catB]

/-- A field of a thing: its key; must it be there; is it empty; may it be laid; how it is laid. -/
structure FSpec where
  key : ByteArray
  must : Bool
  empty : Bool
  may : Bool
  bytes : ByteArray
/-- A text, laid. -/
def strP (s : ByteArray) : ByteArray := laidP 2 s.size s
def binP (s : ByteArray) : ByteArray := laidP 1 s.size s
def numP (n : Int) : ByteArray := laidP 0 n ByteArray.empty
def listP (n : Nat) : ByteArray := laidP 3 n ByteArray.empty
def mapP (n : Nat) : ByteArray := laidP 4 n ByteArray.empty
def fieldP (f : FSpec) : ByteArray := strP f.key ++ f.bytes
def keptF (l : List FSpec) : List FSpec := l.filter fun f => !f.empty
def layP (l : List FSpec) : ByteArray := mapP (keptF l).length ++ catB ((keptF l).map fieldP)
def allMay (l : List FSpec) : Bool := l.all fun f => f.may

/-- The reference's pairs: a value of no bytes is left out. -/
def rkept (l : List (ByteArray × ByteArray)) : List (ByteArray × ByteArray) := l.filter fun p => decide (p.2.size ≠ 0)
def rlayP (l : List (ByteArray × ByteArray)) : ByteArray := mapP (rkept l).length ++ catB ((rkept l).map fun p => strP p.1 ++ p.2)
/-- Both ways of laying a map lay the same. -/
theorem lay_same : ∀ (l : List FSpec) (r : List (ByteArray × ByteArray)), l.length = r.length → (∀ i (h : i < l.length) (h' : i < r.length), l[i].key = r[i].1 ∧ (l[i].empty = true ↔ r[i].2.size = 0) ∧ (l[i].empty = false → l[i].bytes = r[i].2)) →
    (keptF l).length = (rkept r).length ∧ catB ((keptF l).map fieldP) = catB ((rkept r).map fun p => strP p.1 ++ p.2)
  | [], [], _, _ => ⟨rfl, rfl⟩
  | [], _ :: _, h, _ => by simp at h
  | _ :: _, [], h, _ => by simp at h
  | f :: l, p :: r, h, hh => by
    have ih := lay_same l r (by simpa using h) (fun i h1 h2 => hh (i + 1) (by simpa using h1) (by simpa using h2))
    have h0 := hh 0 (by simp) (by simp)
    simp only [List.getElem_cons_zero] at h0
    obtain ⟨e1, e2, e3⟩ := h0
    unfold keptF rkept at ih ⊢
    cases he : f.empty with
    | true =>
      have h2 := e2.1 he
      rw [List.filter_cons_of_neg (by simp [he]), List.filter_cons_of_neg (by simp [h2])]
      exact ih
    | false =>
      have h2 : p.2.size ≠ 0 := fun h => by rw [e2.2 h] at he; cases he
      rw [List.filter_cons_of_pos (by simp [he]), List.filter_cons_of_pos (by simp [h2])]
      refine ⟨by simp [ih.1], ?_⟩
      rw [List.map_cons, List.map_cons, catB, catB, ih.2]
      unfold fieldP
      rw [e1, e3 he]
theorem layP_eq {l : List FSpec} {r : List (ByteArray × ByteArray)} (h : l.length = r.length) (hh : ∀ i (h : i < l.length) (h' : i < r.length), l[i].key = r[i].1 ∧ (l[i].empty = true ↔ r[i].2.size = 0) ∧ (l[i].empty = false → l[i].bytes = r[i].2)) : layP l = rlayP r := by
  obtain ⟨h1, h2⟩ := lay_same l r h hh
  unfold layP rlayP
  rw [h1, h2]
end Go.Proofs.YtihiaopilnjonaaGreatDoor

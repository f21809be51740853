/- Contracts of the helpers of the statements of layer 21: of, made, shape. -/
import Derived.Test.YtihiaopilnjonaaGreatDoorCertH
import Derived.Deep.AppendLies
import Derived.Deep.DrawnRows
namespace Go.Proofs.YtihiaopilnjonaaGreatDoor
open Go.RowKit
attribute [local go_sem ↓] Go.wp_at_zero Go.wp_at_succ

structure One where
  pos : Int
  L : Int
  wt : Int
  root : Int
def One.zero : One := ⟨0, 0, 0, 0⟩
def onth (l : List One) (i : Nat) : One := l.getD i One.zero
theorem onth_eq (l : List One) (i : Nat) (h : i < l.length) : onth l i = l[i] := by
  unfold onth; rw [List.getD_eq_getElem?_getD, List.getElem?_eq_getElem h]; rfl

structure OneAt (w : World) (b o : Nat) (r : One) : Prop where
  c0 : w.cell? ⟨b, o, none⟩ = some (.int .u64 r.pos)
  c1 : w.cell? ⟨b, o + 1, none⟩ = some (.int .u64 r.L)
  c2 : w.cell? ⟨b, o + 2, none⟩ = some (.int .u64 r.wt)
  c3 : w.cell? ⟨b, o + 3, none⟩ = some (.int .u8 r.root)
theorem OneAt.below {w w' : World} {b o : Nat} {r : One} (h : OneAt w b o r) (hb : Below w.heap.size w w') : OneAt w' b o r := by
  have hl := lt_of_cell h.c0
  have e : ∀ q, w'.cell? ⟨b, q, none⟩ = w.cell? ⟨b, q, none⟩ := fun q => hb.cell (p := ⟨b, q, none⟩) hl
  obtain ⟨c0, c1, c2, c3⟩ := h
  constructor <;> (rw [e]; assumption)
def Ones (w : World) (a : Option Addr) (l : List One) : Prop :=
  ∀ i, i < len l → ∃ b off, a = some ⟨b, off, none⟩ ∧ OneAt w b (off + i * 4) (onth l i)
theorem Ones.below {w w' : World} {a : Option Addr} {l : List One} (h : Ones w a l) (hb : Below w.heap.size w w') : Ones w' a l := fun i hi => by
  obtain ⟨b, off, rfl, hc⟩ := h i hi
  exact ⟨b, off, rfl, hc.below hb⟩

def One.cells (r : One) : List Value := [.int .u64 r.pos, .int .u64 r.L, .int .u64 r.wt, .int .u8 r.root]

theorem info_one : (Tryz.prog.info? 51).map (fun i => (i.zero, i.size, i.bytes)) = some (some (.agg #[.int .u64 0, .int .u64 0, .int .u64 0, .int .u8 0]), 4, 32) := by kernel_rfl

/-- Reveals, three numbers each. -/
def ofL (l : List Int) (n : Nat) : List One := (List.range n).map (fun k => ⟨nth l (3 * k), nth l (3 * k + 1), nth l (3 * k + 2), 32⟩)

set_option maxRecDepth 100000 in
set_option maxHeartbeats 1000000 in
theorem of_any (a : Option Addr) (cap : Nat) (l : List Int) (w : World) (hlen : len l ≤ 1099511627776) (hc : U64s w a l) :
    Calls Tryz.prog 23 #[.slice a (len l) cap] w
      fun e w' => ∃ v, e = .returned v ∧ w'.ownsRow w.heap.size 51 4 v (len l / 3) ((ofL l (len l / 3)).flatMap One.cells) ∧ Below w.heap.size w w' := by
  have HC := Lib.hid hc
  clear hc
  obtain ⟨i0, hi, hz0, hz1, hz2⟩ := info_parts info_one
  go_enter Tryz.func23, Tryz.ntmps23
  go_wp2
  go_loopg [3, 4] (len l) (fun g v i wr => ∃ m n : Nat, g + n = len l ∧ n = 3 * m ∧ i = .int .i64 n ∧ Below w.heap.size w wr ∧ Hid (wr.ownsRow w.heap.size 51 4 v m ((ofL l m).flatMap One.cells)))
  case atStart => exact ⟨0, 0, rfl, rfl, rfl, Below.refl _ _, World.ownsRow_nil _ _ _ _⟩
  case round =>
    obtain ⟨m, n, hn, hmn, rfl, hd, hk⟩ := hrel
    have HMN := Lib.hid hmn
    clear hmn
    by_cases hlt : n + 2 < len l
    · have hm3 : m ≤ n := (by have := HMN.out; omega)
      obtain ⟨b, off, rfl, c0'⟩ := HC.out n (by omega)
      have l0 := lt_of_cell c0'
      clear c0'
      obtain ⟨b', off', he, c0⟩ := HC.out.below hd n (by omega)
      cases he
      obtain ⟨b', off', he, c1⟩ := HC.out.below hd (n + 1) (by omega)
      cases he
      obtain ⟨b', off', he, c2⟩ := HC.out.below hd (n + 2) (by omega)
      cases he
      have l1 := lt_of_cell c0
      have hlt' : (n : Int) + 2 < len l := (by omega)
      have b0 : (n : Int) < len l := (by omega)
      have b1 : (n : Int) + 1 < len l := (by omega)
      have b2 : 0 ≤ (n : Int) + 1 := (by omega)
      have b3 : 0 ≤ (n : Int) + 2 := (by omega)
      have b5 : n < len l := (by omega)
      go_wp2
      have b4 : 0 ≤ (n : Int) := (by omega)
      have i1 : IntKind.i64.wrap ((n : Int) + 1) = n + 1 := (IntWalk.i64_in _ (by omega))
      have i2 : IntKind.i64.wrap ((n : Int) + 2) = n + 2 := (IntWalk.i64_in _ (by omega))
      have i3 : ((n : Int) + 1).toNat = n + 1 := (by omega)
      have i4 : ((n : Int) + 2).toNat = n + 2 := (by omega)
      go_region_held3 (fun w' => w'.cell? ⟨b, off + n, none⟩ = some (.int .u64 (nth l n)) ∧ w'.cell? ⟨b, off + (n + 1), none⟩ = some (.int .u64 (nth l (n + 1))) ∧ w'.cell? ⟨b, off + (n + 2), none⟩ = some (.int .u64 (nth l (n + 2))))
        (first | go_keep | (refine ⟨?_, ?_, ?_⟩ <;> (rw [(grownBy_below (balloc (bdrew hd) _) hgrow (fun k hk' => (hk.out.lt k hk').1)).cell (p := ⟨b, _, none⟩) l0, ← hd.cell (p := ⟨b, _, none⟩) l0]; assumption)))
        ((refine step_append_lies _ (by rfl) _ _ _ (by rfl) w.heap.size 51 i0 (.agg #[.int .u64 0, .int .u64 0, .int .u64 0, .int .u8 0]) 4 32 Tryz.underlying22 hi hz0 hz1 hz2 rfl (by decide) _ m _ (by rfl) (hk.out.drew.alloc _) ⟨wr.heap.size, 0, none⟩ 1 1 (One.cells ⟨nth l n, nth l (n + 1), nth l (n + 2), 32⟩) (by rfl) rfl (alloc_cells _ #[_, _, _, _] _) (by intro u hu; simp [One.cells] at hu; rcases hu with rfl | rfl | rfl | rfl <;> rfl) (by decide) (by unfold maxLen; omega) (by omega) (by have := hd.size; simp; omega) _ rfl ?_; intro g cap w1 hown1 hgrow hat hlt_1))
      clear i1 i2 i3 i4
      have HW := Lib.hid (grownBy_below (balloc (bdrew hd) _) hgrow (fun k hk' => (hk.out.lt k hk').1))
      have HO := Lib.hid hown1
      clear hown1 hgrow hat hlt_1
      go_wp2
      go_roundg (gk - 3)
      case rel => exact ⟨m + 1, n + 3, by omega, by have := HMN.out; omega, by go_num, HW.out, (by
        have h := HO.out
        have e : ofL l (m + 1) = ofL l m ++ [⟨nth l n, nth l (n + 1), nth l (n + 2), 32⟩] := by
          have := HMN.out; subst this
          simp [ofL, List.range_succ]
        show World.ownsRow _ _ _ _ _ _ _
        rw [e, List.flatMap_append]; simpa using h)⟩
      case measure => omega
    · have hlt' : ¬ (n : Int) + 2 < len l := (by omega)
      go_wp2
      go_ret
      obtain rfl : m = len l / 3 := by have := HMN.out; omega
      exact ⟨_, rfl, hk.out, hd⟩
end Go.Proofs.YtihiaopilnjonaaGreatDoor

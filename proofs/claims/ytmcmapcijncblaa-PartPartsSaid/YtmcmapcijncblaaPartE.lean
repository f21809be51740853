/- The statement PartParts: short lists; a list cut in two. -/
import Derived.Test.YtmcmapcijncblaaPartD
namespace Go.Proofs.Ytmcmapcijncblaa
open Go.RowKit

def cutP (p : Prt) : Prt := { p with root := p.root.extract 0 (min p.root.size 40) }
def shortOf (l : List Prt) : List Prt := (l.take 30).map cutP
theorem pnth_map (f : Prt → Prt) (l : List Prt) (i : Nat) (h : i < len l) : pnth (l.map f) i = f (pnth l i) := by
  have h1 : i < (l.map f).length := by rw [List.length_map]; exact h
  have h2 : i < l.length := h
  rw [pnth_eq _ i h1, pnth_eq l i h2, List.getElem_map]
theorem shortOf_ok {l : List Prt} (h : ∀ i, (pnth l i).Ok) : ∀ i, (pnth (shortOf l) i).Ok := oks (fun p hp => by
  obtain ⟨q, hq, rfl⟩ := List.mem_map.1 hp
  obtain ⟨i, hi, rfl⟩ := List.getElem_of_mem (List.mem_of_mem_take hq)
  have := h i
  rw [pnth_eq l i hi] at this
  exact ⟨this.wt0, this.wt1, this.fi0, this.fi1, this.li0, this.li1, this.ke0, this.ke1⟩)
theorem shortOf_len (l : List Prt) : len (shortOf l) ≤ 30 := by simp [shortOf, len]; omega

def ShortIs (l : List Prt) (w : World) (e : Ending) (w' : World) : Prop :=
  ∃ v, e = .returned v ∧ w'.ownsRow w.heap.size 49 5 v (len (shortOf l)) ((shortOf l).flatMap Prt.cells) ∧ Below w.heap.size w w'

set_option maxRecDepth 100000 in
set_option maxHeartbeats 1000000 in
theorem short_any (a : Option Addr) (cap : Nat) (l : List Prt) (w : World) (hlen : len l ≤ 9223372036854775807) (hc : Prts w a l) :
    Calls Try.prog 20 #[.slice a (len l) cap] w (ShortIs l w) := by
  have HC := Lib.hid hc
  clear hc
  obtain ⟨i0, hi, hz0, hz1, hz2⟩ := info_parts info_prt
  obtain ⟨m, hm⟩ : ∃ m, m = min (len l) 30 := ⟨_, rfl⟩
  go_enter Try.func20, Try.ntmps20
  go_wp2
  go_loopg [3, 4] m (fun g v i wr => ∃ k : Nat, g + k = m ∧ i = .int .i64 k ∧ Below w.heap.size w wr ∧ Hid (wr.ownsRow w.heap.size 49 5 v k (((l.take k).map cutP).flatMap Prt.cells)))
  case atStart => exact ⟨0, rfl, rfl, Below.refl _ _, World.ownsRow_nil _ _ _ _⟩
  case round =>
    obtain ⟨k, hk0, rfl, hd, HOWN⟩ := hrel
    by_cases hlt : k < m
    · obtain ⟨b, off, rfl, ⟨c0, c1, c2, c3, c4⟩⟩ := HC.out.below hd k (by omega)
      have b0 : (k : Int) < len l := (by omega)
      have b1 : (k : Int) < 30 := (by omega)
      have b2 : k < len l := (by omega)
      have b3 : 0 ≤ (k : Int) := (by omega)
      have hsz := hd.size
      obtain ⟨q, hq⟩ : ∃ q : Nat, min (((pnth l k).root.size : Nat) : Int) 40 = q := ⟨min (pnth l k).root.size 40, by omega⟩
      have hq1 : q ≤ (pnth l k).root.size := (by omega)
      have HQ2 : Hid (q = min (pnth l k).root.size 40) := Lib.hid (by omega)
      go_wp2_with (at_builtin; refine wpList_append_lies _ rfl _ _ 46 rfl w.heap.size 49 i0 Prt.zero.val 5 48 Try.underlying46 hi hz0 hz1 hz2 rfl (by decide) _ k _ rfl ((HOWN.out.alloc _).alloc _) ⟨wr.heap.size + 1, 0, none⟩ 1 1 (Prt.cells ⟨(pnth l k).root.extract 0 q, (pnth l k).wt, (pnth l k).first, (pnth l k).life, (pnth l k).keys⟩) rfl rfl ?d1 (Prt.cells_one _) (by decide) ?d4 ?d5 ?d6 _ rfl ?_)
      case d1 => exact World.news_of_block (alloc_new_at _ (alloc_size _ rfl))
      case d4 => unfold maxLen; omega
      case d5 => omega
      case d6 => simp; omega
      intro g cp w2 hown hgrow hat hgl
      have HB2 := Lib.hid (grownBy_below (balloc (balloc hd _) _) hgrow (fun q hq => (HOWN.out.lt q hq).1))
      have HO2 : Hid (w2.ownsRow w.heap.size 49 5 (.slice (some ⟨g, 0, none⟩) (k + 1) cp) (k + 1) (((l.take (k + 1)).map cutP).flatMap Prt.cells)) := Lib.hid (by
        have hsn : l.take (k + 1) = l.take k ++ [pnth l k] := (by rw [List.take_succ_eq_append_getElem b2, pnth_eq l k b2])
        rw [hsn, List.map_append, List.flatMap_append]
        have e : [pnth l k].map cutP = [⟨(pnth l k).root.extract 0 q, (pnth l k).wt, (pnth l k).first, (pnth l k).life, (pnth l k).keys⟩] := by rw [HQ2.out]; rfl
        rw [e]
        simpa using hown)
      clear hown hgrow hat hgl HOWN c0 c1 c2 c3 c4
      go_wp2
      go_roundg (gk - 1)
      case rel => exact ⟨k + 1, by omega, by go_num, HB2.out, HO2⟩
      case measure => omega
    · have hex : (¬ (k : Int) < len l) ∨ ((k : Int) < len l ∧ ¬ (k : Int) < 30) := by omega
      have hL : len (shortOf l) = k := by simp [len, shortOf]; rw [len_eq] at hm; omega
      have HO : Hid (wr.ownsRow w.heap.size 49 5 u3 (len (shortOf l)) ((shortOf l).flatMap Prt.cells)) := Lib.hid (by
        have e : l.take k = l.take 30 := by
          rw [len_eq] at hm
          rcases Nat.lt_or_ge l.length 30 with h | h
          · rw [List.take_of_length_le (by omega), List.take_of_length_le (by omega)]
          · rw [show k = 30 by omega]
        have h := HOWN.out
        rw [e] at h
        rw [hL]; exact h)
      clear HOWN hL hm hlt
      rcases hex with h1 | ⟨h1, h2⟩
      all_goals
        go_wp2
        go_ret
        exact ⟨_, rfl, HO.out, hd⟩
end Go.Proofs.Ytmcmapcijncblaa

/- Contracts: each over positions, Positions. -/
import Derived.Test.YtihiaopilnjonaaGreatDoorCertE
import Derived.Test.YtihiaopilnjonaaGreatDoorOwn
namespace Go.Proofs.YtihiaopilnjonaaGreatDoor
open Go.RowKit

structure CertV where
  root : ByteArray
  signed : Int
  ra : Option Addr
  rc : Nat
  ca : Option Addr
  cc : Nat
  sa : Option Addr
  sn : Nat
  sc : Nat
  pa : Option Addr
  pn : Nat
  pc : Nat
  revs : List Rev
  coins : List Int
abbrev CertV.val (c : CertV) : Value := .agg #[.string c.root, .int .u64 c.signed, .slice c.ra (len c.revs) c.rc, .slice c.ca (len c.coins) c.cc, .slice c.sa c.sn c.sc, .slice c.pa c.pn c.pc]

theorem alloc_cells (w : World) (cs : Array Value) (e : TypeId) : ∀ (j : Nat) (u : Value), cs.toList[j]? = some u → (w.alloc (.cells cs e)).cell? ((⟨w.heap.size, 0, none⟩ : Addr).add j) = some u := by
  intro j u h
  have hh := heap_alloc_new w (.cells cs e)
  have key : ∀ o, (w.alloc (.cells cs e)).cell? ⟨w.heap.size, o, none⟩ = cs[o]? := fun o => by unfold World.cell?; rw [hh]; rfl
  unfold Addr.add
  split
  · rename_i h0; subst h0; rw [key]; simpa using h
  · rw [key]; simpa using h

def posOf (l : List Rev) : List Int := l.map (fun r => r.pos)
theorem len_posOf (l : List Rev) : len (posOf l) = len l := by simp [len, posOf]

set_option maxRecDepth 100000 in
set_option maxHeartbeats 400000 in
theorem each_any (c : CertV) (w : World) (hlen : len c.revs ≤ 17592186044416) (hc : Revs w c.ra c.revs) :
    Calls Tryz.prog 58 #[c.val, .func (.func 59) #[] #[]] w
      fun e w' => ∃ v, e = .returned (.tuple #[v, .int .i64 0]) ∧ w'.ownsRow w.heap.size 23 1 v (len c.revs) ((posOf c.revs).map (Value.int .u64)) ∧ Below w.heap.size w w' := by
  have HC := Lib.hid hc
  clear hc
  obtain ⟨i0, hi, hz0, hz1, hz2⟩ := info_parts info_u64
  go_enter Tryz.func58, Tryz.ntmps58
  go_wp2
  go_loopw [6, 14] (fun v i wr => ∃ m : Nat, m ≤ len c.revs ∧ i = .int .i64 m ∧ Below w.heap.size w wr ∧ Hid (wr.ownsRow w.heap.size 23 1 v m ((posOf (c.revs.take m)).map (Value.int .u64)))) (fun _ i _ => len c.revs - (intOf i).toNat)
  case atStart => exact ⟨0, Nat.zero_le _, rfl, (by (repeat (first | exact Below.refl _ _ | assumption | (refine bdrew ?_) | (refine bdrewN ?_ _) | (refine balloc ?_ _) | (refine bset ?_ (by first | omega | (simp; done) | (simp; omega)) _) | (refine bnext ?_ (by assumption))))), World.ownsRow_nil _ _ _ _⟩
  case round =>
    obtain ⟨m, hm, rfl, hd, hk⟩ := hrel
    by_cases hlt : m < len c.revs
    · obtain ⟨b, off, hra, ⟨c0, c1, c2, c3, c4, c5, c6, c7, c8, c9, c10⟩⟩ := HC.out.below hd m hlt
      go_wp2_with fail
      clear c0 c1 c2 c3 c4 c5 c6 c7 c8 c9 c10 hra
      refine (positions1_any (rnth c.revs m) _).mono ?_
      rintro e w1 ⟨rfl, hb⟩
      have hbb := bnext (balloc hd _) hb
      have hz := hbb.size
      have hown := own_below (hk.out.alloc _) hb
      have HOWN := Lib.hid hown
      clear hown hb
      go_wp2_with (at_builtin; refine wpList_append_own _ rfl _ _ 25 rfl w.heap.size 23 i0 (.int .u64 0) 1 8 Tryz.underlying25 hi hz0 hz1 hz2 rfl (by decide) _ _ _ rfl (HOWN.out.alloc _) ⟨w1.heap.size, 0, none⟩ 1 1 [.int .u64 (rnth c.revs m).pos] rfl rfl ?c1 ?c2 ?c3 ?c4 ?c5 ?_)
      case c1 => exact alloc_cells _ #[_] _
      case c2 => intro u hu; simp at hu; subst hu; rfl
      case c3 => unfold maxLen; omega
      case c4 => omega
      case c5 => simp; omega
      intro v' w2 hown' hgrow _
      have hb2 : Below w.heap.size w w2 := (by
        refine grownBy_below (balloc hbb _) hgrow ?_
        intro k hk'
        exact (HOWN.out.lt k hk').1)
      have HO2 := Lib.hid hown'
      clear hown' hgrow hbb
      go_wp2
      go_roundw
      case rel => exact ⟨m + 1, by omega, by go_num, hb2, (by
        have e : c.revs.take (m + 1) = c.revs.take m ++ [rnth c.revs m] := by rw [List.take_succ_eq_append_getElem hlt, rnth_eq c.revs m hlt]
        have h := HO2.out
        show World.ownsRow _ _ _ _ _ _ _
        rw [e]; unfold posOf at h ⊢; simpa using h)⟩
      case measure => simp [intOf]; omega
    · go_wp2
      go_ret2
      obtain rfl : m = len c.revs := by omega
      have h := hk.out
      rw [take_len] at h
      exact ⟨_, rfl, h, hd⟩

theorem positions_any (c : CertV) (w : World) (hlen : len c.revs ≤ 17592186044416) (hc : Revs w c.ra c.revs) :
    Calls Tryz.prog 19 #[c.val] w
      fun e w' => ∃ v, e = .returned v ∧ w'.ownsRow w.heap.size 23 1 v (len c.revs) ((posOf c.revs).map (Value.int .u64)) ∧ Below w.heap.size w w' := by
  have HC := Lib.hid hc
  clear hc
  go_enter Tryz.func19, Tryz.ntmps19
  go_wp2_with fail
  refine (each_any c _ hlen (HC.out.below (balloc (Below.refl _ _) _))).mono ?_
  rintro e w1 ⟨v, rfl, hv, hb⟩
  go_wp2
  go_ret
  refine ⟨_, rfl, ?_, by (repeat (first | exact Below.refl _ _ | assumption | (refine bdrew ?_) | (refine bdrewN ?_ _) | (refine balloc ?_ _) | (refine bset ?_ (by first | omega | (simp; done) | (simp; omega)) _) | (refine bnext ?_ (by assumption))))⟩
  exact ⟨hv.1, hv.2.imp id (fun ⟨g, cap, cur, h1, h2, h3⟩ => ⟨g, cap, cur, h1, by simp at h2; omega, h3⟩)⟩
end Go.Proofs.YtihiaopilnjonaaGreatDoor

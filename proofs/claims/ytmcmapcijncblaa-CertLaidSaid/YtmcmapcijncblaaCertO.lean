/- CertLaid: the walk. -/
import Derived.Test.YtmcmapcijncblaaCertN
import Derived.Test.YtmcmapcijncblaaCertM
import Derived.Deep.AppendLies
import Derived.Laws.OwnMore
import Derived.Deep.CutBlock
namespace Go.Proofs.Ytmcmapcijncblaa
open Go.RowKit

def pth (l : List (Int × Int)) (i : Nat) : Int × Int := l.getD i (0, 0)
/-- A slice of arrays of two uint16. -/
def Gaps (w : World) (a : Option Addr) (l : List (Int × Int)) : Prop :=
  ∀ i, i < len l → ∃ b off, a = some ⟨b, off, none⟩ ∧ w.cell? ⟨b, off + i * 2, none⟩ = some (.int .u16 (pth l i).1) ∧ w.cell? ⟨b, off + i * 2 + 1, none⟩ = some (.int .u16 (pth l i).2)
theorem Gaps.below {w w' : World} {a : Option Addr} {l : List (Int × Int)} (h : Gaps w a l) (hb : Below w.heap.size w w') : Gaps w' a l := fun i hi => by
  obtain ⟨b, off, rfl, c0, c1⟩ := h i hi
  have hl := lt_of_cell c0
  exact ⟨b, off, rfl, by rw [hb.cell (p := ⟨b, _, none⟩) hl]; exact c0, by rw [hb.cell (p := ⟨b, _, none⟩) hl]; exact c1⟩
def U8s (w : World) (a : Option Addr) (l : List Int) : Prop :=
  ∀ i, i < len l → ∃ b off, a = some ⟨b, off, none⟩ ∧ w.cell? ⟨b, off + i, none⟩ = some (.int .u8 (nth l i))
theorem U8s.below {w w' : World} {a : Option Addr} {l : List Int} (h : U8s w a l) (hb : Below w.heap.size w w') : U8s w' a l := fun i hi => by
  obtain ⟨b, off, rfl, hc⟩ := h i hi
  exact ⟨b, off, rfl, by rw [hb.cell (p := ⟨b, off + i, none⟩) (lt_of_cell hc)]; exact hc⟩

theorem own_apart {w : World} {b1 b2 e1 e2 s1 s2 n1 n2 : Nat} {v1 v2 : Value} {x1 x2 : List Value} (h1 : w.ownsRow b1 e1 s1 v1 n1 x1) (h2 : w.ownsRow b2 e2 s2 v2 n2 x2) (he : e1 ≠ e2) : v1.ownBlock = none ∨ v1.ownBlock ≠ v2.ownBlock := by
  obtain ⟨-, h1⟩ := h1
  obtain ⟨-, h2⟩ := h2
  rcases h1 with ⟨rfl, -⟩ | ⟨g, cap, cur, rfl, -, hh, -⟩
  · exact .inl rfl
  · right
    rcases h2 with ⟨rfl, -⟩ | ⟨g', cap', cur', rfl, -, hh', -⟩
    · intro h; cases h
    · intro h
      have e : g = g' := by simpa [Value.ownBlock] using h
      subst e
      rw [hh] at hh'
      cases hh'
      exact he rfl

theorem own_at {w : World} {base e n g cap : Nat} {l : List One} (h : w.ownsRow base e 4 (.slice (some ⟨g, 0, none⟩) n cap) n (l.flatMap One.cells)) (i : Nat) (hi : i < len l) : OneAt w g (0 + i * 4) (onth l i) := by
  obtain ⟨a, c, e1, h1, -⟩ := own_ones h
  obtain ⟨b, off, e2, h2⟩ := h1 i hi
  cases e1
  cases e2
  exact h2

theorem own_u64 {w : World} {base e n g cap : Nat} {l : List Int} (h : w.ownsRow base e 1 (.slice (some ⟨g, 0, none⟩) n cap) n (l.map (Value.int .u64))) (i : Nat) (hi : i < len l) : w.cell? ⟨g, i, none⟩ = some (.int .u64 (nth l i)) := by
  obtain ⟨a, c, e1, h1⟩ := own_u64s h
  obtain ⟨b, off, e2, h2⟩ := h1 i hi
  cases e1
  cases e2
  rwa [Nat.zero_add] at h2

theorem own_u64c {w : World} {base e n : Nat} {v : Value} {l : List Int} (h : w.ownsRow base e 1 v n (l.map (Value.int .u64))) : ∃ a cap, v = .slice a (len l) cap ∧ U64s w a l ∧ len l ≤ cap := by
  obtain ⟨a, cap, rfl, hu⟩ := own_u64s h
  refine ⟨a, cap, rfl, hu, ?_⟩
  obtain ⟨h1, h2⟩ := h
  rcases h2 with ⟨h, h2⟩ | ⟨g, cap', cur, h, hg, hh, hc1, hc2, hc3, hc4⟩
  · simp only [Value.slice.injEq] at h; omega
  · simp only [Value.slice.injEq] at h; obtain ⟨-, rfl, rfl⟩ := h; exact hc1

theorem u64s_cells {w : World} {b off : Nat} {l : List Int} (h : U64s w (some ⟨b, off, none⟩) l) : ∀ j u, (l.map (Value.int .u64))[j]? = some u → w.cell? ((⟨b, off, none⟩ : Addr).add j) = some u := fun j u hu => by
  rw [List.getElem?_map] at hu
  rcases Nat.lt_or_ge j l.length with hj | hj
  · rw [List.getElem?_eq_getElem hj] at hu
    obtain ⟨b', off', e, hc⟩ := h j hj
    cases e
    rw [nth_eq l j hj] at hc
    have : Value.int .u64 l[j] = u := by simpa using hu
    rw [← this]; unfold Addr.add; split
    · next h0 => subst h0; exact hc
    · exact hc
  · rw [List.getElem?_eq_none hj] at hu; simp at hu

theorem nth_set (l : List Int) (k j : Nat) (v : Int) (hk : k < len l) : nth (l.set k v) j = if j = k then v else nth l j := by
  unfold nth
  rw [List.getD_eq_getElem?_getD, List.getD_eq_getElem?_getD, List.getElem?_set]
  by_cases h : k = j
  · subst h; rw [if_pos rfl, if_pos rfl, if_pos (show k < l.length from hk)]; rfl
  · rw [if_neg h, if_neg (fun e => h e.symm)]

theorem Just.turned {L : List One} {D B : List Int} (h : Just L D) (hl : len B = len D) (hn : ∀ j, j < len D → nth B j = nth D (len D - 1 - j)) : Just L B := by
  refine ⟨fun x hx => ?_, fun i hi => ?_⟩
  · obtain ⟨j, hj, rfl⟩ := (mem_nth B x).1 hx
    rw [hn j (by omega)]
    exact h.sub _ ((mem_nth D _).2 ⟨len D - 1 - j, by omega, rfl⟩)
  · obtain ⟨j, hj, e⟩ := (mem_nth D _).1 (h.all i hi)
    refine (mem_nth B _).2 ⟨len D - 1 - j, by omega, ?_⟩
    rw [hn _ (by omega), show len D - 1 - (len D - 1 - j) = j by omega]; exact e

theorem Ones.drop {w : World} {b off : Nat} {l : List One} (h : Ones w (some ⟨b, off, none⟩) l) : Ones w (some ⟨b, off + 4, none⟩) (l.drop 1) := fun i hi => by
  have hi' : i < l.length - 1 := by simpa [len] using hi
  obtain ⟨b', off', e, hc⟩ := h (i + 1) (by rw [len_eq]; omega)
  cases e
  refine ⟨b, off + 4, rfl, ?_⟩
  have e3 : onth (l.drop 1) i = onth l (i + 1) := by
    unfold onth; rw [List.getD_eq_getElem?_getD, List.getD_eq_getElem?_getD, List.getElem?_drop, Nat.add_comm]
  rw [e3, show off + 4 + i * 4 = off + (i + 1) * 4 by omega]; exact hc
theorem Ones.dropOk {l : List One} (h : ∀ i, (onth l i).Ok) : ∀ i, (onth (l.drop 1) i).Ok := fun i => by
  have e3 : onth (l.drop 1) i = onth l (i + 1) := by
    unfold onth; rw [List.getD_eq_getElem?_getD, List.getD_eq_getElem?_getD, List.getElem?_drop, Nat.add_comm]
  rw [e3]; exact h _

set_option maxRecDepth 100000 in
set_option maxHeartbeats 10000000 in
theorem laid_law (a : Option Addr) (cap : Nat) (l : List (Int × Int)) (oa : Option Addr) (oc : Nat) (ord : List Int) (w : World) (hlen : len l ≤ 9223372036854775807) (hol : len ord ≤ 9223372036854775807) (hc : Gaps w a l) (ho : U8s w oa ord)
    (hg : ∀ i, 0 ≤ (pth l i).1 ∧ (pth l i).1 ≤ 65535 ∧ 0 ≤ (pth l i).2 ∧ (pth l i).2 ≤ 65535) (hr : ∀ i, 0 ≤ nth ord i ∧ nth ord i ≤ 255) :
    Calls Try.prog 5 #[.slice a (len l) cap, .slice oa (len ord) oc] w
      fun e w' => e = .returned (.bool true) ∧ Below w.heap.size w w' := by
  have HC := Lib.hid hc
  have HO := Lib.hid ho
  have HG := Lib.hid hg
  have HR := Lib.hid hr
  clear hc ho hg hr
  obtain ⟨i0, hi, hz0, hz1, hz2⟩ := info_parts info_u64
  obtain ⟨j0, hj, hy0, hy1, hy2⟩ := info_parts info_one
  obtain ⟨m, hm⟩ : ∃ m, m = min (len l) 30 := ⟨_, rfl⟩
  go_enter Try.func5, Try.ntmps5
  go_wp2_with fail
  refine (works_any _).mono ?_
  rintro e w1 ⟨rfl, hb⟩
  have HB := Lib.hid hb
  have HC1 := Lib.hid (HC.out.below hb)
  have HO1 := Lib.hid (HO.out.below hb)
  clear hb HC HO
  go_upto_block 0 with fail
  go_cut [5, 6, 7] (fun r c s wr => ∃ L : List One, ∃ S : Int, ∃ C : List Int, s = .int .u64 S ∧ len C = len L ∧ Hid (Laid L S) ∧ Hid (Just L C) ∧ Below w1.heap.size w1 wr ∧ Hid (wr.ownsRow w1.heap.size 37 4 r (len L) (L.flatMap One.cells)) ∧ Hid (wr.ownsRow w1.heap.size 24 1 c (len L) (C.map (Value.int .u64))))
  case first =>
    go_wp2
    go_loopg [5, 6, 7, 8] m (fun g r c s i wr => ∃ n : Nat, ∃ L : List One, ∃ S : Int, ∃ C : List Int, g + n = m ∧ i = .int .i64 n ∧ s = .int .u64 S ∧ len L = n ∧ len C = n ∧ Hid (Laid L S) ∧ Hid (Just L C) ∧ Below w1.heap.size w1 wr ∧ Hid (wr.ownsRow w1.heap.size 37 4 r n (L.flatMap One.cells)) ∧ Hid (wr.ownsRow w1.heap.size 24 1 c n (C.map (Value.int .u64))))
    case atStart => exact ⟨0, [], 0, [], rfl, rfl, rfl, rfl, rfl, Laid.nil, Just.nil, Below.refl _ _, World.ownsRow_nil _ _ _ _, World.ownsRow_nil _ _ _ _⟩
    case round =>
      obtain ⟨n, L, S, C, hn0, rfl, rfl, hLn, hCn, hL, hJ, hd, hR, hK⟩ := hrel
      by_cases hlt : n < m
      · obtain ⟨b, off, rfl, c0, c1⟩ := HC1.out.below hd n (by omega)
        have G := HG.out n
        have b0 : (n : Int) < len l := (by omega)
        have b1 : (n : Int) < 30 := (by omega)
        have b2 : n < len l := (by omega)
        have b3 : 0 ≤ (n : Int) := (by omega)
        obtain ⟨x, hx⟩ : ∃ x, x = (pth l n).1 := ⟨_, rfl⟩
        obtain ⟨y, hy⟩ : ∃ y, y = (pth l n).2 := ⟨_, rfl⟩
        rw [← hx, ← hy] at G
        rw [← hx] at c0
        rw [← hy] at c1
        clear hx hy
        have g0 : IntKind.u64.wrap x = x := IntWalk.u64_in _ (by omega)
        have g1 : IntKind.u64.wrap y = y := IntWalk.u64_in _ (by omega)
        go_wp2
        have s0 := hL.out.s0
        have s1 : S ≤ 60000 := (by have := hL.out.s1; have := hL.out.n; omega)
        obtain ⟨X, hX⟩ : ∃ X : One, X = ⟨(n : Int) + y % 1000 + 1000 * (n : Int), S + y % 1000, 1 + x % 1000, 32⟩ := ⟨_, rfl⟩
        have HL2 := Lib.hid (hL.out.snoc (g := y % 1000) (t := 1 + x % 1000) (by omega) (by omega) (by omega) (by omega) (by omega))
        rw [hLn, ← hX] at HL2
        have HJ2 := Lib.hid (hJ.out.both X)
        clear hL hJ
        go_quiet (fail)
        go_wp2_with (at_builtin; refine wpList_append_lies _ rfl _ _ 22 rfl w1.heap.size 37 j0 (.agg #[.int .u64 0, .int .u64 0, .int .u64 0, .int .u8 0]) 4 32 Try.underlying22 hj hy0 hy1 hy2 rfl (by decide) _ n _ rfl (World.ownsRow.alloc (w := World.drewN wr _) hR.out _) ⟨wr.heap.size, 0, none⟩ 1 1 (One.cells ⟨(n : Int) + y % 1000 + 1000 * (n : Int), S + y % 1000, 1 + x % 1000, 32⟩) rfl rfl ?c1 ?c2 (by decide) ?c4 ?c5 ?c6 _ rfl ?_)
        case c1 => exact alloc_cells _ #[_, _, _, _] _
        case c2 => intro u hu; simp [One.cells] at hu; rcases hu with rfl | rfl | rfl | rfl <;> rfl
        case c4 => unfold maxLen; omega
        case c5 => omega
        case c6 => have := hd.size; simp; omega
        intro g cp w2 hown hgrow hat hgl
        have HB2 := Lib.hid (grownBy_below (balloc (bdrewN hd _) _) hgrow (fun k hk' => (hR.out.lt k hk').1))
        have HR2 : Hid (w2.ownsRow w1.heap.size 37 4 (.slice (some ⟨g, 0, none⟩) (n + 1) cp) (n + 1) ((L ++ [X]).flatMap One.cells)) := Lib.hid (by rw [List.flatMap_append, hX]; simpa using hown)
        have HK2 := Lib.hid (World.ownsRow.kept (World.ownsRow.alloc (w := World.drewN wr _) hK.out _) hgrow (own_apart hK.out hR.out (by decide)))
        clear hown hgrow hat hgl hR hK
        have pc : w2.cell? ⟨g, n * 4, none⟩ = some (.int .u64 X.pos) := (by
          have h := (own_at HR2.out n (by rw [len_snoc]; omega)).c0
          rw [onth_snoc, if_neg (by omega), if_pos (by omega), Nat.zero_add] at h; exact h)
        clear c0 c1 hX
        have b4 : (n : Int) < (n : Int) + 1 := (by omega)
        go_wp2_with (at_builtin; refine wpList_append_lies _ rfl _ _ 23 rfl w1.heap.size 24 i0 (.int .u64 0) 1 8 Try.underlying23 hi hz0 hz1 hz2 rfl (by decide) _ n _ rfl (HK2.out.alloc _) ⟨w2.heap.size, 0, none⟩ 1 1 [.int .u64 X.pos] rfl rfl ?d1 ?d2 (by decide) ?d4 ?d5 ?d6 _ rfl ?_)
        case d1 => exact alloc_cells _ #[_] _
        case d2 => intro u hu; simp at hu; subst hu; rfl
        case d4 => unfold maxLen; omega
        case d5 => omega
        case d6 => have := HB2.out.size; simp; omega
        intro g' cp' w3 hown hgrow hat hgl
        have HB3 := Lib.hid (grownBy_below (balloc HB2.out _) hgrow (fun k hk' => (HK2.out.lt k hk').1))
        have HK3 : Hid (w3.ownsRow w1.heap.size 24 1 (.slice (some ⟨g', 0, none⟩) (n + 1) cp') (n + 1) ((C ++ [X.pos]).map (Value.int .u64))) := Lib.hid (by rw [List.map_append]; simpa using hown)
        have HR3 := Lib.hid (World.ownsRow.kept (HR2.out.alloc _) hgrow (own_apart HR2.out HK2.out (by decide)))
        clear hown hgrow hat hgl pc HK2 HR2 HB2
        go_wp2
        go_roundg (gk - 1)
        case rel => exact ⟨n + 1, L ++ [X], S + y % 1000 + (1 + x % 1000), C ++ [X.pos], by omega, by go_num, by go_num, by rw [len_snoc]; omega, by rw [len_snoc]; omega, HL2.out, HJ2.out, HB3.out, HR3.out, HK3.out⟩
        case measure => omega
      · obtain rfl : n = m := by omega
        subst hLn
        clear hlt
        by_cases hq : len L < len l
        · have q1 : (len L : Int) < len l := by omega
          have q2 : ¬ (len L : Int) < 30 := by omega
          go_wp2
          go_meet
          exact ⟨L, S, C, rfl, hCn, hL.out, hJ.out, hd, hR.out, hK.out⟩
        · have q1 : ¬ (len L : Int) < len l := by omega
          go_wp2
          go_meet
          exact ⟨L, S, C, rfl, hCn, hL.out, hJ.out, hd, hR.out, hK.out⟩
  case rest =>
    obtain ⟨L, S, C, rfl, hCn, hL, hJ, hd, hR, hK⟩ := hcut
    go_upto_block 2 with fail
    go_cut [6] (fun c wx => ∃ D : List Int, len L ≤ len D ∧ len D ≤ 60 ∧ (len L = 0 → len D = 0) ∧ Hid (Just L D) ∧ Below w1.heap.size w1 wx ∧ Hid (wx.ownsRow w1.heap.size 37 4 u5 (len L) (L.flatMap One.cells)) ∧ Hid (wx.ownsRow w1.heap.size 24 1 c (len D) (D.map (Value.int .u64))))
    case first =>
      have hn30 := hL.out.n
      go_wp2
      go_loopg [6, 11] (len ord) (fun g c i wx => ∃ k : Nat, ∃ D : List Int, g + k = len ord ∧ i = .int .i64 k ∧ len L ≤ len D ∧ len D ≤ 60 ∧ (len L = 0 → len D = 0) ∧ Hid (Just L D) ∧ Below w1.heap.size w1 wx ∧ Hid (wx.ownsRow w1.heap.size 37 4 u5 (len L) (L.flatMap One.cells)) ∧ Hid (wx.ownsRow w1.heap.size 24 1 c (len D) (D.map (Value.int .u64))))
      case atStart => exact ⟨0, C, rfl, rfl, by omega, by omega, by omega, hJ.out, hd, hR.out, by rw [hCn]; exact hK.out⟩
      case round =>
        clear hJ hd hR hK hCn
        obtain ⟨k, D, hk0, rfl, h1, h2, h3, hJ, hd, hR, hK⟩ := hrel
        have hK' := hK.out
        obtain ⟨ca, cc, rfl, hu, hcc⟩ := own_u64c hK'
        clear hK'
        by_cases hlt : k < len ord
        · have b0 : (k : Int) < len ord := (by omega)
          by_cases hpos : 0 < len D
          · have b1 : 0 < (len D : Int) := (by omega)
            by_cases h60 : len D < 60
            · have b2 : (len D : Int) < 60 := (by omega)
              obtain ⟨ob, oo, rfl, co⟩ := HO1.out.below hd k hlt
              have hnr := HR.out k
              obtain ⟨q, hq⟩ : ∃ q : Nat, nth ord k % ((len D : Nat) : Int) = q := ⟨(nth ord k % ((len D : Nat) : Int)).toNat, by have := Int.emod_nonneg (nth ord k) (show ((len D : Nat) : Int) ≠ 0 by omega); omega⟩
              have hqi : (q : Int) < len D := (by have := Int.emod_lt_of_pos (nth ord k) b1; omega)
              have hqlt : q < len D := (by omega)
              have hq2 : (nth ord k).tmod ((len D : Nat) : Int) = q := (by rw [Int.tmod_eq_emod_of_nonneg hnr.1]; exact hq)
              obtain ⟨cb, co', rfl, cq⟩ := hu q hqlt
              have HU := Lib.hid hu
              have HJ2 := Lib.hid (hJ.out.more hqlt)
              clear hu hJ
              go_wp2_with (at_builtin; refine wpList_append_lies _ rfl _ _ 23 rfl w1.heap.size 24 i0 (.int .u64 0) 1 8 Try.underlying23 hi hz0 hz1 hz2 rfl (by decide) _ (len D) _ rfl (hK.out.alloc _) ⟨wr.heap.size, 0, none⟩ 1 1 [.int .u64 (nth D q)] rfl rfl ?d1 ?d2 (by decide) ?d4 ?d5 ?d6 _ rfl ?_)
              case d1 => exact alloc_cells _ #[_] _
              case d2 => intro u hu; simp at hu; subst hu; rfl
              case d4 => unfold maxLen; omega
              case d5 => omega
              case d6 => have := hd.size; simp; omega
              intro g' cp' w3 hown hgrow hat hgl
              have HB3 := Lib.hid (grownBy_below (balloc hd _) hgrow (fun k hk' => (hK.out.lt k hk').1))
              have HK3 : Hid (w3.ownsRow w1.heap.size 24 1 (.slice (some ⟨g', 0, none⟩) (len D + 1) cp') (len D + 1) ((D ++ [nth D q]).map (Value.int .u64))) := Lib.hid (by rw [List.map_append]; simpa using hown)
              have HR3 := Lib.hid (World.ownsRow.kept (hR.out.alloc _) hgrow (own_apart hR.out hK.out (by decide)))
              clear hown hgrow hat hgl hK hR co cq
              go_wp2
              go_roundg (gk - 1)
              case rel => exact ⟨k + 1, D ++ [nth D q], by omega, by go_num, by rw [len_snoc]; omega, by rw [len_snoc]; omega, by omega, HJ2.out, HB3.out, HR3.out, by rw [len_snoc]; exact HK3.out⟩
              case measure => omega
            · have b2 : ¬ (len D : Int) < 60 := (by omega)
              have HU := Lib.hid hu
              clear hu
              go_wp2
              go_meet
              exact ⟨D, h1, h2, h3, hJ.out, hd, hR.out, hK.out⟩
          · have b1 : ¬ 0 < (len D : Int) := (by omega)
            have HU := Lib.hid hu
            clear hu
            go_wp2
            go_meet
            exact ⟨D, h1, h2, h3, hJ.out, hd, hR.out, hK.out⟩
        · have b0 : ¬ (k : Int) < len ord := (by omega)
          have HU := Lib.hid hu
          clear hu
          go_wp2
          go_meet
          exact ⟨D, h1, h2, h3, hJ.out, hd, hR.out, hK.out⟩
    case rest =>
      clear hJ hd hR hK hCn
      obtain ⟨D, h1, h2, h3, hJ, hd, hR, hK⟩ := hcut
      obtain ⟨W2, e⟩ : ∃ W2, W2 = wc := ⟨_, rfl⟩
      subst e
      have hK' := hK.out
      obtain ⟨ca, cc, rfl, hu, hcc⟩ := own_u64c hK'
      have hR' := hR.out
      obtain ⟨ra, rc, rfl, hones, hrc⟩ := own_ones hR'
      have HU := Lib.hid hu
      have HON := Lib.hid hones
      clear hK' hR' hu hones hR hK
      go_upto_region 18 with fail
      go_cut [12] (fun v wx => Hid (wx.ownsRow W2.heap.size 24 1 v (len D) (D.map (Value.int .u64))) ∧ Below W2.heap.size W2 wx)
      case first =>
        by_cases hpos : 0 < len D
        · obtain ⟨cb, co, rfl, -⟩ := HU.out 0 hpos
          go_wp2_with (at_builtin; refine wpList_append_arg _ rfl _ _ 23 rfl 24 i0 (.int .u64 0) 1 8 Try.underlying23 hi hz0 hz1 hz2 rfl (by decide) W2.heap.size 0 0 0 [] rfl rfl (by simp) ⟨cb, co, none⟩ (len D) cc (D.map (Value.int .u64)) rfl ?e0 ?e1 ?e2 ?e3 ?e4 ?e5 (fun h => absurd h (by omega)) ?_)
          case e0 => simp [len]
          case e1 => exact u64s_cells (HU.out.below (balloc (Below.refl _ _) _))
          case e2 => intro u hu; obtain ⟨x, -, rfl⟩ := List.mem_map.1 hu; rfl
          case e3 => intro h; omega
          case e4 => unfold maxLen; omega
          case e5 => omega
          intro v' w4 hown hgrow
          have HO4 : Hid (w4.ownsRow W2.heap.size 24 1 v' (len D) (D.map (Value.int .u64))) := Lib.hid (by
            have hown : w4.ownsRow _ _ _ _ (len D) (D.map (Value.int .u64)) := (by simpa using hown)
            exact ⟨hown.1, hown.2.imp id (fun ⟨g, cap, cur, h1, h2, h3⟩ => ⟨g, cap, cur, h1, Nat.le_trans (by simp) h2, h3⟩)⟩)
          have HB4 := Lib.hid (Below.grown (balloc (Below.refl W2.heap.size W2) _) hgrow (by simp) (fun k hk => by cases hk))
          clear hown hgrow
          go_wp2
          go_meet
          exact ⟨HO4, HB4.out⟩
        · obtain rfl : D = [] := List.eq_nil_of_length_eq_zero (by rw [← len_eq]; omega)
          have e0 : len ([] : List Int) = 0 := rfl
          simp only [e0]
          cases ca
          all_goals
            go_wp2
            go_meet
            exact ⟨World.ownsRow_lit W2 #[] 0 (Nat.le_refl _) (by decide) rfl, balloc (Below.refl _ _) _⟩
      case rest =>
        obtain ⟨hB, hd3⟩ := hcut
        obtain ⟨W3, e⟩ : ∃ W3, W3 = wc := ⟨_, rfl⟩
        subst e
        go_upto_block 4 with fail
        go_cut [12] (fun v wx => ∃ B : List Int, len B = len D ∧ Hid (∀ j, j < len D → nth B j = nth D (len D - 1 - j)) ∧ Hid (wx.ownsRow W2.heap.size 24 1 v (len D) (B.map (Value.int .u64))) ∧ Below W2.heap.size W2 wx)
        case first =>
          go_wp2
          go_loopg [13] (len D) (fun g i wx => ∃ k : Nat, ∃ B : List Int, g + k = len D ∧ i = .int .i64 k ∧ len B = len D ∧ Hid (∀ j, j < k → nth B j = nth D (len D - 1 - j)) ∧ Hid (wx.ownsRow W2.heap.size 24 1 u12 (len D) (B.map (Value.int .u64))) ∧ Below W2.heap.size W2 wx)
          case atStart => exact ⟨0, D, rfl, rfl, rfl, fun j hj => absurd hj (by omega), hB.out, hd3⟩
          case round =>
            clear hB hd3
            obtain ⟨k, B, hk0, rfl, hBl, hBn, hB, hd3⟩ := hrel
            by_cases hlt : k < len D
            · obtain ⟨g, cp, rfl, hg1, hg2⟩ := hB.out.form (by omega)
              obtain ⟨cb, co, rfl, cq⟩ := HU.out.below hd3 (len D - 1 - k) (by omega)
              have cw := own_u64 hB.out k (by omega)
              have cf := hB.out.frozenAt k
              have b0 : (k : Int) < len D := (by omega)
              have b3 : 0 ≤ (k : Int) := (by omega)
              have i1 : IntKind.i64.wrap ((len D : Int) - 1) = (len D : Int) - 1 := IntWalk.i64_in _ (by omega)
              have i2 : IntKind.i64.wrap ((len D : Int) - 1 - k) = (len D : Int) - 1 - k := IntWalk.i64_in _ (by omega)
              have i3 : ((len D : Int) - 1 - k).toNat = len D - 1 - k := (by omega)
              have i4 : 0 ≤ (len D : Int) - 1 - k := (by omega)
              have i5 : (len D : Int) - 1 - k < len D := (by omega)
              have i6 : len D - 1 - k < len D := (by omega)
              go_wp2
              clear i1 i2 i3 i4 i5 i6 cw cf
              go_roundg (gk - 1)
              case rel => exact ⟨k + 1, B.set k (nth D (len D - 1 - k)), by omega, by go_num, by rw [len_eq, List.length_set]; exact hBl, (fun j hj => by
                rw [nth_set B k j _ (by omega)]
                by_cases e : j = k
                · rw [if_pos e, e]
                · rw [if_neg e]; exact hBn.out j (by omega)), (by
                have h := (hB.out.stored k (.int .u64 (nth D (len D - 1 - k)))).1
                rw [← List.map_set] at h
                exact h), bset hd3 hg1 _⟩
              case measure => omega
            · have b0 : ¬ (k : Int) < len D := (by omega)
              by_cases hD : 0 < len D
              · obtain ⟨g, cp, rfl, hg1, hg2⟩ := hB.out.form hD
                go_wp2
                go_meet
                exact ⟨B, hBl, fun j hj => hBn.out j (by omega), hB.out, hd3⟩
              · have hB' := hB.out
                obtain ⟨ba, bc, rfl, -, -⟩ := own_u64c hB'
                have b1 : ¬ (k : Int) < len B := (by omega)
                clear hB'
                go_wp2
                go_meet
                exact ⟨B, hBl, fun j hj => hBn.out j (by omega), (by have h := hB.out; rw [hBl] at h; exact h), hd3⟩
        case rest =>
          obtain ⟨B, hBl, hBn, hBo, hd4⟩ := hcut
          clear hB hd3
          have hBo' := hBo.out
          obtain ⟨ba, bc, rfl, hbu, hbc⟩ := own_u64c hBo'
          have JB := hJ.out.turned hBl hBn.out
          have s0 := hL.out.s0
          have s1 : S ≤ 60000 := (by have := hL.out.s1; have := hL.out.n; omega)
          have e1 : shapeOf (madeC L D S) (len D) = 0 := by rw [shape_laid hL.out hJ.out h2, if_neg (by omega), if_neg (by omega)]
          have e2 : shapeOf (madeC L B S) 640 = 0 := by rw [shape_laid hL.out JB (by omega), if_neg (by omega), if_neg (by omega)]
          have e3 : shapeOf (madeC L D (S + 7)) 640 = 0 := by rw [shape_laid hL.out hJ.out h2, if_neg (by omega), if_neg (by omega)]
          have e4 : 0 < len L → shapeOf (madeC L D (S - 1)) 640 = 5 := fun h => by rw [shape_laid hL.out hJ.out h2, if_neg (by omega), if_pos ⟨h, by omega⟩]
          have e5 : 0 < len L → shapeOf (madeC L D S) ((len D : Int) - 1) = 7 := fun h => by rw [shape_laid hL.out hJ.out h2, if_pos (by omega)]
          have e6 : 0 < len L → shapeOf (madeC (L.drop 1) D S) 640 = 8 := fun h => shape_less hL.out hJ.out h2 h (by omega)
          have E := Lib.hid (And.intro e1 (And.intro e2 (And.intro e3 (And.intro e4 (And.intro e5 e6)))))
          have HBU := Lib.hid hbu
          have HW1 : Hid (0 < len L → 1 ≤ S) := Lib.hid (fun h => by have a := hL.out.last (len L - 1) (by omega); have b := hL.out.wt (len L - 1) (by omega); have c := hL.out.L0 (len L - 1) (by omega); omega)
          have hL30 := hL.out.n
          obtain ⟨W3, e⟩ : ∃ W3, W3 = wc := ⟨_, rfl⟩
          subst e
          have HL3 := Lib.hid (HON.out.below hd4)
          have HD3 := Lib.hid (HU.out.below hd4)
          have HB3 := Lib.hid (bnext HB.out (bnext hd hd4))
          have HLO := Lib.hid hL.out.ok
          have hB60 : len B ≤ 60 := by omega
          clear e1 e2 e3 e4 e5 e6 hbu hBo hBo' JB hBn hBl hd4 HON HU hd hJ hL
          go_wp2_with fail
          refine (shape_call ra rc L ca cc D S (len D) _ (by omega) (by omega) hcc HL3.out HD3.out (by omega) HLO.out).mono ?_
          rintro e w5 ⟨he, hb5⟩
          rw [E.out.1] at he
          subst he
          have H5 := Lib.hid hb5
          clear hb5
          go_wp2_with fail
          refine (shape_call ra rc L ba bc B S 640 _ (by omega) (by omega) hbc (HL3.out.below H5.out) (HBU.out.below H5.out) (by omega) HLO.out).mono ?_
          rintro e w6 ⟨he, hb6⟩
          rw [E.out.2.1] at he
          subst he
          have H6 := Lib.hid (bnext H5.out hb6)
          clear hb6 H5
          go_wp2_with fail
          refine (shape_call ra rc L ca cc D (S + 7) 640 _ (by omega) (by omega) hcc (HL3.out.below H6.out) (HD3.out.below H6.out) (by omega) HLO.out).mono ?_
          rintro e w7 ⟨he, hb7⟩
          rw [E.out.2.2.1] at he
          subst he
          have H7 := Lib.hid (bnext H6.out hb7)
          clear hb7 H6
          by_cases hpos : 0 < len L
          · have b1 : ¬ (len L : Int) = 0 := by omega
            have b2 : ((len L : Int) == 0) = false := by simp; omega
            have hpos' : 0 < len D := by omega
            obtain ⟨rb, ro, rfl, -⟩ := HL3.out 0 hpos
            have l1 : 1 ≤ len L := by omega
            have l2 : (1 : Int) ≤ len L := by omega
            have l3 : (len L : Int) ≤ rc := by omega
            have hd1 : len (L.drop 1) = len L - 1 := by simp [len]
            have m1 : IntKind.i64.wrap ((len D : Int) - 1) = (len D : Int) - 1 := IntWalk.i64_in _ (by omega)
            have hS : 1 ≤ S := HW1.out hpos
            go_wp2_with fail
            refine (shape_call (some ⟨rb, ro, none⟩) rc L ca cc D (S - 1) 640 _ (by omega) (by omega) hcc (HL3.out.below H7.out) (HD3.out.below H7.out) (by omega) HLO.out).mono ?_
            rintro e w8 ⟨he, hb8⟩
            rw [E.out.2.2.2.1 hpos] at he
            subst he
            have H8 := Lib.hid (bnext H7.out hb8)
            clear hb8 H7
            go_wp2_with fail
            refine (shape_call (some ⟨rb, ro, none⟩) rc L ca cc D S ((len D : Int) - 1) _ (by omega) (by omega) hcc (HL3.out.below H8.out) (HD3.out.below H8.out) (by omega) HLO.out).mono ?_
            rintro e w9 ⟨he, hb9⟩
            rw [E.out.2.2.2.2.1 hpos] at he
            subst he
            have H9 := Lib.hid (bnext H8.out hb9)
            clear hb9 H8
            have HK9 := Lib.hid (HL3.out.below H9.out)
            have HD9 := Lib.hid (HD3.out.below H9.out)
            go_wp2_with fail
            · have hl1 : len L = 1 := by omega
              have hnil : L.drop 1 = [] := List.drop_eq_nil_of_le (by rw [← len_eq]; omega)
              have key := shape_call (some ⟨rb, ro, none⟩) 0 (L.drop 1) ca cc D S 640 w9 (by omega) (by omega) hcc (by rw [hnil]; exact fun i hi => absurd hi (by simp [len])) HD9.out (by omega) (Ones.dropOk HLO.out)
              rw [hd1, E.out.2.2.2.2.2 hpos] at key
              refine key.mono ?_
              rintro e w10 ⟨rfl, hb10⟩
              have H10 := Lib.hid (bnext HB3.out (bnext H9.out hb10))
              clear hb10 key hnil hl1
              go_wp2
              go_ret
              exact ⟨rfl, H10.out⟩
            · have key := shape_call (some ⟨rb, ro + 4, none⟩) (rc - 1) (L.drop 1) ca cc D S 640 w9 (by omega) (by omega) hcc HK9.out.drop HD9.out (by omega) (Ones.dropOk HLO.out)
              rw [hd1, E.out.2.2.2.2.2 hpos] at key
              refine key.mono ?_
              rintro e w10 ⟨rfl, hb10⟩
              have H10 := Lib.hid (bnext HB3.out (bnext H9.out hb10))
              clear hb10 key
              go_wp2
              go_ret
              exact ⟨rfl, H10.out⟩
          · have b1 : len L = 0 := by omega
            obtain rfl : L = [] := List.eq_nil_of_length_eq_zero (by rw [← len_eq]; exact b1)
            have b3 : len ([] : List One) = 0 := rfl
            have H8 := Lib.hid (bnext HB3.out H7.out)
            clear b1
            go_wp2
            go_ret
            exact ⟨rfl, H8.out⟩
end Go.Proofs.Ytmcmapcijncblaa

/- The statement LayoutSuffices: comes. -/
import Derived.Test.YtbeppkokkbgddaaComesP
namespace Go.Proofs.Ytbeppkokkbgddaa
open Go.RowKit Go.ChangeMaps
set_option linter.unusedSimpArgs false
set_option linter.unusedVariables false

/-- A set as a map of ones. -/
def kw (ks : List Int) : List (Int × Value) := ks.map fun k => (k, .int .i64 1)
theorem kw_put (ks : List Int) (k : Int) : mPut (kw ks) k (.int .i64 1) = kw (insK ks k) := by
  induction ks with
  | nil => rfl
  | cons x r ih =>
    have e : kw (x :: r) = (x, .int .i64 1) :: kw r := rfl
    rw [e, mPut]
    by_cases h : x = k
    · subst h; rw [if_pos rfl]; unfold insK; rw [if_pos (List.mem_cons_self ..)]; rfl
    · rw [if_neg h, ih]
      have h' : ¬ k = x := fun e => h e.symm
      by_cases h2 : k ∈ r
      · unfold insK; rw [if_pos h2, if_pos (List.mem_cons_of_mem _ h2)]; rfl
      · unfold insK; rw [if_neg h2, if_neg (by simp [h', h2])]; simp [kw]
theorem kw_look (ks : List Int) (k : Int) : (mGet (kw ks) k).getD (.int .i64 0) = .int .i64 (if k ∈ ks then 1 else 0) := by
  induction ks with
  | nil => simp [kw, mGet]
  | cons x r ih =>
    have e : kw (x :: r) = (x, .int .i64 1) :: kw r := rfl
    rw [e]
    unfold mGet
    rw [List.find?_cons]
    by_cases h : x = k
    · subst h; simp
    · have h1 : (x == k) = false := by simpa using h
      have h' : ¬ k = x := fun e => h e.symm
      simp only [h1]
      unfold mGet at ih
      rw [ih]
      simp [h']
/-- A set of numbers as it lies in the heap. -/
def Set1 (w : World) (b : Nat) (S : Int → Prop) : Prop := ∃ ks, w.heap[b]? = some (mObj .u64 0 (kw ks)) ∧ ∀ x, x ∈ ks ↔ S x
theorem Set1.keep {w w' : World} {b : Nat} {S : Int → Prop} (h : Set1 w b S) (hk : w'.heap[b]? = w.heap[b]?) : Set1 w' b S := by
  obtain ⟨ks, h1, h2⟩ := h; exact ⟨ks, hk.trans h1, h2⟩
theorem Set1.alloc {w : World} {b : Nat} {S : Int → Prop} (h : Set1 w b S) (o : Obj) : Set1 (w.alloc o) b S := by
  obtain ⟨ks, h1, h2⟩ := h; exact ⟨ks, block_alloc h1 _, h2⟩
theorem Set1.iff {w : World} {b : Nat} {S T : Int → Prop} (h : Set1 w b S) (hi : ∀ x, S x ↔ T x) : Set1 w b T := by
  obtain ⟨ks, h1, h2⟩ := h; exact ⟨ks, h1, fun x => (h2 x).trans (hi x)⟩
theorem Set1.lt {w : World} {b : Nat} {S : Int → Prop} (h : Set1 w b S) : b < w.heap.size := by
  obtain ⟨ks, h1, h2⟩ := h; exact lt_of_block h1
theorem Set1.put {w : World} {b : Nat} {ks : List Int} (h : w.heap[b]? = some (mObj .u64 0 (kw ks))) (k : Int) : Set1 (setBlock w b (mObj .u64 0 (mPut (kw ks) k (.int .i64 1)))) b (fun x => x ∈ ks ∨ x = k) :=
  ⟨insK ks k, by rw [← kw_put]; exact setBlock_same h, fun x => insK_mem ks k x⟩
theorem Set1.new (w : World) : Set1 (w.alloc (.map #[] 0)) w.heap.size (fun _ => False) := ⟨[], heap_alloc_new _ _, fun x => by simp⟩
theorem Set1.look {w : World} {b : Nat} {S : Int → Prop} (h : Set1 w b S) (k : Int) : ∃ c : Int, (c = 0 ∨ c = 1) ∧ (0 < c ↔ S k) ∧ (Instr.lookup 58 (.map (some b)) (.int .u64 k) false).run Try.prog w = .ok (.int .i64 c) w := by
  obtain ⟨ks, h1, h2⟩ := h
  refine ⟨if k ∈ ks then 1 else 0, ?_, ?_, ?_⟩
  · split <;> simp
  · rw [← h2]; split <;> simp_all
  · have := run_lookup_m (P := Try.prog) (t := 58) (K := 22) (E := 3) Try.underlying58 Try.underlying22 (Try.zeroValue3 w) h1 k
    rw [this, kw_look]

/-- What a level holds as far as its row has come. -/
def Part1 (leaves : List Int) (rs : List (List Int)) (d : Nat) (but : Int) (lv m : Nat) (x : Int) : Prop := KnP leaves rs d but lv x ∨ ∃ j, j < m ∧ ((cnt rs lv + j : Nat) : Int) ≠ but ∧ nth (rnth rs lv) j = x
/-- What the next level knows as far as the pairs have come. -/
def Part2 (leaves : List Int) (rs : List (List Int)) (d : Nat) (but : Int) (lv t : Nat) (x : Int) : Prop := (0 ≤ x ∧ x < t) ∧ AddP (KnP leaves rs d but lv) rs but lv (2 * x) ∧ AddP (KnP leaves rs d but lv) rs but lv (2 * x + 1)

theorem part2_skip {leaves : List Int} {rs : List (List Int)} {d : Nat} {but : Int} {lv t : Nat} (h : ¬ (AddP (KnP leaves rs d but lv) rs but lv (2 * (t : Int)) ∧ AddP (KnP leaves rs d but lv) rs but lv (2 * (t : Int) + 1))) (x : Int) : Part2 leaves rs d but lv t x ↔ Part2 leaves rs d but lv (t + 1) x := by
  unfold Part2
  constructor
  · rintro ⟨⟨h1, h2⟩, h3⟩; exact ⟨⟨h1, by omega⟩, h3⟩
  · rintro ⟨⟨h1, h2⟩, h3⟩
    by_cases e : x = t
    · subst e; exact absurd h3 h
    · exact ⟨⟨h1, by omega⟩, h3⟩
theorem part2_put {leaves : List Int} {rs : List (List Int)} {d : Nat} {but : Int} {lv t : Nat} (h1 : AddP (KnP leaves rs d but lv) rs but lv (2 * (t : Int))) (h2 : AddP (KnP leaves rs d but lv) rs but lv (2 * (t : Int) + 1)) (x : Int) : (Part2 leaves rs d but lv t x ∨ x = (t : Int)) ↔ Part2 leaves rs d but lv (t + 1) x := by
  unfold Part2
  constructor
  · rintro (⟨⟨h3, h4⟩, h5⟩ | rfl)
    · exact ⟨⟨h3, by omega⟩, h5⟩
    · exact ⟨⟨by omega, by omega⟩, h1, h2⟩
  · rintro ⟨⟨h3, h4⟩, h5⟩
    by_cases e : x = t
    · exact .inr e
    · exact .inl ⟨⟨h3, by omega⟩, h5⟩

set_option maxRecDepth 100000 in
set_option maxHeartbeats 4000000 in
theorem comes_any (a b : Option Addr) (ca cb : Nat) (leaves : List Int) (rs : List (List Int)) (d : Nat) (but : Int) (w : World) (hl : U64s w a leaves) (hlen : len leaves ≤ 100) (hr : Rows2 w b rs) (hd : len rs = d) (hd7 : d ≤ 7) (hrl : ∀ i, len (rnth rs i) ≤ 100) (hcnt : ∀ i, i ≤ d → cnt rs i ≤ 1000) :
    Calls Try.prog 25 #[.slice a (len leaves) ca, .slice b (len rs) cb, .int .i64 d, .int .i64 but] w fun e w' => ∃ v, e = .returned (.bool v) ∧ (v = true ↔ KnP leaves rs d but d 0) ∧ Below w.heap.size w w' := by
  have HL := Lib.hid hl
  have HR := Lib.hid hr
  have HD := Lib.hid hd
  have HRL := Lib.hid hrl
  have HCT := Lib.hid hcnt
  clear hl hr hd hrl hcnt
  have hmm := @run_makeMap Try.prog
  go_enter Try.func25, Try.ntmps25
  go_wp2
  go_loopg [10] (len leaves) (fun g i wr => ∃ m : Nat, g + m = len leaves ∧ i = .int .i64 m ∧ Hid (Below w.heap.size w wr) ∧ Hid (Set1 wr w.heap.size (fun x => x ∈ leaves.take m)))
  case atStart => exact ⟨0, rfl, rfl, by (repeat (first | exact Below.refl _ _ | assumption | (refine bdrew ?_) | (refine bdrewN ?_ _) | (refine balloc ?_ _) | (refine bset ?_ (by first | omega | (simp; done) | (simp; omega)) _) | (refine bnext ?_ (by assumption)))), (Set1.new w).iff (fun x => by simp)⟩
  case round =>
    obtain ⟨m, hm, rfl, HB, HS⟩ := hrel
    by_cases hlt : m < len leaves
    · obtain ⟨b0, off, rfl, hcell⟩ := (HL.out.below HB.out) m hlt
      obtain ⟨ks, hks, hmem⟩ := HS.out
      have HK := Lib.hid hks
      have HM := Lib.hid hmem
      clear hks hmem
      go_wp2_with (at_mapUpdate; refine wpList_mapUpdate_m rfl _ _ _ 58 22 3 .u64 rfl Try.underlying58 Try.underlying22 w.heap.size 0 _ rfl HK.out (nth leaves m) _ rfl rfl ?_)
      go_roundg (len leaves - (m + 1))
      case rel => exact ⟨m + 1, by omega, by go_num, setBlock_below HB.out (Nat.le_refl _), (Set1.put HK.out _).iff (fun x => by rw [HM.out, take_mem_succ hlt])⟩
      case measure => omega
    · obtain rfl : m = len leaves := by omega
      have HS0 : Hid (Set1 wr w.heap.size (KnP leaves rs d but 0)) := Lib.hid (HS.out.iff (fun x => by rw [take_all]; exact Iff.rfl))
      clear HS
      have HB0 := HB
      clear HB
      go_wp2
      go_loopg [9, 11, 12] d (fun g mp n i wx => ∃ lv kb : Nat, g + lv = d ∧ mp = .map (some kb) ∧ n = .int .i64 (cnt rs lv : Nat) ∧ i = .int .i64 lv ∧ Hid (w.heap.size ≤ kb) ∧ Hid (Below w.heap.size w wx) ∧ Hid (Set1 wx kb (KnP leaves rs d but lv)))
      case atStart => exact ⟨0, w.heap.size, rfl, rfl, rfl, rfl, Nat.le_refl _, HB0.out, HS0.out⟩
      case round =>
        clear HS0 HB0
        obtain ⟨lv, kb, hlv, rfl, rfl, rfl, HKB, HB, HS⟩ := hrel
        by_cases hle : lv < d
        · obtain ⟨GK, hGK⟩ : ∃ G, G = gk := ⟨_, rfl⟩
          subst hGK
          have hlr : lv < len rs := by have := HD.out; omega
          have iu : (lv : Int) < (d : Int) := by omega
          obtain ⟨V, hV⟩ : ∃ V, wr.alloc (.map #[] 0) = V := ⟨_, rfl⟩
          obtain ⟨nb, hnb⟩ : ∃ nb, wr.heap.size = nb := ⟨_, rfl⟩
          have VN : Hid (Set1 V nb (Part2 leaves rs d but lv 0)) := Lib.hid (by rw [← hV, ← hnb]; exact (Set1.new wr).iff (fun x => by unfold Part2; constructor; exact False.elim; rintro ⟨h, _⟩; omega))
          have VK : Hid (Set1 V kb (Part1 leaves rs d but lv 0)) := Lib.hid (by rw [← hV]; exact (HS.out.alloc _).iff (fun x => by
            unfold Part1; constructor
            · exact .inl
            · rintro (h | ⟨j, hj, _⟩)
              · exact h
              · omega))
          have VB : Hid (Below w.heap.size w V) := Lib.hid (by rw [← hV]; exact balloc HB.out _)
          have hkn : kb < nb := by rw [← hnb]; exact HS.out.lt
          have hwn : w.heap.size ≤ nb := by have := HKB.out; omega
          have HKN := Lib.hid hkn
          have HWN := Lib.hid hwn
          clear HS HB hkn hwn
          go_upto_region 11 with fail
          try rw [hV, hnb]
          clear hV hnb
          obtain ⟨ob, oo, oa, oc, rfl, z1, z2, z3⟩ := (HR.out.below VB.out) lv hlr
          have HZ2 := Lib.hid z2
          clear z1 z2 z3
          obtain ⟨n, hn⟩ : ∃ n, len (rnth rs lv) = n := ⟨_, rfl⟩
          have HN := Lib.hid hn
          have n100 : n ≤ 100 := by rw [← hn]; exact HRL.out lv
          have c1000 : cnt rs lv ≤ 1000 := HCT.out lv (by omega)
          obtain ⟨ct, hct⟩ : ∃ ct, cnt rs lv = ct := ⟨_, rfl⟩
          have HCC := Lib.hid hct
          rw [hct] at c1000
          try rw [hct]
          clear hn hct
          go_wp2
          go_loopg [11, 14] n (fun g cn i wy => ∃ m : Nat, g + m = n ∧ cn = .int .i64 ((ct + m : Nat) : Int) ∧ i = .int .i64 m ∧ Hid (Below w.heap.size w wy) ∧ Hid (Set1 wy kb (Part1 leaves rs d but lv m)) ∧ Hid (Set1 wy nb (Part2 leaves rs d but lv 0)))
          case atStart => exact ⟨0, rfl, rfl, rfl, VB.out, VK.out, VN.out⟩
          case round =>
            clear VK VN
            obtain ⟨m, hm2, rfl, rfl, HB, HS, HX⟩ := hrel
            obtain ⟨ob', oo', oa', oc', hbb, z1, z2, z3⟩ := (HR.out.below HB.out) lv hlr
            cases hbb
            rw [HN.out] at z1
            by_cases hltm : m < n
            · obtain ⟨b2, o2, rfl, hcell⟩ := z2 m (by rw [HN.out]; exact hltm)
              have i0 : (m : Int) < n := by omega
              by_cases hbut : ((ct + m : Nat) : Int) = but
              · have hb' : (((ct + m : Nat) : Int) != but) = false := by simpa using hbut
                have hb2 : ((ct : Int) + (m : Int) != but) = false := by simpa using hbut
                have HS1 : Hid (Set1 wr kb (Part1 leaves rs d but lv (m + 1))) := Lib.hid (HS.out.iff (fun x => by
                  unfold Part1
                  constructor
                  · rintro (h | ⟨j, hj, h⟩)
                    · exact .inl h
                    · exact .inr ⟨j, by omega, h⟩
                  · rintro (h | ⟨j, hj, h1, h2⟩)
                    · exact .inl h
                    · by_cases e : j = m
                      · subst e; rw [HCC.out] at h1; exact absurd hbut h1
                      · exact .inr ⟨j, by omega, h1, h2⟩))
                have HBT := Lib.hid hbut
                clear hbut HS z2
                go_wp2
                go_roundg (n - (m + 1))
                case rel => exact ⟨m + 1, by omega, by go_num, by go_num, HB.out, HS1.out, HX.out⟩
                case measure => omega
              · have hb' : (((ct + m : Nat) : Int) != but) = true := by simpa using hbut
                have hb2 : ((ct : Int) + (m : Int) != but) = true := by simpa using hbut
                obtain ⟨ks, hks, hmem⟩ := HS.out
                have HK := Lib.hid hks
                have HM := Lib.hid hmem
                have HBT := Lib.hid hbut
                clear hks hmem HS z2 hbut
                go_wp2_with (at_mapUpdate; refine wpList_mapUpdate_m rfl _ _ _ 58 22 3 .u64 rfl Try.underlying58 Try.underlying22 kb 0 _ rfl HK.out (nth (rnth rs lv) m) _ rfl rfl ?_)
                go_roundg (n - (m + 1))
                case rel => exact ⟨m + 1, by omega, by go_num, by go_num, setBlock_below HB.out HKB.out, (Set1.put HK.out _).iff (fun x => by
                  rw [HM.out]
                  unfold Part1
                  constructor
                  · rintro ((h | ⟨j, hj, h⟩) | h)
                    · exact .inl h
                    · exact .inr ⟨j, by omega, h⟩
                    · exact .inr ⟨m, by omega, by rw [HCC.out]; exact HBT.out, h.symm⟩
                  · rintro (h | ⟨j, hj, h1, h2⟩)
                    · exact .inl (.inl h)
                    · by_cases e : j = m
                      · subst e; exact .inr h2.symm
                      · exact .inl (.inr ⟨j, by omega, h1, h2⟩)), HX.out.keep (setBlock_other (by have := HKN.out; omega))⟩
                case measure => omega
            · obtain rfl : m = n := by omega
              obtain ⟨GK2, hGK2⟩ : ∃ G, G = gk := ⟨_, rfl⟩
              subst hGK2
              have HA : Hid (Set1 wr kb (AddP (KnP leaves rs d but lv) rs but lv)) := Lib.hid (HS.out.iff (fun x => by unfold Part1 AddP; rw [HN.out]))
              have HA0 : Hid (Set1 wr nb (Part2 leaves rs d but lv 0)) := HX
              obtain ⟨q, hq⟩ : ∃ q : Nat, d - lv = q + 1 := ⟨d - lv - 1, by omega⟩
              have hsub : (d : Int) - (lv : Int) = ((q + 1 : Nat) : Int) := by omega
              have q6 : q ≤ 6 := by omega
              obtain ⟨H, hH⟩ : ∃ H : Nat, 2 ^ q = H := ⟨_, rfl⟩
              have h64 : H ≤ 64 := by rw [← hH]; exact Nat.pow_le_pow_right (n := 2) (by decide) q6
              obtain ⟨P, hP⟩ : ∃ P : Nat, 2 * H = P := ⟨_, rfl⟩
              have hw : IntKind.u64.wrap ((2 : Int) ^ (q + 1)) = (P : Int) := by rw [pow_cast, IntKind.wrap_u64, Nat.pow_succ, hH]; omega
              have HP : Hid ((2 : Int) ^ (d - lv) = 2 * H) := Lib.hid (by rw [hq, pow_cast, Nat.pow_succ, hH]; omega)
              have HPP := Lib.hid hP
              have HSB := Lib.hid hsub
              clear HS HX z2 z3 hq hH hsub hP
              go_wp2
              clear z1
              go_loopg [15] H (fun g i wz => ∃ t kk : Nat, g + t = H ∧ i = .int .u64 kk ∧ Hid (kk = 2 * t) ∧ Hid (Below w.heap.size w wz) ∧ Hid (Set1 wz kb (AddP (KnP leaves rs d but lv) rs but lv)) ∧ Hid (Set1 wz nb (Part2 leaves rs d but lv t)))
              case atStart => exact ⟨0, 0, rfl, rfl, rfl, HB.out, HA.out, HA0.out⟩
              case round =>
                clear HA HA0 HB
                obtain ⟨t, kk, ht, rfl, HKK, HB, HS, HX⟩ := hrel
                have hkk : kk ≤ 128 := by have := HKK.out; omega
                have hsub := HSB.out
                by_cases hlt2 : t < H
                · have iu2 : kk < P := by have := HKK.out; have := HPP.out; omega
                  have iu3 : (kk : Int) < (P : Int) := by omega
                  obtain ⟨c1, hc1, hs1, hk1⟩ := HS.out.look (kk : Int)
                  obtain ⟨c2, hc2, hs2, hk2⟩ := HS.out.look ((kk : Int) + 1)
                  have G1 : Hid (0 < c1 ↔ AddP (KnP leaves rs d but lv) rs but lv (2 * (t : Int))) := Lib.hid (by rw [hs1, HKK.out]; rw [show ((2 * t : Nat) : Int) = 2 * (t : Int) by omega])
                  have G2 : Hid (0 < c2 ↔ AddP (KnP leaves rs d but lv) rs but lv (2 * (t : Int) + 1)) := Lib.hid (by rw [hs2, HKK.out]; rw [show ((2 * t : Nat) : Int) = 2 * (t : Int) by omega])
                  clear hs1 hs2
                  rcases hc1 with rfl | rfl
                  · have HX1 : Hid (Set1 wr nb (Part2 leaves rs d but lv (t + 1))) := Lib.hid (HX.out.iff (part2_skip (fun h => by have := G1.out.2 h.1; omega)))
                    clear HX G1 G2 hk2
                    go_wp2
                    go_roundg (H - (t + 1))
                    case rel => exact ⟨t + 1, kk + 2, by omega, by go_num, (by have := HKK.out; show kk + 2 = 2 * (t + 1); omega), HB.out, HS.out, HX1.out⟩
                    case measure => omega
                  · rcases hc2 with rfl | rfl
                    · have HX1 : Hid (Set1 wr nb (Part2 leaves rs d but lv (t + 1))) := Lib.hid (HX.out.iff (part2_skip (fun h => by have := G2.out.2 h.2; omega)))
                      clear HX G1 G2
                      go_wp2
                      go_roundg (H - (t + 1))
                      case rel => exact ⟨t + 1, kk + 2, by omega, by go_num, (by have := HKK.out; show kk + 2 = 2 * (t + 1); omega), HB.out, HS.out, HX1.out⟩
                      case measure => omega
                    · obtain ⟨ks, hks, hmem⟩ := HX.out
                      have HK := Lib.hid hks
                      have HM := Lib.hid hmem
                      have ha1 := G1.out.1 (by decide)
                      have ha2 := G2.out.1 (by decide)
                      have HA1 := Lib.hid ha1
                      have HA2 := Lib.hid ha2
                      clear HX G1 G2 hks hmem ha1 ha2
                      go_wp2_with (at_mapUpdate; refine wpList_mapUpdate_m rfl _ _ _ 58 22 3 .u64 rfl Try.underlying58 Try.underlying22 nb 0 _ rfl HK.out ((kk / 2 : Nat) : Int) _ rfl rfl ?_)
                      go_roundg (H - (t + 1))
                      case rel => exact ⟨t + 1, kk + 2, by omega, by go_num, (by have := HKK.out; show kk + 2 = 2 * (t + 1); omega), setBlock_below HB.out HWN.out, HS.out.keep (setBlock_other (by have := HKN.out; omega)), (Set1.put HK.out _).iff (fun x => by
                        rw [HM.out, show (kk : Int) / 2 = (t : Int) by have := HKK.out; omega]
                        exact part2_put HA1.out HA2.out x)⟩
                      case measure => omega
                · have iu2 : ¬ kk < P := by have := HKK.out; have := HPP.out; omega
                  have iu3 : ¬ (kk : Int) < (P : Int) := by omega
                  obtain rfl : t = H := by omega
                  have HX1 : Hid (Set1 wr nb (KnP leaves rs d but (lv + 1))) := Lib.hid (HX.out.iff (fun x => by
                    have hp := HP.out
                    unfold Part2
                    simp only [KnP, hp]
                    constructor
                    · rintro ⟨⟨h1, h2⟩, h3⟩; exact ⟨⟨h1, by omega⟩, h3⟩
                    · rintro ⟨⟨h1, h2⟩, h3⟩; exact ⟨⟨h1, by omega⟩, h3⟩))
                  have HC1 : Hid (ct + m = cnt rs (lv + 1)) := Lib.hid (by simp only [cnt, HCC.out, HN.out])
                  clear HX HS
                  go_wp2
                  go_roundg (d - (lv + 1))
                  case rel => exact ⟨lv + 1, nb, by omega, rfl, by rw [← HC1.out]; simp, by go_num, HWN.out, HB.out, HX1.out⟩
                  case measure => omega
        · obtain rfl : lv = d := by omega
          obtain ⟨c, hc, hcc, hlk⟩ := HS.out.look 0
          have HC := Lib.hid hcc
          clear HS hcc
          rcases hc with rfl | rfl
          · go_wp2
            go_ret
            exact ⟨_, rfl, by rw [← HC.out]; simp, HB.out⟩
          · go_wp2
            go_ret
            exact ⟨_, rfl, by rw [← HC.out]; simp, HB.out⟩
end Go.Proofs.Ytbeppkokkbgddaa

/- Parts of the proof, one behind the other. -/
import Derived.Test.YtloccahcnikbfaaPrcP4
import Derived.ProofKit
import Derived.OpenShut
import Derived.ShutString
import Derived.ChangeOld
import Derived.Deep.Slices
import Derived.Deep.Fields
import Derived.ChangeMaps5
namespace Go.Proofs.Ytloccahcnikbfaa
open Go.RowKit Go.ChangeMaps
set_option linter.unusedSimpArgs false
set_option linter.unusedVariables false
set_option maxRecDepth 100000 in
set_option maxHeartbeats 4000000 in
theorem rroot_arg (n : Int) (ps : List Int) (es ds : List ByteArray) (pa ea da : Option Addr) (pc ec dc : Nat) (w : World) (hp : U64s w pa ps) (hl : len ps ≤ 100) (h0 : -9223372036854775808 ≤ n) (h1 : n ≤ 9223372036854775807) (hb : ¬ ArgOk n ps es) (hle : len es ≤ 1000000) :
    Calls Try.prog 11 #[.int .i64 n, .slice pa (len ps) pc, .slice ea (len es) ec, .slice da (len ds) dc] w (RootIs n ps es ds w) := by
  have HE : Hid (rootE n ps es ds = 2 ∧ rootS n ps es ds = ⟨#[]⟩) := Lib.hid (by
    have h9 : rootE n ps es ds = 2 := by unfold rootE; rw [if_pos hb]
    exact ⟨h9, by unfold rootS; rw [h9]; rfl⟩)
  have HM := Lib.hid (fun w9 hb9 => rMay_any n ps pa pc w9 (hp.below hb9) (by omega) h0 h1)
  by_cases hs : SizeOk n ps
  · have hne : ¬ len es = len ps := fun h9 => hb ⟨hs, h9⟩
    have z1 : ¬ ((len es : Nat) : Int) = ((len ps : Nat) : Int) := by omega
    rw [decide_eq_true hs] at HM
    clear hb hs hp hl h0 h1 hne hle
    go_enter Try.func11, Try.ntmps11
    go_wp2_with fail
    refine (HM.out _ (Below.refl _ _)).mono ?_
    rintro e w1 ⟨rfl, hb1⟩
    have HB1 := Lib.hid hb1
    clear hb1
    go_wp2
    go_ret2
    exact ⟨by rw [HE.out.1, HE.out.2]; rfl, HB1.out⟩
  · rw [decide_eq_false hs] at HM
    clear hb hs hp hl h0 h1 hle
    go_enter Try.func11, Try.ntmps11
    go_wp2_with fail
    refine (HM.out _ (Below.refl _ _)).mono ?_
    rintro e w1 ⟨rfl, hb1⟩
    have HB1 := Lib.hid hb1
    clear hb1
    go_wp2
    go_ret2
    exact ⟨by rw [HE.out.1, HE.out.2]; rfl, HB1.out⟩
structure KlAt (B : Nat) (v : Value) (KL : List Plc) (w : World) : Prop where
  own : w.ownsRow B 67 2 v (len KL) (KL.flatMap Plc.cells)
  ok : ∀ x ∈ KL, 0 ≤ x.K ∧ x.K < 65536 ∧ x.d.size ≤ 1000
theorem KlAt.nil (B : Nat) (w : World) : KlAt B (.slice none 0 0) [] w := ⟨World.ownsRow_nil _ _ _ _, fun x h => by simp at h⟩
theorem KlAt.below {B : Nat} {v : Value} {KL : List Plc} {w w' : World} (h : KlAt B v KL w) (hb : Below w.heap.size w w') : KlAt B v KL w' := ⟨own_below h.own hb, h.ok⟩
theorem KlAt.plcs {B : Nat} {v : Value} {KL : List Plc} {w : World} (h : KlAt B v KL w) : ∃ a c, v = .slice a (len KL) c ∧ Plcs w a KL := by
  obtain ⟨a, c, h1, h2, _⟩ := Plcs.own h.own
  exact ⟨a, c, h1, h2⟩
theorem KlAt.snoc {B : Nat} {v : Value} {KL : List Plc} {w' : World} (ok : ∀ x ∈ KL, 0 ≤ x.K ∧ x.K < 65536 ∧ x.d.size ≤ 1000) (x : Plc) (h : w'.ownsRow B 67 2 v (len KL + 1) (KL.flatMap Plc.cells ++ x.cells)) (hx : 0 ≤ x.K ∧ x.K < 65536 ∧ x.d.size ≤ 1000) : KlAt B v (KL ++ [x]) w' := by
  refine ⟨?_, fun y hy => ?_⟩
  · have e : len (KL ++ [x]) = len KL + 1 := by rw [len_eq, List.length_append]; rfl
    rw [e, List.flatMap_append]
    simpa using h
  · rcases List.mem_append.1 hy with h1 | h1
    · exact ok y h1
    · rw [List.mem_singleton] at h1; rw [h1]; exact hx
theorem plc_len_snoc (KL : List Plc) (x : Plc) : len (KL ++ [x]) = len KL + 1 := by rw [len_eq, List.length_append]; rfl
theorem laid8_grow {w w1 : World} {base b2 n : Nat} {v vo : Value} {rs : List (List Int)} {xs : List Value} (h : Laid8 w base v rs) (hq : w.ownsRow b2 67 2 vo n xs) (hg : w.grownBy w1 vo.ownBlock) : Laid8 w1 base v rs := by
  obtain ⟨vals, h1, h2⟩ := h
  refine ⟨vals, h1.kept hg (own_apart h1 hq (by decide)), h2.kept hg (fun i u hu => ?_)⟩
  rcases hq.2 with ⟨e, _⟩ | ⟨g, cap, cur, e, _, hgb, _⟩
  · rw [e]; cases h : u.ownBlock <;> simp [Value.ownBlock]
  · rw [e]; exact h2.apart hgb (by decide) i u hu
theorem laid8_rows {w : World} {base n c : Nat} {a : Option Addr} {rs : List (List Int)} (h : Laid8 w base (.slice a n c) rs) : Rows2 w a rs := by
  obtain ⟨vals, h1, h2⟩ := h
  obtain ⟨a', c', e, h3, _, _⟩ := rows2_of h1 h2
  cases e
  exact h3
theorem leaf_bd {ps : List Int} {d : Nat} (hd : d ≤ 16) (m : Nat) (h : m < len (leavesL ps (d : Nat))) : 0 ≤ nth (leavesL ps (d : Nat)) m ∧ nth (leavesL ps (d : Nat)) m < 65536 := by
  have h1 := leaves_in hd _ (mem_nth h)
  have h2 : (2 : Int) ^ d ≤ 65536 := by
    rw [pow_cast]
    have : 2 ^ d ≤ 65536 := Nat.pow_le_pow_right (n := 2) (by decide) hd
    omega
  omega
theorem plc_take (KL : List Plc) : KL.take (len KL) = KL := List.take_length
theorem fnd_key : ∀ (l : List Plc) (k : Int), (fndF l k).isSome → ∃ x ∈ l, x.K = k
  | [], k, h => by cases h
  | y :: l, k, h => by
    rw [fndF_cons] at h
    by_cases e : y.K = k
    · exact ⟨y, List.mem_cons_self, e⟩
    · rw [if_neg e] at h
      obtain ⟨x, h1, h2⟩ := fnd_key l k h
      exact ⟨x, List.mem_cons_of_mem _ h1, h2⟩
theorem fnd_mem : ∀ (l : List Plc) (x : Plc), x ∈ l → (fndF l x.K).isSome
  | y :: l, x, h => by
    rw [fndF_cons]
    by_cases e : y.K = x.K
    · rw [if_pos e]; rfl
    · rw [if_neg e]
      rcases List.mem_cons.1 h with rfl | h1
      · exact absurd rfl e
      · exact fnd_mem l x h1
theorem fnd_val : ∀ (l : List Plc) (k : Int) (d : ByteArray), fndF l k = some d → ∃ x ∈ l, x.d = d
  | [], k, d, h => by cases h
  | y :: l, k, d, h => by
    rw [fndF_cons] at h
    by_cases e : y.K = k
    · rw [if_pos e] at h; exact ⟨y, List.mem_cons_self, Option.some.inj h⟩
    · rw [if_neg e] at h
      obtain ⟨x, h1, h2⟩ := fnd_val l k d h
      exact ⟨x, List.mem_cons_of_mem _ h1, h2⟩
theorem kl_small {KL : List Plc} (h : ∀ x ∈ KL, 0 ≤ x.K ∧ x.K < 65536 ∧ x.d.size ≤ 1000) (k : Int) : (kidF (fndF KL) k).size ≤ 1000000 := by
  unfold kidF
  cases hf : fndF KL k with
  | none => show (0 : Nat) ≤ _; omega
  | some d =>
    obtain ⟨x, h1, h2⟩ := fnd_val KL k d hf
    have := (h x h1).2.2
    rw [h2] at this
    show d.size ≤ _
    omega
theorem row_bd {ps : List Int} {d i : Nat} {t : Int} (hd : d ≤ 16) (hi : i < d) (h : t ∈ rnth (rowsOf (leavesL ps (d : Nat)) d) i) : 0 ≤ t ∧ t < 65536 := by
  obtain ⟨⟨y, hy, rfl⟩, _⟩ := (row_mem _ d i hi t).1 h
  obtain ⟨h1, h2⟩ := leaves_in hd y hy
  have h3 := half_bd h1 h2 (Nat.le_of_lt hi)
  obtain ⟨e, he⟩ : ∃ e, d - i = e + 1 := ⟨d - i - 1, by omega⟩
  rw [he] at h3
  have h4 := sib_bd h3.1 h3.2
  have h5 : (2 : Int) ^ (e + 1) ≤ 65536 := by
    rw [pow_cast]
    have : 2 ^ (e + 1) ≤ 65536 := Nat.pow_le_pow_right (n := 2) (by decide) (show e + 1 ≤ 16 by omega)
    omega
  omega
set_option maxRecDepth 100000 in
set_option maxHeartbeats 8000000 in
theorem rroot_main (nn : Nat) (ps : List Int) (es ds : List ByteArray) (pa ea da : Option Addr) (pc ec dc : Nat) (w : World) (hp : U64s w pa ps) (he : Txts w ea es) (hd : Txts w da ds) (hl : len ps ≤ 100) (hu : ∀ k ∈ ps, U64 k) (hld : len ds ≤ 1000000) (hdc : len ds ≤ dc) (hez : ∀ i, i < len es → (tth es i).size ≤ 1000000) (hb : ArgOk (nn : Nat) ps es) :
    Calls Try.prog 11 #[.int .i64 (nn : Nat), .slice pa (len ps) pc, .slice ea (len es) ec, .slice da (len ds) dc] w (RootIs (nn : Nat) ps es ds w) := by
  have hn16 : nn ≤ 65536 := by have := hb.1.2.1; omega
  obtain ⟨d, hdd⟩ : ∃ d : Nat, Lib.bitLen (nn - 1) = d := ⟨_, rfl⟩
  have hdz : depthZ (nn : Nat) = (d : Nat) := by unfold depthZ; rw [if_neg (by omega), Int.toNat_natCast, hdd]
  have hdb := depth_bd nn hn16
  rw [hdd] at hdb
  have HD16 : Hid (d ≤ 16) := Lib.hid hdb.1
  obtain ⟨lv, hlv⟩ : ∃ lv, leavesL ps (d : Nat) = lv := ⟨_, rfl⟩
  have HLN : Hid (len lv = len ps) := Lib.hid (by rw [← hlv, leavesL_len])
  have HLU : Hid (∀ k ∈ lv, U64 k) := Lib.hid (by rw [← hlv]; exact leavesL_u64 ps _)
  have HLND : Hid (lv.Nodup) := Lib.hid (by rw [← hlv]; exact leaves_nodup hdb.1 hdb.2.1 hu hb.1.2.2)
  have HLBD : Hid (∀ m, m < len lv → 0 ≤ nth lv m ∧ nth lv m < 65536) := Lib.hid (by rw [← hlv]; exact fun m hm => leaf_bd hdb.1 m hm)
  obtain ⟨rs, hrs⟩ : ∃ rs, rowsOf lv d = rs := ⟨_, rfl⟩
  have HNR : Hid (needsL lv (d : Nat) = rs) := Lib.hid (by rw [← hrs, ← hlv]; exact needsP_rows hdb.1 hb.1.2.2)
  have HRL : Hid (len rs = d) := Lib.hid (by rw [← hrs, rowsOf_len])
  have HLV := Lib.hid hlv
  have HRS := Lib.hid hrs
  have HNM : Hid (∀ i, len (rnth rs i) ≤ 100) := Lib.hid (by
    rw [← HNR.out]
    exact rnth_nl _ _ (by rw [HLN.out]; exact hl))
  have HRP : Hid (rowsP (nn : Nat) ps = rs) := Lib.hid (by unfold rowsP; rw [hdz, hlv]; exact HNR.out)
  have HDP : Hid (digP (nn : Nat) ps es ds = kidF (rootG (g0F lv es) rs ds) 0) := Lib.hid (by unfold digP; rw [HRP.out, hdz, hlv])
  have HNP : Hid (neededP (nn : Nat) ps = usedR rs (len rs)) := Lib.hid (by unfold neededP; rw [HRP.out])
  have HM := Lib.hid (fun w9 hb9 => rMay_any (nn : Nat) ps pa pc w9 (hp.below hb9) (by omega) (by omega) (by omega))
  rw [decide_eq_true hb.1] at HM
  have hel := hb.2
  have HDE := Lib.hid (fun w9 => refDepth_any (nn : Nat) w9 (by omega) (by omega))
  rw [hdz] at HDE
  have HLF := Lib.hid (fun k (hk : U64 k) w9 => refLeaf_any k (d : Nat) w9 hk.1 hk.2 (by have := HD16.out; omega) (by have := HD16.out; omega))
  have HP := Lib.hid hp
  have HES := Lib.hid he
  have HDS := Lib.hid hd
  have HU := Lib.hid hu
  have HL100 := Lib.hid hl
  have HEZ := Lib.hid hez
  have HEL := Lib.hid hel
  have HLD := Lib.hid hld
  have HDC := Lib.hid hdc
  have HARG := Lib.hid hb
  obtain ⟨i0, hi, hz0, hz1, hz2⟩ := info_parts info_u64
  have HZ0 := Lib.hid hz0
  obtain ⟨j0, hj, hy0, hy1, hy2⟩ := info_parts info_plc
  have HY0 := Lib.hid hy0
  clear hp he hd hl hu hld hdc hez hb hn16 hdd hdz hdb hlv hrs hel hz0 hy0
  go_enter Try.func11, Try.ntmps11
  rw [HEL.out]
  go_wp2_with fail
  refine (HM.out _ (Below.refl _ _)).mono ?_
  rintro e w1 ⟨rfl, hb1⟩
  have HB1 := Lib.hid hb1
  clear hb1 HM
  go_upto_region 4 with fail
  go_loopg [10] (len ds) (fun g i wr => ∃ m : Nat, g + m = len ds ∧ i = .int .i64 m ∧ Hid (∀ j, j < m → (tth ds j).size = 32) ∧ wr = w1)
  case atStart => exact ⟨0, rfl, rfl, Lib.hid (fun j hj => by omega), rfl⟩
  case round =>
    obtain ⟨m, hm, rfl, HG, rfl⟩ := hrel
    have hld := HLD.out
    by_cases hlt : m < len ds
    · have b1 : (m : Int) < len ds := by omega
      have b2 : ¬ len ds ≤ m := by omega
      obtain ⟨b, off, hda, hcell⟩ := HDS.out.below HB1.out m hlt
      subst hda
      have l1 := lt_of_cell hcell
      obtain ⟨s, hs⟩ : ∃ s, tth ds m = s := ⟨_, rfl⟩
      rw [hs] at hcell
      have HS := Lib.hid hs
      have HSM : Hid (s ∈ ds) := Lib.hid (by rw [← hs, tth_eq ds m hlt]; exact List.getElem_mem _)
      clear hs
      by_cases hf : s.size = 32
      · have HF := Lib.hid hf
        have z1 : ((s.size : Nat) : Int) = 32 := by omega
        clear hf
        go_wp2
        go_roundg (len ds - (m + 1))
        case rel => exact ⟨m + 1, by omega, by go_num, Lib.hid (fun j hj => by
          by_cases e : j = m
          · subst e; rw [HS.out]; exact HF.out
          · exact HG.out j (by omega)), rfl⟩
        case measure => omega
      · have z1 : ¬ ((s.size : Nat) : Int) = 32 := by omega
        have HE : Hid (rootE (nn : Nat) ps es ds = 5 ∧ rootS (nn : Nat) ps es ds = ⟨#[]⟩) := Lib.hid (by
          have h9 : rootE (nn : Nat) ps es ds = 5 := by unfold rootE; rw [if_neg (fun h => h HARG.out), if_pos (show badB ds = true from decide_eq_true ⟨s, HSM.out, hf⟩)]
          exact ⟨h9, by unfold rootS; rw [h9]; rfl⟩)
        clear hf
        go_wp2
        go_ret2
        exact ⟨by rw [HE.out.1, HE.out.2]; rfl, HB1.out⟩
    · obtain rfl : m = len ds := by omega
      have b1 : ¬ ((len ds : Nat) : Int) < len ds := by omega
      have HBADF : Hid (badB ds = false) := Lib.hid (decide_eq_false (by
        rintro ⟨x, hx, h9⟩
        obtain ⟨j, hj, rfl⟩ := List.getElem_of_mem hx
        have h1 := HG.out j hj
        rw [tth_eq ds j hj] at h1
        exact h9 h1))
      clear HG hm
      go_wp2_with fail
      refine (HDE.out wr).mono ?_
      rintro e w2 ⟨rfl, rfl⟩
      go_upto_region 12 with fail
      go_loopg [14, 12, 13] (len ps) (fun g i v k wz => ∃ (m : Nat) (KL : List Plc), g + m = len ps ∧ i = .int .i64 m ∧ len KL = m ∧ Hid (wz.ownsRow w.heap.size 35 1 v m ((lv.take m).map (Value.int .u64))) ∧ Hid (KlAt w.heap.size k KL wz) ∧ Hid (fndF KL = addF noF (lv.take m) (leafD es)) ∧ Hid (Below w.heap.size w wz))
      case atStart => exact ⟨0, [], rfl, rfl, rfl, Lib.hid (World.ownsRow_nil _ _ _ _), Lib.hid (KlAt.nil _ _), Lib.hid (by rw [List.take_zero]; rfl), HB1⟩
      case round =>
        clear HB1
        obtain ⟨m, KL, hm, rfl, hkl, HO, HK, HF, HW⟩ := hrel
        have HNN := HL100.out
        by_cases hlt : m < len ps
        · have b0 : (m : Int) < len ps := by omega
          have b1 : ¬ len ps ≤ m := by omega
          obtain ⟨b, off, hra, hcell⟩ := HP.out.below HW.out m hlt
          subst hra
          obtain ⟨k, hk⟩ : ∃ k, nth ps m = k := ⟨_, rfl⟩
          have hku : U64 k := by rw [← hk]; exact HU.out _ (mem_nth hlt)
          obtain ⟨s, hs⟩ : ∃ s, tth es m = s := ⟨_, rfl⟩
          have HSZ : Hid (s.size ≤ 1000000) := Lib.hid (by rw [← hs]; exact HEZ.out m (by rw [HEL.out]; exact hlt))
          obtain ⟨t, ht⟩ : ∃ t, turnedZ k (d : Nat) = t := ⟨_, rfl⟩
          have HSS := Lib.hid hs
          have HTN : Hid (nth lv m = t) := Lib.hid (by rw [← HLV.out, leaves_nth ps _ m hlt, hk, ht])
          have HLML : Hid (m < len lv) := Lib.hid (by rw [HLN.out]; exact hlt)
          have HTB : Hid (0 ≤ t ∧ t < 65536) := Lib.hid (by rw [← HTN.out]; exact HLBD.out m HLML.out)
          have HLK := Lib.hid (HLF.out k hku wr)
          rw [ht] at HLK
          obtain ⟨D, hD⟩ : ∃ D, hashP leafT [s] = D := ⟨_, rfl⟩
          have HLD9 : Hid (tth (leafD es) m = D) := Lib.hid (by rw [leafD_at es m (by rw [HEL.out]; exact hlt), hs, hD])
          have HDZ9 : Hid (D.size ≤ 1000) := Lib.hid (by rw [← hD, hashP_size]; omega)
          have HHD := Lib.hid hD
          have HFR : Hid (fndF KL t = none) := Lib.hid (by rw [HF.out, ← HTN.out]; exact fresh_leaf HLND.out _ m HLML.out)
          rw [hk] at hcell
          have l1 := lt_of_cell hcell
          have HKLN := Lib.hid hkl
          clear hk hku hs ht hD hkl
          go_upto_region 15 with fail
          clear hcell l1
          refine HLK.out.mono ?_
          rintro e w2 ⟨rfl, rfl⟩
          go_upto_region 16 with (at_builtin; refine wpList_append_own _ rfl _ _ 22 rfl w.heap.size 35 i0 (.int .u64 0) 1 8 Try.underlying22 hi HZ0.out hz1 hz2 rfl (by decide) _ _ _ rfl (HO.out.alloc _) ⟨wr.heap.size, 0, none⟩ 1 1 [.int .u64 t] rfl rfl (World.news_of_block (heap_alloc_new _ _)) (by intro u hu9; simp at hu9; subst hu9; rfl) (by unfold maxLen; omega) (by omega) (by have := HW.out.size; simp; omega) ?_; intro v2 w4 hown2 hgrow2 _)
          have HX9 : Hid (Below wr.heap.size wr (wr.alloc (.cells #[.int .u64 t] 35))) := Lib.hid (balloc (Below.refl _ _) _)
          have HO4 : Hid (w4.ownsRow w.heap.size 35 1 v2 (m + 1) ((lv.take (m + 1)).map (Value.int .u64))) := Lib.hid (by
            rw [take_snoc_nth HLML.out, HTN.out, List.map_append]
            exact hown2)
          have HK4 : Hid (KlAt w.heap.size u13 KL w4) := Lib.hid ⟨(own_below HK.out.own HX9.out).kept hgrow2 (own_apart (own_below HK.out.own HX9.out) (HO.out.alloc _) (by decide)), HK.out.ok⟩
          have HW4 : Hid (Below w.heap.size w w4) := Lib.hid (grownBy_below (balloc HW.out _) hgrow2 (fun k hk' => (HO.out.lt k hk').1))
          clear hown2 hgrow2 HX9 HO HK HW HLK
          obtain ⟨eb2, eo2, he2, hcel2⟩ := HES.out.below HW4.out m (by rw [HEL.out]; exact hlt)
          subst he2
          rw [HSS.out] at hcel2
          have l2 := lt_of_cell hcel2
          go_wp2_with fail
          refine (rhash1_any leafT s w4 (by decide) (by decide) (by have := HSZ.out; omega)).mono ?_
          rintro e w5 ⟨rfl, hb5⟩
          rw [HHD.out]
          clear hcel2 l2
          have HO5 : Hid (w5.ownsRow w.heap.size 35 1 v2 (m + 1) ((lv.take (m + 1)).map (Value.int .u64))) := Lib.hid (own_below HO4.out hb5)
          have HK5 : Hid (KlAt w.heap.size u13 KL w5) := Lib.hid (HK4.out.below hb5)
          have HW5 : Hid (Below w.heap.size w w5) := Lib.hid (bnext HW4.out hb5)
          have hkn : len KL ≤ 100 := by have := HKLN.out; omega
          clear hb5 HO4 HK4 HW4
          go_wp2_with (at_builtin; refine wpList_append_own _ rfl _ _ 64 rfl w.heap.size 67 j0 Plc.zero.val 2 24 Try.underlying64 hj HY0.out hy1 hy2 rfl (by decide) _ _ _ rfl (HK5.out.own.alloc _) ⟨w5.heap.size, 0, none⟩ 1 1 [.int .u64 t, .string D] rfl rfl (World.news_of_block (heap_alloc_new _ _)) (by intro u hu9; simp at hu9; rcases hu9 with rfl | rfl <;> rfl) (by unfold maxLen; omega) (by omega) (by have := HW5.out.size; simp; omega) ?_; intro v3 w6 hown3 hgrow3 _)
          have HX9 : Hid (Below w5.heap.size w5 (w5.alloc (.cells #[.int .u64 t, .string D] 67))) := Lib.hid (balloc (Below.refl _ _) _)
          have HO6 : Hid (w6.ownsRow w.heap.size 35 1 v2 (m + 1) ((lv.take (m + 1)).map (Value.int .u64))) := Lib.hid ((own_below HO5.out HX9.out).kept hgrow3 (own_apart (own_below HO5.out HX9.out) (HK5.out.own.alloc _) (by decide)))
          have HK6 : Hid (KlAt w.heap.size v3 (KL ++ [⟨t, D⟩]) w6) := Lib.hid (KlAt.snoc HK5.out.ok ⟨t, D⟩ hown3 ⟨HTB.out.1, HTB.out.2, HDZ9.out⟩)
          have HW6 : Hid (Below w.heap.size w w6) := Lib.hid (grownBy_below (balloc HW5.out _) hgrow3 (fun k hk' => (HK5.out.own.lt k hk').1))
          have HF6 : Hid (fndF (KL ++ [⟨t, D⟩]) = addF noF (lv.take (m + 1)) (leafD es)) := Lib.hid (by
            rw [fndF_snoc KL ⟨t, D⟩ HFR.out, addF_take _ _ _ m HLML.out, HTN.out, HLD9.out, HF.out])
          have HN6 : Hid (len (KL ++ [(⟨t, D⟩ : Plc)]) = m + 1) := Lib.hid (by rw [plc_len_snoc, HKLN.out])
          clear hown3 hgrow3 HX9 HO5 HK5 HW5 hkn
          go_wp2
          go_roundg (len ps - (m + 1))
          case rel => exact ⟨m + 1, _, by omega, by go_num, HN6.out, HO6, HK6, HF6, HW6⟩
          case measure => omega
        · obtain rfl : m = len ps := by omega
          have b0 : ¬ ((len ps : Nat) : Int) < len ps := by omega
          have HFZ : Hid (fndF KL = g0F lv es) := Lib.hid (by
            have h9 := HF.out
            rw [show lv.take (len ps) = lv by rw [← HLN.out, take_len]] at h9
            exact h9)
          have HOZ : Hid (wr.ownsRow w.heap.size 35 1 u12 (len ps) (lv.map (Value.int .u64))) := Lib.hid (by
            have h9 := HO.out
            rw [show lv.take (len ps) = lv by rw [← HLN.out, take_len]] at h9
            exact h9)
          obtain ⟨al, cl, rfl, hUl, _, _⟩ := own_u64 HOZ.out
          have HND := Lib.hid (refNeeds_any al cl lv (d : Nat) wr hUl (by rw [HLN.out]; exact HL100.out) HLU.out)
          rw [HNR.out] at HND
          have HKLN := Lib.hid hkl
          clear hUl HO HF HOZ hm hkl
          go_wp2_with fail
          refine HND.out.mono ?_
          rintro e w3 ⟨v, vals, rfl, hr1, hr2, hb3⟩
          obtain ⟨a3, cap3, rfl, _, _, _⟩ := rows2_of hr1 hr2
          obtain ⟨B2, hB2⟩ : ∃ B2, wr.heap.size = B2 := ⟨_, rfl⟩
          rw [hB2] at hr1 hr2
          have HL8 : Hid (Laid8 w3 B2 (.slice a3 (len rs) cap3) rs) := Lib.hid ⟨vals, hr1, hr2⟩
          have HK3 : Hid (KlAt w.heap.size u13 KL w3) := Lib.hid (HK.out.below hb3)
          have HW3 : Hid (Below w.heap.size w w3) := Lib.hid (bnext HW.out hb3)
          clear hr1 hr2 hB2 hb3 HND HK HW
          go_upto_region 20 with fail
          obtain ⟨W3, hW3⟩ : ∃ W3, W3 = w3 := ⟨_, rfl⟩
          subst hW3
          go_loopg [18, 17] (len rs) (fun g i v wz => ∃ m : Nat, g + m = len rs ∧ i = .int .i64 m ∧ v = .int .i64 (usedR rs m : Nat) ∧ wz = W3)
          case atStart => exact ⟨0, rfl, rfl, rfl, rfl⟩
          case round =>
            obtain ⟨m, hm, rfl, rfl, rfl⟩ := hrel
            have hr16 : len rs ≤ 16 := by have := HRL.out; have := HD16.out; omega
            by_cases hlt : m < len rs
            · have b1 : (m : Int) < len rs := by omega
              have b2 : ¬ len rs ≤ m := by omega
              obtain ⟨rb, ro, ra, rc, hra3, hrc, _, _⟩ := (laid8_rows HL8.out) m hlt
              subst hra3
              have l1 := lt_of_cell hrc
              have HN9 : Hid (usedR rs (m + 1) = usedR rs m + len (rnth rs m)) := Lib.hid (usedR_next rs m hlt)
              have hub : usedR rs m + len (rnth rs m) ≤ 1600 := by
                rw [← usedR_next rs m hlt]
                have := usedR_bd HNM.out (m + 1) (by omega)
                omega
              obtain ⟨u, hu⟩ : ∃ u, usedR rs m = u := ⟨_, rfl⟩
              obtain ⟨q, hq⟩ : ∃ q, len (rnth rs m) = q := ⟨_, rfl⟩
              rw [hu, hq] at hub HN9
              rw [hq] at hrc
              rw [hu]
              clear hu hq
              go_wp2
              go_roundg (len rs - (m + 1))
              case rel => exact ⟨m + 1, by omega, by go_num, by rw [HN9.out]; go_num, rfl⟩
              case measure => omega
            · obtain rfl : m = len rs := by omega
              have b1 : ¬ ((len rs : Nat) : Int) < len rs := by omega
              have hub : usedR rs (len rs) ≤ 1600 := by
                have := usedR_bd HNM.out (len rs) (Nat.le_refl _)
                omega
              obtain ⟨N, hN⟩ : ∃ N, usedR rs (len rs) = N := ⟨_, rfl⟩
              have HNN := Lib.hid hN
              rw [hN] at hub HNP ⊢
              have HUB := Lib.hid hub
              clear hN hub hm hr16
              by_cases hlt4 : len ds < N
              · have z1 : ((len ds : Nat) : Int) < ((N : Nat) : Int) := by omega
                have HE : Hid (rootE (nn : Nat) ps es ds = 4 ∧ rootS (nn : Nat) ps es ds = ⟨#[]⟩) := Lib.hid (by
                  have h9 : rootE (nn : Nat) ps es ds = 4 := by unfold rootE; rw [if_neg (fun h => h HARG.out), if_neg (by rw [HBADF.out]; simp), HNP.out, if_pos hlt4]
                  exact ⟨h9, by unfold rootS; rw [h9]; rfl⟩)
                clear hlt4
                go_wp2
                go_ret2
                exact ⟨by rw [HE.out.1, HE.out.2]; rfl, HW3.out⟩
              · have z1 : ¬ ((len ds : Nat) : Int) < ((N : Nat) : Int) := by omega
                by_cases hlt3 : N < len ds
                · have z2 : ((N : Nat) : Int) < ((len ds : Nat) : Int) := by omega
                  have HE : Hid (rootE (nn : Nat) ps es ds = 3 ∧ rootS (nn : Nat) ps es ds = ⟨#[]⟩) := Lib.hid (by
                    have h9 : rootE (nn : Nat) ps es ds = 3 := by unfold rootE; rw [if_neg (fun h => h HARG.out), if_neg (by rw [HBADF.out]; simp), HNP.out, if_neg hlt4, if_pos hlt3]
                    exact ⟨h9, by unfold rootS; rw [h9]; rfl⟩)
                  clear hlt4 hlt3
                  go_wp2
                  go_ret2
                  exact ⟨by rw [HE.out.1, HE.out.2]; rfl, HW3.out⟩
                · have z2 : ¬ ((N : Nat) : Int) < ((len ds : Nat) : Int) := by omega
                  have HEQ : Hid (len ds = N) := Lib.hid (by omega)
                  have HE : Hid (rootE (nn : Nat) ps es ds = 0 ∧ rootS (nn : Nat) ps es ds = kidF (rootG (g0F lv es) rs ds) 0) := Lib.hid (by
                    have h9 : rootE (nn : Nat) ps es ds = 0 := by unfold rootE; rw [if_neg (fun h => h HARG.out), if_neg (by rw [HBADF.out]; simp), HNP.out, if_neg hlt4, if_neg hlt3]
                    exact ⟨h9, by unfold rootS; rw [h9, if_pos rfl]; exact HDP.out⟩)
                  clear hlt4 hlt3
                  go_upto_region 28 with fail
                  clear z1 z2
                  have HF3 : Hid (fndF KL = rootT (g0F lv es) rs ds 0) := HFZ
                  have hk100 : len KL ≤ 100 + 100 * 0 := by have := HKLN.out; have := HL100.out; omega
                  clear HFZ HKLN
                  go_loopg [19, 13, 3] (len rs) (fun g i v p wz => ∃ (m : Nat) (KL : List Plc) (a' : Option Addr) (c' : Nat), g + m = len rs ∧ i = .int .i64 m ∧ p = .slice a' (len (ds.drop (usedR rs m))) c' ∧ len KL ≤ 100 + 100 * m ∧ Hid (KlAt w.heap.size v KL wz) ∧ Hid (fndF KL = rootT (g0F lv es) rs ds m) ∧ Hid (len (ds.drop (usedR rs m)) ≤ c' ∧ ∀ w9, Txts w9 da ds → Txts w9 a' (ds.drop (usedR rs m))) ∧ Hid (Laid8 wz B2 (.slice a3 (len rs) cap3) rs) ∧ Hid (Below w.heap.size w wz))
                  case atStart => exact ⟨0, KL, da, dc, rfl, rfl, rfl, hk100, HK3, HF3, Lib.hid ⟨HDC.out, fun _ h9 => h9⟩, HL8, HW3⟩
                  case round =>
                    clear HF3 hk100 HK3 HL8 HW3
                    obtain ⟨m, KL, a9, c9, hm, rfl, rfl, hkl, HK, HF, HTX, HL8, HW⟩ := hrel
                    have hr16 : len rs ≤ 16 := by have := HRL.out; have := HD16.out; omega
                    have hrd := HRL.out
                    by_cases hlt : m < len rs
                    · have b1 : (m : Int) < (d : Int) := by omega
                      obtain ⟨row, hrow⟩ : ∃ row, rnth rs m = row := ⟨_, rfl⟩
                      have HROW := Lib.hid hrow
                      have HRLN : Hid (len row ≤ 100) := Lib.hid (by rw [← hrow]; exact HNM.out m)
                      have HHM := Lib.hid hm
                      have HHL := Lib.hid hlt
                      have HKL9 := Lib.hid hkl
                      obtain ⟨u, hu⟩ : ∃ u, usedR rs m = u := ⟨_, rfl⟩
                      have HUU : Hid (usedR rs m = u) := Lib.hid hu
                      have HUT : Hid (u + len row ≤ len ds) := Lib.hid (by
                        have h1 := usedR_next rs m hlt
                        have h2 := usedR_le rs (m + 1)
                        rw [hrow, hu] at h1
                        rw [HEQ.out, ← HNN.out]
                        omega)
                      obtain ⟨GT, hGT⟩ : ∃ GT, rootT (g0F lv es) rs ds m = GT := ⟨_, rfl⟩
                      have HGT := Lib.hid hGT
                      have HFRR : Hid (∀ q, q < len row → addF GT (row.take q) (ds.drop u) (nth row q) = none) := Lib.hid (fun q hq => by
                        rw [← hGT, ← hrow, ← HRS.out]
                        have hd2 : m < d := by omega
                        refine fresh_row lv d (g0F lv es) ds (ds.drop u) (fun k => g0F_some lv es k) m hd2 q ?_
                        rw [HRS.out, hrow]; exact hq)
                      rw [hGT] at HF
                      rw [hu] at HTX ⊢
                      have HF0 : Hid (fndF KL = addF GT (row.take 0) (ds.drop u)) := Lib.hid (by rw [List.take_zero]; exact HF.out)
                      have hkl0 : len KL ≤ 100 + 100 * m + 0 := hkl
                      obtain ⟨GK, hGK⟩ : ∃ G, G = gk := ⟨_, rfl⟩
                      subst hGK
                      clear hrow hu hGT HF hm hlt hr16 hrd
                      go_upto_region 31 with fail
                      clear b1
                      go_loopg [20, 13, 3] (len row) (fun g j v p wz => ∃ (q : Nat) (KL : List Plc) (a' : Option Addr) (c' : Nat), g + q = len row ∧ j = .int .i64 q ∧ p = .slice a' (len (ds.drop (u + q))) c' ∧ len KL ≤ 100 + 100 * m + q ∧ Hid (KlAt w.heap.size v KL wz) ∧ Hid (fndF KL = addF GT (row.take q) (ds.drop u)) ∧ Hid (len (ds.drop (u + q)) ≤ c' ∧ ∀ w9, Txts w9 da ds → Txts w9 a' (ds.drop (u + q))) ∧ Hid (Laid8 wz B2 (.slice a3 (len rs) cap3) rs) ∧ Hid (Below w.heap.size w wz))
                      case atStart => exact ⟨0, KL, a9, c9, rfl, rfl, rfl, hkl0, HK, HF0, HTX, HL8, HW⟩
                      case round =>
                        clear hkl hkl0 HK HF0 HTX HL8 HW HKL9
                        clear KL a9 c9
                        obtain ⟨q, KL, a9, c9, hq, rfl, rfl, hkl, HK, HF, HTX, HL8, HW⟩ := hrel
                        have hr16 : len rs ≤ 16 := by have := HRL.out; have := HD16.out; omega
                        have hlt := HHL.out
                        have hr100 := HRLN.out
                        have bm : ¬ len rs ≤ m := by omega
                        have bmi : ¬ (len rs : Int) ≤ (m : Int) := by omega
                        obtain ⟨rb, ro, ra, rc, hra3, hrc, hru, _⟩ := (laid8_rows HL8.out) m hlt
                        subst hra3
                        rw [HROW.out] at hrc hru
                        have l1 := lt_of_cell hrc
                        by_cases hlq : q < len row
                        · have b1 : (q : Int) < len row := by omega
                          have bq : ¬ len row ≤ q := by omega
                          have bqi : ¬ (len row : Int) ≤ (q : Int) := by omega
                          obtain ⟨ub, uo, hua, hk⟩ := hru q hlq
                          subst hua
                          obtain ⟨t, ht⟩ : ∃ t, nth row q = t := ⟨_, rfl⟩
                          have HFT : Hid (fndF KL t = none) := Lib.hid (by rw [HF.out, ← ht]; exact HFRR.out q hlq)
                          rw [ht] at hk
                          have HTB : Hid (0 ≤ t ∧ t < 65536) := Lib.hid (by
                            have h1 : t ∈ rnth rs m := by rw [HROW.out, ← ht]; exact mem_nth hlq
                            rw [← HRS.out, ← HLV.out] at h1
                            exact row_bd HD16.out (by rw [← HRL.out]; exact hlt) h1)
                          have hut := HUT.out
                          have hdl : len (ds.drop (u + q)) = len ds - (u + q) := by rw [len_eq, List.length_drop]; rfl
                          obtain ⟨hc9, hta⟩ := HTX.out
                          obtain ⟨xb, xo, hxa, hdc⟩ := hta _ (HDS.out.below HW.out) 0 (by omega)
                          subst hxa
                          rw [tth_drop, Nat.add_zero, Nat.add_zero] at hdc
                          obtain ⟨D, hD⟩ : ∃ D, tth ds (u + q) = D := ⟨_, rfl⟩
                          rw [hD] at hdc
                          have HDD : Hid (D.size ≤ 1000) := Lib.hid (by
                            have h1 := of_decide_eq_false HBADF.out
                            have h2 : u + q < ds.length := by have : len ds = ds.length := rfl; omega
                            apply Classical.byContradiction
                            intro h3
                            exact h1 ⟨ds[u + q], List.getElem_mem h2, fun h4 => h3 (by rw [← hD, tth_eq ds (u + q) h2, h4]; omega)⟩)
                          have HTN : Hid (addF GT (row.take (q + 1)) (ds.drop u) = putF (addF GT (row.take q) (ds.drop u)) t D) := Lib.hid (by rw [addF_take _ _ _ q hlq, ht, tth_drop, hD])
                          obtain ⟨n9, hn9⟩ : ∃ n9, len (ds.drop (u + q)) = n9 := ⟨_, rfl⟩
                          have HN9 : Hid (0 < n9 ∧ n9 ≤ c9 ∧ len (ds.drop (u + (q + 1))) = n9 - 1) := Lib.hid (by rw [len_eq, List.length_drop]; have : len ds = ds.length := rfl; omega)
                          rw [hn9]
                          have b9 : ¬ n9 ≤ 0 := by omega
                          have b9i : (0 : Int) < (n9 : Int) := by omega
                          obtain ⟨KV, hKV⟩ : ∃ KV, u13 = KV := ⟨_, rfl⟩
                          rw [hKV] at HK ⊢
                          clear hKV ht hD hdl hut hc9 hru
                          go_upto_region 33 with fail
                          refine wp_region_tail 13 1000 (none) (phis [fun u _ => u = (KV), fun u _ => u = (.slice (some ⟨rb, ro, none⟩) (len rs) cap3), fun u _ => u = (.int .i64 (m : Nat)), fun u _ => u = (.pointer (some ⟨rb, ro + m, none⟩)), fun u _ => u = (.slice (some ⟨ub, uo, none⟩) (len row) rc), fun u _ => u = (.int .i64 (q : Nat)), fun u _ => u = (.pointer (some ⟨ub, uo + q, none⟩)), fun u _ => u = (.int .u64 t), fun u _ => u = (.slice (some ⟨xb, xo, none⟩) n9 c9), fun u _ => u = (.pointer (some ⟨xb, xo, none⟩)), fun u _ => u = (.string D), fun u _ => u = (.agg #[.int .u64 t, .string D]), fun uu w' => ∃ c, uu = .slice (some ⟨c, 0, none⟩) 1 1 ∧ w'.heap[c]? = some (.cells #[.int .u64 t, .string D] 67 (0, 0))]) rfl (by kernel_rfl) (by kernel_rfl) (mono_of ⟨mono_eq, mono_eq, mono_eq, mono_eq, mono_eq, mono_eq, mono_eq, mono_eq, mono_eq, mono_eq, mono_eq, mono_eq, ?m12, trivial⟩) (steps_of 13 ⟨?s0, ?s1, ?s2, ?s3, ?s4, ?s5, ?s6, ?s7, ?s8, ?s9, ?s10, ?s11, ?s12, trivial⟩) ?_
                          case m12 =>
                            exact ⟨fun uu w1 w2 h ⟨c, h1, h2⟩ => ⟨c, h1, ext_block h h2⟩, fun _ uu w1 w2 h ⟨c, h1, h2⟩ => ⟨c, h1, extB_block h (by simp) h2⟩⟩
                          case s0 =>
                            refine step_val (v := (KV)) (fun av wv hE hS hO hD => ?_) (fun _ => rfl)
                            have h13 : av.eval (.tmp 13) = (KV) := hO.2.2 13 rfl
                            have f13 := (ev_form av 13).symm.trans h13
                            refine ⟨rfl, ?_⟩
                            simp [go_sem, f13, bm, bmi, bq, bqi, b9, b9i]
                          case s1 =>
                            refine step_val (v := (.slice (some ⟨rb, ro, none⟩) (len rs) cap3)) (fun av wv hE hS hO hD => ?_) (fun _ => rfl)
                            have h16 : av.eval (.tmp 16) = (.slice (some ⟨rb, ro, none⟩) (len rs) cap3) := hO.2.2 16 rfl
                            have f16 := (ev_form av 16).symm.trans h16
                            refine ⟨rfl, ?_⟩
                            simp [go_sem, f16, bm, bmi, bq, bqi, b9, b9i]
                          case s2 =>
                            refine step_val (v := (.int .i64 (m : Nat))) (fun av wv hE hS hO hD => ?_) (fun _ => rfl)
                            have h19 : av.eval (.tmp 19) = (.int .i64 (m : Nat)) := hO.2.2 19 rfl
                            have f19 := (ev_form av 19).symm.trans h19
                            refine ⟨rfl, ?_⟩
                            simp [go_sem, f19, bm, bmi, bq, bqi, b9, b9i]
                          case s3 =>
                            refine step_val (v := (.pointer (some ⟨rb, ro + m, none⟩))) (fun av wv hE hS hO hD => ?_) (fun _ => rfl)
                            have d115 : av.eval (.tmp 115) = (.slice (some ⟨rb, ro, none⟩) (len rs) cap3) := hD.1 rfl _ rfl
                            have f115 := (ev_form av 115).symm.trans d115
                            have d116 : av.eval (.tmp 116) = (.int .i64 (m : Nat)) := hD.2.1 rfl _ rfl
                            have f116 := (ev_form av 116).symm.trans d116
                            refine ⟨rfl, ?_⟩
                            simp [go_sem, f115, f116, bm, bmi, bq, bqi, b9, b9i]
                          case s4 =>
                            refine step_val (v := (.slice (some ⟨ub, uo, none⟩) (len row) rc)) (fun av wv hE hS hO hD => ?_) (fun _ => rfl)
                            have d117 : av.eval (.tmp 117) = (.pointer (some ⟨rb, ro + m, none⟩)) := hD.1 rfl _ rfl
                            have f117 := (ev_form av 117).symm.trans d117
                            have hrc := extB_cell hE (by simp) hrc
                            have hk := extB_cell hE (by simp) hk
                            have hdc := extB_cell hE (by simp) hdc
                            refine ⟨rfl, ?_⟩
                            simp [go_sem, f117, hrc, hk, hdc, bm, bmi, bq, bqi, b9, b9i]
                          case s5 =>
                            refine step_val (v := (.int .i64 (q : Nat))) (fun av wv hE hS hO hD => ?_) (fun _ => rfl)
                            have h20 : av.eval (.tmp 20) = (.int .i64 (q : Nat)) := hO.2.2 20 rfl
                            have f20 := (ev_form av 20).symm.trans h20
                            refine ⟨rfl, ?_⟩
                            simp [go_sem, f20, bm, bmi, bq, bqi, b9, b9i]
                          case s6 =>
                            refine step_val (v := (.pointer (some ⟨ub, uo + q, none⟩))) (fun av wv hE hS hO hD => ?_) (fun _ => rfl)
                            have d118 : av.eval (.tmp 118) = (.slice (some ⟨ub, uo, none⟩) (len row) rc) := hD.1 rfl _ rfl
                            have f118 := (ev_form av 118).symm.trans d118
                            have d119 : av.eval (.tmp 119) = (.int .i64 (q : Nat)) := hD.2.1 rfl _ rfl
                            have f119 := (ev_form av 119).symm.trans d119
                            refine ⟨rfl, ?_⟩
                            simp [go_sem, f118, f119, bm, bmi, bq, bqi, b9, b9i]
                          case s7 =>
                            refine step_val (v := (.int .u64 t)) (fun av wv hE hS hO hD => ?_) (fun _ => rfl)
                            have d120 : av.eval (.tmp 120) = (.pointer (some ⟨ub, uo + q, none⟩)) := hD.1 rfl _ rfl
                            have f120 := (ev_form av 120).symm.trans d120
                            have hrc := extB_cell hE (by simp) hrc
                            have hk := extB_cell hE (by simp) hk
                            have hdc := extB_cell hE (by simp) hdc
                            refine ⟨rfl, ?_⟩
                            simp [go_sem, f120, hrc, hk, hdc, bm, bmi, bq, bqi, b9, b9i]
                          case s8 =>
                            refine step_val (v := (.slice (some ⟨xb, xo, none⟩) n9 c9)) (fun av wv hE hS hO hD => ?_) (fun _ => rfl)
                            have h3 : av.eval (.tmp 3) = (.slice (some ⟨xb, xo, none⟩) n9 c9) := hO.2.2 3 rfl
                            have f3 := (ev_form av 3).symm.trans h3
                            refine ⟨rfl, ?_⟩
                            simp [go_sem, f3, bm, bmi, bq, bqi, b9, b9i]
                          case s9 =>
                            refine step_val (v := (.pointer (some ⟨xb, xo, none⟩))) (fun av wv hE hS hO hD => ?_) (fun _ => rfl)
                            have d122 : av.eval (.tmp 122) = (.slice (some ⟨xb, xo, none⟩) n9 c9) := hD.1 rfl _ rfl
                            have f122 := (ev_form av 122).symm.trans d122
                            refine ⟨rfl, ?_⟩
                            simp [go_sem, f122, bm, bmi, bq, bqi, b9, b9i]
                          case s10 =>
                            refine step_val (v := (.string D)) (fun av wv hE hS hO hD => ?_) (fun _ => rfl)
                            have d123 : av.eval (.tmp 123) = (.pointer (some ⟨xb, xo, none⟩)) := hD.1 rfl _ rfl
                            have f123 := (ev_form av 123).symm.trans d123
                            have hrc := extB_cell hE (by simp) hrc
                            have hk := extB_cell hE (by simp) hk
                            have hdc := extB_cell hE (by simp) hdc
                            refine ⟨rfl, ?_⟩
                            simp [go_sem, f123, hrc, hk, hdc, bm, bmi, bq, bqi, b9, b9i]
                          case s11 =>
                            refine step_val (v := (.agg #[.int .u64 t, .string D])) (fun av wv hE hS hO hD => ?_) (fun _ => rfl)
                            have d121 : av.eval (.tmp 121) = (.int .u64 t) := hD.1 rfl _ rfl
                            have f121 := (ev_form av 121).symm.trans d121
                            have d124 : av.eval (.tmp 124) = (.string D) := hD.2.1 rfl _ rfl
                            have f124 := (ev_form av 124).symm.trans d124
                            refine ⟨rfl, ?_⟩
                            simp [go_sem, f121, f124, bm, bmi, bq, bqi, b9, b9i]
                          case s12 =>
                            refine step_wp (fun av wv hE hS hO hD => ?_)
                            have d125 : av.eval (.tmp 125) = (.agg #[.int .u64 t, .string D]) := hD.1 rfl _ rfl
                            have f125 := (ev_form av 125).symm.trans d125
                            refine ⟨rfl, ?_⟩
                            exact wp_of_run (v := .slice (some ⟨wv.heap.size, 0, none⟩) 1 1) (w' := wv.alloc (.cells #[.int .u64 t, .string D] 67)) (by simp [go_sem, f125]) ⟨_, rfl, es_of_ext (balloc (Ext_refl _) _), wv.heap.size, rfl, heap_alloc_new _ _⟩
                          intro a' w' hE hO hall
                          have hA := act_of_outer (ds := [114, 115, 116, 117, 118, 119, 120, 121, 122, 123, 124, 125, 126]) rfl hO (by kernel_rfl)
                          have e114 : (fun u _ => u = (KV)) (a'.eval (.tmp 114)) w' := hall.1 _ rfl
                          have e115 : (fun u _ => u = (.slice (some ⟨rb, ro, none⟩) (len rs) cap3)) (a'.eval (.tmp 115)) w' := hall.2.1 _ rfl
                          have e116 : (fun u _ => u = (.int .i64 (m : Nat))) (a'.eval (.tmp 116)) w' := hall.2.2.1 _ rfl
                          have e117 : (fun u _ => u = (.pointer (some ⟨rb, ro + m, none⟩))) (a'.eval (.tmp 117)) w' := hall.2.2.2.1 _ rfl
                          have e118 : (fun u _ => u = (.slice (some ⟨ub, uo, none⟩) (len row) rc)) (a'.eval (.tmp 118)) w' := hall.2.2.2.2.1 _ rfl
                          have e119 : (fun u _ => u = (.int .i64 (q : Nat))) (a'.eval (.tmp 119)) w' := hall.2.2.2.2.2.1 _ rfl
                          have e120 : (fun u _ => u = (.pointer (some ⟨ub, uo + q, none⟩))) (a'.eval (.tmp 120)) w' := hall.2.2.2.2.2.2.1 _ rfl
                          have e121 : (fun u _ => u = (.int .u64 t)) (a'.eval (.tmp 121)) w' := hall.2.2.2.2.2.2.2.1 _ rfl
                          have e122 : (fun u _ => u = (.slice (some ⟨xb, xo, none⟩) n9 c9)) (a'.eval (.tmp 122)) w' := hall.2.2.2.2.2.2.2.2.1 _ rfl
                          have e123 : (fun u _ => u = (.pointer (some ⟨xb, xo, none⟩))) (a'.eval (.tmp 123)) w' := hall.2.2.2.2.2.2.2.2.2.1 _ rfl
                          have e124 : (fun u _ => u = (.string D)) (a'.eval (.tmp 124)) w' := hall.2.2.2.2.2.2.2.2.2.2.1 _ rfl
                          have e125 : (fun u _ => u = (.agg #[.int .u64 t, .string D])) (a'.eval (.tmp 125)) w' := hall.2.2.2.2.2.2.2.2.2.2.2.1 _ rfl
                          have e126 : (fun uu w' => ∃ c, uu = .slice (some ⟨c, 0, none⟩) 1 1 ∧ w'.heap[c]? = some (.cells #[.int .u64 t, .string D] 67 (0, 0))) (a'.eval (.tmp 126)) w' := hall.2.2.2.2.2.2.2.2.2.2.2.2.1 _ rfl
                          obtain ⟨v126, hv126⟩ : ∃ v, a'.eval (.tmp 126) = v := ⟨_, rfl⟩
                          rw [hv126] at e126
                          simp only [List.foldl_cons, List.foldl_nil, Act.put, List.setIfInBounds_toArray, List.set_cons_succ, List.set_cons_zero, e114, e115, e116, e117, e118, e119, e120, e121, e122, e123, e124, e125, hv126] at hA
                          clear hO hall e114 e115 e116 e117 e118 e119 e120 e121 e122 e123 e124 e125 hv126
                          subst hA
                          have hX := of_drew hE
                          have HK2 := Lib.hid (HK.out.below hX)
                          have HL82 := Lib.hid (HL8.out.below hX)
                          have HW2 : Hid (Below w.heap.size w w') := Lib.hid (bnext HW.out hX)
                          obtain ⟨cb, rfl, hcb⟩ := e126
                          have HCB := Lib.hid hcb
                          clear hX hE hrc hk hdc bm bmi bq bqi b9 b9i l1 HK HL8 HW hcb
                          simp only [List.drop_succ_cons, List.drop_zero]
                          go_upto_region 34 with (at_builtin; refine wpList_append_own _ rfl _ _ 64 rfl w.heap.size 67 j0 Plc.zero.val 2 24 Try.underlying64 hj HY0.out hy1 hy2 rfl (by decide) _ _ _ rfl HK2.out.own ⟨cb, 0, none⟩ 1 1 [.int .u64 t, .string D] rfl rfl (World.news_of_block HCB.out) (by intro u hu9; simp at hu9; rcases hu9 with rfl | rfl <;> rfl) (by unfold maxLen; omega) (by omega) HW2.out.size ?_; intro v3 w6 hown3 hgrow3 _)
                          have HK6 : Hid (KlAt w.heap.size v3 (KL ++ [⟨t, D⟩]) w6) := Lib.hid (KlAt.snoc HK2.out.ok ⟨t, D⟩ hown3 ⟨HTB.out.1, HTB.out.2, HDD.out⟩)
                          have HW6 : Hid (Below w.heap.size w w6) := Lib.hid (grownBy_below HW2.out hgrow3 (fun k hk' => (HK2.out.own.lt k hk').1))
                          have HL86 : Hid (Laid8 w6 B2 (.slice (some ⟨rb, ro, none⟩) (len rs) cap3) rs) := Lib.hid (laid8_grow HL82.out HK2.out.own hgrow3)
                          have HF6 : Hid (fndF (KL ++ [⟨t, D⟩]) = addF GT (row.take (q + 1)) (ds.drop u)) := Lib.hid (by
                            rw [fndF_snoc KL ⟨t, D⟩ HFT.out, HTN.out, HF.out])
                          have HN6 : Hid (len (KL ++ [(⟨t, D⟩ : Plc)]) = len KL + 1) := Lib.hid (plc_len_snoc _ _)
                          clear hown3 hgrow3 HK2 HL82 HW2 HCB
                          have z1 : ¬ n9 ≤ 0 := by have := HN9.out; omega
                          have z2 : (0 : Int) < (n9 : Int) := by have := HN9.out; omega
                          have z3 : n9 ≤ c9 := HN9.out.2.1
                          have z4 : ¬ n9 < 1 := by omega
                          go_wp2_with fail
                          · skip
                            go_roundg (len row - (q + 1))
                            case rel => exact ⟨q + 1, _, some ⟨xb, xo, none⟩, 0, by omega, by go_num, by rw [HN9.out.2.2], by rw [HN6.out]; omega, HK6, HF6, Lib.hid ⟨by rw [HN9.out.2.2]; omega, fun w9 h9 => by
                              rw [show ds.drop (u + (q + 1)) = [] from List.eq_nil_of_length_eq_zero (by have h8 := HN9.out.2.2; rw [len_eq] at h8; omega)]
                              exact Txts.nil _ _⟩, HL86, HW6⟩
                            case measure => omega
                          · skip
                            go_roundg (len row - (q + 1))
                            case rel => exact ⟨q + 1, _, some ⟨xb, xo + 1, none⟩, c9 - 1, by omega, by go_num, by rw [HN9.out.2.2], by rw [HN6.out]; omega, HK6, HF6, Lib.hid ⟨by rw [HN9.out.2.2]; omega, fun w9 h9 => by
                              have h8 := txts_drop1 (hta w9 h9)
                              rw [List.drop_drop] at h8
                              exact h8⟩, HL86, HW6⟩
                            case measure => omega
                        · obtain rfl : q = len row := by omega
                          have b1 : ¬ ((len row : Nat) : Int) < len row := by omega
                          have hm := HHM.out
                          have HF6 : Hid (fndF KL = addF GT row (ds.drop u)) := Lib.hid (by have h9 := HF.out; rw [take_len] at h9; exact h9)
                          have HRT : Hid (rootT (g0F lv es) rs ds (m + 1) = overF (addF GT row (ds.drop u))) := Lib.hid (by rw [rootT_next _ _ _ m hlt, HGT.out, HROW.out, HUU.out])
                          have HUN : Hid (usedR rs (m + 1) = u + len row) := Lib.hid (by rw [usedR_next rs m hlt, HUU.out, HROW.out])
                          obtain ⟨H9, hH9⟩ : ∃ H9, addF GT row (ds.drop u) = H9 := ⟨_, rfl⟩
                          rw [hH9] at HF6 HRT
                          obtain ⟨Z, hZ⟩ : ∃ Z, Z = wr := ⟨_, rfl⟩
                          subst hZ
                          obtain ⟨B3, hB3⟩ : ∃ B3, Z.heap.size = B3 := ⟨_, rfl⟩
                          have HB3 : Hid (w.heap.size ≤ B3) := Lib.hid (by rw [← hB3]; exact HW.out.size)
                          have HKV := HK.out.plcs
                          obtain ⟨ka, kc, hkv, hkp⟩ := HKV
                          subst hkv
                          have HKP := Lib.hid hkp
                          have hklb : len KL ≤ 1800 := by have := HRLN.out; omega
                          have HKB := Lib.hid hklb
                          have HKQ := Lib.hid hkl
                          clear hH9 hkp hkl HF
                          go_upto_region 37 with fail
                          clear b1 hrc l1 bm bmi
                          go_loopg [22, 21] (len KL) (fun g i v wz => ∃ (j : Nat) (OL : List Plc), g + j = len KL ∧ i = .int .i64 j ∧ len OL ≤ j ∧ Hid (KlAt B3 v OL wz) ∧ Hid (fndF OL = resF (overF H9) ((KL.take j).map (fun x => x.K / 2))) ∧ Hid (Below Z.heap.size Z wz))
                          case atStart => exact ⟨0, [], rfl, rfl, Nat.le_refl _, Lib.hid (KlAt.nil _ _), Lib.hid (by rw [List.take_zero, List.map_nil, resF_nil]; rfl), Lib.hid (Below.refl _ _)⟩
                          case round =>
                            obtain ⟨j, OL, hj9, rfl, hol, HKO, HFO, HWO⟩ := hrel
                            have hkb := HKB.out
                            by_cases hlj : j < len KL
                            · have b1 : (j : Int) < len KL := by omega
                              have bj : ¬ len KL ≤ j := by omega
                              obtain ⟨kb, ko, hka, hcs⟩ := (HKP.out.below HWO.out) j hlj
                              subst hka
                              have c0 := hcs.c0
                              have l1 := lt_of_cell c0
                              obtain ⟨x, hx⟩ : ∃ x, plth KL j = x := ⟨_, rfl⟩
                              rw [hx] at c0
                              have hxo := HK.out.ok x (by rw [← hx, plth_eq KL j hlj]; exact List.getElem_mem _)
                              obtain ⟨kn, hkn⟩ : ∃ kn : Nat, x.K = (kn : Nat) := ⟨x.K.toNat, by omega⟩
                              rw [hkn] at c0
                              have HX := Lib.hid hx
                              clear hcs hx
                              go_upto_region 40 with fail
                              obtain ⟨pn, hpn⟩ : ∃ pn : Nat, kn / 2 = pn := ⟨_, rfl⟩
                              rw [show ((kn : Nat) : Int) / 2 = ((pn : Nat) : Int) by omega]
                              obtain ⟨oa, oc, hov, hop⟩ := HKO.out.plcs
                              subst hov
                              have HOP := Lib.hid hop
                              have HPN : Hid (x.K = ((kn : Nat) : Int) ∧ kn / 2 = pn ∧ kn < 65536) := Lib.hid (by omega)
                              have HXM : Hid (x ∈ KL) := Lib.hid (by rw [← HX.out, plth_eq KL j hlj]; exact List.getElem_mem _)
                              have HTK : Hid ((KL.take (j + 1)).map (fun x => x.K / 2) = (KL.take j).map (fun x => x.K / 2) ++ [((pn : Nat) : Int)]) := Lib.hid (by
                                have hj2 : j < KL.length := hlj
                                rw [List.take_succ_eq_append_getElem hj2, List.map_append, ← plth_eq KL j hj2, HX.out]
                                show _ ++ [x.K / 2] = _
                                rw [hkn, show ((kn : Nat) : Int) / 2 = ((pn : Nat) : Int) by omega])
                              have HPR : Hid (prIs H9 ((pn : Nat) : Int)) := Lib.hid (by
                                have h1 := fnd_mem KL x HXM.out
                                rw [HF6.out, hkn] at h1
                                unfold prIs
                                by_cases e : kn % 2 = 0
                                · left; rw [show 2 * ((pn : Nat) : Int) = ((kn : Nat) : Int) by omega]; exact h1
                                · right; rw [show 2 * ((pn : Nat) : Int) + 1 = ((kn : Nat) : Int) by omega]; exact h1)
                              have hol2 : len OL ≤ 1800 := by omega
                              have HOL2 := Lib.hid hol2
                              have HFA := Lib.hid (find_any OL ((pn : Nat) : Int) oa oc wr HOP.out (by omega))
                              obtain ⟨R, hR⟩ : ∃ R, kidF (fndF OL) ((pn : Nat) : Int) = R := ⟨_, rfl⟩
                              rw [hR] at HFA
                              clear hop hpn hkn hxo c0 l1 bj
                              by_cases hin : ((pn : Nat) : Int) ∈ (KL.take j).map (fun x => x.K / 2)
                              · have e1 : R.toList.isEmpty = false := fullT (by
                                  rw [← hR]
                                  unfold kidF
                                  rw [HFO.out, resF_in hin, over_some HPR.out]
                                  show (hashP nodeT _).size ≠ 0
                                  rw [hashP_size]; decide)
                                have HF7 : Hid (fndF OL = resF (overF H9) ((KL.take (j + 1)).map (fun x => x.K / 2))) := Lib.hid (by
                                  rw [HTK.out, HFO.out]
                                  funext k
                                  by_cases e : k ∈ (KL.take j).map (fun x => x.K / 2)
                                  · rw [resF_in e, resF_in (List.mem_append_left _ e)]
                                  · rw [resF_out e, resF_out (fun h9 => by
                                      rcases List.mem_append.1 h9 with h8 | h8
                                      · exact e h8
                                      · rw [List.mem_singleton] at h8; rw [h8] at e; exact e hin)])
                                clear hR hin
                                go_wp2_with fail
                                refine HFA.out.mono ?_
                                rintro e w2 ⟨rfl, hb2⟩
                                have HKO7 := Lib.hid (HKO.out.below hb2)
                                have HWO7 : Hid (Below Z.heap.size Z w2) := Lib.hid (bnext HWO.out hb2)
                                clear hb2
                                go_wp2
                                go_roundg (len KL - (j + 1))
                                case rel => exact ⟨j + 1, OL, by omega, by go_num, by omega, HKO7, HF7, HWO7⟩
                                case measure => omega
                              · have HON : Hid (fndF OL ((pn : Nat) : Int) = none) := Lib.hid (by rw [HFO.out, resF_out hin])
                                have e1 : R.toList.isEmpty = true := by
                                  rw [← hR]
                                  unfold kidF
                                  rw [HON.out]
                                  show ByteArray.empty.toList.isEmpty = true
                                  rw [ByteArray.toList_eq]
                                  rfl
                                obtain ⟨p0, hp0⟩ : ∃ p0 : Nat, 2 * pn = p0 := ⟨_, rfl⟩
                                obtain ⟨p1, hp1⟩ : ∃ p1 : Nat, 2 * pn + 1 = p1 := ⟨_, rfl⟩
                                have hpb := HPN.out
                                have f1 : IntKind.u64.wrap (2 * ((pn : Nat) : Int)) = ((p0 : Nat) : Int) := by rw [IntWalk.u64_in _ (by omega)]; omega
                                have f2 : IntKind.u64.wrap (((p0 : Nat) : Int) + 1) = ((p1 : Nat) : Int) := by rw [IntWalk.u64_in _ (by omega)]; omega
                                obtain ⟨X0, hX0⟩ : ∃ X0, kidF H9 (2 * ((pn : Nat) : Int)) = X0 := ⟨_, rfl⟩
                                obtain ⟨X1, hX1⟩ : ∃ X1, kidF H9 (2 * ((pn : Nat) : Int) + 1) = X1 := ⟨_, rfl⟩
                                have HK0 : Hid (kidF (fndF KL) ((p0 : Nat) : Int) = X0) := Lib.hid (by rw [HF6.out, ← hX0, ← hp0]; rfl)
                                have HK1 : Hid (kidF (fndF KL) ((p1 : Nat) : Int) = X1) := Lib.hid (by rw [HF6.out, ← hX1, ← hp1]; rfl)
                                have HXZ : Hid (X0.size ≤ 1000000 ∧ X1.size ≤ 1000000) := Lib.hid ⟨by rw [← HK0.out]; exact kl_small HK.out.ok _, by rw [← HK1.out]; exact kl_small HK.out.ok _⟩
                                obtain ⟨D, hD⟩ : ∃ D, hashP nodeT [X0, X1] = D := ⟨_, rfl⟩
                                have HOV : Hid (overF H9 ((pn : Nat) : Int) = some D) := Lib.hid (by rw [over_some HPR.out, hX0, hX1, hD])
                                have HDZ : Hid (D.size ≤ 1000) := Lib.hid (by rw [← hD, hashP_size]; omega)
                                have HHD := Lib.hid hD
                                have HPB : Hid (0 ≤ ((pn : Nat) : Int) ∧ ((pn : Nat) : Int) < 65536) := Lib.hid (by omega)
                                clear hR hin hp0 hp1 hX0 hX1 hD hpb
                                go_wp2_with fail
                                refine HFA.out.mono ?_
                                rintro e w2 ⟨rfl, hb2⟩
                                have HKO7 := Lib.hid (HKO.out.below hb2)
                                have HWO7 : Hid (Below Z.heap.size Z w2) := Lib.hid (bnext HWO.out hb2)
                                clear hb2 HFA
                                go_wp2_with fail
                                refine (find_any KL ((p0 : Nat) : Int) (some ⟨kb, ko, none⟩) kc w2 (HKP.out.below HWO7.out) (by omega)).mono ?_
                                rintro e w3 ⟨rfl, hb3⟩
                                rw [HK0.out]
                                have HKO8 := Lib.hid (HKO7.out.below hb3)
                                have HWO8 : Hid (Below Z.heap.size Z w3) := Lib.hid (bnext HWO7.out hb3)
                                clear hb3 HKO7 HWO7
                                go_wp2_with fail
                                refine (find_any KL ((p1 : Nat) : Int) (some ⟨kb, ko, none⟩) kc w3 (HKP.out.below HWO8.out) (by omega)).mono ?_
                                rintro e w4 ⟨rfl, hb4⟩
                                rw [HK1.out]
                                have HKO9 := Lib.hid (HKO8.out.below hb4)
                                have HWO9 : Hid (Below Z.heap.size Z w4) := Lib.hid (bnext HWO8.out hb4)
                                clear hb4 HKO8 HWO8 f1 f2
                                go_wp2_with fail
                                refine (rhash2_any nodeT X0 X1 w4 (by decide) (by decide) HXZ.out.1 HXZ.out.2).mono ?_
                                rintro e w5 ⟨rfl, hb5⟩
                                rw [HHD.out]
                                have HKOA := Lib.hid (HKO9.out.below hb5)
                                have HWOA : Hid (Below Z.heap.size Z w5) := Lib.hid (bnext HWO9.out hb5)
                                have hbs : B3 ≤ w5.heap.size := by rw [← hB3]; exact HWOA.out.size
                                have HBS := Lib.hid hbs
                                clear hb5 HKO9 HWO9 hbs
                                go_wp2_with (at_builtin; refine wpList_append_own _ rfl _ _ 64 rfl B3 67 j0 Plc.zero.val 2 24 Try.underlying64 hj HY0.out hy1 hy2 rfl (by decide) _ _ _ rfl (HKOA.out.own.alloc _) ⟨w5.heap.size, 0, none⟩ 1 1 [.int .u64 ((pn : Nat) : Int), .string D] rfl rfl (World.news_of_block (heap_alloc_new _ _)) (by intro u hu9; simp at hu9; rcases hu9 with rfl | rfl <;> rfl) (by unfold maxLen; omega) (by omega) (by have := HBS.out; simp; omega) ?_; intro v3 w6 hown3 hgrow3 _)
                                have HKOB : Hid (KlAt B3 v3 (OL ++ [⟨((pn : Nat) : Int), D⟩]) w6) := Lib.hid (KlAt.snoc HKOA.out.ok ⟨((pn : Nat) : Int), D⟩ hown3 ⟨HPB.out.1, HPB.out.2, HDZ.out⟩)
                                have HWOB : Hid (Below Z.heap.size Z w6) := Lib.hid (grownBy_below (balloc HWOA.out _) hgrow3 (fun k hk' => by have := (HKOA.out.own.lt k hk').1; rw [hB3]; exact this))
                                have HFOB : Hid (fndF (OL ++ [⟨((pn : Nat) : Int), D⟩]) = resF (overF H9) ((KL.take (j + 1)).map (fun x => x.K / 2))) := Lib.hid (by
                                  rw [fndF_snoc OL ⟨((pn : Nat) : Int), D⟩ HON.out, HTK.out, resF_snoc _ HOV.out, HFO.out])
                                have HNOB : Hid (len (OL ++ [(⟨((pn : Nat) : Int), D⟩ : Plc)]) = len OL + 1) := Lib.hid (plc_len_snoc _ _)
                                clear hown3 hgrow3 HKOA HWOA
                                go_wp2
                                go_roundg (len KL - (j + 1))
                                case rel => exact ⟨j + 1, _, by omega, by go_num, by rw [HNOB.out]; omega, HKOB, HFOB, HWOB⟩
                                case measure => omega
                            · obtain rfl : j = len KL := by omega
                              have b1 : ¬ ((len KL : Nat) : Int) < len KL := by omega
                              have HFZ : Hid (fndF OL = rootT (g0F lv es) rs ds (m + 1)) := Lib.hid (by
                                rw [HRT.out, HFO.out, plc_take]
                                apply resF_all
                                intro k hk
                                have hk2 := (overF_some H9 k).1 hk
                                rw [← HF6.out] at hk2
                                rcases hk2 with h1 | h1
                                · obtain ⟨x, hx, e⟩ := fnd_key KL _ h1
                                  exact List.mem_map.2 ⟨x, hx, by rw [e]; omega⟩
                                · obtain ⟨x, hx, e⟩ := fnd_key KL _ h1
                                  exact List.mem_map.2 ⟨x, hx, by rw [e]; omega⟩)
                              have HKZ : Hid (KlAt w.heap.size u21 OL wr) := Lib.hid ⟨own_lower HKO.out.own HB3.out, HKO.out.ok⟩
                              have HL8Z : Hid (Laid8 wr B2 (.slice (some ⟨rb, ro, none⟩) (len rs) cap3) rs) := Lib.hid (HL8.out.below HWO.out)
                              have HWZ : Hid (Below w.heap.size w wr) := Lib.hid (bnext HW.out HWO.out)
                              have hkq := HKQ.out
                              have hrl9 := HRLN.out
                              go_wp2
                              go_roundg (len rs - (m + 1))
                              case rel => exact ⟨m + 1, OL, a9, c9, by omega, by go_num, by rw [HUN.out], by omega, HKZ, HFZ, Lib.hid (by rw [HUN.out]; exact HTX.out), HL8Z, HWZ⟩
                              case measure => omega
                    · obtain rfl : m = len rs := by omega
                      have b1 : ¬ ((len rs : Nat) : Int) < (d : Int) := by omega
                      obtain ⟨ka, kc, hkv, hkp⟩ := HK.out.plcs
                      subst hkv
                      have HFD := Lib.hid (find_any KL 0 ka kc wr hkp (by omega))
                      have HFE : Hid (kidF (fndF KL) 0 = rootS (nn : Nat) ps es ds) := Lib.hid (by
                        rw [HE.out.2, HF.out]
                        unfold rootT
                        rw [take_len])
                      rw [HFE.out] at HFD
                      clear hkp hkl
                      go_wp2_with fail
                      refine HFD.out.mono ?_
                      rintro e w2 ⟨rfl, hb2⟩
                      have HW2 : Hid (Below w.heap.size w w2) := Lib.hid (bnext HW.out hb2)
                      clear hb2
                      go_wp2
                      go_ret2
                      exact ⟨by rw [HE.out.1]; rfl, HW2.out⟩
end Go.Proofs.Ytloccahcnikbfaa
namespace Go.Proofs.Ytloccahcnikbfaa
open Go.RowKit
set_option linter.unusedSimpArgs false
set_option linter.unusedVariables false
theorem own_ge {base : Nat} {w : World} {e size n : Nat} {v : Value} {xs : List Value} (h : w.ownsRow base e size v n xs) {b : Nat} (hb : w.heap.size ≤ b) : some b ≠ v.ownBlock := fun e => by
  have := h.lt b e.symm; omega
theorem own_lo {base : Nat} {w : World} {e size n : Nat} {v : Value} {xs : List Value} (h : w.ownsRow base e size v n xs) {b : Nat} (hb : b < base) : some b ≠ v.ownBlock := fun e => by
  have := h.lt b e.symm; omega
end Go.Proofs.Ytloccahcnikbfaa
namespace Go.Proofs.Ytloccahcnikbfaa
open Go.RowKit
set_option linter.unusedSimpArgs false
set_option linter.unusedVariables false
def cut60 (s : ByteArray) : ByteArray := s.extract 0 (min s.size 60)
def cutL (l : List ByteArray) (n : Nat) : List ByteArray := (l.take n).map cut60
theorem cutL_snoc (l : List ByteArray) (m : Nat) (h : m < len l) : cutL l (m + 1) = cutL l m ++ [cut60 (tth l m)] := by
  have h2 : m < l.length := h
  unfold cutL
  rw [List.take_succ_eq_append_getElem h2, List.map_append, tth_eq l m h]
  rfl
theorem cutL_len (l : List ByteArray) (n : Nat) : len (cutL l n) ≤ n ∧ len (cutL l n) ≤ len l := by
  unfold cutL
  rw [len_eq, List.length_map, List.length_take]
  have : len l = l.length := rfl
  omega
theorem cutL_all (l : List ByteArray) {n m : Nat} (h : len l ≤ m) (h2 : len l ≤ n) : cutL l n = cutL l m := by
  unfold cutL
  rw [List.take_of_length_le h2, List.take_of_length_le h]
theorem cut60_size (s : ByteArray) : (cut60 s).size ≤ 60 := by unfold cut60; rw [ByteArray.size_extract]; omega
theorem cutL_size (l : List ByteArray) (n i : Nat) (h : i < len (cutL l n)) : (tth (cutL l n) i).size ≤ 60 := by
  have h1 : tth (cutL l n) i ∈ cutL l n := by rw [tth_eq _ i h]; exact List.getElem_mem _
  unfold cutL at h1 ⊢
  obtain ⟨x, _, e⟩ := List.mem_map.1 h1
  rw [← e]
  exact cut60_size _
def CutIs (l : List ByteArray) (n : Nat) (w : World) (e : Ending) (w' : World) : Prop := ∃ v, e = .returned v ∧ w'.ownsRow w.heap.size 9 1 v (len (cutL l n)) ((cutL l n).map Value.string) ∧ Below w.heap.size w w'
set_option maxRecDepth 100000 in
set_option maxHeartbeats 4000000 in
theorem cut_any (l : List ByteArray) (n : Nat) (a : Option Addr) (cap : Nat) (w : World) (hnn : n ≤ 100) (hl : Txts w a l) (hn : len l ≤ 9223372036854775807) : Calls Try.prog 10 #[.slice a (len l) cap, .int .i64 (n : Nat)] w (CutIs l n w) := by
  have HL := Lib.hid hl
  have HN := Lib.hid hn
  have HNN := Lib.hid hnn
  obtain ⟨i0, hi, hz0, hz1, hz2⟩ := info_parts info_str
  have HZ := Lib.hid hz0
  clear hl hn hz0 hnn
  go_enter Try.func10, Try.ntmps10
  go_wp2
  go_loopg [6, 5] n (fun g i v wr => ∃ (m : Nat) (L : List ByteArray), g + m = n ∧ i = .int .i64 m ∧ Hid (wr.ownsRow w.heap.size 9 1 v (len L) (L.map Value.string)) ∧ Hid (L = cutL l m ∧ len L ≤ m) ∧ Hid (Below w.heap.size w wr))
  case atStart => exact ⟨0, [], rfl, rfl, Lib.hid (World.ownsRow_nil _ _ _ _), Lib.hid ⟨rfl, Nat.le_refl _⟩, Lib.hid (Below.refl _ _)⟩
  case round =>
    obtain ⟨m, L, hm, rfl, HO, HI, HW⟩ := hrel
    have hnb := HNN.out
    by_cases hlt : m < len l
    · by_cases h40 : m < n
      · have b0 : (m : Int) < len l := by omega
        have b1 : (m : Int) < n := by omega
        obtain ⟨pb, po, rfl, cs⟩ := (HL.out.below HW.out) m hlt
        have hpl : pb < w.heap.size := by
          obtain ⟨b9, o9, e9, h9⟩ := HL.out m hlt
          cases e9
          exact lt_of_cell h9
        have hne : some pb ≠ u5.ownBlock := own_lo HO.out hpl
        obtain ⟨x, hx⟩ : ∃ x, tth l m = x := ⟨_, rfl⟩
        rw [hx] at cs
        obtain ⟨k, hk⟩ : ∃ k : Nat, min x.size 60 = k := ⟨_, rfl⟩
        have HK : Hid (k ≤ 60 ∧ k ≤ x.size ∧ cut60 x = x.extract 0 k) := Lib.hid ⟨by omega, by omega, by unfold cut60; rw [hk]⟩
        have kx : ¬ x.size < k := by omega
        have mk : min ((x.size : Nat) : Int) 60 = ((k : Nat) : Int) := by omega
        have bl : ¬ len l ≤ m := by omega
        have hil := HI.out.2
        have HXX := Lib.hid hx
        have HM40 := Lib.hid h40
        have HMLT := Lib.hid hlt
        clear hx hk
        go_upto_region 5 with fail
        refine wp_region_tail 14 13 (u5.ownBlock) (phis [fun u _ => u = (u5), fun u _ => u = (.slice (some ⟨pb, po, none⟩) (len l) cap), fun u _ => u = (.int .i64 (m : Nat)), fun u _ => u = (.pointer (some ⟨pb, po + m, none⟩)), fun u _ => u = (.string x), fun u _ => u = (.slice (some ⟨pb, po, none⟩) (len l) cap), fun u _ => u = (.int .i64 (m : Nat)), fun u _ => u = (.pointer (some ⟨pb, po + m, none⟩)), fun u _ => u = (.string x), fun u _ => u = (.int .i64 (x.size : Nat)), fun u _ => u = (.int .i64 (k : Nat)), fun u _ => u = (.string (x.extract 0 k)), fun u w' => ∃ b, u = .slice (some ⟨b, 0, none⟩) 1 1 ∧ some b ≠ u5.ownBlock ∧ w'.heap[b]? = some (.cells #[.string (x.extract 0 k)] 9 (0, 0)), fun u w' => w'.ownsRow w.heap.size 9 1 u (len L + 1) (L.map Value.string ++ [.string (x.extract 0 k)])]) rfl (by kernel_rfl) (by kernel_rfl) (mono_of ⟨mono_eq, mono_eq, mono_eq, mono_eq, mono_eq, mono_eq, mono_eq, mono_eq, mono_eq, mono_eq, mono_eq, mono_eq, ?m12, ?m13, trivial⟩) (steps_of 14 ⟨?s0, ?s1, ?s2, ?s3, ?s4, ?s5, ?s6, ?s7, ?s8, ?s9, ?s10, ?s11, ?s12, ?s13, trivial⟩) ?_
        case m12 =>
          exact ⟨fun u w1 w' h ⟨b, h1, hb, hb'⟩ => ⟨b, h1, hb, ext_block h hb'⟩, fun _ u w1 w' h ⟨b, h1, hb, hb'⟩ => ⟨b, h1, hb, extB_block h hb hb'⟩⟩
        case m13 =>
          exact ⟨fun u w1 w' h hu => own_below hu h, fun hn => absurd rfl hn⟩
        case s0 =>
          refine step_val (v := (u5)) (fun av wv hE hS hO hD => ?_) (fun _ => rfl)
          have h5 : av.eval (.tmp 5) = (u5) := hO.2.2 5 rfl
          have f5 := (ev_form av 5).symm.trans h5
          refine ⟨rfl, ?_⟩
          simp [go_sem, f5, bl, mk, kx]
        case s1 =>
          refine step_val (v := (.slice (some ⟨pb, po, none⟩) (len l) cap)) (fun av wv hE hS hO hD => ?_) (fun _ => rfl)
          have h0 : av.eval (.tmp 0) = (.slice (some ⟨pb, po, none⟩) (len l) cap) := hO.2.2 0 rfl
          have f0 := (ev_form av 0).symm.trans h0
          refine ⟨rfl, ?_⟩
          simp [go_sem, f0, bl, mk, kx]
        case s2 =>
          refine step_val (v := (.int .i64 (m : Nat))) (fun av wv hE hS hO hD => ?_) (fun _ => rfl)
          have h6 : av.eval (.tmp 6) = (.int .i64 (m : Nat)) := hO.2.2 6 rfl
          have f6 := (ev_form av 6).symm.trans h6
          refine ⟨rfl, ?_⟩
          simp [go_sem, f6, bl, mk, kx]
        case s3 =>
          refine step_val (v := (.pointer (some ⟨pb, po + m, none⟩))) (fun av wv hE hS hO hD => ?_) (fun _ => rfl)
          have d19 : av.eval (.tmp 19) = (.slice (some ⟨pb, po, none⟩) (len l) cap) := hD.1 rfl _ rfl
          have f19 := (ev_form av 19).symm.trans d19
          have d20 : av.eval (.tmp 20) = (.int .i64 (m : Nat)) := hD.2.1 rfl _ rfl
          have f20 := (ev_form av 20).symm.trans d20
          refine ⟨rfl, ?_⟩
          simp [go_sem, f19, f20, bl, mk, kx]
        case s4 =>
          refine step_val (v := (.string x)) (fun av wv hE hS hO hD => ?_) (fun _ => rfl)
          have d21 : av.eval (.tmp 21) = (.pointer (some ⟨pb, po + m, none⟩)) := hD.1 rfl _ rfl
          have f21 := (ev_form av 21).symm.trans d21
          have cs := extB_cell hE hne cs
          refine ⟨rfl, ?_⟩
          simp [go_sem, f21, cs, bl, mk, kx]
        case s5 =>
          refine step_val (v := (.slice (some ⟨pb, po, none⟩) (len l) cap)) (fun av wv hE hS hO hD => ?_) (fun _ => rfl)
          have h0 : av.eval (.tmp 0) = (.slice (some ⟨pb, po, none⟩) (len l) cap) := hO.2.2 0 rfl
          have f0 := (ev_form av 0).symm.trans h0
          refine ⟨rfl, ?_⟩
          simp [go_sem, f0, bl, mk, kx]
        case s6 =>
          refine step_val (v := (.int .i64 (m : Nat))) (fun av wv hE hS hO hD => ?_) (fun _ => rfl)
          have h6 : av.eval (.tmp 6) = (.int .i64 (m : Nat)) := hO.2.2 6 rfl
          have f6 := (ev_form av 6).symm.trans h6
          refine ⟨rfl, ?_⟩
          simp [go_sem, f6, bl, mk, kx]
        case s7 =>
          refine step_val (v := (.pointer (some ⟨pb, po + m, none⟩))) (fun av wv hE hS hO hD => ?_) (fun _ => rfl)
          have d23 : av.eval (.tmp 23) = (.slice (some ⟨pb, po, none⟩) (len l) cap) := hD.1 rfl _ rfl
          have f23 := (ev_form av 23).symm.trans d23
          have d24 : av.eval (.tmp 24) = (.int .i64 (m : Nat)) := hD.2.1 rfl _ rfl
          have f24 := (ev_form av 24).symm.trans d24
          refine ⟨rfl, ?_⟩
          simp [go_sem, f23, f24, bl, mk, kx]
        case s8 =>
          refine step_val (v := (.string x)) (fun av wv hE hS hO hD => ?_) (fun _ => rfl)
          have d25 : av.eval (.tmp 25) = (.pointer (some ⟨pb, po + m, none⟩)) := hD.1 rfl _ rfl
          have f25 := (ev_form av 25).symm.trans d25
          have cs := extB_cell hE hne cs
          refine ⟨rfl, ?_⟩
          simp [go_sem, f25, cs, bl, mk, kx]
        case s9 =>
          refine step_val (v := (.int .i64 (x.size : Nat))) (fun av wv hE hS hO hD => ?_) (fun _ => rfl)
          have d26 : av.eval (.tmp 26) = (.string x) := hD.1 rfl _ rfl
          have f26 := (ev_form av 26).symm.trans d26
          refine ⟨rfl, ?_⟩
          simp [go_sem, f26, bl, mk, kx]
        case s10 =>
          refine step_val (v := (.int .i64 (k : Nat))) (fun av wv hE hS hO hD => ?_) (fun _ => rfl)
          have d27 : av.eval (.tmp 27) = (.int .i64 (x.size : Nat)) := hD.1 rfl _ rfl
          have f27 := (ev_form av 27).symm.trans d27
          refine ⟨rfl, ?_⟩
          simp [go_sem, f27, bl, mk, kx]
        case s11 =>
          refine step_val (v := (.string (x.extract 0 k))) (fun av wv hE hS hO hD => ?_) (fun _ => rfl)
          have d22 : av.eval (.tmp 22) = (.string x) := hD.1 rfl _ rfl
          have f22 := (ev_form av 22).symm.trans d22
          have d28 : av.eval (.tmp 28) = (.int .i64 (k : Nat)) := hD.2.1 rfl _ rfl
          have f28 := (ev_form av 28).symm.trans d28
          refine ⟨rfl, ?_⟩
          simp [go_sem, f22, f28, bl, mk, kx]
        case s12 =>
          refine step_wp (fun av wv hE hS hO hD => ?_)
          have d29 : av.eval (.tmp 29) = (.string (x.extract 0 k)) := hD.1 rfl _ rfl
          have f29 := (ev_form av 29).symm.trans d29
          refine ⟨rfl, ?_⟩
          refine wp_of_run (v := .slice (some ⟨wv.heap.size, 0, none⟩) 1 1) (w' := wv.alloc (.cells #[.string (x.extract 0 k)] 9)) (by simp [go_sem, f29]) ⟨_, rfl, es_of_ext (balloc (Ext_refl _) _), wv.heap.size, rfl, ?_, heap_alloc_new _ _⟩
          exact own_ge HO.out (by have := hE.size; simp at this; omega)
        case s13 =>
          refine step_wp (fun av wv hE hS hO hD => ?_)
          have d18 : av.eval (.tmp 18) = (u5) := hD.1 rfl _ rfl
          have f18 := (ev_form av 18).symm.trans d18
          have d30 : (fun u w' => ∃ b, u = .slice (some ⟨b, 0, none⟩) 1 1 ∧ some b ≠ u5.ownBlock ∧ w'.heap[b]? = some (.cells #[.string (x.extract 0 k)] 9 (0, 0))) (av.eval (.tmp 30)) wv := hD.2.1 rfl _ rfl
          refine ⟨rfl, ?_⟩
          obtain ⟨b27, h27, hb27, hc27⟩ := d30
          have hown1 : wv.ownsRow w.heap.size 9 1 u5 (len L) (L.map Value.string) := own_below (w := wr.drew) HO.out (hS rfl)
          refine wp_append_lies wv _ _ _ rfl w.heap.size 9 i0 (.string ⟨#[]⟩) 1 16 Try.underlying23 hi HZ.out hz1 hz2 rfl (by decide) u5 (len L) _ d18 hown1 ⟨b27, 0, none⟩ 1 1 [.string (x.extract 0 k)] (by exact h27) rfl (World.news_of_block hc27) (by intro u hu; simp at hu; rcases hu with rfl; rfl) (by decide) (by unfold maxLen; omega) (by omega) (by have := hE.size; have := HW.out.size; simp at *; omega) _ rfl ?_
          intro g2 cap2 w2 hown2 hgrow hat hlt2
          exact ⟨_, rfl, es_sp hgrow, hown2⟩
        intro a' w' hE hO hall
        have hA := act_of_outer (ds := [18, 19, 20, 21, 22, 23, 24, 25, 26, 27, 28, 29, 30, 31]) rfl hO (by kernel_rfl)
        have e18 : (fun u _ => u = (u5)) (a'.eval (.tmp 18)) w' := hall.1 _ rfl
        have e19 : (fun u _ => u = (.slice (some ⟨pb, po, none⟩) (len l) cap)) (a'.eval (.tmp 19)) w' := hall.2.1 _ rfl
        have e20 : (fun u _ => u = (.int .i64 (m : Nat))) (a'.eval (.tmp 20)) w' := hall.2.2.1 _ rfl
        have e21 : (fun u _ => u = (.pointer (some ⟨pb, po + m, none⟩))) (a'.eval (.tmp 21)) w' := hall.2.2.2.1 _ rfl
        have e22 : (fun u _ => u = (.string x)) (a'.eval (.tmp 22)) w' := hall.2.2.2.2.1 _ rfl
        have e23 : (fun u _ => u = (.slice (some ⟨pb, po, none⟩) (len l) cap)) (a'.eval (.tmp 23)) w' := hall.2.2.2.2.2.1 _ rfl
        have e24 : (fun u _ => u = (.int .i64 (m : Nat))) (a'.eval (.tmp 24)) w' := hall.2.2.2.2.2.2.1 _ rfl
        have e25 : (fun u _ => u = (.pointer (some ⟨pb, po + m, none⟩))) (a'.eval (.tmp 25)) w' := hall.2.2.2.2.2.2.2.1 _ rfl
        have e26 : (fun u _ => u = (.string x)) (a'.eval (.tmp 26)) w' := hall.2.2.2.2.2.2.2.2.1 _ rfl
        have e27 : (fun u _ => u = (.int .i64 (x.size : Nat))) (a'.eval (.tmp 27)) w' := hall.2.2.2.2.2.2.2.2.2.1 _ rfl
        have e28 : (fun u _ => u = (.int .i64 (k : Nat))) (a'.eval (.tmp 28)) w' := hall.2.2.2.2.2.2.2.2.2.2.1 _ rfl
        have e29 : (fun u _ => u = (.string (x.extract 0 k))) (a'.eval (.tmp 29)) w' := hall.2.2.2.2.2.2.2.2.2.2.2.1 _ rfl
        have e30 : (fun u w' => ∃ b, u = .slice (some ⟨b, 0, none⟩) 1 1 ∧ some b ≠ u5.ownBlock ∧ w'.heap[b]? = some (.cells #[.string (x.extract 0 k)] 9 (0, 0))) (a'.eval (.tmp 30)) w' := hall.2.2.2.2.2.2.2.2.2.2.2.2.1 _ rfl
        have e31 : (fun u w' => w'.ownsRow w.heap.size 9 1 u (len L + 1) (L.map Value.string ++ [.string (x.extract 0 k)])) (a'.eval (.tmp 31)) w' := hall.2.2.2.2.2.2.2.2.2.2.2.2.2.1 _ rfl
        obtain ⟨v30, hv30⟩ : ∃ v, a'.eval (.tmp 30) = v := ⟨_, rfl⟩
        rw [hv30] at e30
        obtain ⟨v31, hv31⟩ : ∃ v, a'.eval (.tmp 31) = v := ⟨_, rfl⟩
        rw [hv31] at e31
        simp only [List.foldl_cons, List.foldl_nil, Act.put, List.setIfInBounds_toArray, List.set_cons_succ, List.set_cons_zero, e18, e19, e20, e21, e22, e23, e24, e25, e26, e27, e28, e29, hv30, hv31] at hA
        clear hO hall e18 e19 e20 e21 e22 e23 e24 e25 e26 e27 e28 e29 hv30 hv31
        subst hA
        have HO2 : Hid (w'.ownsRow w.heap.size 9 1 v31 (len (L ++ [x.extract 0 k])) ((L ++ [x.extract 0 k]).map Value.string)) := Lib.hid (by
          have e9 : len (L ++ [x.extract 0 k]) = len L + 1 := by rw [len_eq, List.length_append]; rfl
          rw [List.map_append, e9]
          exact e31)
        have HW2 : Hid (Below w.heap.size w w') := Lib.hid (grownBy_below (bdrew HW.out) hE (fun k9 hk' => (HO.out.lt k9 hk').1))
        have HI2 : Hid (L ++ [x.extract 0 k] = cutL l (m + 1) ∧ len (L ++ [x.extract 0 k]) ≤ m + 1) := Lib.hid ⟨by rw [cutL_snoc l m HMLT.out, HXX.out, HK.out.2.2, HI.out.1], by rw [len_eq, List.length_append]; have h9 := HI.out.2; rw [len_eq] at h9; show L.length + 1 ≤ _; omega⟩
        clear e30 e31 hE cs bl mk kx hil hne
        go_wp2
        go_roundg (n - (m + 1))
        case rel => exact ⟨m + 1, L ++ [x.extract 0 k], by omega, by go_num, HO2, HI2, HW2⟩
        case measure => omega
      · obtain rfl : m = n := by omega
        have b0 : ((m : Nat) : Int) < len l := by omega
        have b1 : ¬ ((m : Nat) : Int) < m := by omega
        go_wp2
        go_ret
        exact ⟨_, rfl, by rw [← HI.out.1]; exact HO.out, HW.out⟩
    · have b0 : ¬ (m : Int) < len l := by omega
      go_wp2
      go_ret
      exact ⟨_, rfl, by rw [cutL_all l (show len l ≤ m by omega) (show len l ≤ n by omega), ← HI.out.1]; exact HO.out, HW.out⟩
end Go.Proofs.Ytloccahcnikbfaa
namespace Go.Proofs.Ytloccahcnikbfaa
open Go.RowKit
set_option linter.unusedSimpArgs false
set_option linter.unusedVariables false
structure PrIn (ps : List Int) (es ds : List ByteArray) (pa ea da : Option Addr) (dc : Nat) (w : World) : Prop where
  p : U64s w pa ps
  e : Txts w ea es
  d : Txts w da ds
  pl : len ps ≤ 100
  pu : ∀ k ∈ ps, U64 k
  el : len es ≤ 1000000
  dl : len ds ≤ 1000000
  dc_ : len ds ≤ dc
  ez : ∀ i, i < len es → (tth es i).size ≤ 1000000
theorem PrIn.below {ps : List Int} {es ds : List ByteArray} {pa ea da : Option Addr} {dc : Nat} {w w' : World} (h : PrIn ps es ds pa ea da dc w) (hb : Below w.heap.size w w') : PrIn ps es ds pa ea da dc w' :=
  ⟨h.p.below hb, h.e.below hb, h.d.below hb, h.pl, h.pu, h.el, h.dl, h.dc_, h.ez⟩
theorem proot_any (n : Int) (ps : List Int) (es ds : List ByteArray) (pa ea da : Option Addr) (pc ec dc : Nat) (w : World) (h : PrIn ps es ds pa ea da dc w) (h0 : -9223372036854775808 ≤ n) (h1 : n ≤ 9223372036854775807) :
    Calls Try.prog 9 #[.int .i64 n, .slice pa (len ps) pc, .slice ea (len es) ec, .slice da (len ds) dc] w (RootIs n ps es ds w) := by
  by_cases hb : ArgOk n ps es
  · cases hbad : badB ds with
    | true => exact proot_form n ps es ds pa ea da pc ec dc w h.p h.d h.pl h.dl h0 h1 hb hbad
    | false =>
      obtain ⟨nn, rfl⟩ := Int.eq_ofNat_of_zero_le hb.1.1
      exact proot_main nn ps es ds pa ea da pc ec dc w h.p h.e h.d h.pl h.pu h.dl h.dc_ h.ez hb hbad
  · exact proot_arg n ps es ds pa ea da pc ec dc w h.p h.pl h0 h1 hb h.el
theorem rroot_any (n : Int) (ps : List Int) (es ds : List ByteArray) (pa ea da : Option Addr) (pc ec dc : Nat) (w : World) (h : PrIn ps es ds pa ea da dc w) (h0 : -9223372036854775808 ≤ n) (h1 : n ≤ 9223372036854775807) :
    Calls Try.prog 11 #[.int .i64 n, .slice pa (len ps) pc, .slice ea (len es) ec, .slice da (len ds) dc] w (RootIs n ps es ds w) := by
  by_cases hb : ArgOk n ps es
  · obtain ⟨nn, rfl⟩ := Int.eq_ofNat_of_zero_le hb.1.1
    exact rroot_main nn ps es ds pa ea da pc ec dc w h.p h.e h.d h.pl h.pu h.dl h.dc_ h.ez hb
  · exact rroot_arg n ps es ds pa ea da pc ec dc w h.p h.pl h0 h1 hb h.el
def checkE (r : ByteArray) (n : Int) (ps : List Int) (es ds : List ByteArray) : Int := if rootE n ps es ds = 0 ∧ rootS n ps es ds ≠ r then 20 else rootE n ps es ds
set_option maxRecDepth 100000 in
theorem pcheck_any (r : ByteArray) (n : Int) (ps : List Int) (es ds : List ByteArray) (pa ea da : Option Addr) (pc ec dc : Nat) (w : World) (h : PrIn ps es ds pa ea da dc w) (h0 : -9223372036854775808 ≤ n) (h1 : n ≤ 9223372036854775807) :
    Calls Try.prog 13 #[.string r, .int .i64 n, .slice pa (len ps) pc, .slice ea (len es) ec, .slice da (len ds) dc] w fun e w' => e = .returned (.int .i64 (checkE r n ps es ds)) ∧ Below w.heap.size w w' := by
  have HR := Lib.hid (proot_any n ps es ds pa ea da pc ec dc w h h0 h1)
  clear h h0 h1
  go_enter Try.func13, Try.ntmps13
  go_wp2_with fail
  refine HR.out.mono ?_
  rintro e w1 ⟨rfl, hb1⟩
  have HB1 := Lib.hid hb1
  have HCE : Hid (checkE r n ps es ds = if rootE n ps es ds = 0 ∧ rootS n ps es ds ≠ r then 20 else rootE n ps es ds) := Lib.hid rfl
  obtain ⟨E, hE⟩ : ∃ E, rootE n ps es ds = E := ⟨_, rfl⟩
  obtain ⟨D, hD⟩ : ∃ D, rootS n ps es ds = D := ⟨_, rfl⟩
  rw [hE, hD] at HCE ⊢
  clear hb1 hE hD
  by_cases he : E = 0
  · subst he
    by_cases hd : D = r
    · have e1 : (D.toList == r.toList) = true := by rw [str_beq]; exact decide_eq_true hd
      have HC2 : Hid (checkE r n ps es ds = 0) := Lib.hid (by rw [HCE.out, if_neg (fun h => h.2 hd)])
      clear hd
      go_wp2
      go_ret
      exact ⟨by rw [HC2.out]; rfl, HB1.out⟩
    · have e1 : (D.toList == r.toList) = false := by rw [str_beq]; exact decide_eq_false hd
      have HC2 : Hid (checkE r n ps es ds = 20) := Lib.hid (by rw [HCE.out, if_pos ⟨rfl, hd⟩])
      clear hd
      go_wp2
      go_ret
      exact ⟨by rw [HC2.out]; rfl, HB1.out⟩
  · have e1 : (E == 0) = false := by simpa using he
    have HC2 : Hid (checkE r n ps es ds = E) := Lib.hid (by rw [HCE.out, if_neg (fun h => he h.1)])
    go_wp2
    go_ret
    exact ⟨by rw [HC2.out]; rfl, HB1.out⟩
set_option maxRecDepth 100000 in
theorem rcheck_any (r : ByteArray) (n : Int) (ps : List Int) (es ds : List ByteArray) (pa ea da : Option Addr) (pc ec dc : Nat) (w : World) (h : PrIn ps es ds pa ea da dc w) (h0 : -9223372036854775808 ≤ n) (h1 : n ≤ 9223372036854775807) :
    Calls Try.prog 14 #[.string r, .int .i64 n, .slice pa (len ps) pc, .slice ea (len es) ec, .slice da (len ds) dc] w fun e w' => e = .returned (.int .i64 (checkE r n ps es ds)) ∧ Below w.heap.size w w' := by
  have HR := Lib.hid (rroot_any n ps es ds pa ea da pc ec dc w h h0 h1)
  clear h h0 h1
  go_enter Try.func14, Try.ntmps14
  go_wp2_with fail
  refine HR.out.mono ?_
  rintro e w1 ⟨rfl, hb1⟩
  have HB1 := Lib.hid hb1
  have HCE : Hid (checkE r n ps es ds = if rootE n ps es ds = 0 ∧ rootS n ps es ds ≠ r then 20 else rootE n ps es ds) := Lib.hid rfl
  obtain ⟨E, hE⟩ : ∃ E, rootE n ps es ds = E := ⟨_, rfl⟩
  obtain ⟨D, hD⟩ : ∃ D, rootS n ps es ds = D := ⟨_, rfl⟩
  rw [hE, hD] at HCE ⊢
  clear hb1 hE hD
  by_cases he : E = 0
  · subst he
    by_cases hd : D = r
    · have e1 : (D.toList == r.toList) = true := by rw [str_beq]; exact decide_eq_true hd
      have HC2 : Hid (checkE r n ps es ds = 0) := Lib.hid (by rw [HCE.out, if_neg (fun h => h.2 hd)])
      clear hd
      go_wp2
      go_ret
      exact ⟨by rw [HC2.out]; rfl, HB1.out⟩
    · have e1 : (D.toList == r.toList) = false := by rw [str_beq]; exact decide_eq_false hd
      have HC2 : Hid (checkE r n ps es ds = 20) := Lib.hid (by rw [HCE.out, if_pos ⟨rfl, hd⟩])
      clear hd
      go_wp2
      go_ret
      exact ⟨by rw [HC2.out]; rfl, HB1.out⟩
  · have e1 : (E == 0) = false := by simpa using he
    have HC2 : Hid (checkE r n ps es ds = E) := Lib.hid (by rw [HCE.out, if_neg (fun h => he h.1)])
    go_wp2
    go_ret
    exact ⟨by rw [HC2.out]; rfl, HB1.out⟩
theorem is_any (r : ByteArray) (n : Int) (ps : List Int) (es ds : List ByteArray) (pa ea da : Option Addr) (pc ec dc : Nat) (w : World) (h : PrIn ps es ds pa ea da dc w) (h0 : -9223372036854775808 ≤ n) (h1 : n ≤ 9223372036854775807) (hE : rootE n ps es ds = 0) (hS : rootS n ps es ds = r) :
    Calls Try.prog 17 #[.string r, .int .i64 n, .slice pa (len ps) pc, .slice ea (len es) ec, .slice da (len ds) dc] w fun e w' => e = .returned (.bool true) ∧ Below w.heap.size w w' := by
  have HR := Lib.hid (proot_any n ps es ds pa ea da pc ec dc w h h0 h1)
  have HES := Lib.hid (And.intro hE hS)
  have e1 : (r.toList == r.toList) = true := by rw [str_beq]; exact decide_eq_true rfl
  clear h h0 h1 hE hS
  go_enter Try.func17, Try.ntmps17
  go_wp2_with fail
  refine HR.out.mono ?_
  rintro e w1 ⟨rfl, hb1⟩
  have HB1 := Lib.hid hb1
  rw [HES.out.1, HES.out.2]
  clear hb1
  go_wp2
  go_ret
  exact ⟨by first | rfl | (simp), HB1.out⟩
theorem fails_any (x : Int) (n : Int) (ps : List Int) (es ds : List ByteArray) (pa ea da : Option Addr) (pc ec dc : Nat) (w : World) (h : PrIn ps es ds pa ea da dc w) (h0 : -9223372036854775808 ≤ n) (h1 : n ≤ 9223372036854775807) (hE : rootE n ps es ds = x) (hx : x ≠ 0) :
    Calls Try.prog 16 #[.int .i64 x, .int .i64 n, .slice pa (len ps) pc, .slice ea (len es) ec, .slice da (len ds) dc] w fun e w' => e = .returned (.bool true) ∧ Below w.heap.size w w' := by
  have HR := Lib.hid (proot_any n ps es ds pa ea da pc ec dc w h h0 h1)
  have HES : Hid (rootE n ps es ds = x ∧ rootS n ps es ds = ⟨#[]⟩) := Lib.hid ⟨hE, by unfold rootS; rw [hE, if_neg hx]⟩
  have e1 : (⟨#[]⟩ : ByteArray).toList.isEmpty = true := by rw [ByteArray.toList_eq]; rfl
  clear h h0 h1 hE hx
  go_enter Try.func16, Try.ntmps16
  go_wp2_with fail
  refine HR.out.mono ?_
  rintro e w1 ⟨rfl, hb1⟩
  have HB1 := Lib.hid hb1
  rw [HES.out.1, HES.out.2]
  clear hb1
  go_wp2
  go_ret
  exact ⟨by first | rfl | (simp), HB1.out⟩
end Go.Proofs.Ytloccahcnikbfaa
namespace Go.Proofs.Ytloccahcnikbfaa
open Go.RowKit
set_option linter.unusedSimpArgs false
set_option linter.unusedVariables false
def aT : ByteArray := ⟨#[97]⟩
def bT : ByteArray := ⟨#[98]⟩
def cT : ByteArray := ⟨#[99]⟩
theorem depZ3 : depthZ 3 = ((2 : Nat) : Int) := by decide
theorem depZ1 : depthZ 1 = ((0 : Nat) : Int) := by decide
theorem lv1 : leavesL [1] ((2 : Nat) : Int) = [2] := by decide
theorem lv3 : leavesL [0, 1, 2] ((2 : Nat) : Int) = [0, 2, 1] := by decide
theorem lv0 : leavesL [0] ((0 : Nat) : Int) = [0] := by decide
theorem rows3a : rowsP 3 [1] = [[3], [0]] := by
  unfold rowsP
  rw [depZ3, needs_rows (d := 2) (by decide) (by decide), lv1]
  have e1 : rowsOf [2] 2 = [rowK (insAll [2]), rowK (insAll [1])] := by simp [rowsOf, List.range_succ_eq_map]
  rw [e1, row_litE (l := [3]) (m := [3]) (by decide) (by decide) (fun k => Iff.rfl), row_litE (l := [0]) (m := [0]) (by decide) (by decide) (fun k => Iff.rfl)]
theorem rows3b : rowsP 3 [0, 1, 2] = [[3], []] := by
  unfold rowsP
  rw [depZ3, needs_rows (d := 2) (by decide) (by decide), lv3]
  have e1 : rowsOf [0, 2, 1] 2 = [rowK (insAll [0, 2, 1]), rowK (insAll [0, 1, 0])] := by simp [rowsOf, List.range_succ_eq_map]
  rw [e1, row_litE (l := [3]) (m := [3]) (by decide) (by decide) (fun k => Iff.rfl), row_litE (l := []) (m := []) (by decide) (by decide) (fun k => Iff.rfl)]
theorem rows1 : rowsP 1 [0] = [] := by
  unfold rowsP
  rw [depZ1, needs_rows (d := 0) (by decide) (by decide)]
  rfl
theorem bad_no {ds : List ByteArray} (h : ∀ d ∈ ds, d.size = 32) : badB ds = false := decide_eq_false (by rintro ⟨d, hd, h9⟩; exact h9 (h d hd))
theorem rootE_ok {n : Int} {ps : List Int} {es ds : List ByteArray} (h1 : ArgOk n ps es) (h2 : badB ds = false) (h3 : len ds = neededP n ps) : rootE n ps es ds = 0 ∧ rootS n ps es ds = digP n ps es ds := by
  have h9 : rootE n ps es ds = 0 := by
    unfold rootE
    rw [if_neg (fun h => h h1), if_neg (by rw [h2]; simp), if_neg (by omega), if_neg (by omega)]
  exact ⟨h9, by unfold rootS; rw [if_pos h9]⟩
theorem rootE_short {n : Int} {ps : List Int} {es ds : List ByteArray} (h1 : ArgOk n ps es) (h2 : badB ds = false) (h3 : len ds < neededP n ps) : rootE n ps es ds = 4 := by
  unfold rootE
  rw [if_neg (fun h => h h1), if_neg (by rw [h2]; simp), if_pos h3]
theorem rootE_long {n : Int} {ps : List Int} {es ds : List ByteArray} (h1 : ArgOk n ps es) (h2 : badB ds = false) (h3 : neededP n ps < len ds) : rootE n ps es ds = 3 := by
  unfold rootE
  rw [if_neg (fun h => h h1), if_neg (by rw [h2]; simp), if_neg (by omega), if_pos h3]
theorem rootE_form {n : Int} {ps : List Int} {es ds : List ByteArray} (h1 : ArgOk n ps es) (h2 : badB ds = true) : rootE n ps es ds = 5 := by
  unfold rootE
  rw [if_neg (fun h => h h1), if_pos h2]
theorem rootE_arg {n : Int} {ps : List Int} {es ds : List ByteArray} (h1 : ¬ ArgOk n ps es) : rootE n ps es ds = 2 := by
  unfold rootE
  rw [if_pos h1]
theorem need3a : neededP 3 [1] = 2 := by unfold neededP; rw [rows3a]; rfl
theorem need3b : neededP 3 [0, 1, 2] = 1 := by unfold neededP; rw [rows3b]; rfl
theorem need1 : neededP 1 [0] = 0 := by unfold neededP; rw [rows1]; rfl
theorem ex_one (N L : ByteArray) (hN : N.size = 32) (hL : L.size = 32) : rootE 3 [1] [bT] [N, L] = 0 ∧ rootS 3 [1] [bT] [N, L] = hashP nodeT [L, hashP nodeT [hashP leafT [bT], N]] := by
  have h := rootE_ok (n := 3) (ps := [1]) (es := [bT]) (ds := [N, L]) (by decide) (bad_no (by intro d hd; simp at hd; rcases hd with rfl | rfl <;> assumption)) (by rw [need3a]; rfl)
  refine ⟨h.1, h.2.trans ?_⟩
  unfold digP
  rw [rows3a, depZ3, lv1]
  simp [rootG, addF, g0F, leafD, putF, kidF, overF, noF, tth, len]
theorem ex_two : rootE 1 [0] [aT] [] = 0 ∧ rootS 1 [0] [aT] [] = hashP leafT [aT] := by
  have h := rootE_ok (n := 1) (ps := [0]) (es := [aT]) (ds := []) (by decide) (bad_no (by intro d hd; simp at hd)) (by rw [need1]; rfl)
  refine ⟨h.1, h.2.trans ?_⟩
  unfold digP
  rw [rows1, depZ1, lv0]
  simp [rootG, addF, g0F, leafD, putF, kidF, overF, noF, tth, len]
theorem ex_three (N : ByteArray) (hN : N.size = 32) : rootE 3 [0, 1, 2] [aT, bT, cT] [N] = 0 ∧ rootS 3 [0, 1, 2] [aT, bT, cT] [N] = hashP nodeT [hashP nodeT [hashP leafT [aT], hashP leafT [cT]], hashP nodeT [hashP leafT [bT], N]] := by
  have h := rootE_ok (n := 3) (ps := [0, 1, 2]) (es := [aT, bT, cT]) (ds := [N]) (by decide) (bad_no (by intro d hd; simp at hd; rw [hd]; exact hN)) (by rw [need3b]; rfl)
  refine ⟨h.1, h.2.trans ?_⟩
  unfold digP
  rw [rows3b, depZ3, lv3]
  simp [rootG, addF, g0F, leafD, putF, kidF, overF, noF, tth, len]
theorem ex_short (N : ByteArray) (hN : N.size = 32) : rootE 3 [1] [bT] [N] = 4 := rootE_short (by decide) (bad_no (by intro d hd; simp at hd; rw [hd]; exact hN)) (by rw [need3a]; show 1 < 2; decide)
theorem ex_long (N L : ByteArray) (hN : N.size = 32) (hL : L.size = 32) : rootE 3 [1] [bT] [N, L, L] = 3 := rootE_long (by decide) (bad_no (by intro d hd; simp at hd; rcases hd with rfl | rfl <;> assumption)) (by rw [need3a]; show 2 < 3; decide)
theorem ex_twice (N L : ByteArray) : rootE 3 [1, 1] [bT, bT] [N, L] = 2 := rootE_arg (by decide)
theorem ex_far (N L : ByteArray) : rootE 3 [3] [bT] [N, L] = 2 := rootE_arg (by decide)
theorem ex_none (N L : ByteArray) : rootE 3 [1] [] [N, L] = 2 := rootE_arg (by decide)
theorem ex_form (N L : ByteArray) (hN : N.size ≠ 32) : rootE 3 [1] [bT] [N, L] = 5 := rootE_form (by decide) (decide_eq_true ⟨N, by simp, hN⟩)
end Go.Proofs.Ytloccahcnikbfaa
namespace Go.Proofs.Ytloccahcnikbfaa
open Go.RowKit
set_option linter.unusedSimpArgs false
set_option linter.unusedVariables false
theorem u64s_cells {w : World} {b : Nat} {t : TypeId} (l : List Int) (h : w.heap[b]? = some (.cells (l.map (Value.int .u64)).toArray t (0, 0))) : U64s w (some ⟨b, 0, none⟩) l := fun i hi => ⟨b, 0, rfl, by
  have h2 : i < l.length := hi
  rw [block_cell h, Nat.zero_add, List.getElem?_toArray, List.getElem?_map, List.getElem?_eq_getElem h2, nth_eq l i hi]
  rfl⟩
theorem pu_of {l : List Int} (h : ∀ k ∈ l, 0 ≤ k ∧ k ≤ 18446744073709551615) : ∀ k ∈ l, U64 k := h
theorem ez_of {es : List ByteArray} (h : ∀ e ∈ es, e.size ≤ 1000) : ∀ i, i < len es → (tth es i).size ≤ 1000000 := fun i hi => by
  rw [tth_eq es i hi]
  have := h _ (List.getElem_mem (show i < es.length from hi))
  omega
set_option maxRecDepth 100000 in
set_option maxHeartbeats 8000000 in
theorem works11_any (w : World) : Calls Try.prog 12 #[] w fun e w' => e = .returned (.bool true) ∧ Below w.heap.size w w' := by
  go_enter Try.func12, Try.ntmps12
  go_wp2_with fail
  refine (hash1_any leafT aT w (by decide) (by decide) (by decide)).mono ?_
  rintro e w1 ⟨rfl, hb1⟩
  have HB1 := Lib.hid hb1
  obtain ⟨A9, hA9⟩ : ∃ A9, hashP leafT [aT] = A9 := ⟨_, rfl⟩
  have SA9 : Hid (A9.size = 32) := Lib.hid (by rw [← hA9, hashP_size])
  have ZA9 : Hid (A9.size ≤ 1000000) := Lib.hid (by rw [SA9.out]; decide)
  have QA9 := Lib.hid hA9
  rw [hA9]
  clear hb1 hA9
  go_wp2_with fail
  refine (hash1_any leafT bT w1 (by decide) (by decide) (by decide)).mono ?_
  rintro e w2 ⟨rfl, hb2⟩
  have HB2 : Hid (Below w.heap.size w w2) := Lib.hid (bnext HB1.out hb2)
  obtain ⟨B9, hB9⟩ : ∃ B9, hashP leafT [bT] = B9 := ⟨_, rfl⟩
  have SB9 : Hid (B9.size = 32) := Lib.hid (by rw [← hB9, hashP_size])
  have ZB9 : Hid (B9.size ≤ 1000000) := Lib.hid (by rw [SB9.out]; decide)
  have QB9 := Lib.hid hB9
  rw [hB9]
  clear hb2 hB9
  go_wp2_with fail
  refine (hash1_any leafT cT w2 (by decide) (by decide) (by decide)).mono ?_
  rintro e w3 ⟨rfl, hb3⟩
  have HB3 : Hid (Below w.heap.size w w3) := Lib.hid (bnext HB2.out hb3)
  obtain ⟨C9, hC9⟩ : ∃ C9, hashP leafT [cT] = C9 := ⟨_, rfl⟩
  have SC9 : Hid (C9.size = 32) := Lib.hid (by rw [← hC9, hashP_size])
  have ZC9 : Hid (C9.size ≤ 1000000) := Lib.hid (by rw [SC9.out]; decide)
  have QC9 := Lib.hid hC9
  rw [hC9]
  clear hb3 hC9
  go_wp2_with fail
  refine (hash0_any noneT w3 (by decide) (by decide)).mono ?_
  rintro e w4 ⟨rfl, hb4⟩
  have HB4 : Hid (Below w.heap.size w w4) := Lib.hid (bnext HB3.out hb4)
  obtain ⟨N9, hN9⟩ : ∃ N9, hashP noneT [] = N9 := ⟨_, rfl⟩
  have SN9 : Hid (N9.size = 32) := Lib.hid (by rw [← hN9, hashP_size])
  have ZN9 : Hid (N9.size ≤ 1000000) := Lib.hid (by rw [SN9.out]; decide)
  have QN9 := Lib.hid hN9
  rw [hN9]
  clear hb4 hN9
  go_wp2_with fail
  refine (hash2_any nodeT A9 C9 w4 (by decide) (by decide) ZA9.out ZC9.out).mono ?_
  rintro e w5 ⟨rfl, hb5⟩
  have HB5 : Hid (Below w.heap.size w w5) := Lib.hid (bnext HB4.out hb5)
  obtain ⟨L9, hL9⟩ : ∃ L9, hashP nodeT [A9, C9] = L9 := ⟨_, rfl⟩
  have SL9 : Hid (L9.size = 32) := Lib.hid (by rw [← hL9, hashP_size])
  have ZL9 : Hid (L9.size ≤ 1000000) := Lib.hid (by rw [SL9.out]; decide)
  have QL9 := Lib.hid hL9
  rw [hL9]
  clear hb5 hL9
  go_wp2_with fail
  refine (hash2_any nodeT B9 N9 w5 (by decide) (by decide) ZB9.out ZN9.out).mono ?_
  rintro e w6 ⟨rfl, hb6⟩
  have HB6 : Hid (Below w.heap.size w w6) := Lib.hid (bnext HB5.out hb6)
  obtain ⟨T9, hT9⟩ : ∃ T9, hashP nodeT [B9, N9] = T9 := ⟨_, rfl⟩
  have ST9 : Hid (T9.size = 32) := Lib.hid (by rw [← hT9, hashP_size])
  have ZT9 : Hid (T9.size ≤ 1000000) := Lib.hid (by rw [ST9.out]; decide)
  have QT9 := Lib.hid hT9
  rw [hT9]
  clear hb6 hT9
  go_wp2_with fail
  refine (hash2_any nodeT L9 T9 w6 (by decide) (by decide) ZL9.out ZT9.out).mono ?_
  rintro e w7 ⟨rfl, hb7⟩
  have HB7 : Hid (Below w.heap.size w w7) := Lib.hid (bnext HB6.out hb7)
  obtain ⟨R9, hR9⟩ : ∃ R9, hashP nodeT [L9, T9] = R9 := ⟨_, rfl⟩
  have SR9 : Hid (R9.size = 32) := Lib.hid (by rw [← hR9, hashP_size])
  have ZR9 : Hid (R9.size ≤ 1000000) := Lib.hid (by rw [SR9.out]; decide)
  have QR9 := Lib.hid hR9
  rw [hR9]
  clear hb7 hR9
  go_upto_region 5 with fail
  obtain ⟨q1, hq1⟩ : ∃ q1, w7.heap.size = q1 := ⟨_, rfl⟩
  obtain ⟨q2, hq2⟩ : ∃ q2, w7.heap.size + 1 = q2 := ⟨_, rfl⟩
  obtain ⟨v0, hv0⟩ : ∃ V, (w7.alloc (.cells #[.int .u64 1] 35)).alloc (.cells #[.string ⟨#[98]⟩] 9) = V := ⟨_, rfl⟩
  have P0 : Hid (U64s v0 (some ⟨q1, 0, none⟩) [1]) := Lib.hid (u64s_cells [1] (by rw [← hv0]; exact block_alloc (alloc_new_at _ hq1) _))
  have E0 : Hid (Txts v0 (some ⟨q2, 0, none⟩) [bT]) := Lib.hid (txts_rcells [bT] (by rw [← hv0]; exact alloc_new_at _ (by rw [alloc_size _ rfl]; exact hq2)))
  have W0 : Hid (Below w.heap.size w v0) := Lib.hid (by rw [← hv0]; exact balloc (balloc HB7.out _) _)
  rw [hq2, hq1, hv0]
  clear hq2 hq1 hv0
  have r32 : ((R9.size : Nat) : Int) = 32 := by have := SR9.out; omega
  have n32 : ((N9.size : Nat) : Int) = 32 := by have := SN9.out; omega
  go_wp2_with fail
  refine (is_any R9 3 [1] [bT] [N9, L9] _ _ _ _ _ _ _ ⟨(P0.out.below (balloc (Below.refl _ _) _)), (E0.out.below (balloc (Below.refl _ _) _)), (txts_rcells [N9, L9] (heap_alloc_new _ _)), by show 1 ≤ 100; decide, pu_of (by decide), by show 1 ≤ 1000000; decide, by show 2 ≤ 1000000; decide, Nat.le_refl _, ez_of (by decide)⟩ (by decide) (by decide) (ex_one N9 L9 SN9.out SL9.out).1 ((ex_one N9 L9 SN9.out SL9.out).2.trans (by rw [← QR9.out, ← QT9.out, QB9.out]))).mono ?_
  rintro e v1 ⟨rfl, hb⟩
  have hbb : Below v0.heap.size v0 v1 := bnext (balloc (Below.refl _ _) _) hb
  have P1 := Lib.hid (P0.out.below hbb)
  have E1 := Lib.hid (E0.out.below hbb)
  have W1 : Hid (Below w.heap.size w v1) := Lib.hid (bnext W0.out hbb)
  clear hb hbb P0 E0 W0 r32
  go_wp2_with fail
  refine (is_any A9 1 [0] [aT] [] _ _ _ _ _ _ _ ⟨(u64s_cells [0] (block_alloc (heap_alloc_new _ _) _)), (txts_rcells [aT] (alloc_new_at _ (by simp))), (Txts.nil _ _), by show 1 ≤ 100; decide, pu_of (by decide), by show 1 ≤ 1000000; decide, by show 0 ≤ 1000000; decide, Nat.le_refl _, ez_of (by decide)⟩ (by decide) (by decide) ex_two.1 (ex_two.2.trans QA9.out)).mono ?_
  rintro e v2 ⟨rfl, hb⟩
  have hbb : Below v1.heap.size v1 v2 := bnext (balloc (balloc (Below.refl _ _) _) _) hb
  have P2 := Lib.hid (P1.out.below hbb)
  have E2 := Lib.hid (E1.out.below hbb)
  have W2 : Hid (Below w.heap.size w v2) := Lib.hid (bnext W1.out hbb)
  clear hb hbb P1 E1 W1
  go_wp2_with fail
  refine (is_any R9 3 [0, 1, 2] [aT, bT, cT] [N9] _ _ _ _ _ _ _ ⟨(u64s_cells [0, 1, 2] (block_alloc (block_alloc (heap_alloc_new _ _) _) _)), (txts_rcells [aT, bT, cT] (block_alloc (alloc_new_at _ (by simp)) _)), (txts_rcells [N9] (alloc_new_at _ (by simp))), by show 3 ≤ 100; decide, pu_of (by decide), by show 3 ≤ 1000000; decide, by show 1 ≤ 1000000; decide, Nat.le_refl _, ez_of (by decide)⟩ (by decide) (by decide) (ex_three N9 SN9.out).1 ((ex_three N9 SN9.out).2.trans (by rw [QA9.out, QC9.out, QB9.out, QL9.out, QT9.out, QR9.out]))).mono ?_
  rintro e v3 ⟨rfl, hb⟩
  have hbb : Below v2.heap.size v2 v3 := bnext (balloc (balloc (balloc (Below.refl _ _) _) _) _) hb
  have P3 := Lib.hid (P2.out.below hbb)
  have E3 := Lib.hid (E2.out.below hbb)
  have W3 : Hid (Below w.heap.size w v3) := Lib.hid (bnext W2.out hbb)
  clear hb hbb P2 E2 W2
  go_wp2_with fail
  refine (fails_any 4 3 [1] [bT] [N9] _ _ _ _ _ _ _ ⟨(P3.out.below (balloc (Below.refl _ _) _)), (E3.out.below (balloc (Below.refl _ _) _)), (txts_rcells [N9] (heap_alloc_new _ _)), by show 1 ≤ 100; decide, pu_of (by decide), by show 1 ≤ 1000000; decide, by show 1 ≤ 1000000; decide, Nat.le_refl _, ez_of (by decide)⟩ (by decide) (by decide) (ex_short N9 SN9.out) (by decide)).mono ?_
  rintro e v4 ⟨rfl, hb⟩
  have hbb : Below v3.heap.size v3 v4 := bnext (balloc (Below.refl _ _) _) hb
  have P4 := Lib.hid (P3.out.below hbb)
  have E4 := Lib.hid (E3.out.below hbb)
  have W4 : Hid (Below w.heap.size w v4) := Lib.hid (bnext W3.out hbb)
  clear hb hbb P3 E3 W3
  go_wp2_with fail
  refine (fails_any 3 3 [1] [bT] [N9, L9, L9] _ _ _ _ _ _ _ ⟨(P4.out.below (balloc (Below.refl _ _) _)), (E4.out.below (balloc (Below.refl _ _) _)), (txts_rcells [N9, L9, L9] (heap_alloc_new _ _)), by show 1 ≤ 100; decide, pu_of (by decide), by show 1 ≤ 1000000; decide, by show 3 ≤ 1000000; decide, Nat.le_refl _, ez_of (by decide)⟩ (by decide) (by decide) (ex_long N9 L9 SN9.out SL9.out) (by decide)).mono ?_
  rintro e v5 ⟨rfl, hb⟩
  have hbb : Below v4.heap.size v4 v5 := bnext (balloc (Below.refl _ _) _) hb
  have P5 := Lib.hid (P4.out.below hbb)
  have E5 := Lib.hid (E4.out.below hbb)
  have W5 : Hid (Below w.heap.size w v5) := Lib.hid (bnext W4.out hbb)
  clear hb hbb P4 E4 W4
  go_wp2_with fail
  refine (fails_any 2 3 [1, 1] [bT, bT] [N9, L9] _ _ _ _ _ _ _ ⟨(u64s_cells [1, 1] (block_alloc (block_alloc (heap_alloc_new _ _) _) _)), (txts_rcells [bT, bT] (block_alloc (alloc_new_at _ (by simp)) _)), (txts_rcells [N9, L9] (alloc_new_at _ (by simp))), by show 2 ≤ 100; decide, pu_of (by decide), by show 2 ≤ 1000000; decide, by show 2 ≤ 1000000; decide, Nat.le_refl _, ez_of (by decide)⟩ (by decide) (by decide) (ex_twice N9 L9) (by decide)).mono ?_
  rintro e v6 ⟨rfl, hb⟩
  have hbb : Below v5.heap.size v5 v6 := bnext (balloc (balloc (balloc (Below.refl _ _) _) _) _) hb
  have P6 := Lib.hid (P5.out.below hbb)
  have E6 := Lib.hid (E5.out.below hbb)
  have W6 : Hid (Below w.heap.size w v6) := Lib.hid (bnext W5.out hbb)
  clear hb hbb P5 E5 W5
  go_wp2_with fail
  refine (fails_any 2 3 [3] [bT] [N9, L9] _ _ _ _ _ _ _ ⟨(u64s_cells [3] (block_alloc (heap_alloc_new _ _) _)), (E6.out.below (balloc (balloc (Below.refl _ _) _) _)), (txts_rcells [N9, L9] (alloc_new_at _ (by simp))), by show 1 ≤ 100; decide, pu_of (by decide), by show 1 ≤ 1000000; decide, by show 2 ≤ 1000000; decide, Nat.le_refl _, ez_of (by decide)⟩ (by decide) (by decide) (ex_far N9 L9) (by decide)).mono ?_
  rintro e v7 ⟨rfl, hb⟩
  have hbb : Below v6.heap.size v6 v7 := bnext (balloc (balloc (Below.refl _ _) _) _) hb
  have P7 := Lib.hid (P6.out.below hbb)
  have E7 := Lib.hid (E6.out.below hbb)
  have W7 : Hid (Below w.heap.size w v7) := Lib.hid (bnext W6.out hbb)
  clear hb hbb P6 E6 W6
  go_wp2_with fail
  refine (fails_any 2 3 [1] [] [N9, L9] _ _ _ _ _ _ _ ⟨(P7.out.below (balloc (Below.refl _ _) _)), (Txts.nil _ _), (txts_rcells [N9, L9] (heap_alloc_new _ _)), by show 1 ≤ 100; decide, pu_of (by decide), by show 0 ≤ 1000000; decide, by show 2 ≤ 1000000; decide, Nat.le_refl _, ez_of (by decide)⟩ (by decide) (by decide) (ex_none N9 L9) (by decide)).mono ?_
  rintro e v8 ⟨rfl, hb⟩
  have hbb : Below v7.heap.size v7 v8 := bnext (balloc (Below.refl _ _) _) hb
  have P8 := Lib.hid (P7.out.below hbb)
  have E8 := Lib.hid (E7.out.below hbb)
  have W8 : Hid (Below w.heap.size w v8) := Lib.hid (bnext W7.out hbb)
  clear hb hbb P7 E7 W7
  go_wp2_with fail
  obtain ⟨M9, hM9⟩ : ∃ M9, N9.extract 1 N9.size = M9 := ⟨_, rfl⟩
  have HM9 : Hid (M9.size ≠ 32) := Lib.hid (by rw [← hM9, ByteArray.size_extract]; have := SN9.out; omega)
  rw [hM9]
  clear hM9 n32
  refine (fails_any 5 3 [1] [bT] [M9, L9] _ _ _ _ _ _ _ ⟨(P8.out.below (balloc (Below.refl _ _) _)), (E8.out.below (balloc (Below.refl _ _) _)), (txts_rcells [M9, L9] (heap_alloc_new _ _)), by show 1 ≤ 100; decide, pu_of (by decide), by show 1 ≤ 1000000; decide, by show 2 ≤ 1000000; decide, Nat.le_refl _, ez_of (by decide)⟩ (by decide) (by decide) (ex_form M9 L9 HM9.out) (by decide)).mono ?_
  rintro e v9 ⟨rfl, hb⟩
  have hbb : Below v8.heap.size v8 v9 := bnext (balloc (Below.refl _ _) _) hb
  have P9 := Lib.hid (P8.out.below hbb)
  have E9 := Lib.hid (E8.out.below hbb)
  have W9 : Hid (Below w.heap.size w v9) := Lib.hid (bnext W8.out hbb)
  clear hb hbb P8 E8 W8
  go_wp2
  go_ret
  exact ⟨by first | rfl | simp, W9.out⟩
end Go.Proofs.Ytloccahcnikbfaa
namespace Go.Proofs.Ytloccahcnikbfaa
open Go.RowKit
set_option linter.unusedSimpArgs false
set_option linter.unusedVariables false
theorem cut_call (l : List ByteArray) (n : Nat) (a : Option Addr) (cap : Nat) (w : World) (hnn : n ≤ 100) (hl : Txts w a l) (hn : len l ≤ 9223372036854775807) :
    Calls Try.prog 10 #[.slice a (len l) cap, .int .i64 (n : Nat)] w fun e w2 => ∃ u, e = .returned u ∧ (∃ a c, u = .slice a (len (cutL l n)) c ∧ Txts w2 a (cutL l n) ∧ len (cutL l n) ≤ c) ∧ Below w.heap.size w w2 := by
  refine (cut_any l n a cap w hnn hl hn).mono ?_
  rintro e w2 ⟨v, rfl, ho, hb⟩
  obtain ⟨a2, c2, rfl, hT⟩ := own_txts ho
  refine ⟨_, rfl, ⟨a2, c2, rfl, hT, ?_⟩, hb⟩
  rcases ho.2 with ⟨e1, e2⟩ | ⟨g, cap, cur, e1, _, _, h3, _⟩
  · injection e1 with _ e3 e4
    omega
  · injection e1 with _ e3 e4
    omega
theorem u64s_takeP {w : World} {a : Option Addr} {l : List Int} (h : U64s w a l) (m : Nat) : U64s w a (l.take m) := fun i hi => by
  have h2 : i < (l.take m).length := hi
  have h3 : i < m ∧ i < l.length := by rw [List.length_take] at h2; omega
  obtain ⟨b, off, e1, e2⟩ := h i h3.2
  refine ⟨b, off, e1, ?_⟩
  rw [e2]
  unfold nth
  simp [h3.1]
end Go.Proofs.Ytloccahcnikbfaa
namespace Go.Proofs.Ytloccahcnikbfaa
open Go.RowKit
set_option linter.unusedSimpArgs false
set_option linter.unusedVariables false
set_option maxRecDepth 100000 in
set_option maxHeartbeats 8000000 in
theorem checks_law (n : Int) (pa : Option Addr) (pc : Nat) (ps : List Int) (ea : Option Addr) (ec : Nat) (es : List ByteArray) (da : Option Addr) (dc : Nat) (ds : List ByteArray) (r : ByteArray) (w : World)
    (h0 : -9223372036854775808 ≤ n) (h1 : n ≤ 9223372036854775807) (hp : U64s w pa ps) (hpc : len ps ≤ pc) (hpu : ∀ i, i < len ps → 0 ≤ nth ps i ∧ nth ps i < 18446744073709551616) (he : Txts w ea es) (hel : len es ≤ 9223372036854775807) (hd : Txts w da ds) (hdl : len ds ≤ 9223372036854775807) (hpl : len ps ≤ 9223372036854775807) :
    Calls Try.prog 4 #[.agg #[.int .i64 n, .slice pa (len ps) pc, .slice ea (len es) ec, .slice da (len ds) dc], .string r] w fun e w' => e = .returned (.bool true) ∧ Below w.heap.size w w' := by
  obtain ⟨q, hq⟩ : ∃ q : Nat, min (len ps) 20 = q := ⟨_, rfl⟩
  obtain ⟨PO, hPO⟩ : ∃ PO, ps.take q = PO := ⟨_, rfl⟩
  have HPO := Lib.hid (u64s_takeP hp q)
  rw [hPO] at HPO
  have HPU : Hid (∀ k ∈ PO, U64 k) := Lib.hid (fun k hk => by
    rw [← hPO] at hk
    obtain ⟨i, hi, rfl⟩ := List.getElem_of_mem (List.mem_of_mem_take hk)
    have := hpu i hi
    rw [nth_eq ps i hi] at this
    unfold U64; omega)
  have HPQ : Hid (len PO = q ∧ q ≤ 20) := Lib.hid ⟨by rw [← hPO, len_eq, List.length_take]; rw [len_eq] at hq; omega, by omega⟩
  obtain ⟨E, hE⟩ : ∃ E, cutL es 20 = E := ⟨_, rfl⟩
  obtain ⟨D, hD⟩ : ∃ D, cutL ds 60 = D := ⟨_, rfl⟩
  have HEL : Hid (len E ≤ 20 ∧ len D ≤ 60) := Lib.hid ⟨by rw [← hE]; exact (cutL_len _ _).1, by rw [← hD]; exact (cutL_len _ _).1⟩
  have HEZ : Hid (∀ i, i < len E → (tth E i).size ≤ 1000000) := Lib.hid (by rw [← hE]; exact fun i hi => Nat.le_trans (cutL_size _ _ i hi) (by decide))
  have HCE0 := Lib.hid (fun w9 (hb : Below w.heap.size w w9) => cut_call es 20 ea ec w9 (by decide) (he.below hb) hel)
  have HCD0 := Lib.hid (fun w9 (hb : Below w.heap.size w w9) => cut_call ds 60 da dc w9 (by decide) (hd.below hb) hdl)
  rw [hE] at HCE0
  rw [hD] at HCD0
  have HN := Lib.hid (And.intro h0 h1)
  have mm : min (len ps : Int) 20 = (q : Int) := by omega
  have q1 : q ≤ len ps := by omega
  clear hp hpu he hel hd hdl hPO hq hE hD h0 h1
  go_enter Try.func4, Try.ntmps4
  go_upto_region 2 with fail
  clear mm q1
  obtain ⟨xb, hxb⟩ : ∃ xb, w.heap.size = xb := ⟨_, rfl⟩
  obtain ⟨V, hV⟩ : ∃ V, w.alloc (.cells #[.int .i64 n, .slice pa (len ps) pc, .slice ea (len es) ec, .slice da (len ds) dc] 25) = V := ⟨_, rfl⟩
  have HX1 : Hid (V.heap[xb]? = some (.cells #[.int .i64 n, .slice pa (len ps) pc, .slice ea (len es) ec, .slice da (len ds) dc] 25 (0, 0))) := Lib.hid (by rw [← hV]; exact alloc_new_at _ hxb)
  have HW1 : Hid (Below w.heap.size w V) := Lib.hid (by rw [← hV]; exact balloc (Below.refl _ _) _)
  rw [hxb, hV]
  clear hxb hV
  obtain ⟨RS, hRS⟩ : ∃ RS, rootS n PO E D = RS := ⟨_, rfl⟩
  obtain ⟨RE, hRE⟩ : ∃ RE, rootE n PO E D = RE := ⟨_, rfl⟩
  have HRSE := Lib.hid (And.intro hRS hRE)
  clear hRS hRE
  have ce : V.cell? ⟨xb, 2, none⟩ = some (.slice ea (len es) ec) := by rw [block_cell HX1.out]; rfl
  have cd : V.cell? ⟨xb, 3, none⟩ = some (.slice da (len ds) dc) := by rw [block_cell HX1.out]; rfl
  have HCE : Hid (∀ wv, Below V.heap.size V wv → Calls Try.prog 10 #[.slice ea (len es) ec, .int .i64 20] wv fun e w2 => ∃ u, e = .returned u ∧ (∃ a c, u = .slice a (len E) c ∧ Txts w2 a E ∧ len E ≤ c) ∧ Below wv.heap.size wv w2) := Lib.hid (fun wv hb => HCE0.out wv (bnext HW1.out hb))
  have HCD : Hid (∀ wv, Below V.heap.size V wv → Calls Try.prog 10 #[.slice da (len ds) dc, .int .i64 60] wv fun e w2 => ∃ u, e = .returned u ∧ (∃ a c, u = .slice a (len D) c ∧ Txts w2 a D ∧ len D ≤ c) ∧ Below wv.heap.size wv w2) := Lib.hid (fun wv hb => HCD0.out wv (bnext HW1.out hb))
  refine wp_region_all 1000 (none) (phis [fun u _ => u = (.pointer (some ⟨xb, 2, none⟩)), fun u _ => u = (.slice ea (len es) ec), fun u w' => ∃ a c, u = .slice a (len E) c ∧ Txts w' a E ∧ len E ≤ c, fun u _ => u = (.pointer (some ⟨xb, 3, none⟩)), fun u _ => u = (.slice da (len ds) dc), fun u w' => ∃ a c, u = .slice a (len D) c ∧ Txts w' a D ∧ len D ≤ c, fun u w' => ∃ a c, u = .slice a (len E) c ∧ Txts w' a E ∧ len E ≤ c, fun u w' => ∃ a c, u = .slice a (len D) c ∧ Txts w' a D ∧ len D ≤ c]) rfl (by kernel_rfl) (mono_of ⟨mono_eq, mono_eq, ?m2, mono_eq, mono_eq, ?m5, ?m6, ?m7, trivial⟩) (steps_of 8 ⟨?s0, ?s1, ?s2, ?s3, ?s4, ?s5, ?s6, ?s7, trivial⟩) ?_
  case m2 =>
    exact ⟨fun u w1 w' h ⟨a, c, h1, h2, h3⟩ => ⟨a, c, h1, h2.below h, h3⟩, fun _ u w1 w' h ⟨a, c, h1, h2, h3⟩ => ⟨a, c, h1, h2.below (extB_none h), h3⟩⟩
  case m5 =>
    exact ⟨fun u w1 w' h ⟨a, c, h1, h2, h3⟩ => ⟨a, c, h1, h2.below h, h3⟩, fun _ u w1 w' h ⟨a, c, h1, h2, h3⟩ => ⟨a, c, h1, h2.below (extB_none h), h3⟩⟩
  case m6 =>
    exact ⟨fun u w1 w' h ⟨a, c, h1, h2, h3⟩ => ⟨a, c, h1, h2.below h, h3⟩, fun _ u w1 w' h ⟨a, c, h1, h2, h3⟩ => ⟨a, c, h1, h2.below (extB_none h), h3⟩⟩
  case m7 =>
    exact ⟨fun u w1 w' h ⟨a, c, h1, h2, h3⟩ => ⟨a, c, h1, h2.below h, h3⟩, fun _ u w1 w' h ⟨a, c, h1, h2, h3⟩ => ⟨a, c, h1, h2.below (extB_none h), h3⟩⟩
  case s0 =>
    refine step_val (v := (.pointer (some ⟨xb, 2, none⟩))) (fun av wv hE hS hO hD => ?_) (fun _ => rfl)
    have h2 : av.eval (.tmp 2) = (.pointer (some ⟨xb, 0, none⟩)) := hO.2.2 2 rfl
    have f2 := (ev_form av 2).symm.trans h2
    refine ⟨rfl, ?_⟩
    simp [go_sem, f2]
  case s1 =>
    refine step_val (v := (.slice ea (len es) ec)) (fun av wv hE hS hO hD => ?_) (fun _ => rfl)
    have d17 : av.eval (.tmp 17) = (.pointer (some ⟨xb, 2, none⟩)) := hD.1 rfl _ rfl
    have f17 := (ev_form av 17).symm.trans d17
    have ce := extB_cell hE (by simp) ce
    have cd := extB_cell hE (by simp) cd
    refine ⟨rfl, ?_⟩
    simp [go_sem, f17, ce, cd]
  case s2 =>
    refine step_wp (fun av wv hE hS hO hD => ?_)
    have d18 : av.eval (.tmp 18) = (.slice ea (len es) ec) := hD.1 rfl _ rfl
    have f18 := (ev_form av 18).symm.trans d18
    refine ⟨rfl, ?_⟩
    refine wp_of_callV (R := fun u w2 => (∃ a c, u = .slice a (len E) c ∧ Txts w2 a E ∧ len E ≤ c) ∧ Below wv.heap.size wv w2) (f := 10) (args := #[.slice ea (len es) ec, .int .i64 20]) (by simp [go_sem, f18]) (HCE.out wv (of_drew hE)) (fun u w2 ⟨h1, h2⟩ => ⟨_, rfl, es_of_ext h2, h1⟩)
  case s3 =>
    refine step_val (v := (.pointer (some ⟨xb, 3, none⟩))) (fun av wv hE hS hO hD => ?_) (fun _ => rfl)
    have h2 : av.eval (.tmp 2) = (.pointer (some ⟨xb, 0, none⟩)) := hO.2.2 2 rfl
    have f2 := (ev_form av 2).symm.trans h2
    refine ⟨rfl, ?_⟩
    simp [go_sem, f2]
  case s4 =>
    refine step_val (v := (.slice da (len ds) dc)) (fun av wv hE hS hO hD => ?_) (fun _ => rfl)
    have d20 : av.eval (.tmp 20) = (.pointer (some ⟨xb, 3, none⟩)) := hD.1 rfl _ rfl
    have f20 := (ev_form av 20).symm.trans d20
    have ce := extB_cell hE (by simp) ce
    have cd := extB_cell hE (by simp) cd
    refine ⟨rfl, ?_⟩
    simp [go_sem, f20, ce, cd]
  case s5 =>
    refine step_wp (fun av wv hE hS hO hD => ?_)
    have d21 : av.eval (.tmp 21) = (.slice da (len ds) dc) := hD.1 rfl _ rfl
    have f21 := (ev_form av 21).symm.trans d21
    refine ⟨rfl, ?_⟩
    refine wp_of_callV (R := fun u w2 => (∃ a c, u = .slice a (len D) c ∧ Txts w2 a D ∧ len D ≤ c) ∧ Below wv.heap.size wv w2) (f := 10) (args := #[.slice da (len ds) dc, .int .i64 60]) (by simp [go_sem, f21]) (HCD.out wv (of_drew hE)) (fun u w2 ⟨h1, h2⟩ => ⟨_, rfl, es_of_ext h2, h1⟩)
  case s6 =>
    refine step_wp (fun av wv hE hS hO hD => ?_)
    have d19 : (fun u w' => ∃ a c, u = .slice a (len E) c ∧ Txts w' a E ∧ len E ≤ c) (av.eval (.tmp 19)) wv := hD.1 rfl _ rfl
    refine ⟨rfl, ?_⟩
    obtain ⟨a1, c1, h1, t1, k1⟩ := d19
    have g1 := (ev_form av 19).symm.trans h1
    exact wp_of_run (v := .slice a1 (len E) c1) (w' := wv) (by simp [go_sem, g1]) ⟨_, rfl, es_of_ext (Ext_refl _), a1, c1, rfl, t1, k1⟩
  case s7 =>
    refine step_wp (fun av wv hE hS hO hD => ?_)
    have d22 : (fun u w' => ∃ a c, u = .slice a (len D) c ∧ Txts w' a D ∧ len D ≤ c) (av.eval (.tmp 22)) wv := hD.1 rfl _ rfl
    refine ⟨rfl, ?_⟩
    obtain ⟨a1, c1, h1, t1, k1⟩ := d22
    have g1 := (ev_form av 22).symm.trans h1
    exact wp_of_run (v := .slice a1 (len D) c1) (w' := wv) (by simp [go_sem, g1]) ⟨_, rfl, es_of_ext (Ext_refl _), a1, c1, rfl, t1, k1⟩
  intro a' w' hE hO hall
  have hA := act_of_outer (ds := [17, 18, 19, 20, 21, 22, 6, 7]) rfl hO (by kernel_rfl)
  have e17 : (fun u _ => u = (.pointer (some ⟨xb, 2, none⟩))) (a'.eval (.tmp 17)) w' := hall.1 _ rfl
  have e18 : (fun u _ => u = (.slice ea (len es) ec)) (a'.eval (.tmp 18)) w' := hall.2.1 _ rfl
  have e19 : (fun u w' => ∃ a c, u = .slice a (len E) c ∧ Txts w' a E ∧ len E ≤ c) (a'.eval (.tmp 19)) w' := hall.2.2.1 _ rfl
  have e20 : (fun u _ => u = (.pointer (some ⟨xb, 3, none⟩))) (a'.eval (.tmp 20)) w' := hall.2.2.2.1 _ rfl
  have e21 : (fun u _ => u = (.slice da (len ds) dc)) (a'.eval (.tmp 21)) w' := hall.2.2.2.2.1 _ rfl
  have e22 : (fun u w' => ∃ a c, u = .slice a (len D) c ∧ Txts w' a D ∧ len D ≤ c) (a'.eval (.tmp 22)) w' := hall.2.2.2.2.2.1 _ rfl
  have e6 : (fun u w' => ∃ a c, u = .slice a (len E) c ∧ Txts w' a E ∧ len E ≤ c) (a'.eval (.tmp 6)) w' := hall.2.2.2.2.2.2.1 _ rfl
  have e7 : (fun u w' => ∃ a c, u = .slice a (len D) c ∧ Txts w' a D ∧ len D ≤ c) (a'.eval (.tmp 7)) w' := hall.2.2.2.2.2.2.2.1 _ rfl
  obtain ⟨v19, hv19⟩ : ∃ v, a'.eval (.tmp 19) = v := ⟨_, rfl⟩
  rw [hv19] at e19
  obtain ⟨v22, hv22⟩ : ∃ v, a'.eval (.tmp 22) = v := ⟨_, rfl⟩
  rw [hv22] at e22
  obtain ⟨v6, hv6⟩ : ∃ v, a'.eval (.tmp 6) = v := ⟨_, rfl⟩
  rw [hv6] at e6
  obtain ⟨v7, hv7⟩ : ∃ v, a'.eval (.tmp 7) = v := ⟨_, rfl⟩
  rw [hv7] at e7
  simp only [List.foldl_cons, List.foldl_nil, Act.put, List.setIfInBounds_toArray, List.set_cons_succ, List.set_cons_zero, e17, e18, hv19, e20, e21, hv22, hv6, hv7] at hA
  clear hO hall e17 e18 hv19 e20 e21 hv22 hv6 hv7
  subst hA
  have hX := of_drew hE
  obtain ⟨X1, hXn⟩ : ∃ X, w' = X := ⟨_, rfl⟩
  rw [hXn] at hX e6 e7 ⊢
  obtain ⟨ae, ce1, rfl, te, ke⟩ := e6
  obtain ⟨ad, cd1, rfl, td, kd⟩ := e7
  have HTE := Lib.hid te
  have HTD := Lib.hid td
  have HKD := Lib.hid kd
  have HX2 : Hid (X1.heap[xb]? = some (.cells #[.int .i64 n, .slice pa (len ps) pc, .slice ea (len es) ec, .slice da (len ds) dc] 25 (0, 0))) := Lib.hid ((hX.block _ (lt_of_block HX1.out)).trans HX1.out)
  have HW2 : Hid (Below w.heap.size w X1) := Lib.hid (bnext HW1.out hX)
  have HPI : Hid (PrIn PO E D pa ae ad cd1 X1) := Lib.hid ⟨HPO.out.below HW2.out, HTE.out, HTD.out, by have := HPQ.out; omega, HPU.out, by have := HEL.out; omega, by have := HEL.out; omega, HKD.out, HEZ.out⟩
  clear hX hXn ce cd HCE HCD HX1 HW1 e19 e22 hE te td ke kd
  have HR9 := Lib.hid (rroot_any n PO E D pa ae ad pc ce1 cd1 X1 HPI.out HN.out.1 HN.out.2)
  rw [HPQ.out.1] at HR9
  have cn : X1.cell? ⟨xb, 0, none⟩ = some (.int .i64 n) := by rw [block_cell HX2.out]; rfl
  have l1 := lt_of_cell cn
  go_wp2_with fail
  refine HR9.out.mono ?_
  rintro e X2 ⟨rfl, hb2⟩
  rw [HRSE.out.1, HRSE.out.2]
  have HX3 : Hid (X2.heap[xb]? = some (.cells #[.int .i64 n, .slice pa (len ps) pc, .slice ea (len es) ec, .slice da (len ds) dc] 25 (0, 0))) := Lib.hid ((hb2.block _ (lt_of_block HX2.out)).trans HX2.out)
  have HW3 : Hid (Below w.heap.size w X2) := Lib.hid (bnext HW2.out hb2)
  have HPI3 := Lib.hid (HPI.out.below hb2)
  clear cn l1 hb2 HR9 HX2 HW2
  go_upto_region 4 with fail
  have cn : X2.cell? ⟨xb, 0, none⟩ = some (.int .i64 n) := by rw [block_cell HX3.out]; rfl
  obtain ⟨C1, hC1⟩ : ∃ C, checkE r n PO E D = C := ⟨_, rfl⟩
  obtain ⟨C2, hC2⟩ : ∃ C, checkE RS n PO E D = C := ⟨_, rfl⟩
  have HP1 : Hid (∀ wv, Below X2.heap.size X2 wv → Calls Try.prog 13 #[.string r, .int .i64 n, .slice pa q pc, .slice ae (len E) ce1, .slice ad (len D) cd1] wv fun e w' => e = .returned (.int .i64 C1) ∧ Below wv.heap.size wv w') := Lib.hid (fun wv hb => by
    have h := pcheck_any r n PO E D pa ae ad pc ce1 cd1 wv (HPI3.out.below hb) HN.out.1 HN.out.2
    rw [HPQ.out.1, hC1] at h; exact h)
  have HQ1 : Hid (∀ wv, Below X2.heap.size X2 wv → Calls Try.prog 14 #[.string r, .int .i64 n, .slice pa q pc, .slice ae (len E) ce1, .slice ad (len D) cd1] wv fun e w' => e = .returned (.int .i64 C1) ∧ Below wv.heap.size wv w') := Lib.hid (fun wv hb => by
    have h := rcheck_any r n PO E D pa ae ad pc ce1 cd1 wv (HPI3.out.below hb) HN.out.1 HN.out.2
    rw [HPQ.out.1, hC1] at h; exact h)
  have HP2 : Hid (∀ wv, Below X2.heap.size X2 wv → Calls Try.prog 13 #[.string RS, .int .i64 n, .slice pa q pc, .slice ae (len E) ce1, .slice ad (len D) cd1] wv fun e w' => e = .returned (.int .i64 C2) ∧ Below wv.heap.size wv w') := Lib.hid (fun wv hb => by
    have h := pcheck_any RS n PO E D pa ae ad pc ce1 cd1 wv (HPI3.out.below hb) HN.out.1 HN.out.2
    rw [HPQ.out.1, hC2] at h; exact h)
  have HQ2 : Hid (∀ wv, Below X2.heap.size X2 wv → Calls Try.prog 14 #[.string RS, .int .i64 n, .slice pa q pc, .slice ae (len E) ce1, .slice ad (len D) cd1] wv fun e w' => e = .returned (.int .i64 C2) ∧ Below wv.heap.size wv w') := Lib.hid (fun wv hb => by
    have h := rcheck_any RS n PO E D pa ae ad pc ce1 cd1 wv (HPI3.out.below hb) HN.out.1 HN.out.2
    rw [HPQ.out.1, hC2] at h; exact h)
  have HWK : Hid (∀ wv, Calls Try.prog 12 #[] wv fun e w' => e = .returned (.bool true) ∧ Below wv.heap.size wv w') := Lib.hid works11_any
  clear hC1 hC2
  refine wp_region_all 1000 (none) (phis [fun u _ => u = (.string r), fun u _ => u = (.pointer (some ⟨xb, 0, none⟩)), fun u _ => u = (.int .i64 n), fun u _ => u = (.slice pa q pc), fun u _ => u = (.slice ae (len E) ce1), fun u _ => u = (.slice ad (len D) cd1), fun u _ => u = (.int .i64 C1), fun u _ => u = (.string r), fun u _ => u = (.pointer (some ⟨xb, 0, none⟩)), fun u _ => u = (.int .i64 n), fun u _ => u = (.slice pa q pc), fun u _ => u = (.slice ae (len E) ce1), fun u _ => u = (.slice ad (len D) cd1), fun u _ => u = (.int .i64 C1), fun u _ => u = (.bool true), fun u _ => u = (.bool true), fun u _ => u = (.string RS), fun u _ => u = (.pointer (some ⟨xb, 0, none⟩)), fun u _ => u = (.int .i64 n), fun u _ => u = (.slice pa q pc), fun u _ => u = (.slice ae (len E) ce1), fun u _ => u = (.slice ad (len D) cd1), fun u _ => u = (.int .i64 C2), fun u _ => u = (.string RS), fun u _ => u = (.pointer (some ⟨xb, 0, none⟩)), fun u _ => u = (.int .i64 n), fun u _ => u = (.slice pa q pc), fun u _ => u = (.slice ae (len E) ce1), fun u _ => u = (.slice ad (len D) cd1), fun u _ => u = (.int .i64 C2), fun u _ => u = (.bool true), fun u _ => u = (.bool true), fun u _ => u = (.bool true), fun u _ => u = (.bool true), fun u _ => u = (.bool true), fun u _ => u = (.bool true)]) rfl (by kernel_rfl) (mono_of ⟨mono_eq, mono_eq, mono_eq, mono_eq, mono_eq, mono_eq, mono_eq, mono_eq, mono_eq, mono_eq, mono_eq, mono_eq, mono_eq, mono_eq, mono_eq, mono_eq, mono_eq, mono_eq, mono_eq, mono_eq, mono_eq, mono_eq, mono_eq, mono_eq, mono_eq, mono_eq, mono_eq, mono_eq, mono_eq, mono_eq, mono_eq, mono_eq, mono_eq, mono_eq, mono_eq, mono_eq, trivial⟩) (steps_of 36 ⟨?s0, ?s1, ?s2, ?s3, ?s4, ?s5, ?s6, ?s7, ?s8, ?s9, ?s10, ?s11, ?s12, ?s13, ?s14, ?s15, ?s16, ?s17, ?s18, ?s19, ?s20, ?s21, ?s22, ?s23, ?s24, ?s25, ?s26, ?s27, ?s28, ?s29, ?s30, ?s31, ?s32, ?s33, ?s34, ?s35, trivial⟩) ?_
  case s0 =>
    refine step_val (v := (.string r)) (fun av wv hE hS hO hD => ?_) (fun _ => rfl)
    have h1 : av.eval (.tmp 1) = (.string r) := hO.2.2 1 rfl
    have f1 := (ev_form av 1).symm.trans h1
    refine ⟨rfl, ?_⟩
    simp [go_sem, f1]
  case s1 =>
    refine step_val (v := (.pointer (some ⟨xb, 0, none⟩))) (fun av wv hE hS hO hD => ?_) (fun _ => rfl)
    have h2 : av.eval (.tmp 2) = (.pointer (some ⟨xb, 0, none⟩)) := hO.2.2 2 rfl
    have f2 := (ev_form av 2).symm.trans h2
    refine ⟨rfl, ?_⟩
    simp [go_sem, f2]
  case s2 =>
    refine step_val (v := (.int .i64 n)) (fun av wv hE hS hO hD => ?_) (fun _ => rfl)
    have d33 : av.eval (.tmp 33) = (.pointer (some ⟨xb, 0, none⟩)) := hD.1 rfl _ rfl
    have f33 := (ev_form av 33).symm.trans d33
    have cn := extB_cell hE (by simp) cn
    refine ⟨rfl, ?_⟩
    simp [go_sem, f33, cn]
  case s3 =>
    refine step_val (v := (.slice pa q pc)) (fun av wv hE hS hO hD => ?_) (fun _ => rfl)
    have h5 : av.eval (.tmp 5) = (.slice pa q pc) := hO.2.2 5 rfl
    have f5 := (ev_form av 5).symm.trans h5
    refine ⟨rfl, ?_⟩
    simp [go_sem, f5]
  case s4 =>
    refine step_val (v := (.slice ae (len E) ce1)) (fun av wv hE hS hO hD => ?_) (fun _ => rfl)
    have h6 : av.eval (.tmp 6) = (.slice ae (len E) ce1) := hO.2.2 6 rfl
    have f6 := (ev_form av 6).symm.trans h6
    refine ⟨rfl, ?_⟩
    simp [go_sem, f6]
  case s5 =>
    refine step_val (v := (.slice ad (len D) cd1)) (fun av wv hE hS hO hD => ?_) (fun _ => rfl)
    have h7 : av.eval (.tmp 7) = (.slice ad (len D) cd1) := hO.2.2 7 rfl
    have f7 := (ev_form av 7).symm.trans h7
    refine ⟨rfl, ?_⟩
    simp [go_sem, f7]
  case s6 =>
    refine step_wp (fun av wv hE hS hO hD => ?_)
    have d32 : av.eval (.tmp 32) = (.string r) := hD.1 rfl _ rfl
    have f32 := (ev_form av 32).symm.trans d32
    have d34 : av.eval (.tmp 34) = (.int .i64 n) := hD.2.1 rfl _ rfl
    have f34 := (ev_form av 34).symm.trans d34
    have d35 : av.eval (.tmp 35) = (.slice pa q pc) := hD.2.2.1 rfl _ rfl
    have f35 := (ev_form av 35).symm.trans d35
    have d36 : av.eval (.tmp 36) = (.slice ae (len E) ce1) := hD.2.2.2.1 rfl _ rfl
    have f36 := (ev_form av 36).symm.trans d36
    have d37 : av.eval (.tmp 37) = (.slice ad (len D) cd1) := hD.2.2.2.2.1 rfl _ rfl
    have f37 := (ev_form av 37).symm.trans d37
    refine ⟨rfl, ?_⟩
    refine wp_of_call (v := .int .i64 C1) (by simp [go_sem, f32, f34, f35, f36, f37]) (HP1.out wv (of_drew hE)) (fun w2 hb => ⟨_, rfl, es_of_ext hb, rfl⟩)
  case s7 =>
    refine step_val (v := (.string r)) (fun av wv hE hS hO hD => ?_) (fun _ => rfl)
    have h1 : av.eval (.tmp 1) = (.string r) := hO.2.2 1 rfl
    have f1 := (ev_form av 1).symm.trans h1
    refine ⟨rfl, ?_⟩
    simp [go_sem, f1]
  case s8 =>
    refine step_val (v := (.pointer (some ⟨xb, 0, none⟩))) (fun av wv hE hS hO hD => ?_) (fun _ => rfl)
    have h2 : av.eval (.tmp 2) = (.pointer (some ⟨xb, 0, none⟩)) := hO.2.2 2 rfl
    have f2 := (ev_form av 2).symm.trans h2
    refine ⟨rfl, ?_⟩
    simp [go_sem, f2]
  case s9 =>
    refine step_val (v := (.int .i64 n)) (fun av wv hE hS hO hD => ?_) (fun _ => rfl)
    have d40 : av.eval (.tmp 40) = (.pointer (some ⟨xb, 0, none⟩)) := hD.1 rfl _ rfl
    have f40 := (ev_form av 40).symm.trans d40
    have cn := extB_cell hE (by simp) cn
    refine ⟨rfl, ?_⟩
    simp [go_sem, f40, cn]
  case s10 =>
    refine step_val (v := (.slice pa q pc)) (fun av wv hE hS hO hD => ?_) (fun _ => rfl)
    have h5 : av.eval (.tmp 5) = (.slice pa q pc) := hO.2.2 5 rfl
    have f5 := (ev_form av 5).symm.trans h5
    refine ⟨rfl, ?_⟩
    simp [go_sem, f5]
  case s11 =>
    refine step_val (v := (.slice ae (len E) ce1)) (fun av wv hE hS hO hD => ?_) (fun _ => rfl)
    have h6 : av.eval (.tmp 6) = (.slice ae (len E) ce1) := hO.2.2 6 rfl
    have f6 := (ev_form av 6).symm.trans h6
    refine ⟨rfl, ?_⟩
    simp [go_sem, f6]
  case s12 =>
    refine step_val (v := (.slice ad (len D) cd1)) (fun av wv hE hS hO hD => ?_) (fun _ => rfl)
    have h7 : av.eval (.tmp 7) = (.slice ad (len D) cd1) := hO.2.2 7 rfl
    have f7 := (ev_form av 7).symm.trans h7
    refine ⟨rfl, ?_⟩
    simp [go_sem, f7]
  case s13 =>
    refine step_wp (fun av wv hE hS hO hD => ?_)
    have d39 : av.eval (.tmp 39) = (.string r) := hD.1 rfl _ rfl
    have f39 := (ev_form av 39).symm.trans d39
    have d41 : av.eval (.tmp 41) = (.int .i64 n) := hD.2.1 rfl _ rfl
    have f41 := (ev_form av 41).symm.trans d41
    have d42 : av.eval (.tmp 42) = (.slice pa q pc) := hD.2.2.1 rfl _ rfl
    have f42 := (ev_form av 42).symm.trans d42
    have d43 : av.eval (.tmp 43) = (.slice ae (len E) ce1) := hD.2.2.2.1 rfl _ rfl
    have f43 := (ev_form av 43).symm.trans d43
    have d44 : av.eval (.tmp 44) = (.slice ad (len D) cd1) := hD.2.2.2.2.1 rfl _ rfl
    have f44 := (ev_form av 44).symm.trans d44
    refine ⟨rfl, ?_⟩
    refine wp_of_call (v := .int .i64 C1) (by simp [go_sem, f39, f41, f42, f43, f44]) (HQ1.out wv (of_drew hE)) (fun w2 hb => ⟨_, rfl, es_of_ext hb, rfl⟩)
  case s14 =>
    refine step_val (v := (.bool true)) (fun av wv hE hS hO hD => ?_) (fun _ => rfl)
    have d38 : av.eval (.tmp 38) = (.int .i64 C1) := hD.1 rfl _ rfl
    have f38 := (ev_form av 38).symm.trans d38
    have d45 : av.eval (.tmp 45) = (.int .i64 C1) := hD.2.1 rfl _ rfl
    have f45 := (ev_form av 45).symm.trans d45
    refine ⟨rfl, ?_⟩
    simp [go_sem, f38, f45]
  case s15 =>
    refine step_val (v := (.bool true)) (fun av wv hE hS hO hD => ?_) (fun _ => rfl)
    have d46 : av.eval (.tmp 46) = (.bool true) := hD.1 rfl _ rfl
    have f46 := (ev_form av 46).symm.trans d46
    refine ⟨rfl, ?_⟩
    simp [go_sem, f46]
  case s16 =>
    refine step_val (v := (.string RS)) (fun av wv hE hS hO hD => ?_) (fun _ => rfl)
    have h8 : av.eval (.tmp 8) = (.string RS) := hO.2.2 8 rfl
    have f8 := (ev_form av 8).symm.trans h8
    have d47 : av.eval (.tmp 47) = (.bool true) := hD.1 rfl _ rfl
    have f47 := (ev_form av 47).symm.trans d47
    refine ⟨(wanted_of (d := 47) (b := true) (want := true) rfl rfl rfl d47), ?_⟩
    simp [go_sem, f8, f47]
  case s17 =>
    refine step_val (v := (.pointer (some ⟨xb, 0, none⟩))) (fun av wv hE hS hO hD => ?_) (fun _ => rfl)
    have h2 : av.eval (.tmp 2) = (.pointer (some ⟨xb, 0, none⟩)) := hO.2.2 2 rfl
    have f2 := (ev_form av 2).symm.trans h2
    have d47 : av.eval (.tmp 47) = (.bool true) := hD.1 rfl _ rfl
    have f47 := (ev_form av 47).symm.trans d47
    refine ⟨(wanted_of (d := 47) (b := true) (want := true) rfl rfl rfl d47), ?_⟩
    simp [go_sem, f2, f47]
  case s18 =>
    refine step_val (v := (.int .i64 n)) (fun av wv hE hS hO hD => ?_) (fun _ => rfl)
    have d49 : av.eval (.tmp 49) = (.pointer (some ⟨xb, 0, none⟩)) := hD.1 rfl _ rfl
    have f49 := (ev_form av 49).symm.trans d49
    have d47 : av.eval (.tmp 47) = (.bool true) := hD.2.1 rfl _ rfl
    have f47 := (ev_form av 47).symm.trans d47
    have cn := extB_cell hE (by simp) cn
    refine ⟨(wanted_of (d := 47) (b := true) (want := true) rfl rfl rfl d47), ?_⟩
    simp [go_sem, f49, f47, cn]
  case s19 =>
    refine step_val (v := (.slice pa q pc)) (fun av wv hE hS hO hD => ?_) (fun _ => rfl)
    have h5 : av.eval (.tmp 5) = (.slice pa q pc) := hO.2.2 5 rfl
    have f5 := (ev_form av 5).symm.trans h5
    have d47 : av.eval (.tmp 47) = (.bool true) := hD.1 rfl _ rfl
    have f47 := (ev_form av 47).symm.trans d47
    refine ⟨(wanted_of (d := 47) (b := true) (want := true) rfl rfl rfl d47), ?_⟩
    simp [go_sem, f5, f47]
  case s20 =>
    refine step_val (v := (.slice ae (len E) ce1)) (fun av wv hE hS hO hD => ?_) (fun _ => rfl)
    have h6 : av.eval (.tmp 6) = (.slice ae (len E) ce1) := hO.2.2 6 rfl
    have f6 := (ev_form av 6).symm.trans h6
    have d47 : av.eval (.tmp 47) = (.bool true) := hD.1 rfl _ rfl
    have f47 := (ev_form av 47).symm.trans d47
    refine ⟨(wanted_of (d := 47) (b := true) (want := true) rfl rfl rfl d47), ?_⟩
    simp [go_sem, f6, f47]
  case s21 =>
    refine step_val (v := (.slice ad (len D) cd1)) (fun av wv hE hS hO hD => ?_) (fun _ => rfl)
    have h7 : av.eval (.tmp 7) = (.slice ad (len D) cd1) := hO.2.2 7 rfl
    have f7 := (ev_form av 7).symm.trans h7
    have d47 : av.eval (.tmp 47) = (.bool true) := hD.1 rfl _ rfl
    have f47 := (ev_form av 47).symm.trans d47
    refine ⟨(wanted_of (d := 47) (b := true) (want := true) rfl rfl rfl d47), ?_⟩
    simp [go_sem, f7, f47]
  case s22 =>
    refine step_wp (fun av wv hE hS hO hD => ?_)
    have d48 : av.eval (.tmp 48) = (.string RS) := hD.1 rfl _ rfl
    have f48 := (ev_form av 48).symm.trans d48
    have d50 : av.eval (.tmp 50) = (.int .i64 n) := hD.2.1 rfl _ rfl
    have f50 := (ev_form av 50).symm.trans d50
    have d51 : av.eval (.tmp 51) = (.slice pa q pc) := hD.2.2.1 rfl _ rfl
    have f51 := (ev_form av 51).symm.trans d51
    have d52 : av.eval (.tmp 52) = (.slice ae (len E) ce1) := hD.2.2.2.1 rfl _ rfl
    have f52 := (ev_form av 52).symm.trans d52
    have d53 : av.eval (.tmp 53) = (.slice ad (len D) cd1) := hD.2.2.2.2.1 rfl _ rfl
    have f53 := (ev_form av 53).symm.trans d53
    have d47 : av.eval (.tmp 47) = (.bool true) := hD.2.2.2.2.2.1 rfl _ rfl
    have f47 := (ev_form av 47).symm.trans d47
    refine ⟨(wanted_of (d := 47) (b := true) (want := true) rfl rfl rfl d47), ?_⟩
    refine wp_of_call (v := .int .i64 C2) (by simp [go_sem, f48, f50, f51, f52, f53]) (HP2.out wv (of_drew hE)) (fun w2 hb => ⟨_, rfl, es_of_ext hb, rfl⟩)
  case s23 =>
    refine step_val (v := (.string RS)) (fun av wv hE hS hO hD => ?_) (fun _ => rfl)
    have h8 : av.eval (.tmp 8) = (.string RS) := hO.2.2 8 rfl
    have f8 := (ev_form av 8).symm.trans h8
    have d47 : av.eval (.tmp 47) = (.bool true) := hD.1 rfl _ rfl
    have f47 := (ev_form av 47).symm.trans d47
    refine ⟨(wanted_of (d := 47) (b := true) (want := true) rfl rfl rfl d47), ?_⟩
    simp [go_sem, f8, f47]
  case s24 =>
    refine step_val (v := (.pointer (some ⟨xb, 0, none⟩))) (fun av wv hE hS hO hD => ?_) (fun _ => rfl)
    have h2 : av.eval (.tmp 2) = (.pointer (some ⟨xb, 0, none⟩)) := hO.2.2 2 rfl
    have f2 := (ev_form av 2).symm.trans h2
    have d47 : av.eval (.tmp 47) = (.bool true) := hD.1 rfl _ rfl
    have f47 := (ev_form av 47).symm.trans d47
    refine ⟨(wanted_of (d := 47) (b := true) (want := true) rfl rfl rfl d47), ?_⟩
    simp [go_sem, f2, f47]
  case s25 =>
    refine step_val (v := (.int .i64 n)) (fun av wv hE hS hO hD => ?_) (fun _ => rfl)
    have d56 : av.eval (.tmp 56) = (.pointer (some ⟨xb, 0, none⟩)) := hD.1 rfl _ rfl
    have f56 := (ev_form av 56).symm.trans d56
    have d47 : av.eval (.tmp 47) = (.bool true) := hD.2.1 rfl _ rfl
    have f47 := (ev_form av 47).symm.trans d47
    have cn := extB_cell hE (by simp) cn
    refine ⟨(wanted_of (d := 47) (b := true) (want := true) rfl rfl rfl d47), ?_⟩
    simp [go_sem, f56, f47, cn]
  case s26 =>
    refine step_val (v := (.slice pa q pc)) (fun av wv hE hS hO hD => ?_) (fun _ => rfl)
    have h5 : av.eval (.tmp 5) = (.slice pa q pc) := hO.2.2 5 rfl
    have f5 := (ev_form av 5).symm.trans h5
    have d47 : av.eval (.tmp 47) = (.bool true) := hD.1 rfl _ rfl
    have f47 := (ev_form av 47).symm.trans d47
    refine ⟨(wanted_of (d := 47) (b := true) (want := true) rfl rfl rfl d47), ?_⟩
    simp [go_sem, f5, f47]
  case s27 =>
    refine step_val (v := (.slice ae (len E) ce1)) (fun av wv hE hS hO hD => ?_) (fun _ => rfl)
    have h6 : av.eval (.tmp 6) = (.slice ae (len E) ce1) := hO.2.2 6 rfl
    have f6 := (ev_form av 6).symm.trans h6
    have d47 : av.eval (.tmp 47) = (.bool true) := hD.1 rfl _ rfl
    have f47 := (ev_form av 47).symm.trans d47
    refine ⟨(wanted_of (d := 47) (b := true) (want := true) rfl rfl rfl d47), ?_⟩
    simp [go_sem, f6, f47]
  case s28 =>
    refine step_val (v := (.slice ad (len D) cd1)) (fun av wv hE hS hO hD => ?_) (fun _ => rfl)
    have h7 : av.eval (.tmp 7) = (.slice ad (len D) cd1) := hO.2.2 7 rfl
    have f7 := (ev_form av 7).symm.trans h7
    have d47 : av.eval (.tmp 47) = (.bool true) := hD.1 rfl _ rfl
    have f47 := (ev_form av 47).symm.trans d47
    refine ⟨(wanted_of (d := 47) (b := true) (want := true) rfl rfl rfl d47), ?_⟩
    simp [go_sem, f7, f47]
  case s29 =>
    refine step_wp (fun av wv hE hS hO hD => ?_)
    have d55 : av.eval (.tmp 55) = (.string RS) := hD.1 rfl _ rfl
    have f55 := (ev_form av 55).symm.trans d55
    have d57 : av.eval (.tmp 57) = (.int .i64 n) := hD.2.1 rfl _ rfl
    have f57 := (ev_form av 57).symm.trans d57
    have d58 : av.eval (.tmp 58) = (.slice pa q pc) := hD.2.2.1 rfl _ rfl
    have f58 := (ev_form av 58).symm.trans d58
    have d59 : av.eval (.tmp 59) = (.slice ae (len E) ce1) := hD.2.2.2.1 rfl _ rfl
    have f59 := (ev_form av 59).symm.trans d59
    have d60 : av.eval (.tmp 60) = (.slice ad (len D) cd1) := hD.2.2.2.2.1 rfl _ rfl
    have f60 := (ev_form av 60).symm.trans d60
    have d47 : av.eval (.tmp 47) = (.bool true) := hD.2.2.2.2.2.2.1 rfl _ rfl
    have f47 := (ev_form av 47).symm.trans d47
    refine ⟨(wanted_of (d := 47) (b := true) (want := true) rfl rfl rfl d47), ?_⟩
    refine wp_of_call (v := .int .i64 C2) (by simp [go_sem, f55, f57, f58, f59, f60]) (HQ2.out wv (of_drew hE)) (fun w2 hb => ⟨_, rfl, es_of_ext hb, rfl⟩)
  case s30 =>
    refine step_val (v := (.bool true)) (fun av wv hE hS hO hD => ?_) (fun _ => rfl)
    have d54 : av.eval (.tmp 54) = (.int .i64 C2) := hD.1 rfl _ rfl
    have f54 := (ev_form av 54).symm.trans d54
    have d61 : av.eval (.tmp 61) = (.int .i64 C2) := hD.2.1 rfl _ rfl
    have f61 := (ev_form av 61).symm.trans d61
    have d47 : av.eval (.tmp 47) = (.bool true) := hD.2.2.1 rfl _ rfl
    have f47 := (ev_form av 47).symm.trans d47
    refine ⟨(wanted_of (d := 47) (b := true) (want := true) rfl rfl rfl d47), ?_⟩
    simp [go_sem, f54, f61, f47]
  case s31 =>
    refine step_val (v := (.bool true)) (fun av wv hE hS hO hD => ?_) (fun _ => rfl)
    have d47 : av.eval (.tmp 47) = (.bool true) := hD.1 rfl _ rfl
    have f47 := (ev_form av 47).symm.trans d47
    have d62 : av.eval (.tmp 62) = (.bool true) := hD.2.1 rfl _ rfl
    have f62 := (ev_form av 62).symm.trans d62
    refine ⟨rfl, ?_⟩
    simp [go_sem, f47, f62]
  case s32 =>
    refine step_val (v := (.bool true)) (fun av wv hE hS hO hD => ?_) (fun _ => rfl)
    have d63 : av.eval (.tmp 63) = (.bool true) := hD.1 rfl _ rfl
    have f63 := (ev_form av 63).symm.trans d63
    refine ⟨rfl, ?_⟩
    simp [go_sem, f63]
  case s33 =>
    refine step_wp (fun av wv hE hS hO hD => ?_)
    have d64 : av.eval (.tmp 64) = (.bool true) := hD.1 rfl _ rfl
    have f64 := (ev_form av 64).symm.trans d64
    refine ⟨(wanted_of (d := 64) (b := true) (want := true) rfl rfl rfl d64), ?_⟩
    refine wp_of_call (v := .bool true) (by simp [go_sem]) (HWK.out wv) (fun w2 hb => ⟨_, rfl, es_of_ext hb, rfl⟩)
  case s34 =>
    refine step_val (v := (.bool true)) (fun av wv hE hS hO hD => ?_) (fun _ => rfl)
    have d64 : av.eval (.tmp 64) = (.bool true) := hD.1 rfl _ rfl
    have f64 := (ev_form av 64).symm.trans d64
    have d65 : av.eval (.tmp 65) = (.bool true) := hD.2.1 rfl _ rfl
    have f65 := (ev_form av 65).symm.trans d65
    refine ⟨rfl, ?_⟩
    simp [go_sem, f64, f65]
  case s35 =>
    refine step_val (v := (.bool true)) (fun av wv hE hS hO hD => ?_) (fun _ => rfl)
    have d66 : av.eval (.tmp 66) = (.bool true) := hD.1 rfl _ rfl
    have f66 := (ev_form av 66).symm.trans d66
    refine ⟨rfl, ?_⟩
    simp [go_sem, f66]
  intro a' w' hE hO hall
  have hA := act_of_outer (ds := [32, 33, 34, 35, 36, 37, 38, 39, 40, 41, 42, 43, 44, 45, 46, 47, 48, 49, 50, 51, 52, 53, 54, 55, 56, 57, 58, 59, 60, 61, 62, 63, 64, 65, 66, 4]) rfl hO (by kernel_rfl)
  have e32 : (fun u _ => u = (.string r)) (a'.eval (.tmp 32)) w' := hall.1 _ rfl
  have e33 : (fun u _ => u = (.pointer (some ⟨xb, 0, none⟩))) (a'.eval (.tmp 33)) w' := hall.2.1 _ rfl
  have e34 : (fun u _ => u = (.int .i64 n)) (a'.eval (.tmp 34)) w' := hall.2.2.1 _ rfl
  have e35 : (fun u _ => u = (.slice pa q pc)) (a'.eval (.tmp 35)) w' := hall.2.2.2.1 _ rfl
  have e36 : (fun u _ => u = (.slice ae (len E) ce1)) (a'.eval (.tmp 36)) w' := hall.2.2.2.2.1 _ rfl
  have e37 : (fun u _ => u = (.slice ad (len D) cd1)) (a'.eval (.tmp 37)) w' := hall.2.2.2.2.2.1 _ rfl
  have e38 : (fun u _ => u = (.int .i64 C1)) (a'.eval (.tmp 38)) w' := hall.2.2.2.2.2.2.1 _ rfl
  have e39 : (fun u _ => u = (.string r)) (a'.eval (.tmp 39)) w' := hall.2.2.2.2.2.2.2.1 _ rfl
  have e40 : (fun u _ => u = (.pointer (some ⟨xb, 0, none⟩))) (a'.eval (.tmp 40)) w' := hall.2.2.2.2.2.2.2.2.1 _ rfl
  have e41 : (fun u _ => u = (.int .i64 n)) (a'.eval (.tmp 41)) w' := hall.2.2.2.2.2.2.2.2.2.1 _ rfl
  have e42 : (fun u _ => u = (.slice pa q pc)) (a'.eval (.tmp 42)) w' := hall.2.2.2.2.2.2.2.2.2.2.1 _ rfl
  have e43 : (fun u _ => u = (.slice ae (len E) ce1)) (a'.eval (.tmp 43)) w' := hall.2.2.2.2.2.2.2.2.2.2.2.1 _ rfl
  have e44 : (fun u _ => u = (.slice ad (len D) cd1)) (a'.eval (.tmp 44)) w' := hall.2.2.2.2.2.2.2.2.2.2.2.2.1 _ rfl
  have e45 : (fun u _ => u = (.int .i64 C1)) (a'.eval (.tmp 45)) w' := hall.2.2.2.2.2.2.2.2.2.2.2.2.2.1 _ rfl
  have e46 : (fun u _ => u = (.bool true)) (a'.eval (.tmp 46)) w' := hall.2.2.2.2.2.2.2.2.2.2.2.2.2.2.1 _ rfl
  have e47 : (fun u _ => u = (.bool true)) (a'.eval (.tmp 47)) w' := hall.2.2.2.2.2.2.2.2.2.2.2.2.2.2.2.1 _ rfl
  have e48 : (fun u _ => u = (.string RS)) (a'.eval (.tmp 48)) w' := hall.2.2.2.2.2.2.2.2.2.2.2.2.2.2.2.2.1 _ rfl
  have e49 : (fun u _ => u = (.pointer (some ⟨xb, 0, none⟩))) (a'.eval (.tmp 49)) w' := hall.2.2.2.2.2.2.2.2.2.2.2.2.2.2.2.2.2.1 _ rfl
  have e50 : (fun u _ => u = (.int .i64 n)) (a'.eval (.tmp 50)) w' := hall.2.2.2.2.2.2.2.2.2.2.2.2.2.2.2.2.2.2.1 _ rfl
  have e51 : (fun u _ => u = (.slice pa q pc)) (a'.eval (.tmp 51)) w' := hall.2.2.2.2.2.2.2.2.2.2.2.2.2.2.2.2.2.2.2.1 _ rfl
  have e52 : (fun u _ => u = (.slice ae (len E) ce1)) (a'.eval (.tmp 52)) w' := hall.2.2.2.2.2.2.2.2.2.2.2.2.2.2.2.2.2.2.2.2.1 _ rfl
  have e53 : (fun u _ => u = (.slice ad (len D) cd1)) (a'.eval (.tmp 53)) w' := hall.2.2.2.2.2.2.2.2.2.2.2.2.2.2.2.2.2.2.2.2.2.1 _ rfl
  have e54 : (fun u _ => u = (.int .i64 C2)) (a'.eval (.tmp 54)) w' := hall.2.2.2.2.2.2.2.2.2.2.2.2.2.2.2.2.2.2.2.2.2.2.1 _ rfl
  have e55 : (fun u _ => u = (.string RS)) (a'.eval (.tmp 55)) w' := hall.2.2.2.2.2.2.2.2.2.2.2.2.2.2.2.2.2.2.2.2.2.2.2.1 _ rfl
  have e56 : (fun u _ => u = (.pointer (some ⟨xb, 0, none⟩))) (a'.eval (.tmp 56)) w' := hall.2.2.2.2.2.2.2.2.2.2.2.2.2.2.2.2.2.2.2.2.2.2.2.2.1 _ rfl
  have e57 : (fun u _ => u = (.int .i64 n)) (a'.eval (.tmp 57)) w' := hall.2.2.2.2.2.2.2.2.2.2.2.2.2.2.2.2.2.2.2.2.2.2.2.2.2.1 _ rfl
  have e58 : (fun u _ => u = (.slice pa q pc)) (a'.eval (.tmp 58)) w' := hall.2.2.2.2.2.2.2.2.2.2.2.2.2.2.2.2.2.2.2.2.2.2.2.2.2.2.1 _ rfl
  have e59 : (fun u _ => u = (.slice ae (len E) ce1)) (a'.eval (.tmp 59)) w' := hall.2.2.2.2.2.2.2.2.2.2.2.2.2.2.2.2.2.2.2.2.2.2.2.2.2.2.2.1 _ rfl
  have e60 : (fun u _ => u = (.slice ad (len D) cd1)) (a'.eval (.tmp 60)) w' := hall.2.2.2.2.2.2.2.2.2.2.2.2.2.2.2.2.2.2.2.2.2.2.2.2.2.2.2.2.1 _ rfl
  have e61 : (fun u _ => u = (.int .i64 C2)) (a'.eval (.tmp 61)) w' := hall.2.2.2.2.2.2.2.2.2.2.2.2.2.2.2.2.2.2.2.2.2.2.2.2.2.2.2.2.2.1 _ rfl
  have e62 : (fun u _ => u = (.bool true)) (a'.eval (.tmp 62)) w' := hall.2.2.2.2.2.2.2.2.2.2.2.2.2.2.2.2.2.2.2.2.2.2.2.2.2.2.2.2.2.2.1 _ rfl
  have e63 : (fun u _ => u = (.bool true)) (a'.eval (.tmp 63)) w' := hall.2.2.2.2.2.2.2.2.2.2.2.2.2.2.2.2.2.2.2.2.2.2.2.2.2.2.2.2.2.2.2.1 _ rfl
  have e64 : (fun u _ => u = (.bool true)) (a'.eval (.tmp 64)) w' := hall.2.2.2.2.2.2.2.2.2.2.2.2.2.2.2.2.2.2.2.2.2.2.2.2.2.2.2.2.2.2.2.2.1 _ rfl
  have e65 : (fun u _ => u = (.bool true)) (a'.eval (.tmp 65)) w' := hall.2.2.2.2.2.2.2.2.2.2.2.2.2.2.2.2.2.2.2.2.2.2.2.2.2.2.2.2.2.2.2.2.2.1 _ rfl
  have e66 : (fun u _ => u = (.bool true)) (a'.eval (.tmp 66)) w' := hall.2.2.2.2.2.2.2.2.2.2.2.2.2.2.2.2.2.2.2.2.2.2.2.2.2.2.2.2.2.2.2.2.2.2.1 _ rfl
  have e4 : (fun u _ => u = (.bool true)) (a'.eval (.tmp 4)) w' := hall.2.2.2.2.2.2.2.2.2.2.2.2.2.2.2.2.2.2.2.2.2.2.2.2.2.2.2.2.2.2.2.2.2.2.2.1 _ rfl
  simp only [List.foldl_cons, List.foldl_nil, Act.put, List.setIfInBounds_toArray, List.set_cons_succ, List.set_cons_zero, e32, e33, e34, e35, e36, e37, e38, e39, e40, e41, e42, e43, e44, e45, e46, e47, e48, e49, e50, e51, e52, e53, e54, e55, e56, e57, e58, e59, e60, e61, e62, e63, e64, e65, e66, e4] at hA
  clear hO hall e32 e33 e34 e35 e36 e37 e38 e39 e40 e41 e42 e43 e44 e45 e46 e47 e48 e49 e50 e51 e52 e53 e54 e55 e56 e57 e58 e59 e60 e61 e62 e63 e64 e65 e66 e4
  subst hA
  have HW4 : Hid (Below w.heap.size w w') := Lib.hid (bnext HW3.out (of_drew hE))
  clear hE cn
  go_wp2
  go_ret
  exact ⟨by first | rfl | simp, HW4.out⟩
end Go.Proofs.Ytloccahcnikbfaa
namespace Go.Proofs.Ytloccahcnikbfaa
set_option linter.unusedSimpArgs false
set_option linter.unusedVariables false
open Go.RowKit Go.ChangeShapes Go.WideShapes Go.ChangeAt Go.Deep
section
variable {H : Type} {enc : TypeId × Value → H} {P : Program} {w : World}
theorem below_trodAll (hl : laidOutB P = true) {W W' : World} (hb : Below W.heap.size W W') : ∀ {ts : List TypeId} {vs : List Value} {ds : List (DataW H)} {ps : List MemPlace},
    (∀ t ∈ ts, P.readableRec t = true ∧ t < P.types.size) → DataW.TrodAll enc P W 0 (fun _ => true) true ts vs ds ps → DataW.TrodAll enc P W' 0 (fun b => decide (b < W.heap.size)) true ts vs ds ps
  | [], vs, ds, ps, _, h => by
    obtain ⟨rfl, rfl, rfl⟩ := trodAll_nil h
    exact trodAll_mk0
  | t :: ts, vs, ds, ps, ht, h => by
    obtain ⟨v, vs', d, ds', p, q, rfl, rfl, rfl, h0, r0⟩ := trodAll_cons h
    have lt0 : ∀ x ∈ p, x.block < W.heap.size := by obtain ⟨m, hm⟩ := h0; exact DataW.trod_lt m _ _ _ hm
    exact trodAll_cons_mk (Below.trod hl (ht t (List.mem_cons_self ..)).1 (ht t (List.mem_cons_self ..)).2 h0 hb lt0) (below_trodAll hl hb (fun t' h' => ht t' (List.mem_cons_of_mem _ h')) r0)
theorem list_of {α : Type} {n : Nat} {p : Nat → α → Prop} (h : ∀ i, i < n → ∃ x, p i x) : ∃ l : List α, l.length = n ∧ ∀ i (hi : i < l.length), p i l[i] := by
  induction n with
  | zero => exact ⟨[], rfl, fun i hi => by simp at hi⟩
  | succ n ih =>
    obtain ⟨l, hl, hp⟩ := ih (fun i hi => h i (by omega))
    obtain ⟨x, hx⟩ := h n (by omega)
    refine ⟨l ++ [x], by simp [hl], fun i hi => ?_⟩
    rcases Nat.lt_or_ge i l.length with h' | h'
    · rw [List.getElem_append_left h']; exact hp i h'
    · have e : i = l.length := by simp at hi; omega
      subst e
      simp only [List.getElem_append_right (Nat.le_refl _), Nat.sub_self, List.getElem_cons_zero]
      rw [hl]; exact hx
theorem cell_read {n : Nat} {e : TypeId} {k : IntKind} {v : Value} {y : DataW H × List MemPlace} (he : P.underlying e = some (.int k)) (h : DataW.trod enc P w 0 (fun _ => true) true n e [v] = some y) : ∃ x, v = .int k x ∧ (Lit.int k x).wf = true := by
  obtain ⟨x, hx, _, hw⟩ := DataW.trod_int he h
  exact ⟨x, by simpa using hx, hw⟩
theorem wf_u64 {x : Int} (h : (Lit.int .u64 x).wf = true) : 0 ≤ x ∧ x < 18446744073709551616 := by
  simp [Lit.wf, IntKind.min, IntKind.max, IntKind.bits, IntKind.signed] at h; omega
end
end Go.Proofs.Ytloccahcnikbfaa
namespace Go.Proofs.Ytloccahcnikbfaa
set_option linter.unusedSimpArgs false
set_option linter.unusedVariables false
open Go.RowKit Go.ChangeShapes Go.WideShapes Go.ChangeAt
theorem own : ownKnob Try.prog.godebug = none := by kernel_rfl
theorem laidOut : laidOutB Try.prog = true := by kernel_rfl
end Go.Proofs.Ytloccahcnikbfaa
namespace Go.Proofs.Ytloccahcnikbfaa
set_option linter.unusedSimpArgs false
set_option linter.unusedVariables false
open Go.RowKit Go.ChangeShapes Go.WideShapes Go.ChangeAt Go.ChangeMaps
section
variable {P : Program} {H : Type} {enc : TypeId × Value → H} {w : World}
theorem wf_i64 {x : Int} (h : (Lit.int .i64 x).wf = true) : -9223372036854775808 ≤ x ∧ x ≤ 9223372036854775807 := by
  simp [Lit.wf, IntKind.min, IntKind.max, IntKind.bits, IntKind.signed] at h; omega
theorem open_str {t : TypeId} (ht : P.underlying t = some .string) {v : Value} {d : DataW H} {p : List MemPlace} {r : Reach} {base : Nat} (hv : Value.okWide P w r base t v) (h : DataW.Trod enc P w 0 (fun _ => true) true t v d p) :
    ∃ s : ByteArray, v = .string s ∧ d = .lit (.string s.data.toList) ∧ p = [] ∧ s.size ≤ 9223372036854775807 := by
  obtain ⟨s, rfl, h1, h2, h3⟩ := open_string ht hv h
  exact ⟨s, rfl, h1, h2, by unfold maxLen at h3; exact h3⟩
end
end Go.Proofs.Ytloccahcnikbfaa
namespace Go.Proofs.Ytloccahcnikbfaa
set_option linter.unusedSimpArgs false
set_option linter.unusedVariables false
open Go.RowKit Go.ChangeShapes Go.WideShapes Go.ChangeAt Go.ChangeMaps
section
variable {P : Program} {H : Type} {enc : TypeId × Value → H} {w : World}
theorem str_readx {n : Nat} {e : TypeId} {v : Value} {y : DataW H × List MemPlace} (he : P.underlying e = some .string) (h : DataW.trod enc P w 0 (fun _ => true) true n e [v] = some y) : ∃ s : ByteArray, v = .string s ∧ s.size ≤ maxLen := by
  obtain ⟨s, hx, _, hw⟩ := DataW.trod_string he h
  exact ⟨s, by simpa using hx, hw⟩
end
end Go.Proofs.Ytloccahcnikbfaa
namespace Go.Proofs.Ytloccahcnikbfaa
open Go.RowKit Go.ChangeShapes Go.WideShapes Go.ChangeAt Go.Deep Go.ChangeMaps
set_option linter.unusedSimpArgs false
set_option linter.unusedVariables false
section
variable {H : Type} {enc : TypeId × Value → H} {P : Program} {w : World}
theorem slice_read {α : Type} {t e : TypeId} (k : Nat) (cells : α → List Value) (ok : α → Prop) (ht : P.underlying t = some (.slice e)) (hC : P.cellsOf e = k) (hk : 0 < k)
    (hel : ∀ n cs' y, cs'.length = k → DataW.trod enc P w 0 (fun _ => true) true n e cs' = some y → ∃ x, cs' = cells x ∧ ok x)
    {n : Nat} {v : Value} {y : DataW H × List MemPlace} (h : DataW.trod enc P w 0 (fun _ => true) true n t [v] = some y) :
    ∃ a c, ∃ l : List α, v = .slice a (len l) c ∧ len l ≤ c ∧ c ≤ maxLen ∧ ∀ i (hi : i < l.length), ok l[i] ∧ ∃ b off, a = some ⟨b, off, none⟩ ∧ ∀ j, j < k → w.cell? ⟨b, off + i * k + j, none⟩ = (cells l[i])[j]? := by
  rcases open_slice ht h with ⟨hcs, _⟩ | ⟨a, n0, c0, m, q, D, Pl, hcs, _, hl, hm, hmm, _, hi⟩
  · simp at hcs
    subst hcs
    exact ⟨none, 0, [], rfl, Nat.le_refl _, Nat.zero_le _, fun i hi => by simp at hi⟩
  · simp at hcs
    subst hcs
    have hnm : n0 ≤ m := by rw [hmm]; simp; exact hl
    have each : ∀ i, i < n0 → ∃ x, ok x ∧ ∃ b off, some a = some ⟨b, off, none⟩ ∧ ∀ j, j < k → w.cell? ⟨b, off + i * k + j, none⟩ = (cells x)[j]? := by
      intro i hin
      obtain ⟨cs', hc, htr⟩ := hi i (by omega)
      rw [hC] at hc
      obtain ⟨_, hcl, hat⟩ := World.cells?_some hc
      obtain ⟨x, rfl, hx⟩ := hel q cs' _ hcl htr
      obtain ⟨b, off, spot⟩ := a
      have hspot : spot = none := by
        obtain ⟨cs0, hc0, htr0⟩ := hi 0 (by omega)
        rw [hC] at hc0
        obtain ⟨_, hcl0, hat0⟩ := World.cells?_some hc0
        have h1 := hat0 0 hk
        have h2 : cs0[0]? = some (cs0[0]'(by omega)) := List.getElem?_eq_getElem (by omega)
        rw [h2] at h1
        simpa [Addr.add] using World.cell?_spot h1
      subst hspot
      refine ⟨x, hx, b, off, rfl, fun j hj => ?_⟩
      have h1 := hat j hj
      rw [Go.Deep.add_add] at h1
      have e : (⟨b, off, none⟩ : Addr).add (i * k + j) = ⟨b, off + i * k + j, none⟩ := by
        unfold Addr.add; split
        · rename_i h0; simp <;> omega
        · simp [Nat.add_assoc]
      rw [e] at h1; exact h1
    obtain ⟨l, hll, hp⟩ := list_of each
    subst hll
    exact ⟨some a, c0, l, rfl, hl, hm, hp⟩
theorem txts_read {t e : TypeId} (ht : P.underlying t = some (.slice e)) (he : P.underlying e = some .string) (hC : P.cellsOf e = 1) {n : Nat} {v : Value} {y : DataW H × List MemPlace} (h : DataW.trod enc P w 0 (fun _ => true) true n t [v] = some y) :
    ∃ a c, ∃ l : List ByteArray, v = .slice a (len l) c ∧ len l ≤ c ∧ c ≤ maxLen ∧ Txts w a l := by
  obtain ⟨a, c, l, rfl, h1, h2, h3⟩ := slice_read 1 (fun x => [Value.string x]) (fun _ : ByteArray => True) ht hC (by decide) (fun n cs' y hl hy => by
    match cs', hl with
    | [v0], _ =>
      obtain ⟨x, rfl, _⟩ := str_readx he hy
      exact ⟨x, rfl, trivial⟩) h
  refine ⟨a, c, l, rfl, h1, h2, fun i hi => ?_⟩
  obtain ⟨_, b, off, e1, e2⟩ := h3 i hi
  refine ⟨b, off, e1, ?_⟩
  have := e2 0 (by decide)
  rw [Nat.mul_one, Nat.add_zero] at this
  rw [this, tth_eq l i hi]; rfl
theorem nums_readT {t e : TypeId} (ht : P.underlying t = some (.slice e)) (he : P.underlying e = some (.int .u64)) (hC : P.cellsOf e = 1) {n : Nat} {v : Value} {y : DataW H × List MemPlace} (h : DataW.trod enc P w 0 (fun _ => true) true n t [v] = some y) :
    ∃ a c, ∃ l : List Int, v = .slice a (len l) c ∧ len l ≤ c ∧ c ≤ maxLen ∧ U64s w a l ∧ ∀ i, i < len l → 0 ≤ nth l i ∧ nth l i < 18446744073709551616 := by
  obtain ⟨a, c, l, rfl, h1, h2, h3⟩ := slice_read 1 (fun x => [Value.int .u64 x]) (fun x : Int => 0 ≤ x ∧ x < 18446744073709551616) ht hC (by decide) (fun n cs' y hl hy => by
    match cs', hl with
    | [v0], _ =>
      obtain ⟨x, rfl, hw⟩ := cell_read he hy
      exact ⟨x, rfl, wf_u64 hw⟩) h
  refine ⟨a, c, l, rfl, h1, h2, fun i hi => ?_, fun i hi => ?_⟩
  · obtain ⟨_, b, off, e1, e2⟩ := h3 i hi
    refine ⟨b, off, e1, ?_⟩
    have := e2 0 (by decide)
    rw [Nat.mul_one, Nat.add_zero] at this
    rw [this, nth_eq l i hi]; rfl
  · rw [nth_eq l i hi]; exact (h3 i hi).1
end
set_option maxRecDepth 100000 in
theorem open_try {H : Type} {enc : TypeId × Value → H} {w : World} {v : Value} {d : DataW H} {p : List MemPlace} {r : Reach} {base : Nat} (hv : Value.okWide Try.prog w r base 25 v) (h : DataW.Trod enc Try.prog w 0 (fun _ => true) true 25 v d p) :
    ∃ (n : Int) (pa : Option Addr) (pc : Nat) (ps : List Int) (ea : Option Addr) (ec : Nat) (es : List ByteArray) (da : Option Addr) (dc : Nat) (ds : List ByteArray), v = .agg #[.int .i64 n, .slice pa (len ps) pc, .slice ea (len es) ec, .slice da (len ds) dc] ∧ (-9223372036854775808 ≤ n ∧ n ≤ 9223372036854775807) ∧ (len ps ≤ pc ∧ pc ≤ maxLen ∧ U64s w pa ps ∧ ∀ i, i < len ps → 0 ≤ nth ps i ∧ nth ps i < 18446744073709551616) ∧ (len es ≤ ec ∧ ec ≤ maxLen ∧ Txts w ea es) ∧ (len ds ≤ dc ∧ dc ≤ maxLen ∧ Txts w da ds) := by
  obtain ⟨cs', rfl, hsz⟩ := okWide_struct Try.underlying25 hv
  have hsz' : cs'.size = 4 := hsz.trans (by kernel_rfl)
  obtain ⟨l⟩ := cs'
  match l, hsz' with
  | [v0, v1, v2, v3], _ =>
    obtain ⟨fuel, hf⟩ := h
    obtain ⟨xs, m, _, _, _, hxl, hx⟩ := DataW.trod_struct Try.underlying25 hf
    have hxl' : xs.length = 4 := hxl
    simp only [Value.cells] at hx
    have h0 : DataW.trod enc Try.prog w 0 (fun _ => true) true m 3 (([v0, v1, v2, v3].drop 0).take (Try.prog.cellsOf 3)) = xs[0]? := hx 0 _ rfl
    rw [show Try.prog.cellsOf 3 = 1 by kernel_rfl] at h0
    have h1 : DataW.trod enc Try.prog w 0 (fun _ => true) true m 22 (([v0, v1, v2, v3].drop 1).take (Try.prog.cellsOf 22)) = xs[1]? := hx 1 _ rfl
    rw [show Try.prog.cellsOf 22 = 1 by kernel_rfl] at h1
    have h2 : DataW.trod enc Try.prog w 0 (fun _ => true) true m 23 (([v0, v1, v2, v3].drop 2).take (Try.prog.cellsOf 23)) = xs[2]? := hx 2 _ rfl
    rw [show Try.prog.cellsOf 23 = 1 by kernel_rfl] at h2
    have h3 : DataW.trod enc Try.prog w 0 (fun _ => true) true m 23 (([v0, v1, v2, v3].drop 3).take (Try.prog.cellsOf 23)) = xs[3]? := hx 3 _ rfl
    rw [show Try.prog.cellsOf 23 = 1 by kernel_rfl] at h3
    obtain ⟨n, rfl, w0⟩ := cell_read Try.underlying3 (h0.trans (List.getElem?_eq_getElem (show 0 < xs.length by omega)))
    obtain ⟨pa, pc, ps, rfl, w1⟩ := nums_readT Try.underlying22 Try.underlying35 (by kernel_rfl) (h1.trans (List.getElem?_eq_getElem (show 1 < xs.length by omega)))
    obtain ⟨ea, ec, es, rfl, w2⟩ := txts_read Try.underlying23 Try.underlying9 (by kernel_rfl) (h2.trans (List.getElem?_eq_getElem (show 2 < xs.length by omega)))
    obtain ⟨da, dc, ds, rfl, w3⟩ := txts_read Try.underlying23 Try.underlying9 (by kernel_rfl) (h3.trans (List.getElem?_eq_getElem (show 3 < xs.length by omega)))
    exact ⟨n, pa, pc, ps, ea, ec, es, da, dc, ds, rfl, wf_i64 w0, w1, w2, w3⟩
end Go.Proofs.Ytloccahcnikbfaa

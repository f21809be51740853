/- Parts of the proof, one behind the other. -/
import Derived.Test.YtoafjbillcooiaaGreatLvfP3
import Derived.BigQuiet
namespace Go.Proofs.YtoafjbillcooiaaGreat
open Go.RowKit Go.ChangeMaps
set_option linter.unusedSimpArgs false
set_option linter.unusedVariables false
set_option maxRecDepth 100000 in
set_option maxHeartbeats 4000000 in
theorem rroot_arg (n : Int) (ps : List Int) (es ds : List ByteArray) (pa ea da : Option Addr) (pc ec dc : Nat) (w : World) (hp : U64s w pa ps) (hl : len ps ≤ 100) (h0 : -9223372036854775808 ≤ n) (h1 : n ≤ 9223372036854775807) (hb : ¬ ArgOk n ps es) (hle : len es ≤ 1000000) :
    Calls Tryz.prog 81 #[.int .i64 n, .slice pa (len ps) pc, .slice ea (len es) ec, .slice da (len ds) dc] w (RootIs n ps es ds w) := by
  have HE : Hid (rootE n ps es ds = 2 ∧ rootS n ps es ds = ⟨#[]⟩) := Lib.hid (by
    have h9 : rootE n ps es ds = 2 := by unfold rootE; rw [if_pos hb]
    exact ⟨h9, by unfold rootS; rw [h9]; rfl⟩)
  have HM := Lib.hid (fun w9 hb9 => rMay_any n ps pa pc w9 (hp.below hb9) (by omega) h0 h1)
  by_cases hs : SizeOk n ps
  · have hne : ¬ len es = len ps := fun h9 => hb ⟨hs, h9⟩
    have z1 : ¬ ((len es : Nat) : Int) = ((len ps : Nat) : Int) := by omega
    rw [decide_eq_true hs] at HM
    clear hb hs hp hl h0 h1 hne hle
    go_enter Tryz.func81, Tryz.ntmps81
    go_wp2_with fail
    refine (HM.out _ (Below.refl _ _)).mono ?_
    rintro e w1 ⟨rfl, hb1⟩
    have HB1 := Lib.hid hb1
    clear hb1
    go_wp2
    go_ret2
    exact ⟨by rw [HE.out.1, HE.out.2]; rfl, HB1.out⟩
  · rw [decide_eq_false hs] at HM
    clear hb hs hp hl h0 h1 hle
    go_enter Tryz.func81, Tryz.ntmps81
    go_wp2_with fail
    refine (HM.out _ (Below.refl _ _)).mono ?_
    rintro e w1 ⟨rfl, hb1⟩
    have HB1 := Lib.hid hb1
    clear hb1
    go_wp2
    go_ret2
    exact ⟨by rw [HE.out.1, HE.out.2]; rfl, HB1.out⟩
structure KlAt (B : Nat) (v : Value) (KL : List Plc) (w : World) : Prop where
  own : w.ownsRow B 173 2 v (len KL) (KL.flatMap Plc.cells)
  ok : ∀ x ∈ KL, 0 ≤ x.K ∧ x.K < 65536 ∧ x.d.size ≤ 1000
theorem KlAt.nil (B : Nat) (w : World) : KlAt B (.slice none 0 0) [] w := ⟨World.ownsRow_nil _ _ _ _, fun x h => by simp at h⟩
theorem KlAt.below {B : Nat} {v : Value} {KL : List Plc} {w w' : World} (h : KlAt B v KL w) (hb : Below w.heap.size w w') : KlAt B v KL w' := ⟨own_below h.own hb, h.ok⟩
theorem KlAt.plcs {B : Nat} {v : Value} {KL : List Plc} {w : World} (h : KlAt B v KL w) : ∃ a c, v = .slice a (len KL) c ∧ Plcs w a KL := by
  obtain ⟨a, c, h1, h2, _⟩ := Plcs.own h.own
  exact ⟨a, c, h1, h2⟩
theorem KlAt.snoc {B : Nat} {v : Value} {KL : List Plc} {w' : World} (ok : ∀ x ∈ KL, 0 ≤ x.K ∧ x.K < 65536 ∧ x.d.size ≤ 1000) (x : Plc) (h : w'.ownsRow B 173 2 v (len KL + 1) (KL.flatMap Plc.cells ++ x.cells)) (hx : 0 ≤ x.K ∧ x.K < 65536 ∧ x.d.size ≤ 1000) : KlAt B v (KL ++ [x]) w' := by
  refine ⟨?_, fun y hy => ?_⟩
  · have e : len (KL ++ [x]) = len KL + 1 := by rw [len_eq, List.length_append]; rfl
    rw [e, List.flatMap_append]
    simpa using h
  · rcases List.mem_append.1 hy with h1 | h1
    · exact ok y h1
    · rw [List.mem_singleton] at h1; rw [h1]; exact hx
theorem plc_len_snoc (KL : List Plc) (x : Plc) : len (KL ++ [x]) = len KL + 1 := by rw [len_eq, List.length_append]; rfl
theorem laid8_grow {w w1 : World} {base b2 n : Nat} {v vo : Value} {rs : List (List Int)} {xs : List Value} (h : Laid8 w base v rs) (hq : w.ownsRow b2 173 2 vo n xs) (hg : w.grownBy w1 vo.ownBlock) : Laid8 w1 base v rs := by
  obtain ⟨vals, h1, h2⟩ := h
  refine ⟨vals, h1.kept hg (own_apart h1 hq (by decide)), h2.kept hg (fun i u hu => ?_)⟩
  rcases hq.2 with ⟨e, _⟩ | ⟨g, cap, cur, e, _, hgb, _⟩
  · rw [e]; cases h : u.ownBlock <;> simp [Value.ownBlock]
  · rw [e]; exact h2.apart hgb (by decide) i u hu
theorem laid8_rows {w : World} {base n c : Nat} {a : Option Addr} {rs : List (List Int)} (h : Laid8 w base (.slice a n c) rs) : Rows2 w a rs := by
  obtain ⟨vals, h1, h2⟩ := h
  obtain ⟨a', c', e, h3, _, _⟩ := rows2_of h1 h2
  cases e
  exact h3
theorem leaf_bd {ps : List Int} {d : Nat} (hd : d ≤ 16) (m : Nat) (h : m < len (leavesL ps (d : Nat))) : 0 ≤ nth (leavesL ps (d : Nat)) m ∧ nth (leavesL ps (d : Nat)) m < 65536 := by
  have h1 := leaves_in hd _ (mem_nth h)
  have h2 : (2 : Int) ^ d ≤ 65536 := by
    rw [pow_cast]
    have : 2 ^ d ≤ 65536 := Nat.pow_le_pow_right (n := 2) (by decide) hd
    omega
  omega
theorem plc_take (KL : List Plc) : KL.take (len KL) = KL := List.take_length
theorem fnd_key : ∀ (l : List Plc) (k : Int), (fndF l k).isSome → ∃ x ∈ l, x.K = k
  | [], k, h => by cases h
  | y :: l, k, h => by
    rw [fndF_cons] at h
    by_cases e : y.K = k
    · exact ⟨y, List.mem_cons_self, e⟩
    · rw [if_neg e] at h
      obtain ⟨x, h1, h2⟩ := fnd_key l k h
      exact ⟨x, List.mem_cons_of_mem _ h1, h2⟩
theorem fnd_mem : ∀ (l : List Plc) (x : Plc), x ∈ l → (fndF l x.K).isSome
  | y :: l, x, h => by
    rw [fndF_cons]
    by_cases e : y.K = x.K
    · rw [if_pos e]; rfl
    · rw [if_neg e]
      rcases List.mem_cons.1 h with rfl | h1
      · exact absurd rfl e
      · exact fnd_mem l x h1
theorem fnd_val : ∀ (l : List Plc) (k : Int) (d : ByteArray), fndF l k = some d → ∃ x ∈ l, x.d = d
  | [], k, d, h => by cases h
  | y :: l, k, d, h => by
    rw [fndF_cons] at h
    by_cases e : y.K = k
    · rw [if_pos e] at h; exact ⟨y, List.mem_cons_self, Option.some.inj h⟩
    · rw [if_neg e] at h
      obtain ⟨x, h1, h2⟩ := fnd_val l k d h
      exact ⟨x, List.mem_cons_of_mem _ h1, h2⟩
theorem kl_small {KL : List Plc} (h : ∀ x ∈ KL, 0 ≤ x.K ∧ x.K < 65536 ∧ x.d.size ≤ 1000) (k : Int) : (kidF (fndF KL) k).size ≤ 1000000 := by
  unfold kidF
  cases hf : fndF KL k with
  | none => show (0 : Nat) ≤ _; omega
  | some d =>
    obtain ⟨x, h1, h2⟩ := fnd_val KL k d hf
    have := (h x h1).2.2
    rw [h2] at this
    show d.size ≤ _
    omega
theorem row_bd {ps : List Int} {d i : Nat} {t : Int} (hd : d ≤ 16) (hi : i < d) (h : t ∈ rnth (rowsOf (leavesL ps (d : Nat)) d) i) : 0 ≤ t ∧ t < 65536 := by
  obtain ⟨⟨y, hy, rfl⟩, _⟩ := (row_mem _ d i hi t).1 h
  obtain ⟨h1, h2⟩ := leaves_in hd y hy
  have h3 := half_bd h1 h2 (Nat.le_of_lt hi)
  obtain ⟨e, he⟩ : ∃ e, d - i = e + 1 := ⟨d - i - 1, by omega⟩
  rw [he] at h3
  have h4 := sib_bd h3.1 h3.2
  have h5 : (2 : Int) ^ (e + 1) ≤ 65536 := by
    rw [pow_cast]
    have : 2 ^ (e + 1) ≤ 65536 := Nat.pow_le_pow_right (n := 2) (by decide) (show e + 1 ≤ 16 by omega)
    omega
  omega
set_option maxRecDepth 100000 in
set_option maxHeartbeats 8000000 in
theorem rroot_main (nn : Nat) (ps : List Int) (es ds : List ByteArray) (pa ea da : Option Addr) (pc ec dc : Nat) (w : World) (hp : U64s w pa ps) (he : Txts w ea es) (hd : Txts w da ds) (hl : len ps ≤ 100) (hu : ∀ k ∈ ps, U64 k) (hld : len ds ≤ 1000000) (hdc : len ds ≤ dc) (hez : ∀ i, i < len es → (tth es i).size ≤ 1000000) (hb : ArgOk (nn : Nat) ps es) :
    Calls Tryz.prog 81 #[.int .i64 (nn : Nat), .slice pa (len ps) pc, .slice ea (len es) ec, .slice da (len ds) dc] w (RootIs (nn : Nat) ps es ds w) := by
  have hn16 : nn ≤ 65536 := by have := hb.1.2.1; omega
  obtain ⟨d, hdd⟩ : ∃ d : Nat, Lib.bitLen (nn - 1) = d := ⟨_, rfl⟩
  have hdz : depthZ (nn : Nat) = (d : Nat) := by unfold depthZ; rw [if_neg (by omega), Int.toNat_natCast, hdd]
  have hdb := depth_bd nn hn16
  rw [hdd] at hdb
  have HD16 : Hid (d ≤ 16) := Lib.hid hdb.1
  obtain ⟨lv, hlv⟩ : ∃ lv, leavesL ps (d : Nat) = lv := ⟨_, rfl⟩
  have HLN : Hid (len lv = len ps) := Lib.hid (by rw [← hlv, leavesL_len])
  have HLU : Hid (∀ k ∈ lv, U64 k) := Lib.hid (by rw [← hlv]; exact leavesL_u64 ps _)
  have HLND : Hid (lv.Nodup) := Lib.hid (by rw [← hlv]; exact leaves_nodup hdb.1 hdb.2.1 hu hb.1.2.2)
  have HLBD : Hid (∀ m, m < len lv → 0 ≤ nth lv m ∧ nth lv m < 65536) := Lib.hid (by rw [← hlv]; exact fun m hm => leaf_bd hdb.1 m hm)
  obtain ⟨rs, hrs⟩ : ∃ rs, rowsOf lv d = rs := ⟨_, rfl⟩
  have HNR : Hid (needsL lv (d : Nat) = rs) := Lib.hid (by rw [← hrs, ← hlv]; exact needsP_rows hdb.1 hb.1.2.2)
  have HRL : Hid (len rs = d) := Lib.hid (by rw [← hrs, rowsOf_len])
  have HLV := Lib.hid hlv
  have HRS := Lib.hid hrs
  have HNM : Hid (∀ i, len (rnth rs i) ≤ 100) := Lib.hid (by
    rw [← HNR.out]
    exact rnth_nl _ _ (by rw [HLN.out]; exact hl))
  have HRP : Hid (rowsP (nn : Nat) ps = rs) := Lib.hid (by unfold rowsP; rw [hdz, hlv]; exact HNR.out)
  have HDP : Hid (digP (nn : Nat) ps es ds = kidF (rootG (g0F lv es) rs ds) 0) := Lib.hid (by unfold digP; rw [HRP.out, hdz, hlv])
  have HNP : Hid (neededP (nn : Nat) ps = usedR rs (len rs)) := Lib.hid (by unfold neededP; rw [HRP.out])
  have HM := Lib.hid (fun w9 hb9 => rMay_any (nn : Nat) ps pa pc w9 (hp.below hb9) (by omega) (by omega) (by omega))
  rw [decide_eq_true hb.1] at HM
  have hel := hb.2
  have HDE := Lib.hid (fun w9 => refDepth_any (nn : Nat) w9 (by omega) (by omega))
  rw [hdz] at HDE
  have HLF := Lib.hid (fun k (hk : U64 k) w9 => refLeaf_any k (d : Nat) w9 hk.1 hk.2 (by have := HD16.out; omega) (by have := HD16.out; omega))
  have HP := Lib.hid hp
  have HES := Lib.hid he
  have HDS := Lib.hid hd
  have HU := Lib.hid hu
  have HL100 := Lib.hid hl
  have HEZ := Lib.hid hez
  have HEL := Lib.hid hel
  have HLD := Lib.hid hld
  have HDC := Lib.hid hdc
  have HARG := Lib.hid hb
  obtain ⟨i0, hi, hz0, hz1, hz2⟩ := info_parts info_u64
  have HZ0 := Lib.hid hz0
  obtain ⟨j0, hj, hy0, hy1, hy2⟩ := info_parts info_plc
  have HY0 := Lib.hid hy0
  clear hp he hd hl hu hld hdc hez hb hn16 hdd hdz hdb hlv hrs hel hz0 hy0
  go_enter Tryz.func81, Tryz.ntmps81
  rw [HEL.out]
  go_wp2_with fail
  refine (HM.out _ (Below.refl _ _)).mono ?_
  rintro e w1 ⟨rfl, hb1⟩
  have HB1 := Lib.hid hb1
  clear hb1 HM
  go_upto_region 4 with fail
  go_loopg [10] (len ds) (fun g i wr => ∃ m : Nat, g + m = len ds ∧ i = .int .i64 m ∧ Hid (∀ j, j < m → (tth ds j).size = 32) ∧ wr = w1)
  case atStart => exact ⟨0, rfl, rfl, Lib.hid (fun j hj => by omega), rfl⟩
  case round =>
    obtain ⟨m, hm, rfl, HG, rfl⟩ := hrel
    have hld := HLD.out
    by_cases hlt : m < len ds
    · have b1 : (m : Int) < len ds := by omega
      have b2 : ¬ len ds ≤ m := by omega
      obtain ⟨b, off, hda, hcell⟩ := HDS.out.below HB1.out m hlt
      subst hda
      have l1 := lt_of_cell hcell
      obtain ⟨s, hs⟩ : ∃ s, tth ds m = s := ⟨_, rfl⟩
      rw [hs] at hcell
      have HS := Lib.hid hs
      have HSM : Hid (s ∈ ds) := Lib.hid (by rw [← hs, tth_eq ds m hlt]; exact List.getElem_mem _)
      clear hs
      by_cases hf : s.size = 32
      · have HF := Lib.hid hf
        have z1 : ((s.size : Nat) : Int) = 32 := by omega
        clear hf
        go_wp2
        go_roundg (len ds - (m + 1))
        case rel => exact ⟨m + 1, by omega, by go_num, Lib.hid (fun j hj => by
          by_cases e : j = m
          · subst e; rw [HS.out]; exact HF.out
          · exact HG.out j (by omega)), rfl⟩
        case measure => omega
      · have z1 : ¬ ((s.size : Nat) : Int) = 32 := by omega
        have HE : Hid (rootE (nn : Nat) ps es ds = 5 ∧ rootS (nn : Nat) ps es ds = ⟨#[]⟩) := Lib.hid (by
          have h9 : rootE (nn : Nat) ps es ds = 5 := by unfold rootE; rw [if_neg (fun h => h HARG.out), if_pos (show badB ds = true from decide_eq_true ⟨s, HSM.out, hf⟩)]
          exact ⟨h9, by unfold rootS; rw [h9]; rfl⟩)
        clear hf
        go_wp2
        go_ret2
        exact ⟨by rw [HE.out.1, HE.out.2]; rfl, HB1.out⟩
    · obtain rfl : m = len ds := by omega
      have b1 : ¬ ((len ds : Nat) : Int) < len ds := by omega
      have HBADF : Hid (badB ds = false) := Lib.hid (decide_eq_false (by
        rintro ⟨x, hx, h9⟩
        obtain ⟨j, hj, rfl⟩ := List.getElem_of_mem hx
        have h1 := HG.out j hj
        rw [tth_eq ds j hj] at h1
        exact h9 h1))
      clear HG hm
      go_wp2_with fail
      refine (HDE.out wr).mono ?_
      rintro e w2 ⟨rfl, rfl⟩
      go_upto_region 12 with fail
      go_loopg [14, 12, 13] (len ps) (fun g i v k wz => ∃ (m : Nat) (KL : List Plc), g + m = len ps ∧ i = .int .i64 m ∧ len KL = m ∧ Hid (wz.ownsRow w.heap.size 37 1 v m ((lv.take m).map (Value.int .u64))) ∧ Hid (KlAt w.heap.size k KL wz) ∧ Hid (fndF KL = addF noF (lv.take m) (leafD es)) ∧ Hid (Below w.heap.size w wz))
      case atStart => exact ⟨0, [], rfl, rfl, rfl, Lib.hid (World.ownsRow_nil _ _ _ _), Lib.hid (KlAt.nil _ _), Lib.hid (by rw [List.take_zero]; rfl), HB1⟩
      case round =>
        clear HB1
        obtain ⟨m, KL, hm, rfl, hkl, HO, HK, HF, HW⟩ := hrel
        have HNN := HL100.out
        by_cases hlt : m < len ps
        · have b0 : (m : Int) < len ps := by omega
          have b1 : ¬ len ps ≤ m := by omega
          obtain ⟨b, off, hra, hcell⟩ := HP.out.below HW.out m hlt
          subst hra
          obtain ⟨k, hk⟩ : ∃ k, nth ps m = k := ⟨_, rfl⟩
          have hku : U64 k := by rw [← hk]; exact HU.out _ (mem_nth hlt)
          obtain ⟨s, hs⟩ : ∃ s, tth es m = s := ⟨_, rfl⟩
          have HSZ : Hid (s.size ≤ 1000000) := Lib.hid (by rw [← hs]; exact HEZ.out m (by rw [HEL.out]; exact hlt))
          obtain ⟨t, ht⟩ : ∃ t, turnedZ k (d : Nat) = t := ⟨_, rfl⟩
          have HSS := Lib.hid hs
          have HTN : Hid (nth lv m = t) := Lib.hid (by rw [← HLV.out, leaves_nth ps _ m hlt, hk, ht])
          have HLML : Hid (m < len lv) := Lib.hid (by rw [HLN.out]; exact hlt)
          have HTB : Hid (0 ≤ t ∧ t < 65536) := Lib.hid (by rw [← HTN.out]; exact HLBD.out m HLML.out)
          have HLK := Lib.hid (HLF.out k hku wr)
          rw [ht] at HLK
          obtain ⟨D, hD⟩ : ∃ D, hashP leafT [s] = D := ⟨_, rfl⟩
          have HLD9 : Hid (tth (leafD es) m = D) := Lib.hid (by rw [leafD_at es m (by rw [HEL.out]; exact hlt), hs, hD])
          have HDZ9 : Hid (D.size ≤ 1000) := Lib.hid (by rw [← hD, hashP_size]; omega)
          have HHD := Lib.hid hD
          have HFR : Hid (fndF KL t = none) := Lib.hid (by rw [HF.out, ← HTN.out]; exact fresh_leaf HLND.out _ m HLML.out)
          rw [hk] at hcell
          have l1 := lt_of_cell hcell
          have HKLN := Lib.hid hkl
          clear hk hku hs ht hD hkl
          go_upto_region 15 with fail
          clear hcell l1
          refine HLK.out.mono ?_
          rintro e w2 ⟨rfl, rfl⟩
          go_upto_region 16 with (at_builtin; refine wpList_append_own _ rfl _ _ 23 rfl w.heap.size 37 i0 (.int .u64 0) 1 8 Tryz.underlying23 hi HZ0.out hz1 hz2 rfl (by decide) _ _ _ rfl (HO.out.alloc _) ⟨wr.heap.size, 0, none⟩ 1 1 [.int .u64 t] rfl rfl (World.news_of_block (heap_alloc_new _ _)) (by intro u hu9; simp at hu9; subst hu9; rfl) (by unfold maxLen; omega) (by omega) (by have := HW.out.size; simp; omega) ?_; intro v2 w4 hown2 hgrow2 _)
          have HX9 : Hid (Below wr.heap.size wr (wr.alloc (.cells #[.int .u64 t] 37))) := Lib.hid (balloc (Below.refl _ _) _)
          have HO4 : Hid (w4.ownsRow w.heap.size 37 1 v2 (m + 1) ((lv.take (m + 1)).map (Value.int .u64))) := Lib.hid (by
            rw [take_snoc_nth HLML.out, HTN.out, List.map_append]
            exact hown2)
          have HK4 : Hid (KlAt w.heap.size u13 KL w4) := Lib.hid ⟨(own_below HK.out.own HX9.out).kept hgrow2 (own_apart (own_below HK.out.own HX9.out) (HO.out.alloc _) (by decide)), HK.out.ok⟩
          have HW4 : Hid (Below w.heap.size w w4) := Lib.hid (grownBy_below (balloc HW.out _) hgrow2 (fun k hk' => (HO.out.lt k hk').1))
          clear hown2 hgrow2 HX9 HO HK HW HLK
          obtain ⟨eb2, eo2, he2, hcel2⟩ := HES.out.below HW4.out m (by rw [HEL.out]; exact hlt)
          subst he2
          rw [HSS.out] at hcel2
          have l2 := lt_of_cell hcel2
          go_wp2_with fail
          refine (rhash1_any leafT s w4 (by decide) (by decide) (by have := HSZ.out; omega)).mono ?_
          rintro e w5 ⟨rfl, hb5⟩
          rw [HHD.out]
          clear hcel2 l2
          have HO5 : Hid (w5.ownsRow w.heap.size 37 1 v2 (m + 1) ((lv.take (m + 1)).map (Value.int .u64))) := Lib.hid (own_below HO4.out hb5)
          have HK5 : Hid (KlAt w.heap.size u13 KL w5) := Lib.hid (HK4.out.below hb5)
          have HW5 : Hid (Below w.heap.size w w5) := Lib.hid (bnext HW4.out hb5)
          have hkn : len KL ≤ 100 := by have := HKLN.out; omega
          clear hb5 HO4 HK4 HW4
          go_wp2_with (at_builtin; refine wpList_append_own _ rfl _ _ 171 rfl w.heap.size 173 j0 Plc.zero.val 2 24 Tryz.underlying171 hj HY0.out hy1 hy2 rfl (by decide) _ _ _ rfl (HK5.out.own.alloc _) ⟨w5.heap.size, 0, none⟩ 1 1 [.int .u64 t, .string D] rfl rfl (World.news_of_block (heap_alloc_new _ _)) (by intro u hu9; simp at hu9; rcases hu9 with rfl | rfl <;> rfl) (by unfold maxLen; omega) (by omega) (by have := HW5.out.size; simp; omega) ?_; intro v3 w6 hown3 hgrow3 _)
          have HX9 : Hid (Below w5.heap.size w5 (w5.alloc (.cells #[.int .u64 t, .string D] 173))) := Lib.hid (balloc (Below.refl _ _) _)
          have HO6 : Hid (w6.ownsRow w.heap.size 37 1 v2 (m + 1) ((lv.take (m + 1)).map (Value.int .u64))) := Lib.hid ((own_below HO5.out HX9.out).kept hgrow3 (own_apart (own_below HO5.out HX9.out) (HK5.out.own.alloc _) (by decide)))
          have HK6 : Hid (KlAt w.heap.size v3 (KL ++ [⟨t, D⟩]) w6) := Lib.hid (KlAt.snoc HK5.out.ok ⟨t, D⟩ hown3 ⟨HTB.out.1, HTB.out.2, HDZ9.out⟩)
          have HW6 : Hid (Below w.heap.size w w6) := Lib.hid (grownBy_below (balloc HW5.out _) hgrow3 (fun k hk' => (HK5.out.own.lt k hk').1))
          have HF6 : Hid (fndF (KL ++ [⟨t, D⟩]) = addF noF (lv.take (m + 1)) (leafD es)) := Lib.hid (by
            rw [fndF_snoc KL ⟨t, D⟩ HFR.out, addF_take _ _ _ m HLML.out, HTN.out, HLD9.out, HF.out])
          have HN6 : Hid (len (KL ++ [(⟨t, D⟩ : Plc)]) = m + 1) := Lib.hid (by rw [plc_len_snoc, HKLN.out])
          clear hown3 hgrow3 HX9 HO5 HK5 HW5 hkn
          go_wp2
          go_roundg (len ps - (m + 1))
          case rel => exact ⟨m + 1, _, by omega, by go_num, HN6.out, HO6, HK6, HF6, HW6⟩
          case measure => omega
        · obtain rfl : m = len ps := by omega
          have b0 : ¬ ((len ps : Nat) : Int) < len ps := by omega
          have HFZ : Hid (fndF KL = g0F lv es) := Lib.hid (by
            have h9 := HF.out
            rw [show lv.take (len ps) = lv by rw [← HLN.out, take_len]] at h9
            exact h9)
          have HOZ : Hid (wr.ownsRow w.heap.size 37 1 u12 (len ps) (lv.map (Value.int .u64))) := Lib.hid (by
            have h9 := HO.out
            rw [show lv.take (len ps) = lv by rw [← HLN.out, take_len]] at h9
            exact h9)
          obtain ⟨al, cl, rfl, hUl, _, _⟩ := own_u64 HOZ.out
          have HND := Lib.hid (refNeeds_any al cl lv (d : Nat) wr hUl (by rw [HLN.out]; exact HL100.out) HLU.out)
          rw [HNR.out] at HND
          have HKLN := Lib.hid hkl
          clear hUl HO HF HOZ hm hkl
          go_wp2_with fail
          refine HND.out.mono ?_
          rintro e w3 ⟨v, vals, rfl, hr1, hr2, hb3⟩
          obtain ⟨a3, cap3, rfl, _, _, _⟩ := rows2_of hr1 hr2
          obtain ⟨B2, hB2⟩ : ∃ B2, wr.heap.size = B2 := ⟨_, rfl⟩
          rw [hB2] at hr1 hr2
          have HL8 : Hid (Laid8 w3 B2 (.slice a3 (len rs) cap3) rs) := Lib.hid ⟨vals, hr1, hr2⟩
          have HK3 : Hid (KlAt w.heap.size u13 KL w3) := Lib.hid (HK.out.below hb3)
          have HW3 : Hid (Below w.heap.size w w3) := Lib.hid (bnext HW.out hb3)
          clear hr1 hr2 hB2 hb3 HND HK HW
          go_upto_region 20 with fail
          obtain ⟨W3, hW3⟩ : ∃ W3, W3 = w3 := ⟨_, rfl⟩
          subst hW3
          go_loopg [18, 17] (len rs) (fun g i v wz => ∃ m : Nat, g + m = len rs ∧ i = .int .i64 m ∧ v = .int .i64 (usedR rs m : Nat) ∧ wz = W3)
          case atStart => exact ⟨0, rfl, rfl, rfl, rfl⟩
          case round =>
            obtain ⟨m, hm, rfl, rfl, rfl⟩ := hrel
            have hr16 : len rs ≤ 16 := by have := HRL.out; have := HD16.out; omega
            by_cases hlt : m < len rs
            · have b1 : (m : Int) < len rs := by omega
              have b2 : ¬ len rs ≤ m := by omega
              obtain ⟨rb, ro, ra, rc, hra3, hrc, _, _⟩ := (laid8_rows HL8.out) m hlt
              subst hra3
              have l1 := lt_of_cell hrc
              have HN9 : Hid (usedR rs (m + 1) = usedR rs m + len (rnth rs m)) := Lib.hid (usedR_next rs m hlt)
              have hub : usedR rs m + len (rnth rs m) ≤ 1600 := by
                rw [← usedR_next rs m hlt]
                have := usedR_bd HNM.out (m + 1) (by omega)
                omega
              obtain ⟨u, hu⟩ : ∃ u, usedR rs m = u := ⟨_, rfl⟩
              obtain ⟨q, hq⟩ : ∃ q, len (rnth rs m) = q := ⟨_, rfl⟩
              rw [hu, hq] at hub HN9
              rw [hq] at hrc
              rw [hu]
              clear hu hq
              go_wp2
              go_roundg (len rs - (m + 1))
              case rel => exact ⟨m + 1, by omega, by go_num, by rw [HN9.out]; go_num, rfl⟩
              case measure => omega
            · obtain rfl : m = len rs := by omega
              have b1 : ¬ ((len rs : Nat) : Int) < len rs := by omega
              have hub : usedR rs (len rs) ≤ 1600 := by
                have := usedR_bd HNM.out (len rs) (Nat.le_refl _)
                omega
              obtain ⟨N, hN⟩ : ∃ N, usedR rs (len rs) = N := ⟨_, rfl⟩
              have HNN := Lib.hid hN
              rw [hN] at hub HNP ⊢
              have HUB := Lib.hid hub
              clear hN hub hm hr16
              by_cases hlt4 : len ds < N
              · have z1 : ((len ds : Nat) : Int) < ((N : Nat) : Int) := by omega
                have HE : Hid (rootE (nn : Nat) ps es ds = 4 ∧ rootS (nn : Nat) ps es ds = ⟨#[]⟩) := Lib.hid (by
                  have h9 : rootE (nn : Nat) ps es ds = 4 := by unfold rootE; rw [if_neg (fun h => h HARG.out), if_neg (by rw [HBADF.out]; simp), HNP.out, if_pos hlt4]
                  exact ⟨h9, by unfold rootS; rw [h9]; rfl⟩)
                clear hlt4
                go_wp2
                go_ret2
                exact ⟨by rw [HE.out.1, HE.out.2]; rfl, HW3.out⟩
              · have z1 : ¬ ((len ds : Nat) : Int) < ((N : Nat) : Int) := by omega
                by_cases hlt3 : N < len ds
                · have z2 : ((N : Nat) : Int) < ((len ds : Nat) : Int) := by omega
                  have HE : Hid (rootE (nn : Nat) ps es ds = 3 ∧ rootS (nn : Nat) ps es ds = ⟨#[]⟩) := Lib.hid (by
                    have h9 : rootE (nn : Nat) ps es ds = 3 := by unfold rootE; rw [if_neg (fun h => h HARG.out), if_neg (by rw [HBADF.out]; simp), HNP.out, if_neg hlt4, if_pos hlt3]
                    exact ⟨h9, by unfold rootS; rw [h9]; rfl⟩)
                  clear hlt4 hlt3
                  go_wp2
                  go_ret2
                  exact ⟨by rw [HE.out.1, HE.out.2]; rfl, HW3.out⟩
                · have z2 : ¬ ((N : Nat) : Int) < ((len ds : Nat) : Int) := by omega
                  have HEQ : Hid (len ds = N) := Lib.hid (by omega)
                  have HE : Hid (rootE (nn : Nat) ps es ds = 0 ∧ rootS (nn : Nat) ps es ds = kidF (rootG (g0F lv es) rs ds) 0) := Lib.hid (by
                    have h9 : rootE (nn : Nat) ps es ds = 0 := by unfold rootE; rw [if_neg (fun h => h HARG.out), if_neg (by rw [HBADF.out]; simp), HNP.out, if_neg hlt4, if_neg hlt3]
                    exact ⟨h9, by unfold rootS; rw [h9, if_pos rfl]; exact HDP.out⟩)
                  clear hlt4 hlt3
                  go_upto_region 28 with fail
                  clear z1 z2
                  have HF3 : Hid (fndF KL = rootT (g0F lv es) rs ds 0) := HFZ
                  have hk100 : len KL ≤ 100 + 100 * 0 := by have := HKLN.out; have := HL100.out; omega
                  clear HFZ HKLN
                  go_loopg [19, 13, 3] (len rs) (fun g i v p wz => ∃ (m : Nat) (KL : List Plc) (a' : Option Addr) (c' : Nat), g + m = len rs ∧ i = .int .i64 m ∧ p = .slice a' (len (ds.drop (usedR rs m))) c' ∧ len KL ≤ 100 + 100 * m ∧ Hid (KlAt w.heap.size v KL wz) ∧ Hid (fndF KL = rootT (g0F lv es) rs ds m) ∧ Hid (len (ds.drop (usedR rs m)) ≤ c' ∧ ∀ w9, Txts w9 da ds → Txts w9 a' (ds.drop (usedR rs m))) ∧ Hid (Laid8 wz B2 (.slice a3 (len rs) cap3) rs) ∧ Hid (Below w.heap.size w wz))
                  case atStart => exact ⟨0, KL, da, dc, rfl, rfl, rfl, hk100, HK3, HF3, Lib.hid ⟨HDC.out, fun _ h9 => h9⟩, HL8, HW3⟩
                  case round =>
                    clear HF3 hk100 HK3 HL8 HW3
                    obtain ⟨m, KL, a9, c9, hm, rfl, rfl, hkl, HK, HF, HTX, HL8, HW⟩ := hrel
                    have hr16 : len rs ≤ 16 := by have := HRL.out; have := HD16.out; omega
                    have hrd := HRL.out
                    by_cases hlt : m < len rs
                    · have b1 : (m : Int) < (d : Int) := by omega
                      obtain ⟨row, hrow⟩ : ∃ row, rnth rs m = row := ⟨_, rfl⟩
                      have HROW := Lib.hid hrow
                      have HRLN : Hid (len row ≤ 100) := Lib.hid (by rw [← hrow]; exact HNM.out m)
                      have HHM := Lib.hid hm
                      have HHL := Lib.hid hlt
                      have HKL9 := Lib.hid hkl
                      obtain ⟨u, hu⟩ : ∃ u, usedR rs m = u := ⟨_, rfl⟩
                      have HUU : Hid (usedR rs m = u) := Lib.hid hu
                      have HUT : Hid (u + len row ≤ len ds) := Lib.hid (by
                        have h1 := usedR_next rs m hlt
                        have h2 := usedR_le rs (m + 1)
                        rw [hrow, hu] at h1
                        rw [HEQ.out, ← HNN.out]
                        omega)
                      obtain ⟨GT, hGT⟩ : ∃ GT, rootT (g0F lv es) rs ds m = GT := ⟨_, rfl⟩
                      have HGT := Lib.hid hGT
                      have HFRR : Hid (∀ q, q < len row → addF GT (row.take q) (ds.drop u) (nth row q) = none) := Lib.hid (fun q hq => by
                        rw [← hGT, ← hrow, ← HRS.out]
                        have hd2 : m < d := by omega
                        refine fresh_row lv d (g0F lv es) ds (ds.drop u) (fun k => g0F_some lv es k) m hd2 q ?_
                        rw [HRS.out, hrow]; exact hq)
                      rw [hGT] at HF
                      rw [hu] at HTX ⊢
                      have HF0 : Hid (fndF KL = addF GT (row.take 0) (ds.drop u)) := Lib.hid (by rw [List.take_zero]; exact HF.out)
                      have hkl0 : len KL ≤ 100 + 100 * m + 0 := hkl
                      obtain ⟨GK, hGK⟩ : ∃ G, G = gk := ⟨_, rfl⟩
                      subst hGK
                      clear hrow hu hGT HF hm hlt hr16 hrd
                      go_upto_region 31 with fail
                      clear b1
                      go_loopg [20, 13, 3] (len row) (fun g j v p wz => ∃ (q : Nat) (KL : List Plc) (a' : Option Addr) (c' : Nat), g + q = len row ∧ j = .int .i64 q ∧ p = .slice a' (len (ds.drop (u + q))) c' ∧ len KL ≤ 100 + 100 * m + q ∧ Hid (KlAt w.heap.size v KL wz) ∧ Hid (fndF KL = addF GT (row.take q) (ds.drop u)) ∧ Hid (len (ds.drop (u + q)) ≤ c' ∧ ∀ w9, Txts w9 da ds → Txts w9 a' (ds.drop (u + q))) ∧ Hid (Laid8 wz B2 (.slice a3 (len rs) cap3) rs) ∧ Hid (Below w.heap.size w wz))
                      case atStart => exact ⟨0, KL, a9, c9, rfl, rfl, rfl, hkl0, HK, HF0, HTX, HL8, HW⟩
                      case round =>
                        clear hkl hkl0 HK HF0 HTX HL8 HW HKL9
                        clear KL a9 c9
                        obtain ⟨q, KL, a9, c9, hq, rfl, rfl, hkl, HK, HF, HTX, HL8, HW⟩ := hrel
                        have hr16 : len rs ≤ 16 := by have := HRL.out; have := HD16.out; omega
                        have hlt := HHL.out
                        have hr100 := HRLN.out
                        have bm : ¬ len rs ≤ m := by omega
                        have bmi : ¬ (len rs : Int) ≤ (m : Int) := by omega
                        obtain ⟨rb, ro, ra, rc, hra3, hrc, hru, _⟩ := (laid8_rows HL8.out) m hlt
                        subst hra3
                        rw [HROW.out] at hrc hru
                        have l1 := lt_of_cell hrc
                        by_cases hlq : q < len row
                        · have b1 : (q : Int) < len row := by omega
                          have bq : ¬ len row ≤ q := by omega
                          have bqi : ¬ (len row : Int) ≤ (q : Int) := by omega
                          obtain ⟨ub, uo, hua, hk⟩ := hru q hlq
                          subst hua
                          obtain ⟨t, ht⟩ : ∃ t, nth row q = t := ⟨_, rfl⟩
                          have HFT : Hid (fndF KL t = none) := Lib.hid (by rw [HF.out, ← ht]; exact HFRR.out q hlq)
                          rw [ht] at hk
                          have HTB : Hid (0 ≤ t ∧ t < 65536) := Lib.hid (by
                            have h1 : t ∈ rnth rs m := by rw [HROW.out, ← ht]; exact mem_nth hlq
                            rw [← HRS.out, ← HLV.out] at h1
                            exact row_bd HD16.out (by rw [← HRL.out]; exact hlt) h1)
                          have hut := HUT.out
                          have hdl : len (ds.drop (u + q)) = len ds - (u + q) := by rw [len_eq, List.length_drop]; rfl
                          obtain ⟨hc9, hta⟩ := HTX.out
                          obtain ⟨xb, xo, hxa, hdc⟩ := hta _ (HDS.out.below HW.out) 0 (by omega)
                          subst hxa
                          rw [tth_drop, Nat.add_zero, Nat.add_zero] at hdc
                          obtain ⟨D, hD⟩ : ∃ D, tth ds (u + q) = D := ⟨_, rfl⟩
                          rw [hD] at hdc
                          have HDD : Hid (D.size ≤ 1000) := Lib.hid (by
                            have h1 := of_decide_eq_false HBADF.out
                            have h2 : u + q < ds.length := by have : len ds = ds.length := rfl; omega
                            apply Classical.byContradiction
                            intro h3
                            exact h1 ⟨ds[u + q], List.getElem_mem h2, fun h4 => h3 (by rw [← hD, tth_eq ds (u + q) h2, h4]; omega)⟩)
                          have HTN : Hid (addF GT (row.take (q + 1)) (ds.drop u) = putF (addF GT (row.take q) (ds.drop u)) t D) := Lib.hid (by rw [addF_take _ _ _ q hlq, ht, tth_drop, hD])
                          obtain ⟨n9, hn9⟩ : ∃ n9, len (ds.drop (u + q)) = n9 := ⟨_, rfl⟩
                          have HN9 : Hid (0 < n9 ∧ n9 ≤ c9 ∧ len (ds.drop (u + (q + 1))) = n9 - 1) := Lib.hid (by rw [len_eq, List.length_drop]; have : len ds = ds.length := rfl; omega)
                          rw [hn9]
                          have b9 : ¬ n9 ≤ 0 := by omega
                          have b9i : (0 : Int) < (n9 : Int) := by omega
                          obtain ⟨KV, hKV⟩ : ∃ KV, u13 = KV := ⟨_, rfl⟩
                          rw [hKV] at HK ⊢
                          clear hKV ht hD hdl hut hc9 hru
                          go_upto_region 33 with fail
                          refine wp_region_tail 13 1000 (none) (phis [fun u _ => u = (KV), fun u _ => u = (.slice (some ⟨rb, ro, none⟩) (len rs) cap3), fun u _ => u = (.int .i64 (m : Nat)), fun u _ => u = (.pointer (some ⟨rb, ro + m, none⟩)), fun u _ => u = (.slice (some ⟨ub, uo, none⟩) (len row) rc), fun u _ => u = (.int .i64 (q : Nat)), fun u _ => u = (.pointer (some ⟨ub, uo + q, none⟩)), fun u _ => u = (.int .u64 t), fun u _ => u = (.slice (some ⟨xb, xo, none⟩) n9 c9), fun u _ => u = (.pointer (some ⟨xb, xo, none⟩)), fun u _ => u = (.string D), fun u _ => u = (.agg #[.int .u64 t, .string D]), fun uu w' => ∃ c, uu = .slice (some ⟨c, 0, none⟩) 1 1 ∧ w'.heap[c]? = some (.cells #[.int .u64 t, .string D] 173 (0, 0))]) rfl (by kernel_rfl) (by kernel_rfl) (mono_of ⟨mono_eq, mono_eq, mono_eq, mono_eq, mono_eq, mono_eq, mono_eq, mono_eq, mono_eq, mono_eq, mono_eq, mono_eq, ?m12, trivial⟩) (steps_of 13 ⟨?s0, ?s1, ?s2, ?s3, ?s4, ?s5, ?s6, ?s7, ?s8, ?s9, ?s10, ?s11, ?s12, trivial⟩) ?_
                          case m12 =>
                            exact ⟨fun uu w1 w2 h ⟨c, h1, h2⟩ => ⟨c, h1, ext_block h h2⟩, fun _ uu w1 w2 h ⟨c, h1, h2⟩ => ⟨c, h1, extB_block h (by simp) h2⟩⟩
                          case s0 =>
                            refine qV (fun _ => rfl) rfl fun av wv hE hO hD => ?_
                            simp [go_sem, qF av 13 (KV) (hO.2.2 13 rfl), bm, bmi, bq, bqi, b9, b9i]
                          case s1 =>
                            refine qV (fun _ => rfl) rfl fun av wv hE hO hD => ?_
                            simp [go_sem, qF av 16 (.slice (some ⟨rb, ro, none⟩) (len rs) cap3) (hO.2.2 16 rfl), bm, bmi, bq, bqi, b9, b9i]
                          case s2 =>
                            refine qV (fun _ => rfl) rfl fun av wv hE hO hD => ?_
                            simp [go_sem, qF av 19 (.int .i64 (m : Nat)) (hO.2.2 19 rfl), bm, bmi, bq, bqi, b9, b9i]
                          case s3 =>
                            refine qV (fun _ => rfl) rfl fun av wv hE hO hD => ?_
                            simp [go_sem, qE (hD.1 rfl _ rfl), qE (hD.2.1 rfl _ rfl), bm, bmi, bq, bqi, b9, b9i]
                          case s4 =>
                            refine qV (fun _ => rfl) rfl fun av wv hE hO hD => ?_
                            simp [go_sem, qE (hD.1 rfl _ rfl), extB_cell hE (by simp) hrc, extB_cell hE (by simp) hk, extB_cell hE (by simp) hdc, bm, bmi, bq, bqi, b9, b9i]
                          case s5 =>
                            refine qV (fun _ => rfl) rfl fun av wv hE hO hD => ?_
                            simp [go_sem, qF av 20 (.int .i64 (q : Nat)) (hO.2.2 20 rfl), bm, bmi, bq, bqi, b9, b9i]
                          case s6 =>
                            refine qV (fun _ => rfl) rfl fun av wv hE hO hD => ?_
                            simp [go_sem, qE (hD.1 rfl _ rfl), qE (hD.2.1 rfl _ rfl), bm, bmi, bq, bqi, b9, b9i]
                          case s7 =>
                            refine qV (fun _ => rfl) rfl fun av wv hE hO hD => ?_
                            simp [go_sem, qE (hD.1 rfl _ rfl), extB_cell hE (by simp) hrc, extB_cell hE (by simp) hk, extB_cell hE (by simp) hdc, bm, bmi, bq, bqi, b9, b9i]
                          case s8 =>
                            refine qV (fun _ => rfl) rfl fun av wv hE hO hD => ?_
                            simp [go_sem, qF av 3 (.slice (some ⟨xb, xo, none⟩) n9 c9) (hO.2.2 3 rfl), bm, bmi, bq, bqi, b9, b9i]
                          case s9 =>
                            refine qV (fun _ => rfl) rfl fun av wv hE hO hD => ?_
                            simp [go_sem, qE (hD.1 rfl _ rfl), bm, bmi, bq, bqi, b9, b9i]
                          case s10 =>
                            refine qV (fun _ => rfl) rfl fun av wv hE hO hD => ?_
                            simp [go_sem, qE (hD.1 rfl _ rfl), extB_cell hE (by simp) hrc, extB_cell hE (by simp) hk, extB_cell hE (by simp) hdc, bm, bmi, bq, bqi, b9, b9i]
                          case s11 =>
                            refine qV (fun _ => rfl) rfl fun av wv hE hO hD => ?_
                            simp [go_sem, qE (hD.1 rfl _ rfl), qE (hD.2.1 rfl _ rfl), bm, bmi, bq, bqi, b9, b9i]
                          case s12 =>
                            refine step_wp (fun av wv hE hS hO hD => ⟨rfl, ?_⟩)
                            have f125 := qE (hD.1 rfl _ rfl)
                            exact wp_of_run (v := .slice (some ⟨wv.heap.size, 0, none⟩) 1 1) (w' := wv.alloc (.cells #[.int .u64 t, .string D] 173)) (by simp [go_sem, f125]) ⟨_, rfl, es_of_ext (balloc (Ext_refl _) _), wv.heap.size, rfl, heap_alloc_new _ _⟩
                          intro a' w' hE hO hall
                          have hA := act_of_outer (ds := [114, 115, 116, 117, 118, 119, 120, 121, 122, 123, 124, 125, 126]) rfl hO (by kernel_rfl)
                          obtain ⟨j0, j1, j2, j3, j4, j5, j6, j7, j8, j9, j10, j11, j12, -⟩ := hall
                          have e126 : (fun uu w' => ∃ c, uu = .slice (some ⟨c, 0, none⟩) 1 1 ∧ w'.heap[c]? = some (.cells #[.int .u64 t, .string D] 173 (0, 0))) (a'.eval (.tmp 126)) w' := j12 _ rfl
                          obtain ⟨v126, hv126⟩ : ∃ v, a'.eval (.tmp 126) = v := ⟨_, rfl⟩
                          rw [hv126] at e126
                          simp only [List.foldl_cons, List.foldl_nil, Act.put, List.setIfInBounds_toArray, List.set_cons_succ, List.set_cons_zero, qJ 114 (j0 _ rfl), qJ 115 (j1 _ rfl), qJ 116 (j2 _ rfl), qJ 117 (j3 _ rfl), qJ 118 (j4 _ rfl), qJ 119 (j5 _ rfl), qJ 120 (j6 _ rfl), qJ 121 (j7 _ rfl), qJ 122 (j8 _ rfl), qJ 123 (j9 _ rfl), qJ 124 (j10 _ rfl), qJ 125 (j11 _ rfl), hv126] at hA
                          clear hO j12 j0 j1 j2 j3 j4 j5 j6 j7 j8 j9 j10 j11 hv126
                          subst hA
                          have hX := of_drew hE
                          have HK2 := Lib.hid (HK.out.below hX)
                          have HL82 := Lib.hid (HL8.out.below hX)
                          have HW2 : Hid (Below w.heap.size w w') := Lib.hid (bnext HW.out hX)
                          obtain ⟨cb, rfl, hcb⟩ := e126
                          have HCB := Lib.hid hcb
                          clear hX hE hrc hk hdc bm bmi bq bqi b9 b9i l1 HK HL8 HW hcb
                          simp only [List.drop_succ_cons, List.drop_zero]
                          go_upto_region 34 with (at_builtin; refine wpList_append_own _ rfl _ _ 171 rfl w.heap.size 173 j0 Plc.zero.val 2 24 Tryz.underlying171 hj HY0.out hy1 hy2 rfl (by decide) _ _ _ rfl HK2.out.own ⟨cb, 0, none⟩ 1 1 [.int .u64 t, .string D] rfl rfl (World.news_of_block HCB.out) (by intro u hu9; simp at hu9; rcases hu9 with rfl | rfl <;> rfl) (by unfold maxLen; omega) (by omega) HW2.out.size ?_; intro v3 w6 hown3 hgrow3 _)
                          have HK6 : Hid (KlAt w.heap.size v3 (KL ++ [⟨t, D⟩]) w6) := Lib.hid (KlAt.snoc HK2.out.ok ⟨t, D⟩ hown3 ⟨HTB.out.1, HTB.out.2, HDD.out⟩)
                          have HW6 : Hid (Below w.heap.size w w6) := Lib.hid (grownBy_below HW2.out hgrow3 (fun k hk' => (HK2.out.own.lt k hk').1))
                          have HL86 : Hid (Laid8 w6 B2 (.slice (some ⟨rb, ro, none⟩) (len rs) cap3) rs) := Lib.hid (laid8_grow HL82.out HK2.out.own hgrow3)
                          have HF6 : Hid (fndF (KL ++ [⟨t, D⟩]) = addF GT (row.take (q + 1)) (ds.drop u)) := Lib.hid (by
                            rw [fndF_snoc KL ⟨t, D⟩ HFT.out, HTN.out, HF.out])
                          have HN6 : Hid (len (KL ++ [(⟨t, D⟩ : Plc)]) = len KL + 1) := Lib.hid (plc_len_snoc _ _)
                          clear hown3 hgrow3 HK2 HL82 HW2 HCB
                          have z1 : ¬ n9 ≤ 0 := by have := HN9.out; omega
                          have z2 : (0 : Int) < (n9 : Int) := by have := HN9.out; omega
                          have z3 : n9 ≤ c9 := HN9.out.2.1
                          have z4 : ¬ n9 < 1 := by omega
                          go_wp2_with fail
                          · skip
                            go_roundg (len row - (q + 1))
                            case rel => exact ⟨q + 1, _, some ⟨xb, xo, none⟩, 0, by omega, by go_num, by rw [HN9.out.2.2], by rw [HN6.out]; omega, HK6, HF6, Lib.hid ⟨by rw [HN9.out.2.2]; omega, fun w9 h9 => by
                              rw [show ds.drop (u + (q + 1)) = [] from List.eq_nil_of_length_eq_zero (by have h8 := HN9.out.2.2; rw [len_eq] at h8; omega)]
                              exact Txts.nil _ _⟩, HL86, HW6⟩
                            case measure => omega
                          · skip
                            go_roundg (len row - (q + 1))
                            case rel => exact ⟨q + 1, _, some ⟨xb, xo + 1, none⟩, c9 - 1, by omega, by go_num, by rw [HN9.out.2.2], by rw [HN6.out]; omega, HK6, HF6, Lib.hid ⟨by rw [HN9.out.2.2]; omega, fun w9 h9 => by
                              have h8 := txts_drop1 (hta w9 h9)
                              rw [List.drop_drop] at h8
                              exact h8⟩, HL86, HW6⟩
                            case measure => omega
                        · obtain rfl : q = len row := by omega
                          have b1 : ¬ ((len row : Nat) : Int) < len row := by omega
                          have hm := HHM.out
                          have HF6 : Hid (fndF KL = addF GT row (ds.drop u)) := Lib.hid (by have h9 := HF.out; rw [take_len] at h9; exact h9)
                          have HRT : Hid (rootT (g0F lv es) rs ds (m + 1) = overF (addF GT row (ds.drop u))) := Lib.hid (by rw [rootT_next _ _ _ m hlt, HGT.out, HROW.out, HUU.out])
                          have HUN : Hid (usedR rs (m + 1) = u + len row) := Lib.hid (by rw [usedR_next rs m hlt, HUU.out, HROW.out])
                          obtain ⟨H9, hH9⟩ : ∃ H9, addF GT row (ds.drop u) = H9 := ⟨_, rfl⟩
                          rw [hH9] at HF6 HRT
                          obtain ⟨Z, hZ⟩ : ∃ Z, Z = wr := ⟨_, rfl⟩
                          subst hZ
                          obtain ⟨B3, hB3⟩ : ∃ B3, Z.heap.size = B3 := ⟨_, rfl⟩
                          have HB3 : Hid (w.heap.size ≤ B3) := Lib.hid (by rw [← hB3]; exact HW.out.size)
                          have HKV := HK.out.plcs
                          obtain ⟨ka, kc, hkv, hkp⟩ := HKV
                          subst hkv
                          have HKP := Lib.hid hkp
                          have hklb : len KL ≤ 1800 := by have := HRLN.out; omega
                          have HKB := Lib.hid hklb
                          have HKQ := Lib.hid hkl
                          clear hH9 hkp hkl HF
                          go_upto_region 37 with fail
                          clear b1 hrc l1 bm bmi
                          go_loopg [22, 21] (len KL) (fun g i v wz => ∃ (j : Nat) (OL : List Plc), g + j = len KL ∧ i = .int .i64 j ∧ len OL ≤ j ∧ Hid (KlAt B3 v OL wz) ∧ Hid (fndF OL = resF (overF H9) ((KL.take j).map (fun x => x.K / 2))) ∧ Hid (Below Z.heap.size Z wz))
                          case atStart => exact ⟨0, [], rfl, rfl, Nat.le_refl _, Lib.hid (KlAt.nil _ _), Lib.hid (by rw [List.take_zero, List.map_nil, resF_nil]; rfl), Lib.hid (Below.refl _ _)⟩
                          case round =>
                            obtain ⟨j, OL, hj9, rfl, hol, HKO, HFO, HWO⟩ := hrel
                            have hkb := HKB.out
                            by_cases hlj : j < len KL
                            · have b1 : (j : Int) < len KL := by omega
                              have bj : ¬ len KL ≤ j := by omega
                              obtain ⟨kb, ko, hka, hcs⟩ := (HKP.out.below HWO.out) j hlj
                              subst hka
                              have c0 := hcs.c0
                              have l1 := lt_of_cell c0
                              obtain ⟨x, hx⟩ : ∃ x, plth KL j = x := ⟨_, rfl⟩
                              rw [hx] at c0
                              have hxo := HK.out.ok x (by rw [← hx, plth_eq KL j hlj]; exact List.getElem_mem _)
                              obtain ⟨kn, hkn⟩ : ∃ kn : Nat, x.K = (kn : Nat) := ⟨x.K.toNat, by omega⟩
                              rw [hkn] at c0
                              have HX := Lib.hid hx
                              clear hcs hx
                              go_upto_region 40 with fail
                              obtain ⟨pn, hpn⟩ : ∃ pn : Nat, kn / 2 = pn := ⟨_, rfl⟩
                              rw [show ((kn : Nat) : Int) / 2 = ((pn : Nat) : Int) by omega]
                              obtain ⟨oa, oc, hov, hop⟩ := HKO.out.plcs
                              subst hov
                              have HOP := Lib.hid hop
                              have HPN : Hid (x.K = ((kn : Nat) : Int) ∧ kn / 2 = pn ∧ kn < 65536) := Lib.hid (by omega)
                              have HXM : Hid (x ∈ KL) := Lib.hid (by rw [← HX.out, plth_eq KL j hlj]; exact List.getElem_mem _)
                              have HTK : Hid ((KL.take (j + 1)).map (fun x => x.K / 2) = (KL.take j).map (fun x => x.K / 2) ++ [((pn : Nat) : Int)]) := Lib.hid (by
                                have hj2 : j < KL.length := hlj
                                rw [List.take_succ_eq_append_getElem hj2, List.map_append, ← plth_eq KL j hj2, HX.out]
                                show _ ++ [x.K / 2] = _
                                rw [hkn, show ((kn : Nat) : Int) / 2 = ((pn : Nat) : Int) by omega])
                              have HPR : Hid (prIs H9 ((pn : Nat) : Int)) := Lib.hid (by
                                have h1 := fnd_mem KL x HXM.out
                                rw [HF6.out, hkn] at h1
                                unfold prIs
                                by_cases e : kn % 2 = 0
                                · left; rw [show 2 * ((pn : Nat) : Int) = ((kn : Nat) : Int) by omega]; exact h1
                                · right; rw [show 2 * ((pn : Nat) : Int) + 1 = ((kn : Nat) : Int) by omega]; exact h1)
                              have hol2 : len OL ≤ 1800 := by omega
                              have HOL2 := Lib.hid hol2
                              have HFA := Lib.hid (find_any OL ((pn : Nat) : Int) oa oc wr HOP.out (by omega))
                              obtain ⟨R, hR⟩ : ∃ R, kidF (fndF OL) ((pn : Nat) : Int) = R := ⟨_, rfl⟩
                              rw [hR] at HFA
                              clear hop hpn hkn hxo c0 l1 bj
                              by_cases hin : ((pn : Nat) : Int) ∈ (KL.take j).map (fun x => x.K / 2)
                              · have e1 : R.toList.isEmpty = false := fullT (by
                                  rw [← hR]
                                  unfold kidF
                                  rw [HFO.out, resF_in hin, over_some HPR.out]
                                  show (hashP nodeT _).size ≠ 0
                                  rw [hashP_size]; decide)
                                have HF7 : Hid (fndF OL = resF (overF H9) ((KL.take (j + 1)).map (fun x => x.K / 2))) := Lib.hid (by
                                  rw [HTK.out, HFO.out]
                                  funext k
                                  by_cases e : k ∈ (KL.take j).map (fun x => x.K / 2)
                                  · rw [resF_in e, resF_in (List.mem_append_left _ e)]
                                  · rw [resF_out e, resF_out (fun h9 => by
                                      rcases List.mem_append.1 h9 with h8 | h8
                                      · exact e h8
                                      · rw [List.mem_singleton] at h8; rw [h8] at e; exact e hin)])
                                clear hR hin
                                go_wp2_with fail
                                refine HFA.out.mono ?_
                                rintro e w2 ⟨rfl, hb2⟩
                                have HKO7 := Lib.hid (HKO.out.below hb2)
                                have HWO7 : Hid (Below Z.heap.size Z w2) := Lib.hid (bnext HWO.out hb2)
                                clear hb2
                                go_wp2
                                go_roundg (len KL - (j + 1))
                                case rel => exact ⟨j + 1, OL, by omega, by go_num, by omega, HKO7, HF7, HWO7⟩
                                case measure => omega
                              · have HON : Hid (fndF OL ((pn : Nat) : Int) = none) := Lib.hid (by rw [HFO.out, resF_out hin])
                                have e1 : R.toList.isEmpty = true := by
                                  rw [← hR]
                                  unfold kidF
                                  rw [HON.out]
                                  show ByteArray.empty.toList.isEmpty = true
                                  rw [ByteArray.toList_eq]
                                  rfl
                                obtain ⟨p0, hp0⟩ : ∃ p0 : Nat, 2 * pn = p0 := ⟨_, rfl⟩
                                obtain ⟨p1, hp1⟩ : ∃ p1 : Nat, 2 * pn + 1 = p1 := ⟨_, rfl⟩
                                have hpb := HPN.out
                                have f1 : IntKind.u64.wrap (2 * ((pn : Nat) : Int)) = ((p0 : Nat) : Int) := by rw [IntWalk.u64_in _ (by omega)]; omega
                                have f2 : IntKind.u64.wrap (((p0 : Nat) : Int) + 1) = ((p1 : Nat) : Int) := by rw [IntWalk.u64_in _ (by omega)]; omega
                                obtain ⟨X0, hX0⟩ : ∃ X0, kidF H9 (2 * ((pn : Nat) : Int)) = X0 := ⟨_, rfl⟩
                                obtain ⟨X1, hX1⟩ : ∃ X1, kidF H9 (2 * ((pn : Nat) : Int) + 1) = X1 := ⟨_, rfl⟩
                                have HK0 : Hid (kidF (fndF KL) ((p0 : Nat) : Int) = X0) := Lib.hid (by rw [HF6.out, ← hX0, ← hp0]; rfl)
                                have HK1 : Hid (kidF (fndF KL) ((p1 : Nat) : Int) = X1) := Lib.hid (by rw [HF6.out, ← hX1, ← hp1]; rfl)
                                have HXZ : Hid (X0.size ≤ 1000000 ∧ X1.size ≤ 1000000) := Lib.hid ⟨by rw [← HK0.out]; exact kl_small HK.out.ok _, by rw [← HK1.out]; exact kl_small HK.out.ok _⟩
                                obtain ⟨D, hD⟩ : ∃ D, hashP nodeT [X0, X1] = D := ⟨_, rfl⟩
                                have HOV : Hid (overF H9 ((pn : Nat) : Int) = some D) := Lib.hid (by rw [over_some HPR.out, hX0, hX1, hD])
                                have HDZ : Hid (D.size ≤ 1000) := Lib.hid (by rw [← hD, hashP_size]; omega)
                                have HHD := Lib.hid hD
                                have HPB : Hid (0 ≤ ((pn : Nat) : Int) ∧ ((pn : Nat) : Int) < 65536) := Lib.hid (by omega)
                                clear hR hin hp0 hp1 hX0 hX1 hD hpb
                                go_wp2_with fail
                                refine HFA.out.mono ?_
                                rintro e w2 ⟨rfl, hb2⟩
                                have HKO7 := Lib.hid (HKO.out.below hb2)
                                have HWO7 : Hid (Below Z.heap.size Z w2) := Lib.hid (bnext HWO.out hb2)
                                clear hb2 HFA
                                go_wp2_with fail
                                refine (find_any KL ((p0 : Nat) : Int) (some ⟨kb, ko, none⟩) kc w2 (HKP.out.below HWO7.out) (by omega)).mono ?_
                                rintro e w3 ⟨rfl, hb3⟩
                                rw [HK0.out]
                                have HKO8 := Lib.hid (HKO7.out.below hb3)
                                have HWO8 : Hid (Below Z.heap.size Z w3) := Lib.hid (bnext HWO7.out hb3)
                                clear hb3 HKO7 HWO7
                                go_wp2_with fail
                                refine (find_any KL ((p1 : Nat) : Int) (some ⟨kb, ko, none⟩) kc w3 (HKP.out.below HWO8.out) (by omega)).mono ?_
                                rintro e w4 ⟨rfl, hb4⟩
                                rw [HK1.out]
                                have HKO9 := Lib.hid (HKO8.out.below hb4)
                                have HWO9 : Hid (Below Z.heap.size Z w4) := Lib.hid (bnext HWO8.out hb4)
                                clear hb4 HKO8 HWO8 f1 f2
                                go_wp2_with fail
                                refine (rhash2_any nodeT X0 X1 w4 (by decide) (by decide) HXZ.out.1 HXZ.out.2).mono ?_
                                rintro e w5 ⟨rfl, hb5⟩
                                rw [HHD.out]
                                have HKOA := Lib.hid (HKO9.out.below hb5)
                                have HWOA : Hid (Below Z.heap.size Z w5) := Lib.hid (bnext HWO9.out hb5)
                                have hbs : B3 ≤ w5.heap.size := by rw [← hB3]; exact HWOA.out.size
                                have HBS := Lib.hid hbs
                                clear hb5 HKO9 HWO9 hbs
                                go_wp2_with (at_builtin; refine wpList_append_own _ rfl _ _ 171 rfl B3 173 j0 Plc.zero.val 2 24 Tryz.underlying171 hj HY0.out hy1 hy2 rfl (by decide) _ _ _ rfl (HKOA.out.own.alloc _) ⟨w5.heap.size, 0, none⟩ 1 1 [.int .u64 ((pn : Nat) : Int), .string D] rfl rfl (World.news_of_block (heap_alloc_new _ _)) (by intro u hu9; simp at hu9; rcases hu9 with rfl | rfl <;> rfl) (by unfold maxLen; omega) (by omega) (by have := HBS.out; simp; omega) ?_; intro v3 w6 hown3 hgrow3 _)
                                have HKOB : Hid (KlAt B3 v3 (OL ++ [⟨((pn : Nat) : Int), D⟩]) w6) := Lib.hid (KlAt.snoc HKOA.out.ok ⟨((pn : Nat) : Int), D⟩ hown3 ⟨HPB.out.1, HPB.out.2, HDZ.out⟩)
                                have HWOB : Hid (Below Z.heap.size Z w6) := Lib.hid (grownBy_below (balloc HWOA.out _) hgrow3 (fun k hk' => by have := (HKOA.out.own.lt k hk').1; rw [hB3]; exact this))
                                have HFOB : Hid (fndF (OL ++ [⟨((pn : Nat) : Int), D⟩]) = resF (overF H9) ((KL.take (j + 1)).map (fun x => x.K / 2))) := Lib.hid (by
                                  rw [fndF_snoc OL ⟨((pn : Nat) : Int), D⟩ HON.out, HTK.out, resF_snoc _ HOV.out, HFO.out])
                                have HNOB : Hid (len (OL ++ [(⟨((pn : Nat) : Int), D⟩ : Plc)]) = len OL + 1) := Lib.hid (plc_len_snoc _ _)
                                clear hown3 hgrow3 HKOA HWOA
                                go_wp2
                                go_roundg (len KL - (j + 1))
                                case rel => exact ⟨j + 1, _, by omega, by go_num, by rw [HNOB.out]; omega, HKOB, HFOB, HWOB⟩
                                case measure => omega
                            · obtain rfl : j = len KL := by omega
                              have b1 : ¬ ((len KL : Nat) : Int) < len KL := by omega
                              have HFZ : Hid (fndF OL = rootT (g0F lv es) rs ds (m + 1)) := Lib.hid (by
                                rw [HRT.out, HFO.out, plc_take]
                                apply resF_all
                                intro k hk
                                have hk2 := (overF_some H9 k).1 hk
                                rw [← HF6.out] at hk2
                                rcases hk2 with h1 | h1
                                · obtain ⟨x, hx, e⟩ := fnd_key KL _ h1
                                  exact List.mem_map.2 ⟨x, hx, by rw [e]; omega⟩
                                · obtain ⟨x, hx, e⟩ := fnd_key KL _ h1
                                  exact List.mem_map.2 ⟨x, hx, by rw [e]; omega⟩)
                              have HKZ : Hid (KlAt w.heap.size u21 OL wr) := Lib.hid ⟨own_lower HKO.out.own HB3.out, HKO.out.ok⟩
                              have HL8Z : Hid (Laid8 wr B2 (.slice (some ⟨rb, ro, none⟩) (len rs) cap3) rs) := Lib.hid (HL8.out.below HWO.out)
                              have HWZ : Hid (Below w.heap.size w wr) := Lib.hid (bnext HW.out HWO.out)
                              have hkq := HKQ.out
                              have hrl9 := HRLN.out
                              go_wp2
                              go_roundg (len rs - (m + 1))
                              case rel => exact ⟨m + 1, OL, a9, c9, by omega, by go_num, by rw [HUN.out], by omega, HKZ, HFZ, Lib.hid (by rw [HUN.out]; exact HTX.out), HL8Z, HWZ⟩
                              case measure => omega
                    · obtain rfl : m = len rs := by omega
                      have b1 : ¬ ((len rs : Nat) : Int) < (d : Int) := by omega
                      obtain ⟨ka, kc, hkv, hkp⟩ := HK.out.plcs
                      subst hkv
                      have HFD := Lib.hid (find_any KL 0 ka kc wr hkp (by omega))
                      have HFE : Hid (kidF (fndF KL) 0 = rootS (nn : Nat) ps es ds) := Lib.hid (by
                        rw [HE.out.2, HF.out]
                        unfold rootT
                        rw [take_len])
                      rw [HFE.out] at HFD
                      clear hkp hkl
                      go_wp2_with fail
                      refine HFD.out.mono ?_
                      rintro e w2 ⟨rfl, hb2⟩
                      have HW2 : Hid (Below w.heap.size w w2) := Lib.hid (bnext HW.out hb2)
                      clear hb2
                      go_wp2
                      go_ret2
                      exact ⟨by rw [HE.out.1]; rfl, HW2.out⟩
end Go.Proofs.YtoafjbillcooiaaGreat
namespace Go.Proofs.YtoafjbillcooiaaGreat
open Go.RowKit
set_option linter.unusedSimpArgs false
set_option linter.unusedVariables false
theorem own_ge {base : Nat} {w : World} {e size n : Nat} {v : Value} {xs : List Value} (h : w.ownsRow base e size v n xs) {b : Nat} (hb : w.heap.size ≤ b) : some b ≠ v.ownBlock := fun e => by
  have := h.lt b e.symm; omega
theorem own_lo {base : Nat} {w : World} {e size n : Nat} {v : Value} {xs : List Value} (h : w.ownsRow base e size v n xs) {b : Nat} (hb : b < base) : some b ≠ v.ownBlock := fun e => by
  have := h.lt b e.symm; omega
end Go.Proofs.YtoafjbillcooiaaGreat
namespace Go.Proofs.YtoafjbillcooiaaGreat
open Go.RowKit
set_option linter.unusedSimpArgs false
set_option linter.unusedVariables false
structure PrIn (ps : List Int) (es ds : List ByteArray) (pa ea da : Option Addr) (dc : Nat) (w : World) : Prop where
  p : U64s w pa ps
  e : Txts w ea es
  d : Txts w da ds
  pl : len ps ≤ 12
  pu : ∀ k ∈ ps, U64 k
  el : len es ≤ 1000000
  dl : len ds ≤ 1000000
  dc_ : len ds ≤ dc
  ez : ∀ i, i < len es → (tth es i).size ≤ 1000000
theorem PrIn.below {ps : List Int} {es ds : List ByteArray} {pa ea da : Option Addr} {dc : Nat} {w w' : World} (h : PrIn ps es ds pa ea da dc w) (hb : Below w.heap.size w w') : PrIn ps es ds pa ea da dc w' :=
  ⟨h.p.below hb, h.e.below hb, h.d.below hb, h.pl, h.pu, h.el, h.dl, h.dc_, h.ez⟩
theorem proot_any (n : Int) (ps : List Int) (es ds : List ByteArray) (pa ea da : Option Addr) (pc ec dc : Nat) (w : World) (h : PrIn ps es ds pa ea da dc w) (h0 : -9223372036854775808 ≤ n) (h1 : n ≤ 9223372036854775807) :
    Calls Tryz.prog 76 #[.int .i64 n, .slice pa (len ps) pc, .slice ea (len es) ec, .slice da (len ds) dc] w (RootIs n ps es ds w) := by
  by_cases hb : ArgOk n ps es
  · cases hbad : badB ds with
    | true => exact proot_form n ps es ds pa ea da pc ec dc w h.p h.d (Nat.le_trans h.pl (by decide)) h.dl h0 h1 hb hbad
    | false =>
      obtain ⟨nn, rfl⟩ := Int.eq_ofNat_of_zero_le hb.1.1
      exact proot_main nn ps es ds pa ea da pc ec dc w h.p h.e h.d h.pl h.pu h.dl h.dc_ h.ez hb hbad
  · exact proot_arg n ps es ds pa ea da pc ec dc w h.p (Nat.le_trans h.pl (by decide)) h0 h1 hb h.el
theorem rroot_any (n : Int) (ps : List Int) (es ds : List ByteArray) (pa ea da : Option Addr) (pc ec dc : Nat) (w : World) (h : PrIn ps es ds pa ea da dc w) (h0 : -9223372036854775808 ≤ n) (h1 : n ≤ 9223372036854775807) :
    Calls Tryz.prog 81 #[.int .i64 n, .slice pa (len ps) pc, .slice ea (len es) ec, .slice da (len ds) dc] w (RootIs n ps es ds w) := by
  by_cases hb : ArgOk n ps es
  · obtain ⟨nn, rfl⟩ := Int.eq_ofNat_of_zero_le hb.1.1
    exact rroot_main nn ps es ds pa ea da pc ec dc w h.p h.e h.d (Nat.le_trans h.pl (by decide)) h.pu h.dl h.dc_ h.ez hb
  · exact rroot_arg n ps es ds pa ea da pc ec dc w h.p (Nat.le_trans h.pl (by decide)) h0 h1 hb h.el
def checkE (r : ByteArray) (n : Int) (ps : List Int) (es ds : List ByteArray) : Int := if rootE n ps es ds = 0 ∧ rootS n ps es ds ≠ r then 20 else rootE n ps es ds
end Go.Proofs.YtoafjbillcooiaaGreat
namespace Go.Proofs.YtoafjbillcooiaaGreat
open Go.RowKit
set_option linter.unusedSimpArgs false
set_option linter.unusedVariables false
def treeR (l : List ByteArray) : ByteArray := plD l (depN l) (depN l) 0
theorem treeR_size (l : List ByteArray) : (treeR l).size = 32 := plD_size _ _ _ _
theorem one_may {n k : Nat} (hk : k < n) : MayOk (n : Nat) [((k : Nat) : Int)] := ⟨(show 0 < 1 by decide), fun i hi => by
  have hi : i < 1 := hi
  obtain rfl : i = 0 := by omega
  exact ⟨by show ((k : Nat) : Int) < n; omega, fun h => by omega⟩⟩
theorem one_u64 {n k : Nat} (hn : n ≤ 65536) (hk : k < n) : ∀ x ∈ [((k : Nat) : Int)], U64 x := fun x hx => by
  obtain rfl := List.mem_singleton.1 hx
  exact ⟨by omega, by omega⟩
def oneD (els : List ByteArray) (k : Nat) : List ByteArray := dgsL els (plcL (len els : Nat) [((k : Nat) : Int)])
theorem oneD_len {els : List ByteArray} {k : Nat} (hn : len els ≤ 65536) : len (oneD els k) = depN els := by
  unfold oneD
  rw [dgs_len, plc_one (d := depN els) (depthZ_len hn) (depN_le hn)]
theorem oneD_size (els : List ByteArray) (k : Nat) : ∀ d ∈ oneD els k, d.size = 32 := fun d hd => by
  unfold oneD dgsL at hd
  obtain ⟨x, _, rfl⟩ := List.mem_map.1 hd
  exact plD_size _ _ _ _
theorem one_back {els : List ByteArray} {k : Nat} (hn : len els ≤ 65536) (hk : k < len els) : rootE (len els : Nat) [((k : Nat) : Int)] [tth els k] (oneD els k) = 0 ∧ rootS (len els : Nat) [((k : Nat) : Int)] [tth els k] (oneD els k) = treeR els :=
  back_root hn (one_u64 hn hk) (one_may hk) (Agree.refl _ _) rfl (fun m hm => by
    have hm : m < 1 := hm
    obtain rfl : m = 0 := by omega
    rfl)
theorem one_check {els : List ByteArray} {k : Nat} (hn : len els ≤ 65536) (hk : k < len els) : checkE (treeR els) (len els : Nat) [((k : Nat) : Int)] [tth els k] (oneD els k) = 0 := by
  have h := one_back hn hk
  unfold checkE
  rw [h.1, h.2, if_neg (fun h => h.2 rfl)]
theorem own_capP {w : World} {base n c : Nat} {a : Option Addr} {xs : List Value} {m : Nat} (h : w.ownsRow base 9 1 (.slice a m c) n xs) : m ≤ c ∧ (a = none → c = 0) := by
  rcases h.2 with ⟨e, _⟩ | ⟨g, cap, cur, e, _, _, h3, _⟩
  · injection e with e1 e2 e3; exact ⟨by omega, fun _ => e3⟩
  · injection e with e1 e2 e3; exact ⟨by omega, fun e9 => by rw [e9] at e1; cases e1⟩
def TextsAre (L : List ByteArray) (v : Value) (w : World) : Prop := ∃ a c, v = .slice a (len L) c ∧ Txts w a L ∧ len L ≤ c ∧ (a = none → c = 0)
theorem TextsAre.below {L : List ByteArray} {v : Value} {w w' : World} (h : TextsAre L v w) (hb : Below w.heap.size w w') : TextsAre L v w' := by
  obtain ⟨a, c, h1, h2, h3, h4⟩ := h
  exact ⟨a, c, h1, h2.below hb, h3, h4⟩
theorem TextsAre.nil (w : World) : TextsAre [] (.slice none 0 0) w := ⟨none, 0, rfl, Txts.nil _ _, Nat.le_refl _, fun _ => rfl⟩
theorem TextsAre.own {w : World} {base n : Nat} {v : Value} {L : List ByteArray} (h : w.ownsRow base 9 1 v n (L.map Value.string)) : TextsAre L v w := by
  obtain ⟨a, c, rfl, ht⟩ := own_txts h
  obtain ⟨h1, h2⟩ := own_capP h
  exact ⟨a, c, rfl, ht, h1, h2⟩
end Go.Proofs.YtoafjbillcooiaaGreat
namespace Go.Proofs.YtoafjbillcooiaaGreat
open Go.RowKit
set_option linter.unusedSimpArgs false
set_option linter.unusedVariables false
def keyO (f L K r : Nat) : Option Nat := if r < f then none else if K ≤ (r - f) / L then none else some ((r - f) / L)
theorem keyO_some {f L K r k : Nat} (h : keyO f L K r = some k) : f ≤ r ∧ k = (r - f) / L ∧ k < K := by
  unfold keyO at h
  split at h
  · cases h
  · split at h
    · cases h
    · cases h
      exact ⟨by omega, rfl, by omega⟩
theorem keyO_low {f L K r : Nat} (h : r < f) : keyO f L K r = none := if_pos h
theorem keyO_high {f L K r : Nat} (h : f ≤ r) (hk : K ≤ (r - f) / L) : keyO f L K r = none := by
  unfold keyO
  rw [if_neg (by omega), if_pos hk]
theorem keyO_in {f L K r : Nat} (h : f ≤ r) (hk : (r - f) / L < K) : keyO f L K r = some ((r - f) / L) := by
  unfold keyO
  rw [if_neg (by omega), if_neg (by omega)]
def fitsL (f L K : Nat) : Bool := decide (L ≤ (18446744073709551615 - f) / K)
theorem fitsL_iff {f L K : Nat} (hK : 0 < K) (hf : f ≤ 18446744073709551615) : fitsL f L K = true ↔ f + K * L ≤ 18446744073709551615 := by
  unfold fitsL
  rw [decide_eq_true_eq, Nat.le_div_iff_mul_le hK, Nat.mul_comm]
  omega
theorem fitsL_mono {f L K m : Nat} (hK : 0 < K) (hf : f ≤ 18446744073709551615) (h : fitsL f L K = true) (hm : m ≤ K) : f + m * L ≤ 18446744073709551615 := by
  have h1 := (fitsL_iff hK hf).1 h
  have h2 : m * L ≤ K * L := Nat.mul_le_mul_right L hm
  omega
def mayL (z : Nat) (L : Nat) (K : Int) : Bool := decide (z = 32) && decide (0 < L) && decide (1 ≤ K) && decide (K ≤ 64)
def newE (z f L : Nat) (K : Int) : Int := if mayL z L K = true then (if fitsL f L K.toNat = true then 0 else 21) else 2
def rungL (seed : ByteArray) (K : Nat) : List ByteArray := chL (rungP seed) K
theorem rungL_len (seed : ByteArray) (K : Nat) : len (rungL seed K) = K := chL_len _ _
theorem rungL_at (seed : ByteArray) (K i : Nat) (h : i < K) : tth (rungL seed K) i = rungP seed i := chL_at _ _ _ h
def ladR (seed : ByteArray) (K : Nat) : ByteArray := treeR (rungL seed K)
theorem ladR_size (seed : ByteArray) (K : Nat) : (ladR seed K).size = 32 := treeR_size _
theorem publicP_size (seed : ByteArray) (k : Nat) : (publicP seed k).size = 32 := hashP_size _ _
theorem recovP_size (sig : List ByteArray) (d : ByteArray) : (recovP sig d).size = 32 := hashP_size _ _
theorem num8B_size (k : Nat) : (⟨(num8 k).toArray⟩ : ByteArray).size = 8 := by
  show (num8 k).toArray.size = 8
  rw [List.size_toArray, num8_len]
theorem rungP_size (seed : ByteArray) (k : Nat) : (rungP seed k).size = 40 := by
  unfold rungP
  rw [ByteArray.size_append, num8B_size, publicP_size]
structure SigD where
  ix : Int
  ws : List ByteArray
  ps : List ByteArray
def signE (f L K r : Nat) (d : ByteArray) : Int := match keyO f L K r with | none => 16 | some _ => if d.size = 32 then 0 else 2
def signD (seed : ByteArray) (f L K r : Nat) (d : ByteArray) : SigD :=
  match keyO f L K r with
  | none => ⟨0, [], []⟩
  | some k => if d.size = 32 then ⟨(k : Nat), signP seed k d, oneD (rungL seed K) k⟩ else ⟨0, [], []⟩
def wotsB (ws : List ByteArray) : Bool := decide (len ws = 67) && ws.all fun s => decide (s.size = 32)
theorem signP_ok (seed : ByteArray) (k : Nat) (d : ByteArray) : wotsB (signP seed k d) = true := by
  unfold wotsB
  rw [Bool.and_eq_true, decide_eq_true_eq]
  refine ⟨chL_len _ _, List.all_eq_true.2 fun s hs => ?_⟩
  unfold signP chL at hs
  obtain ⟨i, -, rfl⟩ := List.mem_map.1 hs
  exact decide_eq_true (walkC_size _ _ _ _ (secretP_size _ _ _))
def verE (root : ByteArray) (f L K r : Nat) (d : ByteArray) (s : SigD) : Int :=
  if d.size = 32 ∧ root.size = 32 ∧ 0 < L ∧ 1 ≤ K ∧ K ≤ 64 then
    match keyO f L K r with
    | none => 16
    | some k => if s.ix = (k : Nat) ∧ wotsB s.ws = true then (if checkE root (K : Nat) [((k : Nat) : Int)] [(⟨(num8 k).toArray⟩ : ByteArray) ++ recovP s.ws d] s.ps = 0 then 0 else 10) else 10
  else 2
theorem holds_verE {seed d : ByteArray} {f L K r at9 : Nat} (hd : d.size = 32) (hL : 0 < L) (hK1 : 1 ≤ K) (hK : K ≤ 64) {k : Nat} (hk : keyO f L K r = some k) :
    verE (ladR seed K) f L K at9 d (signD seed f L K r d) = match keyO f L K at9 with | none => 16 | some j => if j = k then 0 else 10 := by
  unfold verE
  rw [if_pos ⟨hd, ladR_size _ _, hL, hK1, hK⟩]
  cases hj : keyO f L K at9 with
  | none => rfl
  | some j =>
    have hS : signD seed f L K r d = ⟨(k : Nat), signP seed k d, oneD (rungL seed K) k⟩ := by
      unfold signD
      rw [hk]
      exact if_pos hd
    rw [hS]
    show (if ((k : Nat) : Int) = (j : Nat) ∧ wotsB (signP seed k d) = true then _ else (10 : Int)) = if j = k then 0 else 10
    by_cases hjk : j = k
    · subst hjk
      have hlt := (keyO_some hj).2.2
      rw [if_pos ⟨rfl, signP_ok _ _ _⟩, if_pos rfl, if_pos]
      show checkE (ladR seed K) (K : Nat) [((j : Nat) : Int)] [(⟨(num8 j).toArray⟩ : ByteArray) ++ recovP (signP seed j d) d] (oneD (rungL seed K) j) = 0
      rw [recov_sign]
      have h := one_check (els := rungL seed K) (k := j) (by rw [rungL_len]; omega) (by rw [rungL_len]; exact hlt)
      rw [rungL_len, rungL_at _ _ _ hlt] at h
      exact h
    · rw [if_neg (fun h => hjk (by have := h.1; omega)), if_neg hjk]
end Go.Proofs.YtoafjbillcooiaaGreat
namespace Go.Proofs.YtoafjbillcooiaaGreat
open Go.RowKit
set_option linter.unusedSimpArgs false
set_option linter.unusedVariables false
theorem conv_one (n : Nat) (hn : n < 256) (W : World) : (convert 114 9 (.slice (some ⟨W.heap.size, 0, none⟩) 1 1)).run Tryz.prog (W.alloc (.cells #[.int .u8 (n : Int)] 5)) = .ok (.string (oneB n)) (W.alloc (.cells #[.int .u8 (n : Int)] 5)) := by
  have h := conv_new W 5 1 1 [UInt8.ofNat n] rfl
  have e : byV (UInt8.ofNat n) = Value.int .u8 (n : Int) := by rw [← ofNat_byV, Int.emod_eq_of_lt (by omega) (by omega)]
  rw [show ([UInt8.ofNat n].map byV) = [Value.int .u8 (n : Int)] by simp [e]] at h
  exact h
theorem txts3 {w : World} {b : Nat} {x y z : ByteArray} {T : TypeId} {fr : Nat × Nat} (h : w.heap[b]? = some (.cells #[.string x, .string y, .string z] T fr)) : Txts w (some ⟨b, 0, none⟩) [x, y, z] := fun i hi => ⟨b, 0, rfl, by
  have hi : i < 3 := hi
  match i, hi with
  | 0, _ => exact block_cell h 0
  | 1, _ => exact block_cell h 1
  | 2, _ => exact block_cell h 2⟩
theorem sec_size (k i : Nat) {y : ByteArray} (h : y.size ≤ 1000) : (partsL [y, num8S k, oneB i]).length ≤ 140737488355300 := by
  simp [partsL, partL_len, oneB_size, num8S_size]
  omega
theorem conv_oneb (n : Nat) (hn : n < 256) {W : World} {b : Nat} (h : W.heap[b]? = some (.cells #[.int .u8 (n : Nat)] 5 (0, 0))) : (convert 114 9 (.slice (some ⟨b, 0, none⟩) 1 1)).run Tryz.prog W = .ok (.string (oneB n)) W := by
  have e : byV (UInt8.ofNat n) = Value.int .u8 (n : Int) := by rw [← ofNat_byV, Int.emod_eq_of_lt (by omega) (by omega)]
  exact conv_block W b 0 1 1 [UInt8.ofNat n] rfl (fun i hi => by
    obtain rfl : i = 0 := by omega
    have h2 := block_cell h 0
    show _ = some (byV (UInt8.ofNat n))
    rw [e]
    exact h2)
theorem step_size (i c : Nat) {y : ByteArray} (h : y.size ≤ 1000) : (partsL [oneB i, oneB c, y]).length ≤ 140737488355300 := by
  simp [partsL, partL_len, oneB_size]
  omega
set_option maxRecDepth 100000 in
set_option maxHeartbeats 4000000 in
theorem rwalk_any (i f n : Nat) (x : ByteArray) (w : World) (hi : i ≤ 66) (hn : f + n ≤ 15) (hx : x.size ≤ 1000) : Calls Tryz.prog 114 #[.int .i64 (i : Nat), .int .i64 (f : Nat), .int .i64 ((f + n : Nat) : Int), .string x] w fun e w' => e = .returned (.string (walkC i f n x)) ∧ Below w.heap.size w w' := by
  obtain ⟨t, ht⟩ : ∃ t, f + n = t := ⟨_, rfl⟩
  rw [ht]
  have HX := Lib.hid hx
  have i1 : ¬ (i : Int) < 0 := by omega
  have i2 : ¬ (66 : Int) < (i : Int) := by omega
  have i3 : ¬ (f : Int) < 0 := by omega
  have i4 : ¬ (t : Int) < (f : Int) := by omega
  have i5 : ¬ (15 : Int) < (t : Int) := by omega
  have HI := Lib.hid hi
  have HN := Lib.hid hn
  have HT := Lib.hid ht
  clear hx hn ht hi
  go_enter Tryz.func114, Tryz.ntmps114
  go_upto_region 3 with fail
  clear i1 i2 i3 i4 i5
  go_wp2
  go_loopg [9, 3] n (fun gg j v wr => ∃ m : Nat, gg + m = n ∧ j = .int .i64 ((f + m : Nat) : Int) ∧ v = .string (walkC i f m x) ∧ Hid (Below w.heap.size w wr))
  case atStart => exact ⟨0, by omega, rfl, rfl, Lib.hid (Below.refl _ _)⟩
  case round =>
    obtain ⟨m, hm, rfl, rfl, HB⟩ := hrel
    by_cases hlt : m < n
    · obtain ⟨c, hc⟩ : ∃ c, f + m = c := ⟨_, rfl⟩
      have HC := Lib.hid hc
      rw [hc]
      have hc15 : c < 16 := by have := HN.out; omega
      have b0 : (c : Int) < (t : Int) := by have := HT.out; omega
      obtain ⟨y, hy⟩ : ∃ y, walkC i f m x = y := ⟨_, rfl⟩
      have HY := Lib.hid hy
      have HYS : Hid (y.size ≤ 1000) := Lib.hid (by
        rw [← hy]
        cases m with
        | zero => exact HX.out
        | succ m => exact Nat.le_trans (Nat.le_of_eq (hashP_size _ _)) (by decide))
      rw [hy]
      have k1 : IntKind.u8.wrap ((i : Nat) : Int) = (i : Int) := by have := HI.out; exact IntWalk.u8_in _ (by omega)
      have k2 : IntKind.u8.wrap ((c : Nat) : Int) = (c : Int) := IntWalk.u8_in _ (by omega)
      have v1 := conv_one i (by have := HI.out; omega) wr
      have v2 := conv_one c (by omega) (wr.alloc (.cells #[.int .u8 (i : Int)] 5))
      rw [show (wr.alloc (.cells #[.int .u8 (i : Int)] 5)).heap.size = wr.heap.size + 1 by simp] at v2
      have HLT := Lib.hid hlt
      have HM := Lib.hid hm
      clear hy hc hlt hm
      go_wp2_with fail
      refine (rhash_any chainT [oneB i, oneB c, y] _ 3 _ (by decide) (by decide) (txts3 (alloc_new_at _ (by simp))) (step_size i c HYS.out)).mono ?_
      rintro e w2 ⟨rfl, hb⟩
      have HB2 : Hid (Below w.heap.size w w2) := Lib.hid (bnext (balloc (balloc (balloc HB.out _) _) _) hb)
      have HW : Hid (hashP chainT [oneB i, oneB c, y] = walkC i f (m + 1) x) := Lib.hid (by rw [← HY.out, ← HC.out]; rfl)
      rw [HW.out]
      clear hb k1 k2 v1 v2
      go_wp2
      go_roundg (gk - 1)
      case rel => exact ⟨m + 1, by have := HLT.out; have := HM.out; omega, by rw [← Nat.add_assoc, HC.out]; go_num, rfl, HB2⟩
      case measure => have := HLT.out; have := HM.out; omega
    · obtain rfl : m = n := by omega
      have b0 : ¬ ((f + m : Nat) : Int) < (t : Int) := by have := HT.out; omega
      go_wp2
      go_ret
      exact ⟨rfl, HB.out⟩
set_option maxRecDepth 100000 in
set_option maxHeartbeats 4000000 in
theorem rsecret_any (seed : ByteArray) (k i : Nat) (w : World) (hk : k < 18446744073709551616) (hi : i ≤ 66) (hs : seed.size ≤ 1000) : Calls Tryz.prog 115 #[.string seed, .int .u64 (k : Nat), .int .i64 (i : Nat)] w fun e w' => e = .returned (.string (secretP seed k i)) ∧ Below w.heap.size w w' := by
  have HS := Lib.hid hs
  have HK := Lib.hid hk
  have HI := Lib.hid hi
  clear hs hk hi
  go_enter Tryz.func115, Tryz.ntmps115
  go_upto_region 1 with fail
  have k1 : IntKind.u8.wrap ((i : Nat) : Int) = (i : Int) := by have := HI.out; exact IntWalk.u8_in _ (by omega)
  have HSH : Hid (∀ (wv : World) (b : Nat), wv.heap[b]? = some (.cells #[.string seed, .string (num8S k), .string (oneB i)] 9 (0, 0)) → Calls Tryz.prog 116 #[.string secretT, .slice (some ⟨b, 0, none⟩) 3 3] wv fun e w' => e = .returned (.string (secretP seed k i)) ∧ Below wv.heap.size wv w') := Lib.hid (fun wv b h =>
    rhash_any secretT [seed, num8S k, oneB i] (some ⟨b, 0, none⟩) 3 wv (by decide) (by decide) (txts3 h) (sec_size k i HS.out))
  refine wp_region_all 1000 (none) (phis [fun u _ => u = (.string seed), fun u _ => u = (.int .u64 (k : Nat)), fun u _ => u = (.string (num8S k)), fun u _ => u = (.int .i64 (i : Nat)), fun u _ => u = (.int .u8 (i : Nat)), fun u w' => ∃ b, u = .slice (some ⟨b, 0, none⟩) 1 1 ∧ w'.heap[b]? = some (.cells #[.int .u8 (i : Nat)] 5 (0, 0)), fun u _ => u = (.string (oneB i)), fun u w' => ∃ b, u = .slice (some ⟨b, 0, none⟩) 3 3 ∧ w'.heap[b]? = some (.cells #[.string seed, .string (num8S k), .string (oneB i)] 9 (0, 0)), fun u _ => u = (.string (secretP seed k i)), fun u _ => u = (.string (secretP seed k i))]) rfl (by kernel_rfl) (mono_of ⟨mono_eq, mono_eq, mono_eq, mono_eq, mono_eq, ?m5, mono_eq, ?m7, mono_eq, mono_eq, trivial⟩) (steps_of 10 ⟨?s0, ?s1, ?s2, ?s3, ?s4, ?s5, ?s6, ?s7, ?s8, ?s9, trivial⟩) ?_
  case m5 =>
    exact ⟨fun u w1 w' h ⟨b, h1, hb⟩ => ⟨b, h1, ext_block h hb⟩, fun _ u w1 w' h ⟨b, h1, hb⟩ => ⟨b, h1, extB_block h (by simp) hb⟩⟩
  case m7 =>
    exact ⟨fun u w1 w' h ⟨b, h1, hb⟩ => ⟨b, h1, ext_block h hb⟩, fun _ u w1 w' h ⟨b, h1, hb⟩ => ⟨b, h1, extB_block h (by simp) hb⟩⟩
  case s0 =>
    refine qV (fun _ => rfl) rfl fun av wv hE hO hD => ?_
    simp [go_sem, qF av 0 (.string seed) (hO.2.2 0 rfl), k1]
  case s1 =>
    refine qV (fun _ => rfl) rfl fun av wv hE hO hD => ?_
    simp [go_sem, qF av 1 (.int .u64 (k : Nat)) (hO.2.2 1 rfl), k1]
  case s2 =>
    refine step_wp (fun av wv hE hS hO hD => ⟨rfl, ?_⟩)
    have f8 := qE (hD.1 rfl _ rfl)
    refine wp_of_call (v := .string (num8S k)) (by simp [go_sem, f8]) (rnum_any k wv HK.out) (fun w2 hb => ⟨_, rfl, es_of_ext hb, rfl⟩)
  case s3 =>
    refine qV (fun _ => rfl) rfl fun av wv hE hO hD => ?_
    simp [go_sem, qF av 2 (.int .i64 (i : Nat)) (hO.2.2 2 rfl), k1]
  case s4 =>
    refine qV (fun _ => rfl) rfl fun av wv hE hO hD => ?_
    simp [go_sem, qE (hD.1 rfl _ rfl), k1]
  case s5 =>
    refine step_wp (fun av wv hE hS hO hD => ⟨rfl, ?_⟩)
    have f11 := qE (hD.1 rfl _ rfl)
    exact wp_of_run (v := .slice (some ⟨wv.heap.size, 0, none⟩) 1 1) (w' := wv.alloc (.cells #[.int .u8 (i : Nat)] 5)) (by simp [go_sem, f11]) ⟨_, rfl, es_of_ext (balloc (Ext_refl _) _), wv.heap.size, rfl, heap_alloc_new _ _⟩
  case s6 =>
    refine step_wp (fun av wv hE hS hO hD => ⟨rfl, ?_⟩)
    have d12 : (fun u w' => ∃ b, u = .slice (some ⟨b, 0, none⟩) 1 1 ∧ w'.heap[b]? = some (.cells #[.int .u8 (i : Nat)] 5 (0, 0))) (av.eval (.tmp 12)) wv := hD.1 rfl _ rfl
    obtain ⟨b, hq, hcq⟩ := d12
    have fq := (ev_form av 12).symm.trans hq
    have hcv := conv_oneb i (by have := HI.out; omega) hcq
    exact wp_of_run (v := .string (oneB i)) (w' := wv) (by simp [go_sem, fq, hcv]) ⟨_, rfl, es_of_ext (Ext_refl _), rfl⟩
  case s7 =>
    refine step_wp (fun av wv hE hS hO hD => ⟨rfl, ?_⟩)
    have f7 := qE (hD.1 rfl _ rfl)
    have f9 := qE (hD.2.1 rfl _ rfl)
    have f13 := qE (hD.2.2.1 rfl _ rfl)
    exact wp_of_run (v := .slice (some ⟨wv.heap.size, 0, none⟩) 3 3) (w' := wv.alloc (.cells #[.string seed, .string (num8S k), .string (oneB i)] 9)) (by simp [go_sem, f7, f9, f13]) ⟨_, rfl, es_of_ext (balloc (Ext_refl _) _), wv.heap.size, rfl, heap_alloc_new _ _⟩
  case s8 =>
    refine step_wp (fun av wv hE hS hO hD => ⟨rfl, ?_⟩)
    have d14 : (fun u w' => ∃ b, u = .slice (some ⟨b, 0, none⟩) 3 3 ∧ w'.heap[b]? = some (.cells #[.string seed, .string (num8S k), .string (oneB i)] 9 (0, 0))) (av.eval (.tmp 14)) wv := hD.1 rfl _ rfl
    obtain ⟨b, hq, hcq⟩ := d14
    have fq := (ev_form av 14).symm.trans hq
    refine wp_of_call (v := .string (secretP seed k i)) (by simp [go_sem, fq, secretT]) (HSH.out wv b hcq) (fun w2 hb => ⟨_, rfl, es_of_ext hb, rfl⟩)
  case s9 =>
    refine qV (fun _ => rfl) rfl fun av wv hE hO hD => ?_
    simp [go_sem, qE (hD.1 rfl _ rfl), k1]
  intro a' w' hE hO hall
  have hA := act_of_outer (ds := [7, 8, 9, 10, 11, 12, 13, 14, 15, 6]) rfl hO (by kernel_rfl)
  obtain ⟨j0, j1, j2, j3, j4, j5, j6, j7, j8, j9, -⟩ := hall
  have e12 : (fun u w' => ∃ b, u = .slice (some ⟨b, 0, none⟩) 1 1 ∧ w'.heap[b]? = some (.cells #[.int .u8 (i : Nat)] 5 (0, 0))) (a'.eval (.tmp 12)) w' := j5 _ rfl
  have e14 : (fun u w' => ∃ b, u = .slice (some ⟨b, 0, none⟩) 3 3 ∧ w'.heap[b]? = some (.cells #[.string seed, .string (num8S k), .string (oneB i)] 9 (0, 0))) (a'.eval (.tmp 14)) w' := j7 _ rfl
  obtain ⟨v12, hv12⟩ : ∃ v, a'.eval (.tmp 12) = v := ⟨_, rfl⟩
  rw [hv12] at e12
  obtain ⟨v14, hv14⟩ : ∃ v, a'.eval (.tmp 14) = v := ⟨_, rfl⟩
  rw [hv14] at e14
  simp only [List.foldl_cons, List.foldl_nil, Act.put, List.setIfInBounds_toArray, List.set_cons_succ, List.set_cons_zero, qJ 7 (j0 _ rfl), qJ 8 (j1 _ rfl), qJ 9 (j2 _ rfl), qJ 10 (j3 _ rfl), qJ 11 (j4 _ rfl), hv12, qJ 13 (j6 _ rfl), hv14, qJ 15 (j8 _ rfl), qJ 6 (j9 _ rfl)] at hA
  clear hO j5 j7 j0 j1 j2 j3 j4 hv12 j6 hv14 j8 j9
  subst hA
  have HBE := Lib.hid (of_drew hE)
  clear hE
  go_wp2
  go_ret
  exact ⟨rfl, HBE.out⟩
end Go.Proofs.YtoafjbillcooiaaGreat
namespace Go.Proofs.YtoafjbillcooiaaGreat
open Go.RowKit
set_option linter.unusedSimpArgs false
set_option linter.unusedVariables false
def keyV (o : Option Nat) : Value := .tuple #[.int .u64 ((o.getD 0 : Nat) : Int), .bool o.isSome]
set_option maxRecDepth 100000 in
theorem lkey_any (f L K r : Nat) (w : World) (hf : f < 18446744073709551616) (hr : r < 18446744073709551616) (hL : 0 < L) :
    Calls Tryz.prog 72 #[.agg #[.int .u64 (f : Nat), .int .u64 (L : Nat), .int .u64 (K : Nat)], .int .u64 (r : Nat)] w fun e w' => e = .returned (keyV (keyO f L K r)) ∧ Below w.heap.size w w' := by
  go_enter Tryz.func72, Tryz.ntmps72
  by_cases h1 : r < f
  · have i1 : (r : Int) < (f : Int) := by omega
    go_wp2
    go_ret2
    exact ⟨by rw [keyO_low h1]; rfl, by (repeat (first | exact Below.refl _ _ | assumption | (refine bdrew ?_) | (refine bdrewN ?_ _) | (refine balloc ?_ _) | (refine bset ?_ (by first | omega | (simp; done) | (simp; omega)) _) | (refine bnext ?_ (by assumption))))⟩
  · have i1 : ¬ (r : Int) < (f : Int) := by omega
    obtain ⟨d, hd⟩ : ∃ d, r - f = d := ⟨_, rfl⟩
    have k1 : IntKind.u64.wrap ((r : Int) - (f : Int)) = (d : Int) := by rw [IntWalk.u64_in _ (by omega)]; omega
    have k2 : ((L : Nat) : Int) ≠ 0 := by omega
    obtain ⟨q, hq⟩ : ∃ q, d / L = q := ⟨_, rfl⟩
    have k3 : Int.tdiv ((d : Nat) : Int) ((L : Nat) : Int) = (q : Int) := by rw [← hq]; exact (Int.ofNat_tdiv d L).symm
    have k5 : ((d : Nat) : Int) / ((L : Nat) : Int) = (q : Int) := by rw [← hq]; exact (Int.natCast_ediv d L).symm
    have hq2 : q ≤ d := by rw [← hq]; exact Nat.div_le_self _ _
    have k4 : IntKind.u64.wrap ((q : Nat) : Int) = (q : Int) := IntWalk.u64_in _ (by omega)
    have hk0 : L ≠ 0 := by omega
    by_cases h2 : K ≤ q
    · have i2 : (K : Int) ≤ (q : Int) := by omega
      have HE : Hid (keyO f L K r = none) := Lib.hid (keyO_high (by omega) (by rw [hd, hq]; exact h2))
      clear hd hq
      go_wp2
      go_ret2
      exact ⟨by rw [HE.out]; rfl, by (repeat (first | exact Below.refl _ _ | assumption | (refine bdrew ?_) | (refine bdrewN ?_ _) | (refine balloc ?_ _) | (refine bset ?_ (by first | omega | (simp; done) | (simp; omega)) _) | (refine bnext ?_ (by assumption))))⟩
    · have i2 : ¬ (K : Int) ≤ (q : Int) := by omega
      have HE : Hid (keyO f L K r = some q) := Lib.hid (by have h3 := keyO_in (f := f) (L := L) (K := K) (r := r) (by omega) (by rw [hd, hq]; omega); rw [hd, hq] at h3; exact h3)
      clear hd hq
      go_wp2
      go_ret2
      exact ⟨by rw [HE.out]; rfl, by (repeat (first | exact Below.refl _ _ | assumption | (refine bdrew ?_) | (refine bdrewN ?_ _) | (refine balloc ?_ _) | (refine bset ?_ (by first | omega | (simp; done) | (simp; omega)) _) | (refine bnext ?_ (by assumption))))⟩
set_option maxRecDepth 100000 in
theorem rkey14_any (f L K r : Nat) (w : World) (hf : f < 18446744073709551616) (hr : r < 18446744073709551616) (hL : 0 < L) :
    Calls Tryz.prog 79 #[.int .u64 (f : Nat), .int .u64 (L : Nat), .int .u64 (K : Nat), .int .u64 (r : Nat)] w fun e w' => e = .returned (keyV (keyO f L K r)) ∧ Below w.heap.size w w' := by
  go_enter Tryz.func79, Tryz.ntmps79
  by_cases h1 : r < f
  · have i1 : (r : Int) < (f : Int) := by omega
    go_wp2
    go_ret2
    exact ⟨by rw [keyO_low h1]; rfl, by (repeat (first | exact Below.refl _ _ | assumption | (refine bdrew ?_) | (refine bdrewN ?_ _) | (refine balloc ?_ _) | (refine bset ?_ (by first | omega | (simp; done) | (simp; omega)) _) | (refine bnext ?_ (by assumption))))⟩
  · have i1 : ¬ (r : Int) < (f : Int) := by omega
    have i0 : decide ((r : Int) < (f : Int)) = false := decide_eq_false i1
    obtain ⟨d, hd⟩ : ∃ d, r - f = d := ⟨_, rfl⟩
    have k1 : IntKind.u64.wrap ((r : Int) - (f : Int)) = (d : Int) := by rw [IntWalk.u64_in _ (by omega)]; omega
    obtain ⟨q, hq⟩ : ∃ q, d / L = q := ⟨_, rfl⟩
    have k3 : Int.tdiv ((d : Nat) : Int) ((L : Nat) : Int) = (q : Int) := by rw [← hq]; exact (Int.ofNat_tdiv d L).symm
    have k5 : ((d : Nat) : Int) / ((L : Nat) : Int) = (q : Int) := by rw [← hq]; exact (Int.natCast_ediv d L).symm
    have hq2 : q ≤ d := by rw [← hq]; exact Nat.div_le_self _ _
    have k4 : IntKind.u64.wrap ((q : Nat) : Int) = (q : Int) := IntWalk.u64_in _ (by omega)
    have hk0 : L ≠ 0 := by omega
    have k2 : ((L : Nat) : Int) ≠ 0 := by omega
    by_cases h2 : K ≤ q
    · have i2 : (K : Int) ≤ (q : Int) := by omega
      have HE : Hid (keyO f L K r = none) := Lib.hid (keyO_high (by omega) (by rw [hd, hq]; exact h2))
      clear hd hq
      go_wp2
      go_ret2
      exact ⟨by rw [HE.out]; rfl, by (repeat (first | exact Below.refl _ _ | assumption | (refine bdrew ?_) | (refine bdrewN ?_ _) | (refine balloc ?_ _) | (refine bset ?_ (by first | omega | (simp; done) | (simp; omega)) _) | (refine bnext ?_ (by assumption))))⟩
    · have i2 : ¬ (K : Int) ≤ (q : Int) := by omega
      have HE : Hid (keyO f L K r = some q) := Lib.hid (by have h3 := keyO_in (f := f) (L := L) (K := K) (r := r) (by omega) (by rw [hd, hq]; omega); rw [hd, hq] at h3; exact h3)
      clear hd hq
      go_wp2
      go_ret2
      exact ⟨by rw [HE.out]; rfl, by (repeat (first | exact Below.refl _ _ | assumption | (refine bdrew ?_) | (refine bdrewN ?_ _) | (refine balloc ?_ _) | (refine bset ?_ (by first | omega | (simp; done) | (simp; omega)) _) | (refine bnext ?_ (by assumption))))⟩
theorem unless_any (b : Bool) (x : Int) (w : World) : Calls Tryz.prog 69 #[.bool b, .int .i64 x] w fun e w' => e = .returned (.int .i64 (if b = true then 0 else x)) ∧ Below w.heap.size w w' := by
  go_enter Tryz.func69, Tryz.ntmps69
  cases b with
  | true =>
    go_wp2
    go_ret
    exact ⟨rfl, by (repeat (first | exact Below.refl _ _ | assumption | (refine bdrew ?_) | (refine bdrewN ?_ _) | (refine balloc ?_ _) | (refine bset ?_ (by first | omega | (simp; done) | (simp; omega)) _) | (refine bnext ?_ (by assumption))))⟩
  | false =>
    go_wp2
    go_ret
    exact ⟨rfl, by (repeat (first | exact Below.refl _ _ | assumption | (refine bdrew ?_) | (refine bdrewN ?_ _) | (refine balloc ?_ _) | (refine bset ?_ (by first | omega | (simp; done) | (simp; omega)) _) | (refine bnext ?_ (by assumption))))⟩
def all32 (l : List ByteArray) : Bool := l.all fun s => decide (s.size = 32)
theorem all32_no {l : List ByteArray} {m : Nat} (hm : m < len l) (h : (tth l m).size ≠ 32) : all32 l = false := by
  cases e : all32 l with
  | false => rfl
  | true =>
    have h1 := List.all_eq_true.1 e (tth l m) (by rw [tth_eq l m hm]; exact List.getElem_mem hm)
    exact absurd (of_decide_eq_true h1) h
theorem all32_yes {l : List ByteArray} (h : ∀ m, m < len l → (tth l m).size = 32) : all32 l = true := by
  refine List.all_eq_true.2 fun s hs => ?_
  obtain ⟨i, hi, rfl⟩ := List.mem_iff_getElem.1 hs
  have h1 := h i hi
  rw [tth_eq l i hi] at h1
  exact decide_eq_true h1
set_option maxRecDepth 100000 in
theorem digests_any (l : List ByteArray) (a : Option Addr) (cap : Nat) (w : World) (hl : Txts w a l) (hn : len l ≤ 1000000) : Calls Tryz.prog 70 #[.slice a (len l) cap] w fun e w' => e = .returned (.bool (all32 l)) ∧ Below w.heap.size w w' := by
  have HL := Lib.hid hl
  have HN := Lib.hid hn
  clear hl hn
  go_enter Tryz.func70, Tryz.ntmps70
  go_wp2
  go_loopg [7] (len l) (fun gg i wr => ∃ m : Nat, gg + m = len l ∧ i = .int .i64 (m : Nat) ∧ Hid (∀ j, j < m → (tth l j).size = 32) ∧ Hid (Below w.heap.size w wr))
  case atStart => exact ⟨0, rfl, rfl, Lib.hid (fun j h => by omega), Lib.hid (Below.refl _ _)⟩
  case round =>
    obtain ⟨m, hm, rfl, HA, HB⟩ := hrel
    by_cases hlt : m < len l
    · have b0 : (m : Int) < len l := by omega
      obtain ⟨b, off, rfl, hc⟩ := HL.out.below HB.out m hlt
      obtain ⟨s, hs⟩ : ∃ s, tth l m = s := ⟨_, rfl⟩
      rw [hs] at hc
      have HS := Lib.hid hs
      have HLT := Lib.hid hlt
      have HNN := HN.out
      clear hs
      by_cases h32 : s.size = 32
      · have i1 : ((s.size : Nat) : Int) = 32 := by omega
        have HZ := Lib.hid h32
        go_wp2
        go_roundg (gk - 1)
        case rel => exact ⟨m + 1, by have := HLT.out; omega, by have := HLT.out; go_num, Lib.hid (fun j hj => by
          by_cases e : j = m
          · subst e; rw [HS.out]; exact HZ.out
          · exact HA.out j (by omega)), HB⟩
        case measure => have := HLT.out; omega
      · have i1 : ¬ ((s.size : Nat) : Int) = 32 := by omega
        have HE : Hid (all32 l = false) := Lib.hid (all32_no hlt (by rw [HS.out]; exact h32))
        go_wp2
        go_ret
        exact ⟨by rw [HE.out]; rfl, HB.out⟩
    · obtain rfl : m = len l := by omega
      have b0 : ¬ ((len l : Nat) : Int) < (len l : Nat) := by omega
      go_wp2
      go_ret
      exact ⟨by rw [all32_yes HA.out]; rfl, HB.out⟩
end Go.Proofs.YtoafjbillcooiaaGreat
namespace Go.Proofs.YtoafjbillcooiaaGreat
open Go.RowKit
set_option linter.unusedSimpArgs false
set_option linter.unusedVariables false
theorem partsL_bd (K : Nat) : ∀ l : List ByteArray, (∀ s ∈ l, s.size ≤ K) → (partsL l).length ≤ (8 + K) * l.length
  | [], _ => by simp [partsL]
  | s :: l, h => by
    have h1 := partsL_bd K l (fun x hx => h x (List.mem_cons_of_mem _ hx))
    have h2 := h s (List.mem_cons_self ..)
    have e : partsL (s :: l) = partL s ++ partsL l := by simp [partsL]
    rw [e, List.length_append, partL_len, List.length_cons, Nat.mul_succ]
    omega
theorem chL_parts (F : Nat → ByteArray) (hF : ∀ i, (F i).size = 32) : (partsL (chL F 67)).length ≤ 140737488355300 := by
  refine Nat.le_trans (partsL_bd 32 _ (fun s hs => ?_)) ?_
  · unfold chL at hs
    obtain ⟨i, -, rfl⟩ := List.mem_map.1 hs
    exact Nat.le_of_eq (hF i)
  · rw [← len_eq, chL_len]; decide
structure ChSt9 (F : Nat → ByteArray) (w wr : World) (v : Value) (m : Nat) : Prop where
  b : Below w.heap.size w wr
  o : wr.ownsRow w.heap.size 9 1 v m ((chL F m).map Value.string)
set_option maxRecDepth 100000 in
set_option maxHeartbeats 4000000 in
theorem rpublic_any (seed : ByteArray) (k : Nat) (w : World) (hk : k < 18446744073709551616) (hs : seed.size ≤ 1000) : Calls Tryz.prog 64 #[.string seed, .int .u64 (k : Nat)] w fun e w' => e = .returned (.string (publicP seed k)) ∧ Below w.heap.size w w' := by
  have HS := Lib.hid hs
  have HK := Lib.hid hk
  obtain ⟨F, hF⟩ : ∃ F : Nat → ByteArray, (fun i => walkC i 0 15 (secretP seed k i)) = F := ⟨_, rfl⟩
  have HF : Hid (∀ i, walkC i 0 15 (secretP seed k i) = F i) := Lib.hid (fun i => by rw [← hF])
  have HFS : Hid (∀ i, (F i).size = 32) := Lib.hid (fun i => by rw [← hF]; exact walkC_size _ _ _ _ (secretP_size _ _ _))
  have HP : Hid (hashP publicT (chL F 67) = publicP seed k) := Lib.hid (by rw [← hF]; rfl)
  obtain ⟨i0, hi, hz0, hz1, hz2⟩ := info_parts info_str
  have HZ := Lib.hid hz0
  clear hs hk hF hz0
  go_enter Tryz.func64, Tryz.ntmps64
  go_wp2
  go_loopg [6, 5] 67 (fun gg i v wr => ∃ m : Nat, gg + m = 67 ∧ i = .int .i64 (m : Nat) ∧ Hid (ChSt9 F w wr v m))
  case atStart => exact ⟨0, rfl, rfl, Lib.hid ⟨Below.refl _ _, World.ownsRow_nil _ _ _ _⟩⟩
  case round =>
    obtain ⟨m, hm, rfl, HC⟩ := hrel
    by_cases hlt : m < 67
    · have b0 : (m : Int) < 67 := by omega
      have HLT := Lib.hid hlt
      have HM := Lib.hid hm
      clear hlt hm
      go_wp2_with fail
      refine (rsecret_any seed k m wr HK.out (by have := HLT.out; omega) HS.out).mono ?_
      rintro e w1 ⟨rfl, hb⟩
      have HB1 : Hid (Below w.heap.size w w1) := Lib.hid (bnext HC.out.b hb)
      have HO1 := Lib.hid (own_below HC.out.o hb)
      clear hb
      go_wp2_with fail
      have h9 := rwalk_any m 0 15 (secretP seed k m) w1 (by have := HLT.out; omega) (by decide) (by rw [secretP_size]; decide)
      rw [show ((0 : Nat) : Int) = 0 from rfl, show ((0 + 15 : Nat) : Int) = 15 from rfl, HF.out] at h9
      refine h9.mono ?_
      rintro e w2 ⟨rfl, hb⟩
      have HB2 : Hid (Below w.heap.size w w2) := Lib.hid (bnext HB1.out hb)
      have HO2 := Lib.hid (own_below HO1.out hb)
      clear hb h9
      go_wp2_with (at_builtin; refine wpList_append_own _ rfl _ _ 22 rfl w.heap.size 9 i0 (.string ⟨#[]⟩) 1 16 Tryz.underlying22 hi HZ.out hz1 hz2 rfl (by decide) _ _ _ rfl (HO2.out.alloc _) ⟨w2.heap.size, 0, none⟩ 1 1 [.string (F m)] rfl rfl ?c1 ?c2 ?c3 ?c4 ?c5 ?_)
      case c1 => exact World.news_of_block (alloc_new_at _ rfl)
      case c2 => intro u hu; simp at hu; subst hu; rfl
      case c3 => unfold maxLen; have := HLT.out; omega
      case c4 => have := HLT.out; omega
      case c5 => have := HB2.out.size; simp; omega
      intro v' w3 hown' hgrow _
      have HB3 : Hid (Below w.heap.size w w3) := Lib.hid (grownBy_below (balloc HB2.out _) hgrow (fun k hk => (HO2.out.lt k hk).1))
      have HO3 : Hid (w3.ownsRow w.heap.size 9 1 v' (m + 1) ((chL F (m + 1)).map Value.string)) := Lib.hid (by
        rw [chL_snoc, List.map_append]; exact hown')
      clear hown' hgrow
      go_wp2
      go_roundg (gk - 1)
      case rel => exact ⟨m + 1, by have := HM.out; have := HLT.out; omega, by have := HLT.out; go_num, Lib.hid ⟨HB3.out, HO3.out⟩⟩
      case measure => have := HM.out; have := HLT.out; omega
    · obtain rfl : m = 67 := by omega
      have b0 : ¬ ((67 : Nat) : Int) < 67 := by decide
      obtain ⟨aa, ca, rfl, hta, hca, -⟩ := TextsAre.own HC.out.o
      have HTA := Lib.hid hta
      have HB := Lib.hid HC.out.b
      rw [chL_len]
      clear hta hca HC
      go_wp2_with fail
      have h9 := rhash_any publicT (chL F 67) aa ca wr (by decide) (by decide) HTA.out (chL_parts F HFS.out)
      rw [chL_len, HP.out] at h9
      refine h9.mono ?_
      rintro e w2 ⟨rfl, hb⟩
      have HB2 : Hid (Below w.heap.size w w2) := Lib.hid (bnext HB.out hb)
      clear hb h9
      go_wp2
      go_ret
      exact ⟨rfl, HB2.out⟩
end Go.Proofs.YtoafjbillcooiaaGreat
namespace Go.Proofs.YtoafjbillcooiaaGreat
open Go.RowKit
set_option linter.unusedSimpArgs false
set_option linter.unusedVariables false
theorem idx_byte (s : ByteArray) (i : Nat) (h : i < s.size) (w : World) : (Instr.index 9 (.string s) (.int .i64 (i : Int))).run Tryz.prog w = .ok (.int .u8 (((s.data.toList.getD i 0).toNat : Nat) : Int)) w := by
  rw [idx_str s i _ rfl h, wI_bW]; rfl
def digL (d : ByteArray) (m : Nat) : List Value := (List.range m).map fun i => Value.int .i64 ((digN d i : Nat) : Int)
theorem digL_snoc (d : ByteArray) (m : Nat) : digL d (m + 1) = digL d m ++ [Value.int .i64 ((digN d m : Nat) : Int)] := by unfold digL; rw [List.range_succ, List.map_append]; rfl
theorem nib_hi (d : ByteArray) (m : Nat) : nib d (2 * m) = (d.data.toList.getD m 0).toNat / 16 := by
  unfold nib
  rw [if_pos (by omega), show 2 * m / 2 = m by omega]
theorem nib_lo (d : ByteArray) (m : Nat) : nib d (2 * m + 1) = (d.data.toList.getD m 0).toNat % 16 := by
  unfold nib
  rw [if_neg (by omega), show (2 * m + 1) / 2 = m by omega]
theorem digN_nib (d : ByteArray) {i : Nat} (h : i < 64) : digN d i = nib d i := by unfold digN; rw [if_pos h]
theorem digL_two (d : ByteArray) {m : Nat} (h : m < 32) {x : Nat} (hx : (d.data.toList.getD m 0).toNat = x) : digL d (2 * m + 2) = digL d (2 * m) ++ [Value.int .i64 ((x / 16 : Nat) : Int), Value.int .i64 ((x % 16 : Nat) : Int)] := by
  rw [digL_snoc, digL_snoc, digN_nib d (by omega), digN_nib d (by omega), nib_hi, nib_lo, hx]
  simp
theorem lack_two (d : ByteArray) (m : Nat) {x : Nat} (hx : (d.data.toList.getD m 0).toNat = x) : lackN d (2 * m + 2) = lackN d (2 * m) + (15 - x / 16) + (15 - x % 16) := by
  show lackN d (2 * m) + (15 - nib d (2 * m)) + (15 - nib d (2 * m + 1)) = _
  rw [nib_hi, nib_lo, hx]
theorem digL_end (d : ByteArray) : digL d 67 = digL d 64 ++ [Value.int .i64 ((lackN d 64 / 256 : Nat) : Int), Value.int .i64 ((lackN d 64 / 16 % 16 : Nat) : Int), Value.int .i64 ((lackN d 64 % 16 : Nat) : Int)] := by
  rw [digL_snoc, digL_snoc, digL_snoc, List.append_assoc, List.append_assoc]
  rfl
theorem info_intD : (Tryz.prog.info? 3).map (fun i => (i.zero, i.size, i.bytes)) = some (some (.int .i64 0), 1, 8) := by kernel_rfl
def DigIs (d : ByteArray) (w : World) (e : Ending) (w' : World) : Prop := ∃ v, e = .returned v ∧ w'.ownsRow w.heap.size 3 1 v 67 (digL d 67) ∧ Below w.heap.size w w'
set_option maxRecDepth 100000 in
set_option maxHeartbeats 4000000 in
theorem rdigits_any (d : ByteArray) (w : World) (hd : d.size = 32) : Calls Tryz.prog 117 #[.string d] w (DigIs d w) := by
  have HD := Lib.hid hd
  obtain ⟨i0, hi, hz0, hz1, hz2⟩ := info_parts info_intD
  have HZ := Lib.hid hz0
  have hdz := hd
  clear hd hz0
  go_enter Tryz.func117, Tryz.ntmps117
  go_upto_region 3 with fail
  clear hdz
  go_wp2
  go_loopg [5, 3, 4] 32 (fun gg i v s wr => ∃ m : Nat, gg + m = 32 ∧ i = .int .i64 (m : Nat) ∧ s = .int .i64 ((lackN d (2 * m) : Nat) : Int) ∧ Hid (wr.ownsRow w.heap.size 3 1 v (2 * m) (digL d (2 * m))) ∧ Hid (Below w.heap.size w wr))
  case atStart => exact ⟨0, rfl, rfl, rfl, Lib.hid (World.ownsRow_nil _ _ _ _), Lib.hid (Below.refl _ _)⟩
  case round =>
    obtain ⟨m, hm, rfl, rfl, HO, HB⟩ := hrel
    by_cases hlt : m < 32
    · have b0 : (m : Int) < 32 := by omega
      have ix := fun wv : World => idx_byte d m (by have := HD.out; omega) wv
      have HT := Lib.hid (digL_two d (m := m) hlt (x := (d.data.toList.getD m 0).toNat) rfl)
      have HL := Lib.hid (lack_two d m (x := (d.data.toList.getD m 0).toNat) rfl)
      obtain ⟨x, hx⟩ : ∃ x, (d.data.toList.getD m 0).toNat = x := ⟨_, rfl⟩
      have HX : Hid (x < 256) := Lib.hid (by rw [← hx]; exact UInt8.toNat_lt _)
      rw [hx] at ix HT HL
      obtain ⟨L, hL⟩ : ∃ L, lackN d (2 * m) = L := ⟨_, rfl⟩
      have HLL : Hid (L ≤ 960) := Lib.hid (by rw [← hL]; have := lackN_le d (2 * m); omega)
      rw [hL] at HL ⊢
      obtain ⟨hh, hhh⟩ : ∃ q, x / 16 = q := ⟨_, rfl⟩
      obtain ⟨lo, hlo⟩ : ∃ q, x % 16 = q := ⟨_, rfl⟩
      have k1 : Int.tdiv ((x : Nat) : Int) 16 = (hh : Int) := by rw [← hhh]; exact (Int.ofNat_tdiv x 16).symm
      have k2 : Int.tmod ((x : Nat) : Int) 16 = (lo : Int) := by rw [← hlo]; exact (Int.ofNat_tmod x 16).symm
      have k3 : ((x : Nat) : Int) / 16 = (hh : Int) := by omega
      have k4 : ((x : Nat) : Int) % 16 = (lo : Int) := by omega
      have k5 : IntKind.i64.wrap ((x : Nat) : Int) = (x : Int) := by have := HX.out; exact IntWalk.i64_in _ (by omega)
      have k6 : IntKind.i64.wrap ((hh : Nat) : Int) = (hh : Int) := by have := HX.out; exact IntWalk.i64_in _ (by omega)
      have HHL : Hid (hh ≤ 15 ∧ lo ≤ 15) := Lib.hid (by have := HX.out; omega)
      rw [hhh, hlo] at HT HL
      have HLT := Lib.hid hlt
      have HM := Lib.hid hm
      clear hx hL hhh hlo hlt hm
      go_upto_region 8 with fail
      go_quiet (fail)
      clear ix k1 k2 k3 k4 k5 k6
      obtain ⟨W, hW⟩ : ∃ W, wr.drewN nq = W := ⟨_, rfl⟩
      have HB2 : Hid (Below w.heap.size w W) := Lib.hid (by rw [← hW]; exact bdrewN HB.out _)
      have HO2 : Hid (W.ownsRow w.heap.size 3 1 u3 (2 * m) (digL d (2 * m))) := Lib.hid (own_below HO.out (by rw [← hW]; exact bdrewN (Below.refl _ _) _))
      rw [hW]
      clear hW
      go_wp2_with (at_builtin; refine wpList_append_own _ rfl _ _ 162 rfl w.heap.size 3 i0 (.int .i64 0) 1 8 Tryz.underlying162 hi HZ.out hz1 hz2 rfl (by decide) _ _ _ rfl (HO2.out.alloc _) ⟨W.heap.size, 0, none⟩ 2 2 [.int .i64 (hh : Nat), .int .i64 (lo : Nat)] rfl rfl ?c1 ?c2 ?c3 ?c4 ?c5 ?_)
      case c1 => exact World.news_of_block (alloc_new_at _ rfl)
      case c2 => intro u hu; simp at hu; rcases hu with rfl | rfl <;> rfl
      case c3 => unfold maxLen; have := HLT.out; omega
      case c4 => have := HLT.out; omega
      case c5 => have := HB2.out.size; simp; omega
      intro v' w3 hown' hgrow _
      have HB3 : Hid (Below w.heap.size w w3) := Lib.hid (grownBy_below (balloc HB2.out _) hgrow (fun k hk => (HO2.out.lt k hk).1))
      have HO3 : Hid (w3.ownsRow w.heap.size 3 1 v' (2 * (m + 1)) (digL d (2 * (m + 1)))) := Lib.hid (by
        rw [show 2 * (m + 1) = 2 * m + 2 from rfl, HT.out]; exact hown')
      have hl1 := HLL.out
      have hl2 := HHL.out.1
      have hl3 := HHL.out.2
      have hlt := HLT.out
      have z1 : IntKind.i64.wrap ((L : Int) + 15) = (L : Int) + 15 := IntWalk.i64_in _ (by omega)
      have z2 : IntKind.i64.wrap ((L : Int) + 15 - (hh : Int)) = (L : Int) + 15 - (hh : Int) := IntWalk.i64_in _ (by omega)
      have z3 : IntKind.i64.wrap ((L : Int) + 15 - (hh : Int) + 15) = (L : Int) + 15 - (hh : Int) + 15 := IntWalk.i64_in _ (by omega)
      have z4 : IntKind.i64.wrap ((L : Int) + 15 - (hh : Int) + 15 - (lo : Int)) = (L : Int) + 15 - (hh : Int) + 15 - (lo : Int) := IntWalk.i64_in _ (by omega)
      clear hown' hgrow
      go_wp2
      go_roundg (gk - 1)
      case rel => exact ⟨m + 1, by have := HM.out; omega, by go_num, by rw [show 2 * (m + 1) = 2 * m + 2 from rfl, HL.out]; go_num, HO3, HB3⟩
      case measure => have := HM.out; omega
    · obtain rfl : m = 32 := by omega
      have b0 : ¬ ((32 : Nat) : Int) < 32 := by decide
      have HT := Lib.hid (digL_end d)
      obtain ⟨S, hS⟩ : ∃ S, lackN d 64 = S := ⟨_, rfl⟩
      rw [show 2 * 32 = 64 from rfl, hS]
      rw [hS] at HT
      rw [show 2 * 32 = 64 from rfl] at HO
      obtain ⟨q1, hq1⟩ : ∃ q, S / 256 = q := ⟨_, rfl⟩
      obtain ⟨q2, hq2⟩ : ∃ q, S / 16 = q := ⟨_, rfl⟩
      obtain ⟨q3, hq3⟩ : ∃ q, q2 % 16 = q := ⟨_, rfl⟩
      obtain ⟨q4, hq4⟩ : ∃ q, S % 16 = q := ⟨_, rfl⟩
      rw [hq1, hq2, hq3, hq4] at HT
      have k1 : Int.tdiv ((S : Nat) : Int) 256 = (q1 : Int) := by rw [← hq1]; exact (Int.ofNat_tdiv S 256).symm
      have k2 : Int.tdiv ((S : Nat) : Int) 16 = (q2 : Int) := by rw [← hq2]; exact (Int.ofNat_tdiv S 16).symm
      have k3 : Int.tmod ((q2 : Nat) : Int) 16 = (q3 : Int) := by rw [← hq3]; exact (Int.ofNat_tmod q2 16).symm
      have k4 : Int.tmod ((S : Nat) : Int) 16 = (q4 : Int) := by rw [← hq4]; exact (Int.ofNat_tmod S 16).symm
      have k5 : ((S : Nat) : Int) / 256 = (q1 : Int) := by omega
      have k6 : ((S : Nat) : Int) / 16 = (q2 : Int) := by omega
      have k7 : ((q2 : Nat) : Int) % 16 = (q3 : Int) := by omega
      have k8 : ((S : Nat) : Int) % 16 = (q4 : Int) := by omega
      have hSS : S ≤ 960 := by rw [← hS]; exact lackN_le d 64
      have w1 : IntKind.i64.wrap ((q1 : Nat) : Int) = (q1 : Int) := IntWalk.i64_in _ (by omega)
      have w2 : IntKind.i64.wrap ((q2 : Nat) : Int) = (q2 : Int) := IntWalk.i64_in _ (by omega)
      have w3 : IntKind.i64.wrap ((q3 : Nat) : Int) = (q3 : Int) := IntWalk.i64_in _ (by omega)
      have w4 : IntKind.i64.wrap ((q4 : Nat) : Int) = (q4 : Int) := IntWalk.i64_in _ (by omega)
      clear hS hq1 hq2 hq3 hq4 hSS
      go_wp2_with (at_builtin; refine wpList_append_own _ rfl _ _ 162 rfl w.heap.size 3 i0 (.int .i64 0) 1 8 Tryz.underlying162 hi HZ.out hz1 hz2 rfl (by decide) _ _ _ rfl (HO.out.alloc _) ⟨wr.heap.size, 0, none⟩ 3 3 [.int .i64 (q1 : Nat), .int .i64 (q3 : Nat), .int .i64 (q4 : Nat)] rfl rfl ?c1 ?c2 ?c3 ?c4 ?c5 ?_)
      case c2 => exact ⟨rfl, rfl, rfl⟩
      case c3 => unfold maxLen; omega
      case c5 => have := HB.out.size; simp; omega
      intro v' w9 hown' hgrow _
      have HB3 : Hid (Below w.heap.size w w9) := Lib.hid (grownBy_below (balloc HB.out _) hgrow (fun k hk => (HO.out.lt k hk).1))
      have HO3 : Hid (w9.ownsRow w.heap.size 3 1 v' 67 (digL d 67)) := Lib.hid (by rw [HT.out]; exact hown')
      clear hown' hgrow
      go_wp2
      go_ret
      exact ⟨_, rfl, HO3.out, HB3.out⟩
end Go.Proofs.YtoafjbillcooiaaGreat
namespace Go.Proofs.YtoafjbillcooiaaGreat
open Go.RowKit
set_option linter.unusedSimpArgs false
set_option linter.unusedVariables false
def dgP (d : ByteArray) (P : Nat → Bool) : Array Value := ((List.range 67).map fun i => Value.int .i64 (if P i = true then ((digN d i : Nat) : Int) else 0)).toArray
theorem dgP_size (d : ByteArray) (P : Nat → Bool) : (dgP d P).size = 67 := by unfold dgP; simp
theorem dgP_at (d : ByteArray) (P : Nat → Bool) (i : Nat) (h : i < 67) : (dgP d P)[i]? = some (Value.int .i64 (if P i = true then ((digN d i : Nat) : Int) else 0)) := by
  unfold dgP; simp [h]
theorem dgP_set (d : ByteArray) (P Q : Nat → Bool) (m : Nat) (h : m < 67) (hq : ∀ i, Q i = (P i || decide (i = m))) : (dgP d P).setIfInBounds m (.int .i64 ((digN d m : Nat) : Int)) = dgP d Q := by
  apply Array.ext
  · rw [Array.size_setIfInBounds, dgP_size, dgP_size]
  · intro i h1 h2
    have hi : i < 67 := by rw [dgP_size] at h2; exact h2
    have e1 := dgP_at d P i hi
    have e2 := dgP_at d Q i hi
    rw [Array.getElem?_eq_getElem (by rw [dgP_size]; exact hi)] at e1 e2
    rw [Array.getElem_setIfInBounds (by rw [dgP_size]; exact hi)]
    rw [Option.some.inj e2, hq i]
    split
    · next he => subst he; simp
    · next he => rw [Option.some.inj e1, decide_eq_false (fun h => he h.symm), Bool.or_false]
set_option maxRecDepth 100000 in
theorem and15_u8 (x : Nat) (h : x < 256) : bits BinOp.and IntKind.u8 (x : Int) 15 = ((x % 16 : Nat) : Int) := by
  have key : ∀ x : Fin 256, bits BinOp.and IntKind.u8 ((x.val : Nat) : Int) 15 = ((x.val % 16 : Nat) : Int) := by decide
  exact key ⟨x, h⟩
theorem and15_i64 (x : Nat) (h : x < 1000000) : bits BinOp.and IntKind.i64 (x : Int) 15 = ((x % 16 : Nat) : Int) := by
  unfold bits
  show IntKind.i64.wrap (((BitVec.ofInt 64 (x : Int) &&& BitVec.ofInt 64 15).toNat : Nat) : Int) = _
  rw [BitVec.toNat_and, BitVec.toNat_ofInt, BitVec.toNat_ofInt]
  have e1 : ((x : Int) % ((2 ^ 64 : Nat) : Int)).toNat = x := by omega
  have e2 : ((15 : Int) % ((2 ^ 64 : Nat) : Int)).toNat = 15 := by decide
  rw [e1, e2, show (15 : Nat) = 2 ^ 4 - 1 from rfl, Nat.and_two_pow_sub_one_eq_mod]
  exact IntWalk.i64_in _ ⟨by omega, by omega⟩
end Go.Proofs.YtoafjbillcooiaaGreat
namespace Go.Proofs.YtoafjbillcooiaaGreat
open Go.RowKit
set_option linter.unusedSimpArgs false
set_option linter.unusedVariables false
def DgIs (d : ByteArray) (w : World) (e : Ending) (w' : World) : Prop := ∃ b, e = .returned (.slice (some ⟨b, 0, none⟩) 67 67) ∧ w.heap.size ≤ b ∧ w'.heap[b]? = some (.cells (dgP d fun _ => true) 231 (0, 0)) ∧ Below w.heap.size w w'
theorem dgP_zero (d : ByteArray) : dgP d (fun i => decide (i < 0)) = (List.replicate 67 (Value.int .i64 0)).toArray := by
  rfl
theorem dgP_up (d : ByteArray) (m : Nat) (h : m < 64) {x : Nat} (hx : x = digN d m) : (dgP d fun i => decide (i < m)).setIfInBounds m (.int .i64 (x : Int)) = dgP d fun i => decide (i < m + 1) := by
  subst hx
  exact dgP_set d _ _ m (by omega) (fun i => by
    by_cases h1 : i < m
    · simp [h1, Nat.lt_succ_of_lt h1]
    · by_cases h2 : i = m
      · subst h2; simp
      · have h3 : ¬ i < m + 1 := by omega
        simp [h1, h2, h3])
theorem dgP_down (d : ByteArray) (j : Nat) (h : j < 67) (h6 : 64 ≤ j) {x : Nat} (hx : x = digN d j) : (dgP d fun i => decide (i < 64) || decide (j + 1 ≤ i)).setIfInBounds j (.int .i64 (x : Int)) = dgP d fun i => decide (i < 64) || decide (j ≤ i) := by
  subst hx
  exact dgP_set d _ _ j h (fun i => by
    by_cases h2 : i = j
    · subst h2; simp
    · by_cases h1 : i < 64
      · simp [h1]
      · by_cases h3 : j ≤ i
        · have h4 : j + 1 ≤ i := by omega
          simp [h1, h2, h3, h4]
        · have h4 : ¬ j + 1 ≤ i := by omega
          simp [h1, h2, h3, h4])
theorem dgP_mid (d : ByteArray) : (dgP d fun i => decide (i < 64)) = dgP d fun i => decide (i < 64) || decide (67 ≤ i) := by
  unfold dgP
  congr 1
theorem dgP_end (d : ByteArray) : (dgP d fun i => decide (i < 64) || decide (64 ≤ i)) = dgP d fun _ => true := by
  unfold dgP
  congr 1
theorem dgP_hole (d : ByteArray) (j : Nat) (h : j < 67) (h6 : 64 ≤ j) : (dgP d fun i => decide (i < 64) || decide (j + 1 ≤ i))[j]? = some (Value.int .i64 0) := by
  rw [dgP_at d _ j h]
  have h8 : ¬ j < 64 := by omega
  have h9 : ¬ j + 1 ≤ j := by omega
  simp [h8, h9]
def leftD (d : ByteArray) (j : Nat) : Nat := lackN d 64 / 16 ^ (67 - j)
theorem leftD_dig (d : ByteArray) (j : Nat) (h : j < 67) (h6 : 64 ≤ j) : leftD d (j + 1) % 16 = digN d j := by
  unfold leftD digN
  have hl := lackN_le d 64
  rw [if_neg (by omega)]
  rcases (by omega : j = 64 ∨ j = 65 ∨ j = 66) with rfl | rfl | rfl
  · rw [if_pos rfl, show (16 : Nat) ^ (67 - (64 + 1)) = 256 from rfl]
    exact Nat.mod_eq_of_lt (by omega)
  · rw [if_neg (by decide), if_pos rfl]
  · rw [if_neg (by decide), if_neg (by decide), show (16 : Nat) ^ (67 - (66 + 1)) = 1 from rfl, Nat.div_one]
theorem leftD_next (d : ByteArray) (j : Nat) (h : j < 67) : leftD d (j + 1) / 16 = leftD d j := by
  unfold leftD
  rw [show 67 - j = (67 - (j + 1)) + 1 by omega, Nat.pow_succ, Nat.div_div_eq_div_mul]
theorem leftD_le (d : ByteArray) (j : Nat) : leftD d j ≤ 960 := by
  unfold leftD
  have := lackN_le d 64
  have h2 := Nat.div_le_self (lackN d 64) (16 ^ (67 - j))
  omega
def nibC (d : ByteArray) (m : Nat) : Nat := if m % 2 = 0 then (d.data.toList.getD (m / 2) 0).toNat / 16 else (d.data.toList.getD (m / 2) 0).toNat
theorem nibC_nib (d : ByteArray) (m : Nat) : nibC d m % 16 = nib d m := by
  unfold nibC nib
  have := UInt8.toNat_lt (d.data.toList.getD (m / 2) 0)
  split
  · exact Nat.mod_eq_of_lt (by omega)
  · rfl
theorem nibC_lt (d : ByteArray) (m : Nat) : nibC d m < 256 := by
  unfold nibC
  have := UInt8.toNat_lt (d.data.toList.getD (m / 2) 0)
  split <;> omega
set_option maxRecDepth 100000 in
set_option maxHeartbeats 4000000 in
theorem digits12_any (d : ByteArray) (w : World) (hd : d.size = 32) : Calls Tryz.prog 160 #[.string d] w (DgIs d w) := by
  have HD := Lib.hid hd
  have i1 : ((d.size : Nat) : Int) = 32 := by omega
  clear hd
  go_enter Tryz.func160, Tryz.ntmps160
  go_upto_region 4 with fail
  obtain ⟨lb, hlb⟩ : ∃ lb, w.heap.size = lb := ⟨_, rfl⟩
  change Code.wp _ _ _ _ (w.alloc (.cells (List.replicate 67 (Value.int .i64 0)).toArray 231))
  rw [← dgP_zero d]
  obtain ⟨U, hU⟩ : ∃ U, w.alloc (.cells (dgP d fun i => decide (i < 0)) 231) = U := ⟨_, rfl⟩
  have HUB : Hid (U.heap[lb]? = some (.cells (dgP d fun i => decide (i < 0)) 231 (0, 0))) := Lib.hid (by rw [← hU]; exact alloc_new_at _ hlb)
  have HUW : Hid (Below w.heap.size w U) := Lib.hid (by rw [← hU]; exact balloc (Below.refl _ _) _)
  have HLB : Hid (w.heap.size ≤ lb) := Lib.hid (Nat.le_of_eq hlb)
  rw [hU, hlb]
  clear hU hlb i1
  go_wp2
  go_loopg [11, 4, 5, 6] 64 (fun g i s _ _ wr => ∃ m : Nat, g + m = 64 ∧ i = .int .i64 (m : Nat) ∧ s = .int .i64 ((lackN d m : Nat) : Int) ∧ Hid (wr.heap[lb]? = some (.cells (dgP d fun i => decide (i < m)) 231 (0, 0))) ∧ Hid (Below w.heap.size w wr))
  case atStart => exact ⟨0, rfl, rfl, rfl, HUB, HUW⟩
  case round =>
    clear HUB HUW
    obtain ⟨m, hm, rfl, rfl, HUB, HUW⟩ := hrel
    by_cases hlt : m < 64
    · have b0 : (m : Int) < 64 := by omega
      obtain ⟨q, hq⟩ : ∃ q, m / 2 = q := ⟨_, rfl⟩
      obtain ⟨r, hr⟩ : ∃ r, m % 2 = r := ⟨_, rfl⟩
      have k1 : Int.tdiv ((m : Nat) : Int) 2 = (q : Int) := by rw [← hq]; exact (Int.ofNat_tdiv m 2).symm
      have k2 : Int.tmod ((m : Nat) : Int) 2 = (r : Int) := by rw [← hr]; exact (Int.ofNat_tmod m 2).symm
      have k3 : ((m : Nat) : Int) / 2 = (q : Int) := by omega
      have k4 : ((m : Nat) : Int) % 2 = (r : Int) := by omega
      have ix := fun wv : World => idx_byte d q (by have := HD.out; omega) wv
      have HC9 : Hid (nibC d m = if r = 0 then (d.data.toList.getD q 0).toNat / 16 else (d.data.toList.getD q 0).toNat) := Lib.hid (by unfold nibC; rw [hq, hr])
      obtain ⟨x, hx⟩ : ∃ x, (d.data.toList.getD q 0).toNat = x := ⟨_, rfl⟩
      have HX : Hid (x < 256) := Lib.hid (by rw [← hx]; exact UInt8.toNat_lt _)
      rw [hx] at ix HC9
      have HLT := Lib.hid hlt
      have HM := Lib.hid hm
      obtain ⟨c9, hc9⟩ : ∃ c9, nibC d m = c9 := ⟨_, rfl⟩
      have HNB : Hid (digN d m = c9 % 16) := Lib.hid (by rw [digN_nib d hlt, ← nibC_nib, hc9])
      have HC8 : Hid (c9 < 256) := Lib.hid (by rw [← hc9]; exact nibC_lt d m)
      rw [hc9] at HC9
      clear hx hq hr hm hlt hc9
      go_upto_if 20 with fail
      go_cut [6] (fun c wx => c = .int .u8 ((c9 : Nat) : Int) ∧ wx = wr)
      case first =>
        by_cases hr : r = 0
        · have e : c9 = x / 16 := by rw [HC9.out, if_pos hr]
          have i1 : ((r : Nat) : Int) = 0 := by omega
          have HE := Lib.hid e
          clear e HC9 HNB HC8 hr
          go_wp2
          go_meet
          exact ⟨by rw [HE.out]; simp, rfl⟩
        · have e : c9 = x := by rw [HC9.out, if_neg hr]
          have i1 : ¬ ((r : Nat) : Int) = 0 := by omega
          subst e
          clear HC9 HNB HC8 hr
          go_wp2
          go_meet
          exact ⟨rfl, rfl⟩
      case rest =>
        obtain ⟨rfl, hwc⟩ := hcut
        obtain rfl : wr = wc := hwc.symm
        clear k1 k2 k3 k4 ix
        obtain ⟨g9, hg9⟩ : ∃ g9, digN d m = g9 := ⟨_, rfl⟩
        have HG := Lib.hid hg9
        have hg15 : g9 ≤ 15 := by rw [← hg9]; exact digN_le d m
        have k1 : bits BinOp.and IntKind.u8 ((c9 : Nat) : Int) 15 = ((g9 : Nat) : Int) := by rw [and15_u8 c9 HC8.out, ← HNB.out, hg9]
        have k2 : IntKind.i64.wrap ((g9 : Nat) : Int) = (g9 : Int) := IntWalk.i64_in _ (by omega)
        have k3 : ¬ (67 : Int) ≤ (m : Int) := by have := HLT.out; omega
        obtain ⟨L, hL⟩ : ∃ L, lackN d m = L := ⟨_, rfl⟩
        have HL : Hid (lackN d (m + 1) = L + (15 - g9)) := Lib.hid (by show lackN d m + (15 - nib d m) = _; rw [hL, ← digN_nib d HLT.out, hg9])
        have hL9 : L ≤ 960 := by rw [← hL]; have := lackN_le d m; have := HLT.out; omega
        rw [hL]
        have z1 : IntKind.i64.wrap (15 - (g9 : Int)) = 15 - (g9 : Int) := IntWalk.i64_in _ (by omega)
        have z2 : IntKind.i64.wrap ((L : Int) + (15 - (g9 : Int))) = (L : Int) + (15 - (g9 : Int)) := IntWalk.i64_in _ (by omega)
        have ez : Hid ((L : Int) + (15 - (g9 : Int)) = ((L + (15 - g9) : Nat) : Int)) := Lib.hid (by omega)
        have c0 : wr.cell? ⟨lb, m, none⟩ = some (.int .i64 0) := by rw [block_cell HUB.out, dgP_at d _ m (by have := HLT.out; omega)]; simp
        have c1 : wr.frozen? ⟨lb, m, none⟩ = false := block_free HUB.out m
        have c2 : lb < wr.heap.size := lt_of_block HUB.out
        clear hg9 hL hg15 hL9
        go_upto_region 12 with fail
        clear c0 c1 c2
        have HU2 : Hid ((wr.setCell ⟨lb, m, none⟩ (.int .i64 (g9 : Nat))).heap[lb]? = some (.cells (dgP d fun i => decide (i < m + 1)) 231 (0, 0))) := Lib.hid (by
          have := block_setCell HUB.out (o := m) (.int .i64 ((g9 : Nat) : Int))
          rw [dgP_up d m HLT.out HG.out.symm] at this
          exact this)
        have HU4 : Hid (Below w.heap.size w (wr.setCell ⟨lb, m, none⟩ (.int .i64 (g9 : Nat)))) := Lib.hid (bset HUW.out HLB.out _)
        obtain ⟨V, hV⟩ : ∃ V, wr.setCell ⟨lb, m, none⟩ (.int .i64 (g9 : Nat)) = V := ⟨_, rfl⟩
        rw [hV] at HU2 HU4
        rw [hV]
        clear hV
        have c3 : V.cell? ⟨lb, m, none⟩ = some (.int .i64 (g9 : Nat)) := by rw [block_cell HU2.out, dgP_at d _ m (by have := HLT.out; omega), HG.out]; simp
        go_wp2
        go_roundg (gk - 1)
        case rel => exact ⟨m + 1, by have := HM.out; have := HLT.out; omega, by have := HLT.out; go_num, by rw [HL.out, ← ez.out], HU2, HU4⟩
        case measure => have := HM.out; have := HLT.out; omega
    · obtain rfl : m = 64 := by omega
      have b0 : ¬ ((64 : Nat) : Int) < 64 := by decide
      rw [dgP_mid] at HUB
      have e0 : leftD d 67 = lackN d 64 := by unfold leftD; simp
      rw [← e0]
      clear e0
      go_wp2
      go_loopg [7, 4] 3 (fun g j s wr => ∃ m : Nat, g + 64 = m ∧ m ≤ 67 ∧ j = .int .i64 ((m : Int) - 1) ∧ s = .int .i64 ((leftD d m : Nat) : Int) ∧ Hid (wr.heap[lb]? = some (.cells (dgP d fun i => decide (i < 64) || decide (m ≤ i)) 231 (0, 0))) ∧ Hid (Below w.heap.size w wr))
      case atStart => exact ⟨67, rfl, by decide, rfl, rfl, HUB, HUW⟩
      case round =>
        clear HUB HUW
        obtain ⟨m, hm, hm7, rfl, rfl, HUB, HUW⟩ := hrel
        by_cases hlt : 64 < m
        · obtain ⟨j, rfl⟩ : ∃ j, m = j + 1 := ⟨m - 1, by omega⟩
          have ej : ((j + 1 : Nat) : Int) - 1 = (j : Int) := by omega
          have b0 : (64 : Int) ≤ (j : Int) := by omega
          have b1 : ¬ (67 : Int) ≤ (j : Int) := by omega
          rw [ej]
          have HDG := Lib.hid (leftD_dig d j (by omega) (by omega))
          have HNX := Lib.hid (leftD_next d j (by omega))
          have hle := leftD_le d (j + 1)
          obtain ⟨g9, hg9⟩ : ∃ g9, digN d j = g9 := ⟨_, rfl⟩
          obtain ⟨S, hS⟩ : ∃ S, leftD d (j + 1) = S := ⟨_, rfl⟩
          obtain ⟨S2, hS2⟩ : ∃ S, leftD d j = S := ⟨_, rfl⟩
          have HG := Lib.hid hg9
          have HS2 := Lib.hid hS2
          rw [hS] at HDG HNX hle ⊢
          rw [hg9] at HDG
          rw [hS2] at HNX
          have k1 : bits BinOp.and IntKind.i64 ((S : Nat) : Int) 15 = ((g9 : Nat) : Int) := by rw [and15_i64 S (by omega), HDG.out]
          have k2 : ((S : Nat) : Int) / 16 = ((S2 : Nat) : Int) := by rw [← HNX.out]; omega
          have k3 : IntKind.i64.wrap ((S2 : Nat) : Int) = (S2 : Int) := IntWalk.i64_in _ (by have := HNX.out; omega)
          have k4 : IntKind.i64.wrap ((j : Int) - 1) = (j : Int) - 1 := IntWalk.i64_in _ (by omega)
          have c0 : wr.cell? ⟨lb, j, none⟩ = some (.int .i64 0) := by rw [block_cell HUB.out, dgP_hole d j (by omega) (by omega)]
          have c1 : wr.frozen? ⟨lb, j, none⟩ = false := block_free HUB.out j
          have c2 : lb < wr.heap.size := lt_of_block HUB.out
          have HU2 : Hid ((wr.setCell ⟨lb, j, none⟩ (.int .i64 (g9 : Nat))).heap[lb]? = some (.cells (dgP d fun i => decide (i < 64) || decide (j ≤ i)) 231 (0, 0))) := Lib.hid (by
            have := block_setCell HUB.out (o := j) (.int .i64 ((g9 : Nat) : Int))
            rw [dgP_down d j (by omega) (by omega) HG.out.symm] at this
            exact this)
          have HU4 : Hid (Below w.heap.size w (wr.setCell ⟨lb, j, none⟩ (.int .i64 (g9 : Nat)))) := Lib.hid (bset HUW.out HLB.out _)
          have HLT := Lib.hid hlt
          have HM := Lib.hid hm
          clear hg9 hS hS2 hlt hm hle ej
          go_wp2
          go_roundg (gk - 1)
          case rel => exact ⟨j, by have := HM.out; omega, by omega, rfl, by rw [HS2.out], HU2, HU4⟩
          case measure => have := HM.out; omega
        · obtain rfl : m = 64 := by omega
          have b0 : ¬ (64 : Int) ≤ ((64 : Nat) : Int) - 1 := by decide
          rw [dgP_end] at HUB
          go_wp2
          go_ret
          exact ⟨_, rfl, HLB.out, HUB.out, HUW.out⟩
end Go.Proofs.YtoafjbillcooiaaGreat
namespace Go.Proofs.YtoafjbillcooiaaGreat
set_option linter.unusedSimpArgs false
set_option linter.unusedVariables false
open Go.RowKit Go.ChangeMaps
def SeqB {α : Type} (F : Fence) (n : Nat) (P : Program) (g : Nat) (lb : Array Value) (encs : α → Array Value) (bx : Nat) (Kp : World → World → Prop) (S : List α → Prop) (N : Nat) (w : World) : Prop :=
  ∀ (l : Nat) (J : List α → World → Prop) (W : World), Below w.heap.size w W → AbidesFrom W.heap.size J → (∀ pre A v, J pre A → J pre (A.setCell ⟨bx, 0, none⟩ v)) →
    (∀ pre x W1, J pre W1 → pre.length < N → YieldAt F (n - 1) P l (encs x) W1 fun e W' => e = .returned (.bool true) ∧ J (pre ++ [x]) W' ∧ Kp W1 W') →
    J [] W →
    CallsIn F n P g (#[.func (.yield l) #[] #[]] ++ lb) W fun e W' => (∃ v, e = .returned v) ∧ ∃ xs, S xs ∧ J xs W'
def ownPostB {α : Type} (B : Nat) (Kp : World → World → Prop) (I : List α → World → Prop) (xs : List α) (W : World) : Exit → Act → World → Prop
  | .normal, _, W' => KeepsFrom B W W' ∧ Kp W W' ∧ I xs W'
  | _, _, _ => False
theorem wpIn_rangeFunc_B {α : Type} {F : Fence} {n : Nat} {P : Program} {g : Operand} {ps : Array Tmp} {assign body : Code} {Q : Exit → Act → World → Prop} {a : Act} {w : World}
    (hro : F.round = none) (h1 : 1 ≤ n) {gf : Nat} {lb : Array Value} (hg : a.eval g = .func (.func gf) #[] lb) (hFg : F.fn gf) (eg : ∀ args w, (callFunc gf args).run P w = .ok (.enter gf args) w)
    {encs : α → Array Value} {bx : Nat} {Kp : World → World → Prop} {S : List α → Prop} {N : Nat} (hseq : SeqB F (n - 1) P gf lb encs bx Kp S N w) (hbx : bx < w.heap.size)
    (hKt : ∀ {A B C : World}, Kp A B → Kp B C → Kp A C) (hKb : ∀ (W : World) (l : Nat) (o o' : Obj), w.heap.size ≤ l → W.heap[l]? = some o → o.isCells = false → Kp W (W.putObj l o'))
    (hps : ∀ x, (encs x).size = ps.size)
    (I : List α → World → Prop) (hI : OwnFrom w.heap.size I) (hIb : ∀ pre A v, I pre A → I pre (A.setCell ⟨bx, 0, none⟩ v)) (h0 : I [] w) (a₁ : α → Act)
    (hassign : ∀ (l : Nat) (x : α) (W : World) (K : Act → World → Prop), K (a₁ x) W →
      assign.wpIn (F.inRound l) (n - 1 - 1) P (Exit.then K (fun _ _ _ => False)) { tmps := (ps.zip (encs x)).foldl (fun t (p, v) => t.setIfInBounds p v) a.tmps, defers := [] } W)
    (hbody : ∀ (l : Nat) (pre : List α) (x : α) (W : World), I pre W → pre.length < N → body.wpIn (F.inRound l) (n - 1 - 1) P (ownPostB w.heap.size Kp I (pre ++ [x]) W) (a₁ x) W)
    (hdone : ∀ (D : Nat) (xs : List α) (W : World), w.heap.size ≤ D → S xs → I xs W → W.heap[D]? = some (.deferred (some [])) → Q .normal { a with defers := { target := .collected D, args := #[] } :: a.defers } W) :
    (Code.rangeFunc g ps assign body).wpIn F n P Q a w := by
  refine wpIn_rangeFunc ?_
  intro fn hfn
  rw [hro]
  obtain ⟨rec, hrec⟩ : ∃ rec : LoopState → Option Code → Loop, rec = fun st pe => { state := st, pending := pe, fn, tmps := a.tmps, params := ps, assign, body, defers := w.heap.size } := ⟨_, rfl⟩
  obtain ⟨W1, hW1⟩ : ∃ W1, (w.alloc (.deferred (some []))).alloc (.loop (rec .ready none)) = W1 := ⟨_, rfl⟩
  have hL1 : W1.heap[w.heap.size + 1]? = some (.loop (rec .ready none)) := by
    rw [← hW1]; have := World.alloc_heap_new (w.alloc (.deferred (some []))) (.loop (rec .ready none)); rwa [World.size_alloc] at this
  have hK1 : W1.heap[w.heap.size]? = some (.deferred (some [])) := by
    rw [← hW1]; exact (Below.heap_alloc _ _ _ (by simp)).trans (World.alloc_heap_new w _)
  have hI1 : I [] W1 := by rw [← hW1]; exact hI.alloc _ (hI.alloc _ h0)
  have hb1 : Below w.heap.size w W1 := by
    rw [← hW1]; exact ((Below.refl _ w).alloc (Nat.le_refl _) _).alloc (by simp) _
  refine ⟨w.heap.size + 1, [{ target := .collected w.heap.size, args := #[] }], W1, { target := .fn (.func gf) lb, args := #[.func (.yield (w.heap.size + 1)) #[] #[]] }, W1, gf,
    #[.func (.yield (w.heap.size + 1)) #[] #[]] ++ lb, W1, ?_, ?_, ?_, ?_, fun _ => h1, ?_⟩
  · rw [← hW1, hrec]; exact run_enterLoop_outer _ _ _ _ _
  · simp only [resolve, hg]
    simp [go_sem]
  · intro f' hf'; simp [Target.leads] at hf'; subst hf'; exact hFg
  · simp [invoke, go_sem, eg]
  · have hnw : ∀ {A B : World} {row : Option Nat}, (∀ r, row = some r → W1.heap.size ≤ r ∧ ∃ o : Obj, A.heap[r]? = some o ∧ o.isWalk = true) → (∀ r, row = some r → w.heap.size ≤ r ∧ ∃ o : Obj, A.heap[r]? = some o ∧ o.isCells = false) :=
      fun hr r e => by obtain ⟨hB, o, ho, hw⟩ := hr r e; exact ⟨by rw [← hW1] at hB; simp at hB; omega, o, ho, Obj.not_cells_of_walk hw⟩
    refine (hseq (w.heap.size + 1)
      (fun pre W => I pre W ∧ W.heap[w.heap.size + 1]? = some (.loop (rec .ready none)) ∧ W.heap[w.heap.size]? = some (.deferred (some [])))
      W1 hb1
      (fun s A B row hs hg' hr => ⟨hI s A B row hs.1 hg' (hnw (B := B) hr), (grownBy_keeps hg' (fun r e => (hr r e).2) hs.2.1 rfl).trans hs.2.1, (grownBy_keeps hg' (fun r e => (hr r e).2) hs.2.2 rfl).trans hs.2.2⟩)
      (fun pre A v ⟨h, hl, hd⟩ => ⟨hIb pre A v h, (Below.heap_setCell _ _ _ _ (fun e => by have : w.heap.size + 1 = bx := e; omega)).trans hl, (Below.heap_setCell _ _ _ _ (fun e => by have : w.heap.size = bx := e; omega)).trans hd⟩)
      ?_ ⟨hI1, hL1, hK1⟩).mono ?_
    · rintro pre x W ⟨hi, hl, hk⟩ hlen
      have hlt : w.heap.size + 1 < W.heap.size := (Array.getElem?_eq_some_iff.1 hl).1
      have hy := run_yield (P := P) (args := encs x) hl (by rw [hrec]; exact hps x)
      rw [hrec] at hy
      refine ⟨fn, _, assign, body, hy, roundIn_of_wpIn hfn (hassign _ x W _ ⟨_, run_beginRound hl (by rw [hrec]), ?_⟩)⟩
      have hl2 : (W.putObj (w.heap.size + 1) (.loop { rec .ready none with state := .busy })).heap[w.heap.size + 1]? = some (.loop { rec .ready none with state := .busy }) := World.putObj_heap_same hlt
      have hk2 : (W.putObj (w.heap.size + 1) (.loop { rec .ready none with state := .busy })).heap[w.heap.size]? = some (.deferred (some [])) := (World.putObj_heap_other (by omega)).trans hk
      have hw2 : Kp W (W.putObj (w.heap.size + 1) (.loop { rec .ready none with state := .busy })) := hKb _ _ _ _ (by omega) hl rfl
      refine wpIn_mono (hbody _ pre x _ (hI.putObj _ hi (by omega) hl rfl) hlen) ?_
      rintro e a3 W3 hp
      cases e with
      | normal =>
        obtain ⟨hk3, hkp3, hi3⟩ := hp
        have hl3 := hk3.same _ _ (by omega) hl2 rfl
        have hr : (Instr.endRound (w.heap.size + 1) none).run P W3 = .ok (.bool true) (W3.putObj (w.heap.size + 1) (.loop (rec .ready none))) := by
          have := run_endRound (P := P) none hl3
          rw [hrec] at this ⊢
          exact this
        have hl4 : (W3.putObj (w.heap.size + 1) (.loop (rec .ready none))).heap[w.heap.size + 1]? = some (.loop (rec .ready none)) := World.putObj_heap_same (Array.getElem?_eq_some_iff.1 hl3).1
        have hk4 : (W3.putObj (w.heap.size + 1) (.loop (rec .ready none))).heap[w.heap.size]? = some (.deferred (some [])) := (World.putObj_heap_other (by omega)).trans (hk3.same _ _ (Nat.le_refl _) hk2 rfl)
        exact ⟨_, _, hr, rfl, ⟨hI.putObj _ hi3 (by omega) hl3 rfl, hl4, hk4⟩, hKt (hKt hw2 hkp3) (hKb _ _ _ _ (by omega) hl3 rfl)⟩
      | _ => exact hp.elim
    · rintro e W2 ⟨⟨v, rfl⟩, xs, hS, hi, hl, hk⟩
      exact ⟨none, _, by have := run_endLoop (P := P) hl (by rw [hrec]; simp); rw [hrec] at this; exact this, hdone _ xs _ (Nat.le_refl _) hS (hI.putObj _ hi (by omega) hl rfl) ((World.putObj_heap_other (by omega)).trans hk)⟩
end Go.Proofs.YtoafjbillcooiaaGreat
namespace Go.Proofs.YtoafjbillcooiaaGreat
open Go.RowKit Go.ChangeMaps
set_option linter.unusedSimpArgs false
set_option linter.unusedVariables false
attribute [local go_sem] Oper.semAt_some
structure KpE (o : Nat) (A B : World) : Prop where
  size : A.heap.size ≤ B.heap.size
  same : ∀ b cs t fr, b ≠ o → A.heap[b]? = some (.cells cs t fr) → B.heap[b]? = some (.cells cs t fr)
theorem KpE.trans {o : Nat} {A B C : World} (h : KpE o A B) (k : KpE o B C) : KpE o A C := ⟨Nat.le_trans h.size k.size, fun b cs t fr hb hc => k.same b cs t fr hb (h.same b cs t fr hb hc)⟩
theorem KpE.putObj (o : Nat) (W : World) (l : Nat) (x x' : Obj) (hl : W.heap[l]? = some x) (hx : x.isCells = false) : KpE o W (W.putObj l x') :=
  ⟨by simp, fun b cs t fr _ hc => by
    have : b ≠ l := fun e => by subst e; rw [hl] at hc; cases hc; cases hx
    exact (World.putObj_heap_other this).trans hc⟩
theorem KpE.setCell (o : Nat) (W : World) (k : Nat) (v : Value) : KpE o W (W.setCell ⟨o, k, none⟩ v) :=
  ⟨by simp [World.setCell], fun b cs t fr hb hc => (Below.heap_setCell _ _ _ _ (fun e => hb e)).trans hc⟩
def stepsL (i f n : Nat) (x : ByteArray) : List ByteArray := (List.range n).map fun m => walkC i f m x
theorem stepsL_len (i f n : Nat) (x : ByteArray) : (stepsL i f n x).length = n := by unfold stepsL; simp
theorem stepsL_snoc (i f n : Nat) (x : ByteArray) : stepsL i f (n + 1) x = stepsL i f n x ++ [walkC i f n x] := by unfold stepsL; rw [List.range_succ, List.map_append]; rfl
structure StB (i f t : Nat) (x : ByteArray) (bF bX bT bI : Nat) (w : World) : Prop where
  f : w.heap[bF]? = some (.cells #[.int .i64 (f : Nat)] 3 (0, 0))
  x : w.heap[bX]? = some (.cells #[.string x] 9 (0, 0))
  t : w.heap[bT]? = some (.cells #[.int .i64 (t : Nat)] 3 (0, 0))
  i : w.heap[bI]? = some (.cells #[.int .i64 (i : Nat)] 3 (0, 0))
theorem StB.below {i f t : Nat} {x : ByteArray} {bF bX bT bI : Nat} {w w' : World} (h : StB i f t x bF bX bT bI w) (hb : Below w.heap.size w w') : StB i f t x bF bX bT bI w' :=
  ⟨(hb.block _ (lt_of_block h.f)).trans h.f, (hb.block _ (lt_of_block h.x)).trans h.x, (hb.block _ (lt_of_block h.t)).trans h.t, (hb.block _ (lt_of_block h.i)).trans h.i⟩
theorem StB.keep {i f t : Nat} {x : ByteArray} {o bF bX bT bI : Nat} {w w' : World} (h : StB i f t x bF bX bT bI w) (hb : KpE o w w') (h1 : bF ≠ o) (h2 : bX ≠ o) (h3 : bT ≠ o) (h4 : bI ≠ o) : StB i f t x bF bX bT bI w' :=
  ⟨hb.same _ _ _ _ h1 h.f, hb.same _ _ _ _ h2 h.x, hb.same _ _ _ _ h3 h.t, hb.same _ _ _ _ h4 h.i⟩
theorem StB.ne {i f t : Nat} {x : ByteArray} {bF bX bT bI : Nat} {w : World} (h : StB i f t x bF bX bT bI w) : bF ≠ bX ∧ bT ≠ bX ∧ bI ≠ bX :=
  ⟨fun e => (by have h9 := h.f; rw [e, h.x] at h9; cases h9), fun e => (by have h9 := h.t; rw [e, h.x] at h9; cases h9), fun e => (by have h9 := h.i; rw [e, h.x] at h9; cases h9)⟩
theorem StB.set {i f t : Nat} {x : ByteArray} {bF bX bT bI : Nat} {w : World} (h : StB i f t x bF bX bT bI w) (y : ByteArray) : StB i f t y bF bX bT bI (w.setCell ⟨bX, 0, none⟩ (.string y)) :=
  ⟨block_setCell_ne h.f (h.ne.1) _, block_setCell h.x (o := 0) (.string y), block_setCell_ne h.t (h.ne.2.1) _, block_setCell_ne h.i (h.ne.2.2) _⟩
set_option maxRecDepth 100000 in
set_option maxHeartbeats 4000000 in
theorem steps_seq (i f n : Nat) (x : ByteArray) (nn : Nat) (hn1 : 1 ≤ nn) (o bF bX bT bI : Nat) (w : World) (hi : i ≤ 66) (hn : f + n ≤ 15) (hx : x.size ≤ 1000) (h : StB i f (f + n) x bF bX bT bI w) (h1 : bF ≠ o) (h2 : bX ≠ o) (h3 : bT ≠ o) (h4 : bI ≠ o) :
    SeqB Fence.wide nn Tryz.prog 175 #[.pointer (some ⟨bF, 0, none⟩), .pointer (some ⟨bX, 0, none⟩), .pointer (some ⟨bT, 0, none⟩), .pointer (some ⟨bI, 0, none⟩)] (fun s : ByteArray => #[.string s]) bX (KpE o) (fun xs => xs = stepsL i f (n + 1) x) (n + 1) w := by
  intro l J W hW hJ hJb hY h0
  have HS0 := Lib.hid (h.below hW)
  have HJ := Lib.hid hJ
  have HJB := Lib.hid hJb
  have HY := Lib.hid hY
  have H0 := Lib.hid h0
  have HI := Lib.hid hi
  have HN := Lib.hid hn
  have HX := Lib.hid hx
  have HNE := Lib.hid (And.intro h1 (And.intro h2 (And.intro h3 h4)))
  obtain ⟨t, ht⟩ : ∃ t, f + n = t := ⟨_, rfl⟩
  rw [ht] at HS0
  have HT := Lib.hid ht
  clear h hW hJ hJb hY h0 hi hn hx h1 h2 h3 h4 ht
  refine callsIn_of_wp Tryz.func175 rfl trivial ?_ rfl
  simp only [Tryz.ntmps175, List.size_toArray, List.length_cons, List.length_nil, Nat.reduceAdd, Nat.reduceSub, Array.replicate_succ, Array.replicate_zero, List.push_toArray, List.append_toArray, List.nil_append, List.cons_append]
  have cF : W.cell? ⟨bF, 0, none⟩ = some (.int .i64 (f : Nat)) := block_cell HS0.out.f 0
  gi_wp2
  clear cF
  gi_loopw [6] (fun j wr => ∃ m : Nat, m ≤ n ∧ j = .int .i64 ((f + m : Nat) : Int) ∧ Hid (StB i f t (walkC i f m x) bF bX bT bI wr) ∧ Hid (J (stepsL i f m x) wr)) (fun j _ => n + f - (intOf j).toNat)
  case atStart => exact ⟨0, Nat.zero_le _, rfl, HS0, H0⟩
  case round =>
    clear HS0 H0
    obtain ⟨m, hm, rfl, HS0, H0⟩ := hrel
    obtain ⟨y, hy⟩ : ∃ y, walkC i f m x = y := ⟨_, rfl⟩
    have HYY := Lib.hid hy
    rw [hy] at HS0
    have HMM := Lib.hid hm
    have cX : wr.cell? ⟨bX, 0, none⟩ = some (.string y) := block_cell HS0.out.x 0
    obtain ⟨fn, tmps, assign, body, hyy, hR⟩ := HY.out (stepsL i f m x) y wr H0.out (by rw [stepsL_len]; omega)
    have HR := Lib.hid hR
    clear hR hy hm
    gi_wp2
    refine HR.out.mono ?_
    rintro e W3 ⟨rfl, hJ3, hk3⟩
    have S3 : Hid (StB i f t y bF bX bT bI W3) := Lib.hid (HS0.out.keep hk3 HNE.out.1 HNE.out.2.1 HNE.out.2.2.1 HNE.out.2.2.2)
    have J3 : Hid (J (stepsL i f (m + 1) x) W3) := Lib.hid (by rw [stepsL_snoc, HYY.out]; exact hJ3)
    have cT : W3.cell? ⟨bT, 0, none⟩ = some (.int .i64 (t : Nat)) := block_cell S3.out.t 0
    clear hJ3 hk3 hyy HR cX
    by_cases hlt : m < n
    · obtain ⟨c, hc⟩ : ∃ c, f + m = c := ⟨_, rfl⟩
      have HC := Lib.hid hc
      rw [hc]
      have hc15 : c < 15 := by have := HN.out; omega
      have b0 : (c : Int) < (t : Int) := by have := HT.out; omega
      have cX : W3.cell? ⟨bX, 0, none⟩ = some (.string y) := block_cell S3.out.x 0
      have cI : W3.cell? ⟨bI, 0, none⟩ = some (.int .i64 (i : Nat)) := block_cell S3.out.i 0
      have cX9 : ∀ A B : Obj, ((W3.alloc A).alloc B).cell? ⟨bX, 0, none⟩ = some (.string y) := fun A B => block_cell (block_alloc (block_alloc S3.out.x A) B) 0
      have k1 : IntKind.u8.wrap ((i : Nat) : Int) = (i : Int) := by have := HI.out; exact IntWalk.u8_in _ (by omega)
      have k2 : IntKind.u8.wrap ((c : Nat) : Int) = (c : Int) := IntWalk.u8_in _ (by omega)
      have v1 := conv_one i (by have := HI.out; omega) W3
      have v2 := conv_one c (by omega) (W3.alloc (.cells #[.int .u8 (i : Int)] 5))
      rw [show (W3.alloc (.cells #[.int .u8 (i : Int)] 5)).heap.size = W3.heap.size + 1 by simp] at v2
      have HYS : Hid (y.size ≤ 1000) := Lib.hid (by
        rw [← HYY.out]
        cases m with
        | zero => exact HX.out
        | succ m => exact Nat.le_trans (Nat.le_of_eq (hashP_size _ _)) (by decide))
      have HLT := Lib.hid hlt
      clear hc hlt
      gi_wp2_with fail
      refine ⟨trivial, (callsIn_wide.2 (hash_any chainT [oneB i, oneB c, y] _ 3 _ (by decide) (by decide) (txts3 (alloc_new_at _ (by simp))) (step_size i c HYS.out))).mono ?_⟩
      rintro e w2 ⟨rfl, hb⟩
      have HB2 : Hid (Below W3.heap.size W3 w2) := Lib.hid (bnext (balloc (balloc (balloc (Below.refl _ _) _) _) _) hb)
      have HW : Hid (hashP chainT [oneB i, oneB c, y] = walkC i f (m + 1) x) := Lib.hid (by rw [← HYY.out, ← HC.out]; rfl)
      rw [HW.out]
      have S4 := Lib.hid (S3.out.below HB2.out)
      have J4 : Hid (J (stepsL i f (m + 1) x) w2) := Lib.hid (HJ.out _ _ _ none J3.out (below_grown HB2.out) (fun r e => by cases e))
      have cX2 : w2.cell? ⟨bX, 0, none⟩ = some (.string y) := block_cell S4.out.x 0
      have cf : w2.frozen? ⟨bX, 0, none⟩ = false := block_free S4.out.x 0
      have cl : bX < w2.heap.size := lt_of_block S4.out.x
      obtain ⟨z, hz⟩ : ∃ z, walkC i f (m + 1) x = z := ⟨_, rfl⟩
      rw [hz]
      have HZ := Lib.hid hz
      clear hb k1 k2 v1 v2 cX cI cT hz cX9
      gi_wp2
      have S5 := Lib.hid (S4.out.set z)
      have J5 := Lib.hid (HJB.out _ _ (.string z) J4.out)
      have ec : IntKind.i64.wrap ((c : Int) + 1) = (c : Int) + 1 := IntWalk.i64_in _ (by omega)
      go_roundw
      case rel => exact ⟨m + 1, HLT.out, by rw [← HC.out]; go_num, by rw [HZ.out]; exact S5, J5⟩
      case measure => have := HLT.out; have := HC.out; simp [intOf]; omega
    · obtain rfl : m = n := by have := HMM.out; omega
      have b0 : ¬ ((f + m : Nat) : Int) < (t : Int) := by have := HT.out; omega
      gi_wp2
      go_end0
      exact ⟨⟨_, rfl⟩, _, rfl, J3.out⟩
theorem steps_any (i f t : Nat) (x : ByteArray) (w : World) : Calls Tryz.prog 159 #[.int .i64 (i : Nat), .int .i64 (f : Nat), .int .i64 (t : Nat), .string x] w fun e w' => e = .returned (.func (.func 175) #[] #[.pointer (some ⟨w.heap.size + 1, 0, none⟩), .pointer (some ⟨w.heap.size + 3, 0, none⟩), .pointer (some ⟨w.heap.size + 2, 0, none⟩), .pointer (some ⟨w.heap.size, 0, none⟩)]) ∧ StB i f t x (w.heap.size + 1) (w.heap.size + 3) (w.heap.size + 2) w.heap.size w' ∧ Below w.heap.size w w' := by
  go_enter Tryz.func159, Tryz.ntmps159
  go_wp2
  go_ret
  exact ⟨rfl, ⟨block_alloc (block_alloc (alloc_new_at _ (by simp)) _) _, alloc_new_at _ (by simp), block_alloc (alloc_new_at _ (by simp)) _, block_alloc (block_alloc (block_alloc (heap_alloc_new _ _) _) _) _⟩, by (repeat (first | exact Below.refl _ _ | assumption | (refine bdrew ?_) | (refine bdrewN ?_ _) | (refine balloc ?_ _) | (refine bset ?_ (by first | omega | (simp; done) | (simp; omega)) _) | (refine bnext ?_ (by assumption))))⟩
def lastT (l : List ByteArray) : ByteArray := l.getLast?.getD ⟨#[]⟩
theorem lastT_snoc (l : List ByteArray) (x : ByteArray) : lastT (l ++ [x]) = x := by unfold lastT; rw [List.getLast?_concat]; rfl
set_option maxRecDepth 100000 in
set_option maxHeartbeats 4000000 in
theorem walk12_any (i f n : Nat) (x : ByteArray) (w : World) (hi : i ≤ 66) (hn : f + n ≤ 15) (hx : x.size ≤ 1000) : Calls Tryz.prog 123 #[.int .i64 (i : Nat), .int .i64 (f : Nat), .int .i64 ((f + n : Nat) : Int), .string x] w fun e w' => e = .returned (.string (walkC i f n x)) ∧ Below w.heap.size w w' := by
  obtain ⟨t, ht⟩ : ∃ t, f + n = t := ⟨_, rfl⟩
  rw [ht]
  have HT := Lib.hid ht
  have i1 : ¬ (i : Int) < 0 := by omega
  have i2 : ¬ (67 : Int) ≤ (i : Int) := by omega
  have i3 : ¬ (f : Int) < 0 := by omega
  have i4 : ¬ (t : Int) < (f : Int) := by omega
  have i5 : ¬ (15 : Int) < (t : Int) := by omega
  have HI := Lib.hid hi
  have HN := Lib.hid hn
  have HX := Lib.hid hx
  clear hi hn hx ht
  refine (callsIn_wide (n := 9)).1 ?_
  refine callsIn_of_wp_marks Tryz.func123 rfl trivial ?_ rfl
  simp only [Tryz.ntmps123, List.size_toArray, List.length_cons, List.length_nil, Nat.reduceAdd, Nat.reduceSub, Array.replicate_succ, Array.replicate_zero, List.push_toArray, List.append_toArray, List.nil_append, List.cons_append]
  gi_wp2_with fail
  refine ⟨trivial, (callsIn_wide.2 (steps_any i f t x _)).mono ?_⟩
  rintro e w1 ⟨rfl, hst, hb⟩
  obtain ⟨o, ho⟩ : ∃ o, w.heap.size = o := ⟨_, rfl⟩
  have e1 : (w.alloc (.cells #[.string ⟨#[]⟩] 9)).heap.size = o + 1 := by simp; omega
  rw [e1] at hst ⊢
  rw [ho]
  have HS := Lib.hid hst
  have Z1 : Hid (w1.heap[o]? = some (.cells #[.string (lastT [])] 9 (0, 0))) := Lib.hid ((hb.block _ (lt_of_block (alloc_new_at _ ho))).trans (alloc_new_at _ ho))
  have ZB : Hid (Below w.heap.size w w1) := Lib.hid (bnext (balloc (Below.refl _ _) _) hb)
  have HO : Hid (w.heap.size ≤ o) := Lib.hid (Nat.le_of_eq ho)
  clear hst hb e1 i1 i2 i3 i4 i5 ho
  have HS1 := HS.out
  have hbX : o + 1 + 3 < w1.heap.size := lt_of_block HS1.x
  gi_wp2_with fail
  refine wpIn_rangeFunc_B rfl (by omega) (gf := 175) (lb := #[.pointer (some ⟨o + 1 + 1, 0, none⟩), .pointer (some ⟨o + 1 + 3, 0, none⟩), .pointer (some ⟨o + 1 + 2, 0, none⟩), .pointer (some ⟨o + 1, 0, none⟩)]) rfl trivial (enters_of Tryz.func175 (by kernel_rfl) rfl)
    (steps_seq i f n x 8 (by omega) o (o + 1 + 1) (o + 1 + 3) (o + 1 + 2) (o + 1) w1 HI.out HN.out HX.out (by rw [HT.out]; exact HS1) (by omega) (by omega) (by omega) (by omega)) hbX
    KpE.trans (fun W l9 x x' _ hl hx => KpE.putObj o W l9 x x' hl hx) (fun _ => rfl)
    (fun pre W => W.heap[o]? = some (.cells #[.string (lastT pre)] 9 (0, 0)) ∧ Below w.heap.size w W)
    (OwnFrom.and (own_one _ o 9 (fun pre : List ByteArray => .string (lastT pre))) (ownFrom_below (Nat.le_refl _) ZB.out.size))
    (fun pre A v ⟨h1, h2⟩ => ⟨block_setCell_ne h1 (show o ≠ o + 1 + 3 by omega) _, bset h2 (show w.heap.size ≤ o + 1 + 3 by have := HO.out; omega) _⟩)
    ⟨Z1.out, ZB.out⟩ (fun s => { tmps := #[.int .i64 (i : Nat), .int .i64 (f : Nat), .int .i64 (t : Nat), .string x, undef, undef, undef, undef, .pointer (some ⟨o, 0, none⟩), .string s, .int .i64 (i : Nat), .bool false, .bool false, .int .i64 (i : Nat), .bool false, .bool false, .bool false, .int .i64 (f : Nat), .bool false, .bool false, .bool false, .int .i64 (f : Nat), .int .i64 (t : Nat), .bool false, .bool false, .bool false, .int .i64 (t : Nat), .bool false, .bool false, .int .i64 (i : Nat), .int .i64 (f : Nat), .int .i64 (t : Nat), .string x, .func (.func 175) #[] #[.pointer (some ⟨o + 1 + 1, 0, none⟩), .pointer (some ⟨o + 1 + 3, 0, none⟩), .pointer (some ⟨o + 1 + 2, 0, none⟩), .pointer (some ⟨o + 1, 0, none⟩)], .string s, undef, undef], defers := [] }) ?assign ?body ?done
  case assign =>
    intro l9 s W K hK
    gi_wp2
    exact hK
  case body =>
    rintro l9 pre s W ⟨hO, hB⟩ hlt
    have cs : W.cell? ⟨o, 0, none⟩ = some (.string (lastT pre)) := block_cell hO 0
    have cf := block_free hO 0
    have cl := lt_of_block hO
    have HO2 := Lib.hid hO
    have HB := Lib.hid hB
    clear hO hB hlt
    gi_wp2
    refine ⟨(KeepsOthers.setCell _ _ _).from _, KpE.setCell _ _ _ _, ?_, bset HB.out HO.out _⟩
    have h9 := block_setCell HO2.out (o := 0) (.string s)
    rw [lastT_snoc]
    exact h9
  case done =>
    rintro D ys W hD rfl ⟨hO, hB⟩ hK
    rw [stepsL_snoc, lastT_snoc] at hO
    have cs : W.cell? ⟨o, 0, none⟩ = some (.string (walkC i f n x)) := block_cell hO 0
    have cf := block_free hO 0
    have cl := lt_of_block hO
    have HK := Lib.hid hK
    have HB := Lib.hid hB
    have HO2 := Lib.hid hO
    clear hK hB hO
    gi_wp2
    have hlo : D ≠ o := fun e => by have h9 := HO2.out; rw [← e, HK.out] at h9; cases h9
    have hk2 : (W.setCell ⟨o, 0, none⟩ (.string (walkC i f n x))).heap[D]? = some (.deferred (some [])) := (Below.heap_setCell _ _ _ _ hlo).trans HK.out
    refine ⟨by simp, .inl ⟨_, _, rfl, run_takeDeferred hk2, ?_⟩⟩
    have hc9 : ((W.setCell ⟨o, 0, none⟩ (.string (walkC i f n x))).putObj D (.deferred none)).cell? ⟨o, 0, none⟩ = some (.string (walkC i f n x)) := by
      have h9 := block_setCell HO2.out (o := 0) (.string (walkC i f n x))
      exact block_cell ((World.putObj_heap_other (fun e => hlo e.symm)).trans h9) 0
    refine ⟨.string (walkC i f n x), by simp [results, Tryz.results123, go_sem, hc9], rfl, ?_⟩
    exact (bset HB.out HO.out _).trans (belowK_b (w := w) (Nat.le_refl _) _ D _ _ (Nat.le_trans ZB.out.size hD) hk2 rfl rfl)
end Go.Proofs.YtoafjbillcooiaaGreat
namespace Go.Proofs.YtoafjbillcooiaaGreat
open Go.RowKit
set_option linter.unusedSimpArgs false
set_option linter.unusedVariables false
def sth (l : List ByteArray) (i : Nat) : ByteArray := l.getD i ByteArray.empty
def Txs (w : World) (a : Option Addr) (l : List ByteArray) : Prop :=
  ∀ i, i < len l → ∃ b off, a = some ⟨b, off, none⟩ ∧ w.cell? ⟨b, off + i, none⟩ = some (.string (sth l i))
theorem Txs.below {w w' : World} {a : Option Addr} {l : List ByteArray} (h : Txs w a l) (hb : Below w.heap.size w w') : Txs w' a l := fun i hi => by
  obtain ⟨b, off, rfl, hc⟩ := h i hi
  exact ⟨b, off, rfl, by rw [hb.cell (p := ⟨b, off + i, none⟩) (lt_of_cell hc)]; exact hc⟩
theorem Txs.drew {w w' : World} {a : Option Addr} {l : List ByteArray} (h : Txs w a l) (hb : Drew w w') : Txs w' a l := h.below (hb.below _)
end Go.Proofs.YtoafjbillcooiaaGreat
namespace Go.Proofs.YtoafjbillcooiaaGreat
open Go.RowKit
set_option linter.unusedSimpArgs false
set_option linter.unusedVariables false
theorem dig_row {w : World} {base : Nat} {v : Value} {d : ByteArray} (h : w.ownsRow base 3 1 v 67 (digL d 67)) : ∃ g c, v = .slice (some ⟨g, 0, none⟩) 67 c ∧ g < w.heap.size ∧ ∀ i, i < 67 → w.cell? ⟨g, i, none⟩ = some (.int .i64 ((digN d i : Nat) : Int)) := by
  rcases h.2 with ⟨hv, h0⟩ | ⟨g, cap, cur, hv, hg, hh, h1, h2, h3, h4⟩
  · cases h0
  · refine ⟨g, cap, hv, lt_of_block hh, fun i hi => ?_⟩
    rw [block_cell hh]
    have e : (cur.toList.take (67 * 1))[i]? = (digL d 67)[i]? := by rw [← h4]
    rw [List.getElem?_take, if_pos (by omega)] at e
    have e2 : (digL d 67)[i]? = some (Value.int .i64 ((digN d i : Nat) : Int)) := by unfold digL; simp [hi]
    rw [e2] at e
    simpa using e
def SgIs (L : List ByteArray) (x : Int) (w : World) (e : Ending) (w' : World) : Prop := ∃ v, e = .returned (.tuple #[v, .int .i64 x]) ∧ TextsAre L v w' ∧ Below w.heap.size w w'
def sgL (seed : ByteArray) (k : Nat) (d : ByteArray) : List ByteArray := if d.size = 32 then signP seed k d else []
def sgE (d : ByteArray) : Int := if d.size = 32 then 0 else 2
set_option maxRecDepth 100000 in
set_option maxHeartbeats 4000000 in
theorem rsign13_any (seed : ByteArray) (k : Nat) (d : ByteArray) (w : World) (hk : k < 18446744073709551616) (hs : seed.size ≤ 1000) : Calls Tryz.prog 65 #[.string seed, .int .u64 (k : Nat), .string d] w (SgIs (sgL seed k d) (sgE d) w) := by
  have HS := Lib.hid hs
  have HK := Lib.hid hk
  obtain ⟨i0, hi, hz0, hz1, hz2⟩ := info_parts info_str
  have HZ := Lib.hid hz0
  clear hs hk hz0
  go_enter Tryz.func65, Tryz.ntmps65
  by_cases h32 : d.size = 32
  · have HD := Lib.hid h32
    have HL : Hid (sgL seed k d = signP seed k d ∧ sgE d = 0) := Lib.hid ⟨if_pos h32, if_pos h32⟩
    obtain ⟨F, hF⟩ : ∃ F : Nat → ByteArray, (fun i => walkC i 0 (digN d i) (secretP seed k i)) = F := ⟨_, rfl⟩
    have HF : Hid (∀ i, walkC i 0 (digN d i) (secretP seed k i) = F i) := Lib.hid (fun i => by rw [← hF])
    have HP : Hid (chL F 67 = signP seed k d) := Lib.hid (by rw [← hF]; rfl)
    have i1 : ((d.size : Nat) : Int) = 32 := by omega
    clear hF
    go_wp2_with fail
    refine (rdigits_any d w HD.out).mono ?_
    rintro e w1 ⟨v, rfl, hrow, hb⟩
    obtain ⟨db, dc, rfl, hdb, hdc⟩ := dig_row hrow
    have HB1 := Lib.hid hb
    have HDC := Lib.hid hdc
    have HDB := Lib.hid hdb
    clear hb hdc hdb hrow i1 h32
    go_wp2
    go_loopg [10, 9] 67 (fun gg i v wr => ∃ m : Nat, gg + m = 67 ∧ i = .int .i64 (m : Nat) ∧ Hid (ChSt9 F w1 wr v m))
    case atStart => exact ⟨0, rfl, rfl, Lib.hid ⟨Below.refl _ _, World.ownsRow_nil _ _ _ _⟩⟩
    case round =>
      obtain ⟨m, hm, rfl, HC⟩ := hrel
      by_cases hlt : m < 67
      · have b0 : (m : Int) < 67 := by omega
        have bl : ¬ 67 ≤ m := by omega
        have HO := Lib.hid HC.out.o
        have HB := Lib.hid HC.out.b
        have cs : wr.cell? ⟨db, m, none⟩ = some (.int .i64 ((digN d m : Nat) : Int)) := by
          rw [HB.out.cell (p := ⟨db, m, none⟩) HDB.out]; exact HDC.out m hlt
        have hne : some db ≠ u9.ownBlock := own_lo HO.out HDB.out
        have HQ : Hid (digN d m ≤ 15) := Lib.hid (digN_le d m)
        have hfm := HF.out m
        obtain ⟨q, hq⟩ : ∃ q, digN d m = q := ⟨_, rfl⟩
        obtain ⟨y, hy⟩ : ∃ y, F m = y := ⟨_, rfl⟩
        obtain ⟨sc, hsc⟩ : ∃ sc, secretP seed k m = sc := ⟨_, rfl⟩
        have HY := Lib.hid hy
        rw [hq] at cs HQ hfm
        rw [hsc, hy] at hfm
        have HSC : Hid (∀ wv : World, Calls Tryz.prog 115 #[.string seed, .int .u64 (k : Nat), .int .i64 (m : Nat)] wv fun e w' => e = .returned (.string sc) ∧ Below wv.heap.size wv w') := Lib.hid (fun wv => by
          rw [← hsc]; exact rsecret_any seed k m wv HK.out (by omega) HS.out)
        have HWK : Hid (∀ wv : World, Calls Tryz.prog 114 #[.int .i64 (m : Nat), .int .i64 0, .int .i64 (q : Nat), .string sc] wv fun e w' => e = .returned (.string y) ∧ Below wv.heap.size wv w') := Lib.hid (fun wv => by
          have h9 := rwalk_any m 0 q sc wv (by omega) (by have := HQ.out; omega) (by rw [← hsc, secretP_size]; decide)
          rw [show ((0 : Nat) : Int) = 0 from rfl, Nat.zero_add, hfm] at h9
          exact h9)
        have HM := Lib.hid hm
        have HLT := Lib.hid hlt
        clear hfm hq hy hsc hm
        go_upto_region 8 with fail
        refine wp_region_tail 13 12 (u9.ownBlock) (phis [fun u _ => u = (u9), fun u _ => u = (.int .i64 (m : Nat)), fun u _ => u = (.slice (some ⟨db, 0, none⟩) 67 dc), fun u _ => u = (.int .i64 (m : Nat)), fun u _ => u = (.pointer (some ⟨db, m, none⟩)), fun u _ => u = (.int .i64 (q : Nat)), fun u _ => u = (.string seed), fun u _ => u = (.int .u64 (k : Nat)), fun u _ => u = (.int .i64 (m : Nat)), fun u _ => u = (.string sc), fun u _ => u = (.string y), fun u w' => ∃ b, u = .slice (some ⟨b, 0, none⟩) 1 1 ∧ some b ≠ u9.ownBlock ∧ w'.heap[b]? = some (.cells #[.string y] 9 (0, 0)), fun u w' => w'.ownsRow w1.heap.size 9 1 u (m + 1) ((chL F m).map Value.string ++ [.string y])]) rfl (by kernel_rfl) (by kernel_rfl) (mono_of ⟨mono_eq, mono_eq, mono_eq, mono_eq, mono_eq, mono_eq, mono_eq, mono_eq, mono_eq, mono_eq, mono_eq, ?m11, ?m12, trivial⟩) (steps_of 13 ⟨?s0, ?s1, ?s2, ?s3, ?s4, ?s5, ?s6, ?s7, ?s8, ?s9, ?s10, ?s11, ?s12, trivial⟩) ?_
        case m11 =>
          exact ⟨fun u w1 w' h ⟨b, h1, hb, hb'⟩ => ⟨b, h1, hb, ext_block h hb'⟩, fun _ u w1 w' h ⟨b, h1, hb, hb'⟩ => ⟨b, h1, hb, extB_block h hb hb'⟩⟩
        case m12 =>
          exact ⟨fun u w1 w' h hu => own_below hu h, fun hn => absurd rfl hn⟩
        case s0 =>
          refine qV (fun _ => rfl) rfl fun av wv hE hO hD => ?_
          simp [go_sem, qF av 9 (u9) (hO.2.2 9 rfl), bl, b0]
        case s1 =>
          refine qV (fun _ => rfl) rfl fun av wv hE hO hD => ?_
          simp [go_sem, qF av 10 (.int .i64 (m : Nat)) (hO.2.2 10 rfl), bl, b0]
        case s2 =>
          refine qV (fun _ => rfl) rfl fun av wv hE hO hD => ?_
          simp [go_sem, qF av 8 (.slice (some ⟨db, 0, none⟩) 67 dc) (hO.2.2 8 rfl), bl, b0]
        case s3 =>
          refine qV (fun _ => rfl) rfl fun av wv hE hO hD => ?_
          simp [go_sem, qF av 10 (.int .i64 (m : Nat)) (hO.2.2 10 rfl), bl, b0]
        case s4 =>
          refine qV (fun _ => rfl) rfl fun av wv hE hO hD => ?_
          simp [go_sem, qE (hD.1 rfl _ rfl), qE (hD.2.1 rfl _ rfl), bl, b0]
        case s5 =>
          refine qV (fun _ => rfl) rfl fun av wv hE hO hD => ?_
          simp [go_sem, qE (hD.1 rfl _ rfl), extB_cell hE hne cs, bl, b0]
        case s6 =>
          refine qV (fun _ => rfl) rfl fun av wv hE hO hD => ?_
          simp [go_sem, qF av 0 (.string seed) (hO.2.2 0 rfl), bl, b0]
        case s7 =>
          refine qV (fun _ => rfl) rfl fun av wv hE hO hD => ?_
          simp [go_sem, qF av 1 (.int .u64 (k : Nat)) (hO.2.2 1 rfl), bl, b0]
        case s8 =>
          refine qV (fun _ => rfl) rfl fun av wv hE hO hD => ?_
          simp [go_sem, qF av 10 (.int .i64 (m : Nat)) (hO.2.2 10 rfl), bl, b0]
        case s9 =>
          refine step_wp (fun av wv hE hS hO hD => ⟨rfl, ?_⟩)
          have f26 := qE (hD.1 rfl _ rfl)
          have f27 := qE (hD.2.1 rfl _ rfl)
          have f28 := qE (hD.2.2.1 rfl _ rfl)
          refine wp_of_call (v := .string sc) (by simp [go_sem, f26, f27, f28]) (HSC.out wv) (fun w2 hb => ⟨_, rfl, es_of_ext hb, rfl⟩)
        case s10 =>
          refine step_wp (fun av wv hE hS hO hD => ⟨rfl, ?_⟩)
          have f21 := qE (hD.1 rfl _ rfl)
          have f25 := qE (hD.2.1 rfl _ rfl)
          have f29 := qE (hD.2.2.1 rfl _ rfl)
          refine wp_of_call (v := .string y) (by simp [go_sem, f21, f25, f29]) (HWK.out wv) (fun w2 hb => ⟨_, rfl, es_of_ext hb, rfl⟩)
        case s11 =>
          refine step_wp (fun av wv hE hS hO hD => ⟨rfl, ?_⟩)
          have f30 := qE (hD.1 rfl _ rfl)
          refine wp_of_run (v := .slice (some ⟨wv.heap.size, 0, none⟩) 1 1) (w' := wv.alloc (.cells #[.string y] 9)) (by simp [go_sem, f30]) ⟨_, rfl, es_of_ext (balloc (Ext_refl _) _), wv.heap.size, rfl, ?_, heap_alloc_new _ _⟩
          exact own_ge HO.out (by have := hE.size; simp at this; omega)
        case s12 =>
          refine step_wp (fun av wv hE hS hO hD => ⟨rfl, ?_⟩)
          have d20 : av.eval (.tmp 20) = (u9) := hD.1 rfl _ rfl
          have d31 : (fun u w' => ∃ b, u = .slice (some ⟨b, 0, none⟩) 1 1 ∧ some b ≠ u9.ownBlock ∧ w'.heap[b]? = some (.cells #[.string y] 9 (0, 0))) (av.eval (.tmp 31)) wv := hD.2.1 rfl _ rfl
          obtain ⟨b27, h27, hb27, hc27⟩ := d31
          have hown1 : wv.ownsRow w1.heap.size 9 1 u9 m ((chL F m).map Value.string) := own_below (w := wr.drew) HO.out (hS rfl)
          refine wp_append_lies wv _ _ _ rfl w1.heap.size 9 i0 (.string ⟨#[]⟩) 1 16 Tryz.underlying22 hi HZ.out hz1 hz2 rfl (by decide) u9 m _ d20 hown1 ⟨b27, 0, none⟩ 1 1 [.string y] (by exact h27) rfl (World.news_of_block hc27) (by intro u hu; simp at hu; rcases hu with rfl; rfl) (by decide) (by unfold maxLen; omega) (by omega) (by have := hE.size; have := HB.out.size; simp at *; omega) _ rfl ?_
          intro g2 cap2 w2 hown2 hgrow hat hlt2
          exact ⟨_, rfl, es_sp hgrow, hown2⟩
        intro a' w' hE hO hall
        have hA := act_of_outer (ds := [20, 21, 22, 23, 24, 25, 26, 27, 28, 29, 30, 31, 32]) rfl hO (by kernel_rfl)
        obtain ⟨j0, j1, j2, j3, j4, j5, j6, j7, j8, j9, j10, j11, j12, -⟩ := hall
        have e31 : (fun u w' => ∃ b, u = .slice (some ⟨b, 0, none⟩) 1 1 ∧ some b ≠ u9.ownBlock ∧ w'.heap[b]? = some (.cells #[.string y] 9 (0, 0))) (a'.eval (.tmp 31)) w' := j11 _ rfl
        have e32 : (fun u w' => w'.ownsRow w1.heap.size 9 1 u (m + 1) ((chL F m).map Value.string ++ [.string y])) (a'.eval (.tmp 32)) w' := j12 _ rfl
        obtain ⟨v31, hv31⟩ : ∃ v, a'.eval (.tmp 31) = v := ⟨_, rfl⟩
        rw [hv31] at e31
        obtain ⟨v32, hv32⟩ : ∃ v, a'.eval (.tmp 32) = v := ⟨_, rfl⟩
        rw [hv32] at e32
        simp only [List.foldl_cons, List.foldl_nil, Act.put, List.setIfInBounds_toArray, List.set_cons_succ, List.set_cons_zero, qJ 20 (j0 _ rfl), qJ 21 (j1 _ rfl), qJ 22 (j2 _ rfl), qJ 23 (j3 _ rfl), qJ 24 (j4 _ rfl), qJ 25 (j5 _ rfl), qJ 26 (j6 _ rfl), qJ 27 (j7 _ rfl), qJ 28 (j8 _ rfl), qJ 29 (j9 _ rfl), qJ 30 (j10 _ rfl), hv31, hv32] at hA
        clear hO j11 j12 j0 j1 j2 j3 j4 j5 j6 j7 j8 j9 j10 hv31 hv32
        subst hA
        have HO2 : Hid (w'.ownsRow w1.heap.size 9 1 v32 (m + 1) ((chL F (m + 1)).map Value.string)) := Lib.hid (by rw [chL_snoc, List.map_append, HY.out]; exact e32)
        have HB2 : Hid (Below w1.heap.size w1 w') := Lib.hid (grownBy_below (bdrew HB.out) hE (fun k9 hk' => (HO.out.lt k9 hk').1))
        clear e31 e32 hE cs bl hne
        go_wp2
        go_roundg (gk - 1)
        case rel => exact ⟨m + 1, by have := HM.out; have := HLT.out; omega, by have := HLT.out; go_num, Lib.hid ⟨HB2.out, HO2.out⟩⟩
        case measure => have := HM.out; have := HLT.out; omega
      · obtain rfl : m = 67 := by omega
        have b0 : ¬ ((67 : Nat) : Int) < 67 := by decide
        have HT := Lib.hid (TextsAre.own HC.out.o)
        have HB := Lib.hid (bnext HB1.out HC.out.b)
        clear HC
        go_wp2
        go_ret2
        exact ⟨u9, by rw [HL.out.2]; rfl, by rw [HL.out.1, ← HP.out]; exact HT.out, HB.out⟩
  · have i1 : ¬ ((d.size : Nat) : Int) = 32 := by omega
    have HL : Hid (sgL seed k d = [] ∧ sgE d = 2) := Lib.hid ⟨if_neg h32, if_neg h32⟩
    go_wp2
    go_ret2
    exact ⟨.slice none 0 0, by rw [HL.out.2]; rfl, by rw [HL.out.1]; exact ⟨none, 0, rfl, Txts.nil _ _, Nat.le_refl _, fun _ => rfl⟩, by (repeat (first | exact Below.refl _ _ | assumption | (refine bdrew ?_) | (refine bdrewN ?_ _) | (refine balloc ?_ _) | (refine bset ?_ (by first | omega | (simp; done) | (simp; omega)) _) | (refine bnext ?_ (by assumption))))⟩
end Go.Proofs.YtoafjbillcooiaaGreat
namespace Go.Proofs.YtoafjbillcooiaaGreat
open Go.RowKit
set_option linter.unusedSimpArgs false
set_option linter.unusedVariables false
theorem chL_parts2 (F : Nat → ByteArray) (hF : ∀ i, i < 67 → (F i).size = 32) : (partsL (chL F 67)).length ≤ 140737488355300 := by
  refine Nat.le_trans (partsL_bd 32 _ (fun s hs => ?_)) ?_
  · unfold chL at hs
    obtain ⟨i, hi, rfl⟩ := List.mem_map.1 hs
    exact Nat.le_of_eq (hF i (List.mem_range.1 hi))
  · rw [← len_eq, chL_len]; decide
theorem wotsB_at {ws : List ByteArray} (h : wotsB ws = true) : len ws = 67 ∧ ∀ i, i < 67 → (tth ws i).size = 32 := by
  unfold wotsB at h
  rw [Bool.and_eq_true, decide_eq_true_eq] at h
  refine ⟨h.1, fun i hi => ?_⟩
  have hi2 : i < ws.length := by rw [← len_eq, h.1]; exact hi
  have := List.all_eq_true.1 h.2 (tth ws i) (by rw [tth_eq ws i hi2]; exact List.getElem_mem hi2)
  simpa using this
theorem wotsB_no {ws : List ByteArray} {m : Nat} (hm : m < len ws) (h : (tth ws m).size ≠ 32) : wotsB ws = false := by
  cases e : wotsB ws with
  | false => rfl
  | true => exact absurd ((wotsB_at e).2 m (by rw [← (wotsB_at e).1]; exact hm)) h
theorem wotsB_len {ws : List ByteArray} (h : len ws ≠ 67) : wotsB ws = false := by
  cases e : wotsB ws with
  | false => rfl
  | true => exact absurd (wotsB_at e).1 h
theorem wotsB_yes {ws : List ByteArray} (h : len ws = 67) (ha : ∀ i, i < 67 → (tth ws i).size = 32) : wotsB ws = true := by
  unfold wotsB
  rw [Bool.and_eq_true, decide_eq_true_eq]
  refine ⟨h, List.all_eq_true.2 fun s hs => ?_⟩
  obtain ⟨i, hi, rfl⟩ := List.mem_iff_getElem.1 hs
  have h1 := ha i (by rw [← h, len_eq]; exact hi)
  rw [tth_eq ws i hi] at h1
  exact decide_eq_true h1
def recS (ws : List ByteArray) (d : ByteArray) : ByteArray := if d.size = 32 ∧ wotsB ws = true then recovP ws d else ⟨#[]⟩
def recE (ws : List ByteArray) (d : ByteArray) : Int := if d.size = 32 then (if wotsB ws = true then 0 else 10) else 2
set_option maxRecDepth 100000 in
set_option maxHeartbeats 4000000 in
theorem rrecover_any (ws : List ByteArray) (a : Option Addr) (sc : Nat) (d : ByteArray) (w : World) (hw : Txts w a ws) (hn : len ws ≤ 1000000) : Calls Tryz.prog 80 #[.slice a (len ws) sc, .string d] w fun e w' => e = .returned (.tuple #[.string (recS ws d), .int .i64 (recE ws d)]) ∧ Below w.heap.size w w' := by
  have HW := Lib.hid hw
  have HN := Lib.hid hn
  obtain ⟨i0, hi, hz0, hz1, hz2⟩ := info_parts info_str
  have HZ := Lib.hid hz0
  clear hw hn hz0
  go_enter Tryz.func80, Tryz.ntmps80
  by_cases h32 : d.size = 32
  · have HD := Lib.hid h32
    have i1 : ((d.size : Nat) : Int) = 32 := by omega
    by_cases h67 : len ws = 67
    · have i2 : ((len ws : Nat) : Int) = 67 := by omega
      obtain ⟨sb, so, rfl, -⟩ := HW.out 0 (by omega)
      have HW67 : Hid (len ws = 67) := Lib.hid h67
      rw [h67]
      clear i2
      go_upto_region 5 with fail
      clear i1 h32
      go_wp2
      go_loopg [6] 67 (fun gg i wr => ∃ m : Nat, gg + m = 67 ∧ i = .int .i64 (m : Nat) ∧ Hid (∀ j, j < m → (tth ws j).size = 32) ∧ Hid (Below w.heap.size w wr))
      case atStart => exact ⟨0, rfl, rfl, Lib.hid (fun j h => by omega), Lib.hid (Below.refl _ _)⟩
      case round =>
        obtain ⟨m, hm, rfl, HA, HB⟩ := hrel
        by_cases hlt : m < 67
        · have b0 : (m : Int) < 67 := by omega
          obtain ⟨_, _, he, hc⟩ := HW.out.below HB.out m (by omega)
          cases he
          obtain ⟨s, hs⟩ : ∃ s, tth ws m = s := ⟨_, rfl⟩
          rw [hs] at hc
          have HS := Lib.hid hs
          have HLT := Lib.hid hlt
          have HM := Lib.hid hm
          clear hs
          by_cases hz : s.size = 32
          · have k1 : ((s.size : Nat) : Int) = 32 := by omega
            have HSZ := Lib.hid hz
            go_wp2
            go_roundg (gk - 1)
            case rel => exact ⟨m + 1, by have := HM.out; have := HLT.out; omega, by have := HLT.out; go_num, Lib.hid (fun j hj => by
              by_cases e : j = m
              · subst e; rw [HS.out]; exact HSZ.out
              · exact HA.out j (by omega)), HB⟩
            case measure => have := HM.out; have := HLT.out; omega
          · have k1 : ¬ ((s.size : Nat) : Int) = 32 := by omega
            have HE : Hid (wotsB ws = false) := Lib.hid (wotsB_no (m := m) (by omega) (by rw [HS.out]; exact hz))
            have HX : Hid (recS ws d = ⟨#[]⟩ ∧ recE ws d = 10) := Lib.hid (by unfold recS recE; rw [HE.out, if_pos HD.out]; exact ⟨if_neg (fun h => by cases h.2), rfl⟩)
            go_wp2
            go_ret2
            exact ⟨by rw [HX.out.1, HX.out.2]; rfl, HB.out⟩
        · obtain rfl : m = 67 := by omega
          have b0 : ¬ ((67 : Nat) : Int) < 67 := by decide
          have HE : Hid (wotsB ws = true) := Lib.hid (wotsB_yes HW67.out HA.out)
          have HX : Hid (recS ws d = recovP ws d ∧ recE ws d = 0) := Lib.hid (by unfold recS recE; rw [HE.out, if_pos HD.out]; exact ⟨if_pos ⟨HD.out, rfl⟩, rfl⟩)
          obtain ⟨F, hF⟩ : ∃ F : Nat → ByteArray, (fun i => walkC i (digN d i) (15 - digN d i) (tth ws i)) = F := ⟨_, rfl⟩
          have HF : Hid (∀ i, walkC i (digN d i) (15 - digN d i) (tth ws i) = F i) := Lib.hid (fun i => by rw [← hF])
          have HFS : Hid (∀ i, i < 67 → (F i).size = 32) := Lib.hid (fun i hi => by rw [← hF]; exact walkC_size _ _ _ _ (HA.out i hi))
          have HP : Hid (hashP publicT (chL F 67) = recovP ws d) := Lib.hid (by rw [← hF]; rfl)
          have HSZ : Hid (∀ i, i < 67 → (tth ws i).size = 32) := HA
          clear hF hm hlt
          go_wp2_with fail
          refine (rdigits_any d wr HD.out).mono ?_
          rintro e w1 ⟨v, rfl, hrow, hb⟩
          obtain ⟨db, dc, rfl, hdb, hdc⟩ := dig_row hrow
          have HB1 : Hid (Below w.heap.size w w1) := Lib.hid (bnext HB.out hb)
          have HW1 := Lib.hid (HW.out.below HB1.out)
          have HDC := Lib.hid hdc
          have HDB := Lib.hid hdb
          clear hb hdc hdb hrow HB b0
          go_wp2
          go_loopg [9, 8] 67 (fun gg i v wr => ∃ m : Nat, gg + m = 67 ∧ i = .int .i64 (m : Nat) ∧ Hid (ChSt9 F w1 wr v m))
          case atStart => exact ⟨0, rfl, rfl, Lib.hid ⟨Below.refl _ _, World.ownsRow_nil _ _ _ _⟩⟩
          case round =>
            obtain ⟨m, hm, rfl, HC⟩ := hrel
            by_cases hlt : m < 67
            · have b0 : (m : Int) < 67 := by omega
              have bl : ¬ 67 ≤ m := by omega
              have HO := Lib.hid HC.out.o
              have HB := Lib.hid HC.out.b
              have cs : wr.cell? ⟨db, m, none⟩ = some (.int .i64 ((digN d m : Nat) : Int)) := by
                rw [HB.out.cell (p := ⟨db, m, none⟩) HDB.out]; exact HDC.out m hlt
              have hne : some db ≠ u8.ownBlock := own_lo HO.out HDB.out
              obtain ⟨_, _, he, hct⟩ := HW1.out m (by rw [HW67.out]; exact hlt)
              cases he
              have hsb := lt_of_cell hct
              have ct : wr.cell? ⟨sb, so + m, none⟩ = some (.string (tth ws m)) := by rw [HB.out.cell (p := ⟨sb, so + m, none⟩) hsb]; exact hct
              have hnt : some sb ≠ u8.ownBlock := own_lo HO.out hsb
              have HQ : Hid (digN d m ≤ 15) := Lib.hid (digN_le d m)
              have hfm := HF.out m
              have hs32 := HSZ.out m hlt
              obtain ⟨q, hq⟩ : ∃ q, digN d m = q := ⟨_, rfl⟩
              obtain ⟨y, hy⟩ : ∃ y, F m = y := ⟨_, rfl⟩
              obtain ⟨s, hs⟩ : ∃ s, tth ws m = s := ⟨_, rfl⟩
              have HY := Lib.hid hy
              rw [hq] at cs HQ hfm
              rw [hs, hy] at hfm
              rw [hs] at ct hs32
              have HWK : Hid (∀ wv : World, Calls Tryz.prog 114 #[.int .i64 (m : Nat), .int .i64 (q : Nat), .int .i64 15, .string s] wv fun e w' => e = .returned (.string y) ∧ Below wv.heap.size wv w') := Lib.hid (fun wv => by
                have h9 := rwalk_any m q (15 - q) s wv (by omega) (by have := HQ.out; omega) (by rw [hs32]; decide)
                rw [show q + (15 - q) = 15 by have := HQ.out; omega, hfm] at h9
                exact h9)
              have HM := Lib.hid hm
              have HLT := Lib.hid hlt
              clear hfm hq hy hs hs32 hm hct hsb
              go_upto_region 15 with fail
              refine wp_region_tail 13 12 (u8.ownBlock) (phis [fun u _ => u = (u8), fun u _ => u = (.int .i64 (m : Nat)), fun u _ => u = (.slice (some ⟨db, 0, none⟩) 67 dc), fun u _ => u = (.int .i64 (m : Nat)), fun u _ => u = (.pointer (some ⟨db, m, none⟩)), fun u _ => u = (.int .i64 (q : Nat)), fun u _ => u = (.slice (some ⟨sb, so, none⟩) 67 sc), fun u _ => u = (.int .i64 (m : Nat)), fun u _ => u = (.pointer (some ⟨sb, so + m, none⟩)), fun u _ => u = (.string s), fun u _ => u = (.string y), fun u w' => ∃ b, u = .slice (some ⟨b, 0, none⟩) 1 1 ∧ some b ≠ u8.ownBlock ∧ w'.heap[b]? = some (.cells #[.string y] 9 (0, 0)), fun u w' => w'.ownsRow w1.heap.size 9 1 u (m + 1) ((chL F m).map Value.string ++ [.string y])]) rfl (by kernel_rfl) (by kernel_rfl) (mono_of ⟨mono_eq, mono_eq, mono_eq, mono_eq, mono_eq, mono_eq, mono_eq, mono_eq, mono_eq, mono_eq, mono_eq, ?m11, ?m12, trivial⟩) (steps_of 13 ⟨?s0, ?s1, ?s2, ?s3, ?s4, ?s5, ?s6, ?s7, ?s8, ?s9, ?s10, ?s11, ?s12, trivial⟩) ?_
              case m11 =>
                exact ⟨fun u w1 w' h ⟨b, h1, hb, hb'⟩ => ⟨b, h1, hb, ext_block h hb'⟩, fun _ u w1 w' h ⟨b, h1, hb, hb'⟩ => ⟨b, h1, hb, extB_block h hb hb'⟩⟩
              case m12 =>
                exact ⟨fun u w1 w' h hu => own_below hu h, fun hn => absurd rfl hn⟩
              case s0 =>
                refine qV (fun _ => rfl) rfl fun av wv hE hO hD => ?_
                simp [go_sem, qF av 8 (u8) (hO.2.2 8 rfl), bl, b0]
              case s1 =>
                refine qV (fun _ => rfl) rfl fun av wv hE hO hD => ?_
                simp [go_sem, qF av 9 (.int .i64 (m : Nat)) (hO.2.2 9 rfl), bl, b0]
              case s2 =>
                refine qV (fun _ => rfl) rfl fun av wv hE hO hD => ?_
                simp [go_sem, qF av 7 (.slice (some ⟨db, 0, none⟩) 67 dc) (hO.2.2 7 rfl), bl, b0]
              case s3 =>
                refine qV (fun _ => rfl) rfl fun av wv hE hO hD => ?_
                simp [go_sem, qF av 9 (.int .i64 (m : Nat)) (hO.2.2 9 rfl), bl, b0]
              case s4 =>
                refine qV (fun _ => rfl) rfl fun av wv hE hO hD => ?_
                simp [go_sem, qE (hD.1 rfl _ rfl), qE (hD.2.1 rfl _ rfl), bl, b0]
              case s5 =>
                refine qV (fun _ => rfl) rfl fun av wv hE hO hD => ?_
                simp [go_sem, qE (hD.1 rfl _ rfl), extB_cell hE hne cs, extB_cell hE hnt ct, bl, b0]
              case s6 =>
                refine qV (fun _ => rfl) rfl fun av wv hE hO hD => ?_
                simp [go_sem, qF av 0 (.slice (some ⟨sb, so, none⟩) 67 sc) (hO.2.2 0 rfl), bl, b0]
              case s7 =>
                refine qV (fun _ => rfl) rfl fun av wv hE hO hD => ?_
                simp [go_sem, qF av 9 (.int .i64 (m : Nat)) (hO.2.2 9 rfl), bl, b0]
              case s8 =>
                refine qV (fun _ => rfl) rfl fun av wv hE hO hD => ?_
                simp [go_sem, qE (hD.1 rfl _ rfl), qE (hD.2.1 rfl _ rfl), bl, b0]
              case s9 =>
                refine qV (fun _ => rfl) rfl fun av wv hE hO hD => ?_
                simp [go_sem, qE (hD.1 rfl _ rfl), extB_cell hE hne cs, extB_cell hE hnt ct, bl, b0]
              case s10 =>
                refine step_wp (fun av wv hE hS hO hD => ⟨rfl, ?_⟩)
                have f35 := qE (hD.1 rfl _ rfl)
                have f39 := qE (hD.2.1 rfl _ rfl)
                have f43 := qE (hD.2.2.1 rfl _ rfl)
                refine wp_of_call (v := .string y) (by simp [go_sem, f35, f39, f43]) (HWK.out wv) (fun w2 hb => ⟨_, rfl, es_of_ext hb, rfl⟩)
              case s11 =>
                refine step_wp (fun av wv hE hS hO hD => ⟨rfl, ?_⟩)
                have f44 := qE (hD.1 rfl _ rfl)
                refine wp_of_run (v := .slice (some ⟨wv.heap.size, 0, none⟩) 1 1) (w' := wv.alloc (.cells #[.string y] 9)) (by simp [go_sem, f44]) ⟨_, rfl, es_of_ext (balloc (Ext_refl _) _), wv.heap.size, rfl, ?_, heap_alloc_new _ _⟩
                exact own_ge HO.out (by have := hE.size; simp at this; omega)
              case s12 =>
                refine step_wp (fun av wv hE hS hO hD => ⟨rfl, ?_⟩)
                have d34 : av.eval (.tmp 34) = (u8) := hD.1 rfl _ rfl
                have d45 : (fun u w' => ∃ b, u = .slice (some ⟨b, 0, none⟩) 1 1 ∧ some b ≠ u8.ownBlock ∧ w'.heap[b]? = some (.cells #[.string y] 9 (0, 0))) (av.eval (.tmp 45)) wv := hD.2.1 rfl _ rfl
                obtain ⟨b27, h27, hb27, hc27⟩ := d45
                have hown1 : wv.ownsRow w1.heap.size 9 1 u8 m ((chL F m).map Value.string) := own_below (w := wr.drew) HO.out (hS rfl)
                refine wp_append_lies wv _ _ _ rfl w1.heap.size 9 i0 (.string ⟨#[]⟩) 1 16 Tryz.underlying22 hi HZ.out hz1 hz2 rfl (by decide) u8 m _ d34 hown1 ⟨b27, 0, none⟩ 1 1 [.string y] (by exact h27) rfl (World.news_of_block hc27) (by intro u hu; simp at hu; rcases hu with rfl; rfl) (by decide) (by unfold maxLen; omega) (by omega) (by have := hE.size; have := HB.out.size; simp at *; omega) _ rfl ?_
                intro g2 cap2 w2 hown2 hgrow hat hlt2
                exact ⟨_, rfl, es_sp hgrow, hown2⟩
              intro a' w' hE hO hall
              have hA := act_of_outer (ds := [34, 35, 36, 37, 38, 39, 40, 41, 42, 43, 44, 45, 46]) rfl hO (by kernel_rfl)
              obtain ⟨j0, j1, j2, j3, j4, j5, j6, j7, j8, j9, j10, j11, j12, -⟩ := hall
              have e45 : (fun u w' => ∃ b, u = .slice (some ⟨b, 0, none⟩) 1 1 ∧ some b ≠ u8.ownBlock ∧ w'.heap[b]? = some (.cells #[.string y] 9 (0, 0))) (a'.eval (.tmp 45)) w' := j11 _ rfl
              have e46 : (fun u w' => w'.ownsRow w1.heap.size 9 1 u (m + 1) ((chL F m).map Value.string ++ [.string y])) (a'.eval (.tmp 46)) w' := j12 _ rfl
              obtain ⟨v45, hv45⟩ : ∃ v, a'.eval (.tmp 45) = v := ⟨_, rfl⟩
              rw [hv45] at e45
              obtain ⟨v46, hv46⟩ : ∃ v, a'.eval (.tmp 46) = v := ⟨_, rfl⟩
              rw [hv46] at e46
              simp only [List.foldl_cons, List.foldl_nil, Act.put, List.setIfInBounds_toArray, List.set_cons_succ, List.set_cons_zero, qJ 34 (j0 _ rfl), qJ 35 (j1 _ rfl), qJ 36 (j2 _ rfl), qJ 37 (j3 _ rfl), qJ 38 (j4 _ rfl), qJ 39 (j5 _ rfl), qJ 40 (j6 _ rfl), qJ 41 (j7 _ rfl), qJ 42 (j8 _ rfl), qJ 43 (j9 _ rfl), qJ 44 (j10 _ rfl), hv45, hv46] at hA
              clear hO j11 j12 j0 j1 j2 j3 j4 j5 j6 j7 j8 j9 j10 hv45 hv46
              subst hA
              have HO2 : Hid (w'.ownsRow w1.heap.size 9 1 v46 (m + 1) ((chL F (m + 1)).map Value.string)) := Lib.hid (by rw [chL_snoc, List.map_append, HY.out]; exact e46)
              have HB2 : Hid (Below w1.heap.size w1 w') := Lib.hid (grownBy_below (bdrew HB.out) hE (fun k9 hk' => (HO.out.lt k9 hk').1))
              clear e45 e46 hE cs bl hne ct hnt
              go_wp2
              go_roundg (gk - 1)
              case rel => exact ⟨m + 1, by have := HM.out; have := HLT.out; omega, by have := HLT.out; go_num, Lib.hid ⟨HB2.out, HO2.out⟩⟩
              case measure => have := HM.out; have := HLT.out; omega
            · obtain rfl : m = 67 := by omega
              have b0 : ¬ ((67 : Nat) : Int) < 67 := by decide
              obtain ⟨aa, ca, rfl, hta, hca, -⟩ := TextsAre.own HC.out.o
              have HTA := Lib.hid hta
              have HB : Hid (Below w.heap.size w wr) := Lib.hid (bnext HB1.out HC.out.b)
              rw [chL_len]
              clear hta hca HC
              go_wp2_with fail
              have h9 := rhash_any publicT (chL F 67) aa ca wr (by decide) (by decide) HTA.out (chL_parts2 F HFS.out)
              rw [chL_len, HP.out] at h9
              refine h9.mono ?_
              rintro e w2 ⟨rfl, hb⟩
              have HB2 : Hid (Below w.heap.size w w2) := Lib.hid (bnext HB.out hb)
              clear hb h9
              go_wp2
              go_ret2
              exact ⟨by rw [HX.out.1, HX.out.2]; rfl, HB2.out⟩
    · have i2 : ¬ ((len ws : Nat) : Int) = 67 := by omega
      have HX : Hid (recS ws d = ⟨#[]⟩ ∧ recE ws d = 10) := Lib.hid (by unfold recS recE; rw [wotsB_len h67, if_pos HD.out]; exact ⟨if_neg (fun h => by cases h.2), rfl⟩)
      go_wp2
      go_ret2
      exact ⟨by rw [HX.out.1, HX.out.2]; rfl, by (repeat (first | exact Below.refl _ _ | assumption | (refine bdrew ?_) | (refine bdrewN ?_ _) | (refine balloc ?_ _) | (refine bset ?_ (by first | omega | (simp; done) | (simp; omega)) _) | (refine bnext ?_ (by assumption))))⟩
  · have i1 : ¬ ((d.size : Nat) : Int) = 32 := by omega
    have HX : Hid (recS ws d = ⟨#[]⟩ ∧ recE ws d = 2) := Lib.hid (by unfold recS recE; rw [if_neg h32]; exact ⟨if_neg (fun h => h32 h.1), rfl⟩)
    go_wp2
    go_ret2
    exact ⟨by rw [HX.out.1, HX.out.2]; rfl, by (repeat (first | exact Below.refl _ _ | assumption | (refine bdrew ?_) | (refine bdrewN ?_ _) | (refine balloc ?_ _) | (refine bset ?_ (by first | omega | (simp; done) | (simp; omega)) _) | (refine bnext ?_ (by assumption))))⟩
end Go.Proofs.YtoafjbillcooiaaGreat
namespace Go.Proofs.YtoafjbillcooiaaGreat
open Go.RowKit Go.ChangeMaps
set_option linter.unusedSimpArgs false
set_option linter.unusedVariables false
attribute [local go_sem] Oper.semAt_some
theorem secretT_hash (seed : ByteArray) (k i : Nat) : hashP secretT [seed, num8S k, oneB i] = secretP seed k i := rfl
set_option maxRecDepth 100000 in
set_option maxHeartbeats 4000000 in
theorem at13_any (seed : ByteArray) (k i q : Nat) (w : World) (hs : seed.size ≤ 1000) (hi : i ≤ 66) (hq : q ≤ 15) : Calls Tryz.prog 90 #[.agg #[.string seed, .string (num8S k)], .int .i64 (i : Nat), .int .i64 (q : Nat)] w fun e w' => e = .returned (.string (walkC i 0 q (secretP seed k i))) ∧ Below w.heap.size w w' := by
  have HS := Lib.hid hs
  have HI := Lib.hid hi
  have HQ := Lib.hid hq
  have k1 : IntKind.u8.wrap ((i : Nat) : Int) = (i : Int) := IntWalk.u8_in _ (by omega)
  have v1 := conv_one i (by omega) (w.alloc (.cells #[.string seed, .string (num8S k)] 134))
  rw [show (w.alloc (.cells #[.string seed, .string (num8S k)] 134)).heap.size = w.heap.size + 1 by simp] at v1
  clear hs hi hq
  go_enter Tryz.func90, Tryz.ntmps90
  go_wp2_with fail
  refine (hash_any secretT [seed, num8S k, oneB i] _ 3 _ (by decide) (by decide) (txts3 (alloc_new_at _ (by simp))) (sec_size k i HS.out)).mono ?_
  rintro e w2 ⟨rfl, hb⟩
  have HB2 : Hid (Below w.heap.size w w2) := Lib.hid (bnext (balloc (balloc (balloc (Below.refl _ _) _) _) _) hb)
  rw [secretT_hash]
  clear hb v1 k1
  go_wp2_with fail
  have h9 := walk12_any i 0 q (secretP seed k i) w2 HI.out (by have := HQ.out; omega) (by rw [secretP_size]; decide)
  rw [show ((0 : Nat) : Int) = 0 from rfl, Nat.zero_add] at h9
  refine h9.mono ?_
  rintro e w3 ⟨rfl, hb⟩
  have HB3 : Hid (Below w.heap.size w w3) := Lib.hid (bnext HB2.out hb)
  clear hb h9
  go_wp2
  go_ret
  exact ⟨rfl, HB3.out⟩
set_option maxRecDepth 100000 in
theorem key13_any (seed : ByteArray) (k : Nat) (w : World) (hk : k < 18446744073709551616) : Calls Tryz.prog 89 #[.string seed, .int .u64 (k : Nat)] w fun e w' => e = .returned (.agg #[.string seed, .string (num8S k)]) ∧ Below w.heap.size w w' := by
  have HK := Lib.hid hk
  clear hk
  go_enter Tryz.func89, Tryz.ntmps89
  go_wp2_with fail
  obtain ⟨rb, hrb⟩ : ∃ rb, w.heap.size = rb := ⟨_, rfl⟩
  refine (dnum_any k _ HK.out).mono ?_
  rintro e w2 ⟨rfl, hb⟩
  have HRB : Hid (w.heap.size ≤ rb) := Lib.hid (Nat.le_of_eq hrb)
  have HB2 : Hid (Below w.heap.size w w2) := Lib.hid (bnext (balloc (Below.refl _ _) _) hb)
  have HB3 : Hid (w2.heap[rb]? = some (.cells #[.string ⟨#[]⟩, .string ⟨#[]⟩] 134 (0, 0))) := Lib.hid ((hb.block _ (lt_of_block (alloc_new_at _ hrb))).trans (alloc_new_at _ hrb))
  rw [hrb]
  clear hb hrb
  have z0 := fun o => block_cell HB3.out o
  have z1 : ∀ o, w2.frozen? ⟨rb, o, none⟩ = false := block_free HB3.out
  have z2 : rb < w2.heap.size := lt_of_block HB3.out
  go_wp2
  have hk := block_setCell (block_setCell HB3.out (o := 0) (.string seed)) (o := 1) (.string (num8S k))
  have e0 := block_cell hk 0
  have e1 := block_cell hk 1
  refine bodyPost_ret (v := .agg #[.string seed, .string (num8S k)]) ?_ rfl ⟨rfl, bset (bset HB2.out HRB.out _) HRB.out _⟩
  simp [results, Tryz.results89, go_sem, e0, e1]
def digD (d : ByteArray) (i : Nat) : Nat := if d.size = 32 then digN d i else 15
theorem digD_le (d : ByteArray) (i : Nat) : digD d i ≤ 15 := by
  unfold digD
  split
  · exact digN_le d i
  · exact Nat.le_refl _
structure ChB (d : ByteArray) (bb : Nat) (sl : Value) (w : World) : Prop where
  b : w.heap[bb]? = some (.cells #[sl] 162 (0, 0))
  y : d.size = 32 → ∃ db, sl = .slice (some ⟨db, 0, none⟩) 67 67 ∧ w.heap[db]? = some (.cells (dgP d fun _ => true) 231 (0, 0))
  n : d.size ≠ 32 → sl = .slice none 0 0
theorem ChB.below {d : ByteArray} {bb : Nat} {sl : Value} {w w' : World} (h : ChB d bb sl w) (hb : Below w.heap.size w w') : ChB d bb sl w' :=
  ⟨(hb.block _ (lt_of_block h.b)).trans h.b, fun e => by
    obtain ⟨db, h1, h2⟩ := h.y e
    exact ⟨db, h1, (hb.block _ (lt_of_block h2)).trans h2⟩, h.n⟩
theorem ChB.keep {d : ByteArray} {o bb : Nat} {sl : Value} {w w' : World} (h : ChB d bb sl w) (hb : KpO o w w') (h1 : bb ≠ o) (h2 : ∀ db, sl = .slice (some ⟨db, 0, none⟩) 67 67 → db ≠ o) : ChB d bb sl w' :=
  ⟨hb.same _ _ _ _ h1 (by decide) h.b, fun e => by
    obtain ⟨db, h3, h4⟩ := h.y e
    exact ⟨db, h3, hb.same _ _ _ _ (h2 db h3) (by decide) h4⟩, h.n⟩
set_option maxRecDepth 100000 in
set_option maxHeartbeats 4000000 in
theorem digits12_no (d : ByteArray) (w : World) (hd : d.size ≠ 32) : Calls Tryz.prog 160 #[.string d] w fun e w' => e = .returned (.slice none 0 0) ∧ Below w.heap.size w w' := by
  have i1 : ¬ ((d.size : Nat) : Int) = 32 := by omega
  clear hd
  go_enter Tryz.func160, Tryz.ntmps160
  go_wp2
  go_ret
  exact ⟨rfl, by (repeat (first | exact Below.refl _ _ | assumption | (refine bdrew ?_) | (refine bdrewN ?_ _) | (refine balloc ?_ _) | (refine bset ?_ (by first | omega | (simp; done) | (simp; omega)) _) | (refine bnext ?_ (by assumption))))⟩
set_option maxRecDepth 100000 in
set_option maxHeartbeats 4000000 in
theorem chains_any (d : ByteArray) (w : World) : Calls Tryz.prog 130 #[.string d] w fun e w' => ∃ bb sl, e = .returned (.func (.func 161) #[] #[.pointer (some ⟨bb, 0, none⟩)]) ∧ w.heap.size ≤ bb ∧ ChB d bb sl w' ∧ Below w.heap.size w w' := by
  by_cases h32 : d.size = 32
  · have HD := Lib.hid h32
    clear h32
    go_enter Tryz.func130, Tryz.ntmps130
    go_wp2_with fail
    refine (digits12_any d w HD.out).mono ?_
    rintro e w1 ⟨db, rfl, h1, h2, hb⟩
    have HB := Lib.hid hb
    have HDB := Lib.hid h2
    clear hb h2 h1
    go_wp2
    go_ret
    exact ⟨_, _, rfl, HB.out.size, ⟨heap_alloc_new _ _, fun _ => ⟨db, rfl, block_alloc HDB.out _⟩, fun h9 => absurd HD.out h9⟩, balloc HB.out _⟩
  · have HD := Lib.hid h32
    clear h32
    go_enter Tryz.func130, Tryz.ntmps130
    go_wp2_with fail
    refine (digits12_no d w HD.out).mono ?_
    rintro e w1 ⟨rfl, hb⟩
    have HB := Lib.hid hb
    clear hb
    go_wp2
    go_ret
    exact ⟨_, _, rfl, HB.out.size, ⟨heap_alloc_new _ _, fun h9 => absurd h9 HD.out, fun _ => rfl⟩, balloc HB.out _⟩
abbrev ChN := {i : Nat // i < 67}
theorem digD_yes {d : ByteArray} (h : d.size = 32) (i : Nat) : digD d i = digN d i := if_pos h
theorem digD_no {d : ByteArray} (h : d.size ≠ 32) (i : Nat) : digD d i = 15 := if_neg h
set_option maxRecDepth 100000 in
set_option maxHeartbeats 4000000 in
theorem chains_seq (d : ByteArray) (n : Nat) (hn1 : 1 ≤ n) (o bb : Nat) (sl : Value) (w : World) (h : ChB d bb sl w) (h1 : bb ≠ o) (h2 : ∀ db, sl = .slice (some ⟨db, 0, none⟩) 67 67 → db ≠ o) :
    SeqStopsK Fence.wide n Tryz.prog 161 #[.pointer (some ⟨bb, 0, none⟩)] (fun x : ChN => #[.int .i64 (x.val : Nat), .int .i64 (digD d x.val : Nat)]) (KpO o) (fun xs => xs.map Subtype.val = List.range 67) (fun _ => True) 67 w := by
  intro l0 J Jx W hW hJ hJx hY h0
  have HC := Lib.hid (h.below hW)
  have HJ := Lib.hid hJ
  have HJX := Lib.hid hJx
  have HY := Lib.hid hY
  have H0 := Lib.hid h0
  have HNE := Lib.hid (And.intro h1 h2)
  clear h hW hJ hJx hY h0 h1 h2
  refine callsIn_of_wp Tryz.func161 rfl trivial ?_ rfl
  simp only [Tryz.ntmps161, List.size_toArray, List.length_cons, List.length_nil, Nat.reduceAdd, Nat.reduceSub, Array.replicate_succ, Array.replicate_zero, List.push_toArray, List.append_toArray, List.nil_append, List.cons_append]
  gi_wp2
  gi_loopw [5] (fun i wr => ∃ (m : Nat) (pre : List ChN), m ≤ 67 ∧ i = .int .i64 (m : Nat) ∧ Hid (ChB d bb sl wr) ∧ Hid (J pre wr) ∧ Hid (pre.map Subtype.val = List.range m)) (fun i _ => 67 - (intOf i).toNat)
  case atStart => exact ⟨0, [], Nat.zero_le _, rfl, HC, H0, Lib.hid rfl⟩
  case round =>
    clear HC H0
    obtain ⟨m, pre, hm, rfl, HC, H0, HP⟩ := hrel
    by_cases hlt : m < 67
    · have b0 : (m : Int) < 67 := by omega
      have HLT := Lib.hid hlt
      have cb : wr.cell? ⟨bb, 0, none⟩ = some sl := block_cell HC.out.b 0
      obtain ⟨fn, tmps, assign, body, hyy, hR⟩ := HY.out pre ⟨m, hlt⟩ wr H0.out (by have h9 := congrArg List.length HP.out; rw [List.length_map, List.length_range] at h9; omega)
      dsimp only at hyy
      obtain ⟨pr2, hpr2⟩ : ∃ pr2, pre ++ [⟨m, hlt⟩] = pr2 := ⟨_, rfl⟩
      have HP2 : Hid (pr2.map Subtype.val = List.range (m + 1)) := Lib.hid (by rw [← hpr2, List.map_append, HP.out, List.range_succ]; rfl)
      rw [hpr2] at hR
      have HR := Lib.hid hR
      have fin : ∀ W3, J pr2 W3 → KpO o wr W3 → Hid (ChB d bb sl W3) ∧ Hid (J pr2 W3) := fun W3 hj hk => ⟨Lib.hid (HC.out.keep hk HNE.out.1 HNE.out.2), Lib.hid hj⟩
      have FIN := Lib.hid fin
      clear hR hlt fin hm hpr2
      by_cases h32 : d.size = 32
      · obtain ⟨db, hsl, hdb⟩ := HC.out.y h32
        rw [hsl] at cb
        have cd : wr.cell? ⟨db, m, none⟩ = some (.int .i64 ((digN d m : Nat) : Int)) := by rw [block_cell hdb, dgP_at d _ m HLT.out]; rfl
        rw [digD_yes h32] at hyy
        have bl : ¬ (67 : Int) ≤ (m : Int) := by omega
        have HSL := Lib.hid hsl
        clear h32 hdb hsl
        gi_wp2
        refine HR.out.mono ?_
        rintro e W3 (⟨rfl, hJ3, hk3⟩ | ⟨rfl, hJx3⟩)
        · obtain ⟨C3, J3⟩ := FIN.out W3 hJ3 hk3
          clear hJ3 hk3 hyy HR cb cd FIN
          gi_wp2
          go_roundw
          case rel => exact ⟨m + 1, pr2, by have := HLT.out; omega, by have := HLT.out; go_num, C3, J3, HP2⟩
          case measure => have := HLT.out; simp [intOf]; omega
        · have JX := Lib.hid hJx3
          clear hJx3 hyy HR FIN cb cd
          gi_wp2
          refine bodyPost_ret (results_none rfl _ _ _) rfl ?_
          exact ⟨⟨_, rfl⟩, Or.inr ⟨_, trivial, JX.out⟩⟩
      · have hsl := HC.out.n h32
        rw [hsl] at cb
        rw [digD_no h32, show ((15 : Nat) : Int) = 15 from rfl] at hyy
        have bl : ¬ (m : Int) < 0 := by omega
        have HSL := Lib.hid hsl
        clear h32 hsl
        gi_wp2
        refine HR.out.mono ?_
        rintro e W3 (⟨rfl, hJ3, hk3⟩ | ⟨rfl, hJx3⟩)
        · obtain ⟨C3, J3⟩ := FIN.out W3 hJ3 hk3
          clear hJ3 hk3 hyy HR cb FIN
          gi_wp2
          go_roundw
          case rel => exact ⟨m + 1, pr2, by have := HLT.out; omega, by have := HLT.out; go_num, C3, J3, HP2⟩
          case measure => have := HLT.out; simp [intOf]; omega
        · have JX := Lib.hid hJx3
          clear hJx3 hyy HR FIN cb
          gi_wp2
          refine bodyPost_ret (results_none rfl _ _ _) rfl ?_
          exact ⟨⟨_, rfl⟩, Or.inr ⟨_, trivial, JX.out⟩⟩
    · obtain rfl : m = 67 := by omega
      have b0 : ¬ ((67 : Nat) : Int) < 67 := by decide
      gi_wp2
      go_end0
      exact ⟨⟨_, rfl⟩, Or.inl ⟨pre, HP.out, H0.out⟩⟩
end Go.Proofs.YtoafjbillcooiaaGreat
namespace Go.Proofs.YtoafjbillcooiaaGreat
open Go.RowKit Go.ChangeMaps
set_option linter.unusedSimpArgs false
set_option linter.unusedVariables false
attribute [local go_sem] Oper.semAt_some
def alL (F : Nat → ByteArray) (pre : List ChN) : List ByteArray := pre.map fun x => F x.val
theorem alL_len (F : Nat → ByteArray) (pre : List ChN) : len (alL F pre) = pre.length := by unfold alL; rw [len_eq, List.length_map]
theorem alL_snoc (F : Nat → ByteArray) (pre : List ChN) (x : ChN) : alL F (pre ++ [x]) = alL F pre ++ [F x.val] := by unfold alL; rw [List.map_append]; rfl
theorem alL_all (F : Nat → ByteArray) (pre : List ChN) (h : pre.map Subtype.val = List.range 67) : alL F pre = chL F 67 := by
  unfold alL chL
  rw [← h, List.map_map]
  rfl
theorem boxed_app {W w1 : World} {n₀ B : Nat} {t e : TypeId} {size : Nat} {v v' : Value} {k m : Nat} {xs ys : List Value} (hv : Boxed W B t v) (hte : t ≠ e) (hrow : W.ownsRow n₀ e size v k xs) (hn₀ : n₀ ≤ W.heap.size) (hB : n₀ ≤ B) (hown' : w1.ownsRow n₀ e size v' m ys) (hgrow : W.grownBy w1 v.ownBlock) :
    Boxed w1 B t v ∧ Boxed (w1.setCell ⟨B, 0, none⟩ v') B t v' ∧ (w1.setCell ⟨B, 0, none⟩ v').ownsRow n₀ e size v' m ys ∧ KeepsOthers W (w1.setCell ⟨B, 0, none⟩ v') ∧ Below n₀ W (w1.setCell ⟨B, 0, none⟩ v') := by
  have hv1 : Boxed w1 B t v := hv.kept hgrow (hv.not_row hte hrow)
  refine ⟨hv1, hv1.set v', hown'.kept (grownBy_setCell' w1 B v') (.inr (hv1.not_row hte hown').symm), ?_, ?_⟩
  · refine (KeepsOthers.of_grownBy hgrow fun j o ej hj => ?_).trans (KeepsOthers.setCell _ _ _)
    rcases hrow.2 with ⟨rfl, _⟩ | ⟨g, cap, cur, rfl, _, hgb, _⟩
    · simp [Value.ownBlock] at ej
    · obtain rfl : g = j := by simpa [Value.ownBlock] using ej
      rw [hgb] at hj; cases hj; rfl
  · refine ((Below.refl n₀ W).grown hgrow (by omega) fun j ej => ?_).setCell (p := ⟨B, 0, none⟩) hB v'
    rcases hrow.2 with ⟨rfl, _⟩ | ⟨g, cap, cur, rfl, hb, _, _⟩
    · simp [Value.ownBlock] at ej
    · obtain rfl : g = j := by simpa [Value.ownBlock] using ej
      exact hb
theorem kpo_app {o base k : Nat} {W w4 : World} {v v' : Value} {xs : List Value} (hrow : W.ownsRow base 9 1 v k xs) (hg : W.grownBy w4 v.ownBlock) : KpO o W (w4.setCell ⟨o, 0, none⟩ v') := by
  have hs := hg.size
  refine ⟨by simp [World.setCell]; omega, fun b cs t fr hb ht hc => ?_⟩
  have hlt := lt_of_block hc
  refine (Below.heap_setCell _ _ _ _ (fun e => hb e)).trans ?_
  refine (hg.block b hlt (fun e => ?_)).trans hc
  rcases hrow.2 with ⟨rfl, _⟩ | ⟨g, cap, cur, rfl, _, hgb, _⟩
  · simp [Value.ownBlock] at e
  · obtain rfl : b = g := by simpa [Value.ownBlock] using e
    rw [hgb] at hc; cases hc; exact ht rfl
def AlIs (F : Nat → ByteArray) (w : World) (e : Ending) (w' : World) : Prop := ∃ v, e = .returned v ∧ w'.ownsRow w.heap.size 9 1 v 67 ((chL F 67).map Value.string) ∧ Below w.heap.size w w'
set_option maxRecDepth 100000 in
set_option maxHeartbeats 4000000 in
theorem along_any (d : ByteArray) (g : FuncId) (bnd cap : Array Value) (F : Nat → ByteArray) (w : World) (eg : ∀ args w, (callFunc g args).run Tryz.prog w = .ok (.enter g args) w)
    (hc : ∀ i, i < 67 → ∀ w1, Below w.heap.size w w1 → Calls Tryz.prog g (bnd ++ #[.int .i64 (i : Nat), .int .i64 (digD d i : Nat)] ++ cap) w1 fun e w' => e = .returned (.string (F i)) ∧ Below w1.heap.size w1 w') :
    Calls Tryz.prog 88 #[.string d, .func (.func g) bnd cap] w (AlIs F w) := by
  have HC := Lib.hid hc
  have EG := Lib.hid eg
  clear hc eg
  obtain ⟨i0, hi, hz0, hz1, hz2⟩ := info_parts info_str
  have HZ := Lib.hid hz0
  clear hz0
  refine (callsIn_wide (n := 9)).1 ?_
  refine callsIn_of_wp_marks Tryz.func88 rfl trivial ?_ rfl
  simp only [Tryz.ntmps88, List.size_toArray, List.length_cons, List.length_nil, Nat.reduceAdd, Nat.reduceSub, Array.replicate_succ, Array.replicate_zero, List.push_toArray, List.append_toArray, List.nil_append, List.cons_append]
  gi_wp2_with fail
  refine ⟨trivial, (callsIn_wide.2 (chains_any d _)).mono ?_⟩
  rintro e w1 ⟨bb, sl, rfl, hbb, hch, hb⟩
  obtain ⟨fb, hfb⟩ : ∃ fb, w.heap.size = fb := ⟨_, rfl⟩
  have e1 : (w.alloc (.cells #[.func (.func g) bnd cap] 132)).heap.size = fb + 1 := by simp; omega
  have e2 : ((w.alloc (.cells #[.func (.func g) bnd cap] 132)).alloc (.cells #[.slice none 0 0] 22)).heap.size = fb + 1 + 1 := by simp; omega
  rw [e2] at hbb
  rw [hfb]
  have ha1 := block_alloc (alloc_new_at (.cells #[.func (.func g) bnd cap] 132) hfb) (.cells #[.slice none 0 0] 22)
  have ha2 := alloc_new_at (.cells #[.slice none 0 0] 22) e1
  have Z1 : Hid (w1.heap[fb]? = some (.cells #[.func (.func g) bnd cap] 132 (0, 0))) := Lib.hid ((hb.block _ (lt_of_block ha1)).trans ha1)
  have Z0 : Hid (Boxed w1 (fb + 1) 22 (.slice none 0 0)) := Lib.hid ((hb.block _ (lt_of_block ha2)).trans ha2)
  have HCH := Lib.hid hch
  have HBB := Lib.hid hbb
  have ZB : Hid (Below w.heap.size w w1) := Lib.hid (bnext (balloc (balloc (Below.refl _ _) _) _) hb)
  have HO : Hid (w.heap.size ≤ fb) := Lib.hid (Nat.le_of_eq hfb)
  have HDB : Hid (∀ db, sl = .slice (some ⟨db, 0, none⟩) 67 67 → db ≠ fb + 1) := Lib.hid (fun db e9 => by
    rintro rfl
    by_cases h32 : d.size = 32
    · obtain ⟨db, h1, h2⟩ := hch.y h32
      rw [h1] at e9
      cases e9
      have h3 : w1.heap[fb + 1]? = some (.cells #[.slice none 0 0] 22 (0, 0)) := Z0.out
      rw [h2] at h3
      cases h3
    · rw [hch.n h32] at e9
      cases e9)
  clear hch hbb hb hfb e1 e2 ha1 ha2
  gi_wp2_with fail
  refine wpIn_rangeFunc_ownF rfl (by omega) (gf := 161) (lb := #[.pointer (some ⟨bb, 0, none⟩)]) rfl trivial (enters_of Tryz.func161 (by kernel_rfl) rfl)
    (chains_seq d 8 (by omega) (fb + 1) bb sl w1 HCH.out (by have := HBB.out; omega) HDB.out)
    KpO.trans (fun W l9 x x' _ hl hx _ => KpO.putObj (fb + 1) W l9 x x' hl hx) (Below.refl _ _) (fun _ => rfl)
    (fun pre W => (∃ v, Boxed W (fb + 1) 22 v ∧ W.ownsRow w.heap.size 9 1 v (len (alL F pre)) ((alL F pre).map Value.string) ∧ True) ∧ W.heap[fb]? = some (.cells #[.func (.func g) bnd cap] 132 (0, 0)) ∧ Below w.heap.size w W) (fun _ _ _ => False)
    (OwnFrom.and (Own.from (holdsRow_own w.heap.size (fb + 1) 22 9 1 (fun pre : List ChN => len (alL F pre)) (fun pre => (alL F pre).map Value.string) (fun _ _ => True)) _) (OwnFrom.and (own_one _ fb 132 (fun _ : List ChN => .func (.func g) bnd cap)) (ownFrom_below (Nat.le_refl _) ZB.out.size))) (fun _ _ _ _ _ h _ _ => h)
    ⟨⟨_, Z0.out, World.ownsRow_nil _ _ _ _, trivial⟩, Z1.out, ZB.out⟩ ?a1 ?assign ?body ?done ?stop
  case assign =>
    intro l9 x W K hK
    gi_wp2
    exact hK
  case body =>
    rintro l9 pre ⟨i, hi67⟩ W ⟨⟨v, hv, hrow, -⟩, hO, hB⟩ hlt
    dsimp only
    have HV := Lib.hid hv
    have HRW := Lib.hid hrow
    have HF := Lib.hid hO
    have HB := Lib.hid hB
    have HCI := Lib.hid (fun w9 h9 => HC.out i hi67 w9 h9)
    have HLN : Hid (len (alL F pre) ≤ 66) := Lib.hid (by rw [alL_len]; omega)
    have HSN := Lib.hid (alL_snoc F pre ⟨i, hi67⟩)
    dsimp only at HSN
    obtain ⟨P9, hP9⟩ : ∃ P9, alL F pre = P9 := ⟨_, rfl⟩
    obtain ⟨X9, hX9⟩ : ∃ X9, F i = X9 := ⟨_, rfl⟩
    obtain ⟨q, hq⟩ : ∃ q, digD d i = q := ⟨_, rfl⟩
    rw [hP9] at HRW HLN HSN
    rw [hX9] at HSN
    rw [hX9, hq] at HCI
    rw [hq]
    clear hv hrow hO hB hlt hP9 hX9 hq
    have cf : W.cell? ⟨fb, 0, none⟩ = some (.func (.func g) bnd cap) := block_cell HF.out 0
    have cv : W.cell? ⟨fb + 1, 0, none⟩ = some v := HV.out.cell
    gi_upto_region 5 with (fail)
    refine wpIn_region_tail (fun _ => trivial) 6 1000 none (phis [fun u _ => u = v, fun u _ => u = .func (.func g) bnd cap, fun u _ => u = .int .i64 (i : Nat), fun u _ => u = .int .i64 (q : Nat), fun u _ => u = .string X9,
      fun u w' => ∃ b, u = .slice (some ⟨b, 0, none⟩) 1 1 ∧ w'.heap[b]? = some (.cells #[.string X9] 9 (0, 0))]) rfl (by kernel_rfl) (by kernel_rfl)
      (mono_of ⟨mono_eq, mono_eq, mono_eq, mono_eq, mono_eq, ?m5, trivial⟩) (stepsIn_of 6 ⟨?s0, ?s1, ?s2, ?s3, ?s4, ?s5, trivial⟩) ?_
    case m5 =>
      exact ⟨fun u w1 w' h ⟨b, h1, h2⟩ => ⟨b, h1, ext_block h h2⟩, fun _ u w1 w' h ⟨b, h1, h2⟩ => ⟨b, h1, ext_block (extB_none h) h2⟩⟩
    case s0 =>
      refine stepIn_wp (fun av wv hE hS hO hD => ⟨rfl, wpIn_of_run (fun _ => trivial) (by intro c hc; cases hc) (w' := wv) (v := v) ?_ ⟨v, rfl, es_of_ext (Ext_refl _), rfl⟩⟩)
      have h5 : av.eval (.tmp 5) = .pointer (some ⟨fb + 1, 0, none⟩) := hO.2.2 5 rfl
      have f5 := (ev_form av 5).symm.trans h5
      have hc0 := extB_cell hE (by simp) cv
      simp [go_sem, f5, hc0]
    case s1 =>
      refine stepIn_wp (fun av wv hE hS hO hD => ⟨rfl, wpIn_of_run (fun _ => trivial) (by intro c hc; cases hc) (w' := wv) (v := .func (.func g) bnd cap) ?_ ⟨_, rfl, es_of_ext (Ext_refl _), rfl⟩⟩)
      have h5 : av.eval (.tmp 3) = .pointer (some ⟨fb, 0, none⟩) := hO.2.2 3 rfl
      have f5 := (ev_form av 3).symm.trans h5
      have hc0 := extB_cell hE (by simp) cf
      simp [go_sem, f5, hc0]
    case s2 =>
      refine stepIn_wp (fun av wv hE hS hO hD => ⟨rfl, wpIn_of_run (fun _ => trivial) (by intro c hc; cases hc) (w' := wv) (v := .int .i64 (i : Nat)) ?_ ⟨_, rfl, es_of_ext (Ext_refl _), rfl⟩⟩)
      have h5 : av.eval (.tmp 6) = .int .i64 (i : Nat) := hO.2.2 6 rfl
      have f5 := (ev_form av 6).symm.trans h5
      simp [go_sem, f5]
    case s3 =>
      refine stepIn_wp (fun av wv hE hS hO hD => ⟨rfl, wpIn_of_run (fun _ => trivial) (by intro c hc; cases hc) (w' := wv) (v := .int .i64 (q : Nat)) ?_ ⟨_, rfl, es_of_ext (Ext_refl _), rfl⟩⟩)
      have h5 : av.eval (.tmp 7) = .int .i64 (q : Nat) := hO.2.2 7 rfl
      have f5 := (ev_form av 7).symm.trans h5
      simp [go_sem, f5]
    case s4 =>
      refine stepIn_wp (fun av wv hE hS hO hD => ?_)
      have d13 : av.eval (.tmp 13) = .func (.func g) bnd cap := hD.1 rfl _ rfl
      have d14 : av.eval (.tmp 14) = .int .i64 (i : Nat) := hD.2.1 rfl _ rfl
      have d15 : av.eval (.tmp 15) = .int .i64 (q : Nat) := hD.2.2.1 rfl _ rfl
      have f13 := (ev_form av 13).symm.trans d13
      have f14 := (ev_form av 14).symm.trans d14
      have f15 := (ev_form av 15).symm.trans d15
      have key : (execOp av.eval { dst := some 16, op := .call { callee := .value (.tmp 13), args := #[.tmp 14, .tmp 15], argTypes := #[3, 3] }, type := 9, pos := "wots.go:48", after := #[{ on := 1, ground := .data }, { on := 2, ground := .data }, { on := 3, ground := .data }], guard := none }).run Tryz.prog wv = .ok (.enter g (bnd ++ #[.int .i64 (i : Nat), .int .i64 (q : Nat)] ++ cap)) wv := by
        simp [go_sem, f13, f14, f15, -Array.append_assoc, -Array.append_eq_append]
        exact EG.out _ _
      have hcc := HCI.out wv (HB.out.trans ((of_drew hE).mono HB.out.size))
      refine ⟨rfl, wpIn_of_call (by intro c hc; cases hc) key hcc ?_⟩
      rintro e w' ⟨rfl, hb⟩
      exact ⟨_, rfl, _, rfl, es_of_ext hb, rfl⟩
    case s5 =>
      refine stepIn_wp (fun av wv hE hS hO hD => ?_)
      have d16 : av.eval (.tmp 16) = .string X9 := hD.1 rfl _ rfl
      have f16 := (ev_form av 16).symm.trans d16
      refine ⟨rfl, wpIn_of_run (fun _ => trivial) (by intro c hc; cases hc) (w' := wv.alloc (.cells #[.string X9] 9)) (v := .slice (some ⟨wv.heap.size, 0, none⟩) 1 1) ?_ ⟨_, rfl, es_of_ext (balloc (Ext_refl _) _), wv.heap.size, rfl, heap_alloc_new _ _⟩⟩
      simp [go_sem, f16]
    intro a' w' hE hO hall
    have hA := act_of_outer (ds := [12, 13, 14, 15, 16, 17]) rfl hO (by kernel_rfl)
    obtain ⟨j0, j1, j2, j3, j4, j5, -⟩ := hall
    have e17 : (fun u w' => ∃ b, u = .slice (some ⟨b, 0, none⟩) 1 1 ∧ w'.heap[b]? = some (.cells #[.string X9] 9 (0, 0))) (a'.eval (.tmp 17)) w' := j5 _ rfl
    obtain ⟨v17, hv17⟩ : ∃ v, a'.eval (.tmp 17) = v := ⟨_, rfl⟩
    rw [hv17] at e17
    simp only [List.foldl_cons, List.foldl_nil, Act.put, List.setIfInBounds_toArray, List.set_cons_succ, List.set_cons_zero, qJ 12 (j0 _ rfl), qJ 13 (j1 _ rfl), qJ 14 (j2 _ rfl), qJ 15 (j3 _ rfl), qJ 16 (j4 _ rfl), hv17] at hA
    clear hO j5 j0 j1 j2 j3 j4 hv17
    subst hA
    obtain ⟨b17, rfl, hc17⟩ := e17
    have HWW := Lib.hid (of_drew hE)
    have HC17 := Lib.hid hc17
    clear hE cf cv hc17
    have HV2 : Hid (Boxed w' (fb + 1) 22 v) := Lib.hid ((HWW.out.block _ HV.out.lt).trans HV.out)
    have HR2 : Hid (w'.ownsRow w.heap.size 9 1 v (len P9) (P9.map Value.string)) := Lib.hid (own_below HRW.out HWW.out)
    have HO2 : Hid (w'.heap[fb]? = some (.cells #[.func (.func g) bnd cap] 132 (0, 0))) := Lib.hid ((HWW.out.block _ (lt_of_block HF.out)).trans HF.out)
    have HB2 : Hid (Below w.heap.size w w') := Lib.hid (bnext HB.out HWW.out)
    have hc := HV2.out.cell
    have hpb := HLN.out
    simp only [List.drop_succ_cons, List.drop_zero]
    gi_wp2_with (gi_at_builtin; refine wpListIn_append_own _ rfl _ _ 22 rfl w.heap.size 9 i0 (.string ⟨#[]⟩) 1 16 Tryz.underlying22 hi HZ.out hz1 hz2 rfl (by decide) _ _ _ rfl HR2.out ⟨b17, 0, none⟩ 1 1 [.string X9] rfl rfl (World.news_of_block HC17.out) (by intro u hu9; simp at hu9; subst hu9; rfl) (by unfold maxLen; omega) (by omega) (by have := HB2.out.size; simp; omega) ?_; intro v' w4 hown' hgrow _; obtain ⟨g', cap', rfl⟩ := ownsRow_succ hown'; obtain ⟨hv1, hv2, hr2, hk2, hb3⟩ := boxed_app HV2.out (by decide) HR2.out HB2.out.size (by have := HO.out; omega) hown' hgrow; have hc1 := hv1.cell; have hf1 := hv1.frozen; have HQ1 := Lib.hid hv2; have HQ2 := Lib.hid hr2; have HQ3 := Lib.hid hk2; have HQ4 := Lib.hid hb3; have HQ5 := Lib.hid (kpo_app (o := fb + 1) (v' := .slice (some ⟨g', 0, none⟩) (len P9 + 1) cap') HR2.out hgrow); clear hv2 hr2 hk2 hb3 hown' hgrow)
    have HKO : Hid (KeepsOthers W w') := Lib.hid (KeepsOthers.of_grownBy (below_grown HWW.out) (fun j o h => by cases h))
    have HKP : Hid (KpO (fb + 1) W w') := Lib.hid ⟨HWW.out.size, fun b9 cs t fr _ _ hc9 => (HWW.out.block _ (lt_of_block hc9)).trans hc9⟩
    refine ⟨HKO.out.trans HQ3.out, HKP.out.trans HQ5.out, ⟨_, HQ1.out, ?_, trivial⟩, ?_, HB2.out.trans HQ4.out⟩
    · have e9 : len (P9 ++ [X9]) = len P9 + 1 := by rw [len_eq, List.length_append]; rfl
      rw [HSN.out, List.map_append, e9]
      exact HQ2.out
    · exact HQ5.out.same _ _ _ _ (by omega) (by decide) HO2.out
  case done =>
    rintro D ys W hD hys ⟨⟨v, hv, hrow, -⟩, hO, hB⟩ hK
    have hc := hv.cell
    rw [alL_all F ys hys, chL_len] at hrow
    have HR := Lib.hid (ownsRow_putObj hrow (.deferred none) hK rfl)
    have HB : Hid (Below w.heap.size w (W.putObj D (.deferred none))) := Lib.hid (hB.trans (belowK_b (w := w) (Nat.le_refl _) W D _ _ (Nat.le_trans ZB.out.size hD) hK rfl rfl))
    have HK := Lib.hid hK
    clear hO hB hrow hys
    gi_wp2
    refine ⟨by simp, .inl ⟨_, _, rfl, run_takeDeferred HK.out, ?_⟩⟩
    exact ⟨_, results_tmp rfl _ _ _, v, rfl, HR.out, HB.out⟩
  case stop =>
    intro D c pre W _ _ h _
    exact h.elim
end Go.Proofs.YtoafjbillcooiaaGreat
namespace Go.Proofs.YtoafjbillcooiaaGreat
open Go.RowKit
set_option linter.unusedSimpArgs false
set_option linter.unusedVariables false
theorem at_eg : ∀ args w, (callFunc 90 args).run Tryz.prog w = .ok (.enter 90 args) w := enters_of Tryz.func90 (by kernel_rfl) rfl
theorem alongK_any (d seed : ByteArray) (k : Nat) (F : Nat → ByteArray) (w : World) (hs : seed.size ≤ 1000) (hF : ∀ i, walkC i 0 (digD d i) (secretP seed k i) = F i) : Calls Tryz.prog 88 #[.string d, .func (.func 90) #[.agg #[.string seed, .string (num8S k)]] #[]] w (AlIs F w) :=
  along_any d _ _ _ F w at_eg (fun i hi w1 _ => by
    have h9 := at13_any seed k i (digD d i) w1 hs (by omega) (digD_le d i)
    rw [hF i] at h9
    exact h9)
set_option maxRecDepth 100000 in
set_option maxHeartbeats 4000000 in
theorem public_any (seed : ByteArray) (k : Nat) (w : World) (hk : k < 18446744073709551616) (hs : seed.size ≤ 1000) : Calls Tryz.prog 41 #[.string seed, .int .u64 (k : Nat)] w fun e w' => e = .returned (.string (publicP seed k)) ∧ Below w.heap.size w w' := by
  have HS := Lib.hid hs
  have HK := Lib.hid hk
  obtain ⟨F, hF⟩ : ∃ F : Nat → ByteArray, (fun i => walkC i 0 15 (secretP seed k i)) = F := ⟨_, rfl⟩
  have HF : Hid (∀ i, walkC i 0 (digD ⟨#[]⟩ i) (secretP seed k i) = F i) := Lib.hid (fun i => by rw [← hF]; rfl)
  have HFS : Hid (∀ i, (F i).size = 32) := Lib.hid (fun i => by rw [← hF]; exact walkC_size _ _ _ _ (secretP_size _ _ _))
  have HP : Hid (hashP publicT (chL F 67) = publicP seed k) := Lib.hid (by rw [← hF]; rfl)
  clear hs hk hF
  go_enter Tryz.func41, Tryz.ntmps41
  go_wp2_with fail
  refine (key13_any seed k w HK.out).mono ?_
  rintro e w1 ⟨rfl, hb⟩
  have HB1 := Lib.hid hb
  clear hb
  go_wp2_with fail
  refine (alongK_any ⟨#[]⟩ seed k F w1 HS.out HF.out).mono ?_
  rintro e w2 ⟨v, rfl, hrow, hb⟩
  obtain ⟨aa, ca, hv, hta, hca, -⟩ := TextsAre.own hrow
  rw [chL_len] at hv
  subst hv
  have HTA := Lib.hid hta
  have HB2 := Lib.hid (bnext HB1.out hb)
  clear hb hrow hta hca
  go_wp2_with fail
  have h9 := hash_any publicT (chL F 67) aa ca w2 (by decide) (by decide) HTA.out (chL_parts F HFS.out)
  rw [chL_len, HP.out] at h9
  refine h9.mono ?_
  rintro e w3 ⟨rfl, hb⟩
  have HB3 : Hid (Below w.heap.size w w3) := Lib.hid (bnext HB2.out hb)
  clear hb h9
  go_wp2
  go_ret
  exact ⟨rfl, HB3.out⟩
def TextsAt (B : Nat) (L : List ByteArray) (v : Value) (w : World) : Prop := ∃ a c, v = .slice a (len L) c ∧ (∀ i, i < len L → ∃ b off, a = some ⟨b, off, none⟩ ∧ B ≤ b ∧ w.cell? ⟨b, off + i, none⟩ = some (.string (tth L i))) ∧ len L ≤ c ∧ (a = none → c = 0)
theorem TextsAt.are {B : Nat} {L : List ByteArray} {v : Value} {w : World} (h : TextsAt B L v w) : TextsAre L v w := by
  obtain ⟨a, c, h1, h2, h3⟩ := h
  exact ⟨a, c, h1, fun i hi => by obtain ⟨b, off, h4, -, h6⟩ := h2 i hi; exact ⟨b, off, h4, h6⟩, h3⟩
theorem TextsAt.low {B C : Nat} {L : List ByteArray} {v : Value} {w : World} (h : TextsAt B L v w) (hc : C ≤ B) : TextsAt C L v w := by
  obtain ⟨a, c, h1, h2, h3⟩ := h
  exact ⟨a, c, h1, fun i hi => by obtain ⟨b, off, h4, h5, h6⟩ := h2 i hi; exact ⟨b, off, h4, Nat.le_trans hc h5, h6⟩, h3⟩
theorem TextsAt.below {B : Nat} {L : List ByteArray} {v : Value} {w w' : World} (h : TextsAt B L v w) (hb : Below w.heap.size w w') : TextsAt B L v w' := by
  obtain ⟨a, c, h1, h2, h3⟩ := h
  exact ⟨a, c, h1, fun i hi => by
    obtain ⟨b, off, h4, h5, h6⟩ := h2 i hi
    exact ⟨b, off, h4, h5, by rw [hb.cell (p := ⟨b, off + i, none⟩) (lt_of_cell h6)]; exact h6⟩, h3⟩
theorem TextsAt.own {w : World} {base n : Nat} {v : Value} {L : List ByteArray} (h : w.ownsRow base 9 1 v n (L.map Value.string)) : TextsAt base L v w := by
  obtain ⟨a, c, hv, h2, h3⟩ := TextsAre.own h
  refine ⟨a, c, hv, fun i hi => ?_, h3⟩
  obtain ⟨b, off, rfl, h4⟩ := h2 i hi
  refine ⟨b, off, rfl, ?_, h4⟩
  subst hv
  exact (h.lt b rfl).1
theorem TextsAt.nil (B : Nat) (w : World) : TextsAt B [] (.slice none 0 0) w := ⟨none, 0, rfl, fun i hi => absurd hi (Nat.not_lt_zero i), Nat.le_refl _, fun _ => rfl⟩
def SgAt (L : List ByteArray) (x : Int) (w : World) (e : Ending) (w' : World) : Prop := ∃ v, e = .returned (.tuple #[v, .int .i64 x]) ∧ TextsAt w.heap.size L v w' ∧ Below w.heap.size w w'
set_option maxRecDepth 100000 in
set_option maxHeartbeats 4000000 in
theorem sign13_at (seed : ByteArray) (k : Nat) (d : ByteArray) (w : World) (hk : k < 18446744073709551616) (hs : seed.size ≤ 1000) : Calls Tryz.prog 85 #[.string seed, .int .u64 (k : Nat), .string d] w (SgAt (sgL seed k d) (sgE d) w) := by
  have HS := Lib.hid hs
  have HK := Lib.hid hk
  by_cases h32 : d.size = 32
  · obtain ⟨F, hF⟩ : ∃ F : Nat → ByteArray, (fun i => walkC i 0 (digD d i) (secretP seed k i)) = F := ⟨_, rfl⟩
    have HF : Hid (∀ i, walkC i 0 (digD d i) (secretP seed k i) = F i) := Lib.hid (fun i => by rw [← hF])
    have HP : Hid (chL F 67 = sgL seed k d ∧ sgE d = 0) := Lib.hid ⟨by
      unfold sgL signP
      rw [if_pos h32, ← hF]
      simp only [digD_yes h32], if_pos h32⟩
    have i1 : ((d.size : Nat) : Int) = 32 := by omega
    clear hs hk hF h32
    go_enter Tryz.func85, Tryz.ntmps85
    go_wp2_with fail
    refine (key13_any seed k w HK.out).mono ?_
    rintro e w1 ⟨rfl, hb⟩
    have HB1 := Lib.hid hb
    clear hb i1
    go_wp2_with fail
    refine (alongK_any d seed k F w1 HS.out HF.out).mono ?_
    rintro e w2 ⟨v, rfl, hrow, hb⟩
    have HTA := Lib.hid ((TextsAt.own hrow).low HB1.out.size)
    have HB2 := Lib.hid (bnext HB1.out hb)
    clear hb hrow
    go_wp2
    go_ret2
    exact ⟨v, by rw [HP.out.2]; rfl, by rw [← HP.out.1]; exact HTA.out, HB2.out⟩
  · have i1 : ¬ ((d.size : Nat) : Int) = 32 := by omega
    have HP : Hid (sgL seed k d = [] ∧ sgE d = 2) := Lib.hid ⟨if_neg h32, if_neg h32⟩
    clear hs hk h32
    go_enter Tryz.func85, Tryz.ntmps85
    go_wp2
    go_ret2
    exact ⟨_, by rw [HP.out.2]; rfl, by rw [HP.out.1]; exact TextsAt.nil _ _, by (repeat (first | exact Below.refl _ _ | assumption | (refine bdrew ?_) | (refine bdrewN ?_ _) | (refine balloc ?_ _) | (refine bset ?_ (by first | omega | (simp; done) | (simp; omega)) _) | (refine bnext ?_ (by assumption))))⟩
theorem len32w_any (s : ByteArray) (w : World) : Calls Tryz.prog 121 #[.string s] w fun e w' => e = .returned (.bool (!decide ((s.size : Int) = 32))) ∧ w = w' := by
  go_enter Tryz.func121, Tryz.ntmps121
  go_wp2
  go_ret
  exact ⟨by first | rfl | simp, rfl⟩
set_option maxRecDepth 100000 in
set_option maxHeartbeats 4000000 in
theorem rec2_any (ws : List ByteArray) (b : Nat) (a : Option Addr) (c : Nat) (i q : Nat) (w : World) (hb : w.heap[b]? = some (.cells #[.slice a (len ws) c] 22 (0, 0))) (hw : Txts w a ws) (hi : i < 67) (hn : len ws = 67) (hz : (tth ws i).size = 32) (hq : q ≤ 15) : Calls Tryz.prog 122 #[.int .i64 (i : Nat), .int .i64 (q : Nat), .pointer (some ⟨b, 0, none⟩)] w fun e w' => e = .returned (.string (walkC i q (15 - q) (tth ws i))) ∧ Below w.heap.size w w' := by
  obtain ⟨sb, so, rfl, hc⟩ := hw i (by omega)
  rw [hn] at hb
  have c0 : w.cell? ⟨b, 0, none⟩ = some (.slice (some ⟨sb, so, none⟩) 67 c) := block_cell hb 0
  have bl : ¬ (67 : Int) ≤ (i : Int) := by omega
  obtain ⟨s, hs⟩ : ∃ s, tth ws i = s := ⟨_, rfl⟩
  rw [hs] at hc hz ⊢
  have HZ := Lib.hid hz
  have HI := Lib.hid hi
  have HQ := Lib.hid hq
  clear hb hw hn hz hs hi hq
  go_enter Tryz.func122, Tryz.ntmps122
  go_wp2_with fail
  have h9 := walk12_any i q (15 - q) s w (by have := HI.out; omega) (by have := HQ.out; omega) (by rw [HZ.out]; decide)
  rw [show q + (15 - q) = 15 by have := HQ.out; omega, show ((15 : Nat) : Int) = 15 from rfl] at h9
  refine h9.mono ?_
  rintro e w1 ⟨rfl, hb⟩
  have HB := Lib.hid hb
  clear hb h9
  go_wp2
  go_ret
  exact ⟨rfl, HB.out⟩
theorem wotsB_bad {ws : List ByteArray} (h : badB ws = true) : wotsB ws = false := by
  obtain ⟨s, hs, hz⟩ := of_decide_eq_true h
  cases e : wotsB ws with
  | false => rfl
  | true =>
    have h1 := (wotsB_at e)
    unfold wotsB at e
    rw [Bool.and_eq_true] at e
    exact absurd (of_decide_eq_true (List.all_eq_true.1 e.2 s hs)) hz
theorem wotsB_good {ws : List ByteArray} (h : len ws = 67) (hb : badB ws = false) : wotsB ws = true ∧ ∀ i, i < 67 → (tth ws i).size = 32 := by
  have h0 : ∀ s ∈ ws, s.size = 32 := fun s hs => by
    by_cases e : s.size = 32
    · exact e
    · exact absurd ⟨s, hs, e⟩ (of_decide_eq_false hb)
  refine ⟨by unfold wotsB; rw [Bool.and_eq_true]; exact ⟨decide_eq_true h, List.all_eq_true.2 fun s hs => decide_eq_true (h0 s hs)⟩, fun i hi => ?_⟩
  have hi2 : i < ws.length := by rw [← len_eq, h]; exact hi
  rw [tth_eq ws i hi2]
  exact h0 _ (List.getElem_mem hi2)
set_option maxRecDepth 100000 in
set_option maxHeartbeats 4000000 in
theorem recover_any (ws : List ByteArray) (a : Option Addr) (sc : Nat) (d : ByteArray) (w : World) (hw : Txts w a ws) (hn : len ws ≤ 1000000) : Calls Tryz.prog 74 #[.slice a (len ws) sc, .string d] w fun e w' => e = .returned (.tuple #[.string (recS ws d), .int .i64 (recE ws d)]) ∧ Below w.heap.size w w' := by
  have HW := Lib.hid hw
  have HN := Lib.hid hn
  clear hw
  by_cases h32 : d.size = 32
  · have HD := Lib.hid h32
    have i1 : ((d.size : Nat) : Int) = 32 := by omega
    by_cases h67 : len ws = 67
    · have HW67 := Lib.hid h67
      have HBA := Lib.hid (fun w9 (hx : Txts w9 a ws) => badF_any _ (enters_of Tryz.func121 (by kernel_rfl) rfl) len32w_any a sc ws w9 hx (by omega))
      rw [h67] at HBA ⊢
      clear h67 h32 hn
      go_enter Tryz.func74, Tryz.ntmps74
      go_wp2_with fail
      refine (HBA.out _ (HW.out.below (balloc (Below.refl _ _) _))).mono ?_
      rintro e w1 ⟨rfl, rfl⟩
      cases hbb : badB ws with
      | true =>
        have HX : Hid (recS ws d = ⟨#[]⟩ ∧ recE ws d = 10) := Lib.hid (by unfold recS recE; rw [wotsB_bad hbb, if_pos HD.out]; exact ⟨if_neg (fun h => by cases h.2), rfl⟩)
        clear hbb
        go_wp2
        go_ret2
        exact ⟨by rw [HX.out.1, HX.out.2]; rfl, by (repeat (first | exact Below.refl _ _ | assumption | (refine bdrew ?_) | (refine bdrewN ?_ _) | (refine balloc ?_ _) | (refine bset ?_ (by first | omega | (simp; done) | (simp; omega)) _) | (refine bnext ?_ (by assumption))))⟩
      | false =>
        have hg := wotsB_good HW67.out hbb
        have HX : Hid (recS ws d = recovP ws d ∧ recE ws d = 0) := Lib.hid (by unfold recS recE; rw [hg.1, if_pos HD.out]; exact ⟨if_pos ⟨HD.out, rfl⟩, rfl⟩)
        have HSZ := Lib.hid hg.2
        obtain ⟨F, hF⟩ : ∃ F : Nat → ByteArray, (fun i => walkC i (digN d i) (15 - digN d i) (tth ws i)) = F := ⟨_, rfl⟩
        have HFS : Hid (∀ i, i < 67 → (F i).size = 32) := Lib.hid (fun i hi => by rw [← hF]; exact walkC_size _ _ _ _ (hg.2 i hi))
        have HP : Hid (hashP publicT (chL F 67) = recovP ws d) := Lib.hid (by rw [← hF]; rfl)
        have HAL : Hid (∀ w2 b, w2.heap[b]? = some (.cells #[.slice a 67 sc] 22 (0, 0)) → Txts w2 a ws → Calls Tryz.prog 88 #[.string d, .func (.func 122) #[] #[.pointer (some ⟨b, 0, none⟩)]] w2 (AlIs F w2)) := Lib.hid (fun w2 b hb hx =>
          along_any d _ _ _ F w2 (enters_of Tryz.func122 (by kernel_rfl) rfl) (fun i hi w3 hb3 => by
            have h9 := rec2_any ws b a sc i (digD d i) w3 (by rw [HW67.out]; exact (hb3.block _ (lt_of_block hb)).trans hb) (hx.below hb3) hi HW67.out (HSZ.out i hi) (digD_le d i)
            rw [show walkC i (digD d i) (15 - digD d i) (tth ws i) = F i by rw [← hF, digD_yes HD.out]] at h9
            exact h9))
        clear hF hg hbb
        go_wp2_with fail
        refine (HAL.out _ _ (heap_alloc_new _ _) (HW.out.below (balloc (Below.refl _ _) _))).mono ?_
        rintro e w2 ⟨v, rfl, hrow, hb⟩
        obtain ⟨aa, ca, hv, hta, hca, -⟩ := TextsAre.own hrow
        rw [chL_len] at hv
        subst hv
        have HTA := Lib.hid hta
        have HB2 : Hid (Below w.heap.size w w2) := Lib.hid (bnext (balloc (Below.refl _ _) _) hb)
        clear hb hrow hta hca
        go_wp2_with fail
        have h9 := hash_any publicT (chL F 67) aa ca w2 (by decide) (by decide) HTA.out (chL_parts2 F HFS.out)
        rw [chL_len, HP.out] at h9
        refine h9.mono ?_
        rintro e w3 ⟨rfl, hb⟩
        have HB3 : Hid (Below w.heap.size w w3) := Lib.hid (bnext HB2.out hb)
        clear hb h9
        go_wp2
        go_ret2
        exact ⟨by rw [HX.out.1, HX.out.2]; rfl, HB3.out⟩
    · have i2 : ¬ ((len ws : Nat) : Int) = 67 := by omega
      have HX : Hid (recS ws d = ⟨#[]⟩ ∧ recE ws d = 10) := Lib.hid (by unfold recS recE; rw [wotsB_len h67, if_pos HD.out]; exact ⟨if_neg (fun h => by cases h.2), rfl⟩)
      go_enter Tryz.func74, Tryz.ntmps74
      go_wp2
      go_ret2
      exact ⟨by rw [HX.out.1, HX.out.2]; rfl, by (repeat (first | exact Below.refl _ _ | assumption | (refine bdrew ?_) | (refine bdrewN ?_ _) | (refine balloc ?_ _) | (refine bset ?_ (by first | omega | (simp; done) | (simp; omega)) _) | (refine bnext ?_ (by assumption))))⟩
  · have i1 : ¬ ((d.size : Nat) : Int) = 32 := by omega
    have HX : Hid (recS ws d = ⟨#[]⟩ ∧ recE ws d = 2) := Lib.hid (by unfold recS recE; rw [if_neg h32]; exact ⟨if_neg (fun h => h32 h.1), rfl⟩)
    go_enter Tryz.func74, Tryz.ntmps74
    go_wp2
    go_ret2
    exact ⟨by rw [HX.out.1, HX.out.2]; rfl, by (repeat (first | exact Below.refl _ _ | assumption | (refine bdrew ?_) | (refine bdrewN ?_ _) | (refine balloc ?_ _) | (refine bset ?_ (by first | omega | (simp; done) | (simp; omega)) _) | (refine bnext ?_ (by assumption))))⟩
end Go.Proofs.YtoafjbillcooiaaGreat
namespace Go.Proofs.YtoafjbillcooiaaGreat
open Go.RowKit
set_option linter.unusedSimpArgs false
set_option linter.unusedVariables false
set_option maxRecDepth 100000 in
set_option maxHeartbeats 4000000 in
theorem lfirst_any (n rb : Nat) (F : Nat → FuncId) (C : Nat → Array Value) (I : Nat → World → Prop) (Q : Int → World → Prop) (w : World)
    (hn : n ≤ 100)
    (eg : ∀ k args w, (callFunc (F k) args).run Tryz.prog w = .ok (.enter (F k) args) w)
    (hI : ∀ k w1 w2, I k w1 → Below w1.heap.size w1 w2 → I k w2)
    (hc : ∀ k, k < n → ∀ w1, I k w1 → w1.cell? ⟨rb, k, none⟩ = some (.func (.func (F k)) #[] (C k)))
    (h0 : I 0 w)
    (hs : ∀ k, k < n → ∀ w1, w.heap.size ≤ w1.heap.size → I k w1 → Calls Tryz.prog (F k) (C k) w1 fun e w2 => ∃ x, e = .returned (.int .i64 x) ∧ (x = 0 → I (k + 1) w2) ∧ (x ≠ 0 → Q x w2) ∧ w.heap.size ≤ w2.heap.size)
    (hq : ∀ w1, I n w1 → Q 0 w1) :
    Calls Tryz.prog 78 #[.slice (some ⟨rb, 0, none⟩) n n] w fun e w' => ∃ x, e = .returned (.int .i64 x) ∧ Q x w' := by
  have HI := Lib.hid hI
  have HC := Lib.hid hc
  have H0 := Lib.hid h0
  have HS := Lib.hid hs
  have HQ := Lib.hid hq
  have HN := Lib.hid hn
  have EG := Lib.hid eg
  clear hI hc h0 hs hq hn eg
  go_enter Tryz.func78, Tryz.ntmps78
  go_wp2
  go_loopg [8] n (fun gg i wr => ∃ m : Nat, gg + m = n ∧ i = .int .i64 (m : Nat) ∧ Hid (I m wr) ∧ Hid (w.heap.size ≤ wr.heap.size))
  case atStart => exact ⟨0, rfl, rfl, H0, Lib.hid (Nat.le_refl _)⟩
  case round =>
    obtain ⟨m, hm, rfl, HM, HW⟩ := hrel
    by_cases hlt : m < n
    · have b0 : (m : Int) < n := by omega
      have c0 := HC.out m hlt wr HM.out
      have HLT := Lib.hid hlt
      have HNN := HN.out
      have egm := EG.out m
      go_wp2_with fail
      refine (HS.out m HLT.out wr HW.out HM.out).mono ?_
      rintro e w1 ⟨x, rfl, hy, hn, hk⟩
      have HK1 : Hid (w.heap.size ≤ w1.heap.size) := Lib.hid hk
      clear hk egm c0
      by_cases hx : x = 0
      · have HI1 := Lib.hid (hy hx)
        subst hx
        clear hy hn
        go_wp2
        go_roundg (gk - 1)
        case rel => exact ⟨m + 1, by have := HLT.out; omega, by have := HLT.out; go_num, HI1, HK1⟩
        case measure => have := HLT.out; omega
      · have HQ1 := Lib.hid (hn hx)
        clear hy hn
        go_wp2
        go_ret
        exact ⟨_, rfl, HQ1.out⟩
    · obtain rfl : m = n := by omega
      have b0 : ¬ ((m : Nat) : Int) < (m : Nat) := by omega
      go_wp2
      go_ret
      exact ⟨0, rfl, HQ.out _ HM.out⟩
end Go.Proofs.YtoafjbillcooiaaGreat
namespace Go.Proofs.YtoafjbillcooiaaGreat
open Go.RowKit
set_option linter.unusedSimpArgs false
set_option linter.unusedVariables false
set_option maxRecDepth 100000 in
theorem rung_any (k : Nat) (s : ByteArray) (w : World) (hk : k < 18446744073709551616) (hs : s.size ≤ 1000) : Calls Tryz.prog 77 #[.int .u64 (k : Nat), .string s] w fun e w' => e = .returned (.string (num8S k ++ s)) ∧ Below w.heap.size w w' := by
  have HS := Lib.hid hs
  have HK := Lib.hid hk
  clear hs hk
  go_enter Tryz.func77, Tryz.ntmps77
  go_wp2_with fail
  refine (dnum_any k w HK.out).mono ?_
  rintro e w1 ⟨rfl, hb⟩
  have HB := Lib.hid hb
  have q2 : (num8S k).size + s.size ≤ 9223372036854775807 := by rw [num8S_size]; have := HS.out; omega
  clear hb
  go_wp2
  go_ret
  exact ⟨rfl, HB.out⟩
set_option maxRecDepth 100000 in
theorem rrung_any (k : Nat) (s : ByteArray) (w : World) (hk : k < 18446744073709551616) (hs : s.size ≤ 1000) : Calls Tryz.prog 63 #[.int .u64 (k : Nat), .string s] w fun e w' => e = .returned (.string (num8S k ++ s)) ∧ Below w.heap.size w w' := by
  have HS := Lib.hid hs
  have HK := Lib.hid hk
  clear hs hk
  go_enter Tryz.func63, Tryz.ntmps63
  go_wp2_with fail
  refine (rnum_any k w HK.out).mono ?_
  rintro e w1 ⟨rfl, hb⟩
  have HB := Lib.hid hb
  have q2 : (num8S k).size + s.size ≤ 9223372036854775807 := by rw [num8S_size]; have := HS.out; omega
  clear hb
  go_wp2
  go_ret
  exact ⟨rfl, HB.out⟩
structure LadAt (seed : ByteArray) (f L K b tb : Nat) (w : World) : Prop where
  c : w.heap[b]? = some (.cells #[.int .u64 (f : Nat), .int .u64 (L : Nat), .int .u64 (K : Nat), .pointer (some ⟨tb, 0, none⟩), .string seed] 129 (0, 0))
  t : TreeAt (rungL seed K) tb w
theorem LadAt.below {seed : ByteArray} {f L K b tb : Nat} {w w' : World} (h : LadAt seed f L K b tb w) (hb : Below w.heap.size w w') : LadAt seed f L K b tb w' :=
  ⟨(hb.block _ (lt_of_block h.c)).trans h.c, h.t.below hb⟩
set_option maxRecDepth 100000 in
theorem lroot14_any (seed : ByteArray) (f L K b tb : Nat) (w : World) (h : LadAt seed f L K b tb w) : Calls Tryz.prog 35 #[.pointer (some ⟨b, 0, none⟩)] w fun e w' => e = .returned (.string (ladR seed K)) ∧ Below w.heap.size w w' := by
  have HR := Lib.hid (root_any (rungL seed K) tb w h.t)
  have c3 : w.cell? ⟨b, 3, none⟩ = some (.pointer (some ⟨tb, 0, none⟩)) := block_cell h.c 3
  clear h
  go_enter Tryz.func35, Tryz.ntmps35
  go_wp2_with fail
  refine HR.out.mono ?_
  rintro e w1 ⟨rfl, rfl⟩
  clear c3
  go_wp2
  go_ret
  exact ⟨rfl, by (repeat (first | exact Below.refl _ _ | assumption | (refine bdrew ?_) | (refine bdrewN ?_ _) | (refine balloc ?_ _) | (refine bset ?_ (by first | omega | (simp; done) | (simp; omega)) _) | (refine bnext ?_ (by assumption))))⟩
end Go.Proofs.YtoafjbillcooiaaGreat
namespace Go.Proofs.YtoafjbillcooiaaGreat
open Go.RowKit
set_option linter.unusedSimpArgs false
set_option linter.unusedVariables false
theorem turnedZ_in {k d : Nat} (hd : d ≤ 16) (hk : k < 2 ^ d) : turnedZ (k : Nat) (d : Nat) = ((revOf k d : Nat) : Int) := by
  unfold turnedZ
  rw [if_pos ⟨by omega, by omega, by rw [Int.toNat_natCast, pow_cast]; exact_mod_cast hk⟩]
  rfl
set_option maxRecDepth 100000 in
set_option maxHeartbeats 4000000 in
theorem rdigest_zero (els : List ByteArray) (a : Option Addr) (cap d k : Nat) (w : World) (hd : d ≤ 16) (hn : len els ≤ 65536) (hz : ∀ i, i < len els → (tth els i).size ≤ 140737488355200) (hk : k < 2 ^ d) (ht : Txts w a els) :
    Calls Tryz.prog 87 #[.slice a (len els) cap, .int .i64 (d : Nat), .int .i64 0, .int .u64 (k : Nat)] w fun e w' => e = .returned (.string (plD els d 0 k)) ∧ Below w.heap.size w w' := by
  have hk2 : k < 65536 := Nat.lt_of_lt_of_le hk (Nat.pow_le_pow_right (by decide) hd)
  have HE := Lib.hid (refElement_any (k : Nat) (d : Nat) w (by omega) (by omega) (by omega) (by omega))
  rw [turnedZ_in hd hk] at HE
  obtain ⟨r, hr⟩ : ∃ r, revOf k d = r := ⟨_, rfl⟩
  rw [hr] at HE
  by_cases hlt : r < len els
  · have HP : Hid (plD els d 0 k = hashP leafT [tth els r]) := Lib.hid (by
      show (if revOf k d < len els then hashP leafT [tth els (revOf k d)] else hashP noneT []) = _
      rw [hr, if_pos hlt])
    have b0 : (r : Int) < len els := by omega
    have b1 : ¬ (len els : Int) ≤ (r : Int) := by omega
    obtain ⟨bb, off, rfl, hcell⟩ := ht r hlt
    have HZ := Lib.hid (hz r hlt)
    obtain ⟨s, hs⟩ : ∃ s, tth els r = s := ⟨_, rfl⟩
    rw [hs] at HP HZ hcell
    have w8 : IntKind.u64.wrap ((len els : Nat) : Int) = ((len els : Nat) : Int) := IntWalk.u64_in _ (by omega)
    have lc := lt_of_cell hcell
    have wr1 : IntKind.i64.wrap ((r : Nat) : Int) = ((r : Nat) : Int) := IntWalk.i64_in _ (by omega)
    clear hd hn hz hk ht hr hs hk2
    go_enter Tryz.func87, Tryz.ntmps87
    go_wp2_with fail
    refine HE.out.mono ?_
    rintro e w1 ⟨rfl, rfl⟩
    go_wp2_with fail
    refine (rhash1_any leafT s w (by decide) (by decide) HZ.out).mono ?_
    rintro e w2 ⟨rfl, hb2⟩
    have HB2 := Lib.hid hb2
    clear hb2
    go_wp2
    go_ret
    exact ⟨by rw [HP.out]; rfl, HB2.out⟩
  · have HP : Hid (plD els d 0 k = hashP noneT []) := Lib.hid (by
      show (if revOf k d < len els then hashP leafT [tth els (revOf k d)] else hashP noneT []) = _
      rw [hr, if_neg hlt])
    have b1 : (len els : Int) ≤ (r : Int) := by omega
    have w8 : IntKind.u64.wrap ((len els : Nat) : Int) = ((len els : Nat) : Int) := IntWalk.u64_in _ (by omega)
    clear hd hn hz hk ht hr hk2
    go_enter Tryz.func87, Tryz.ntmps87
    go_wp2_with fail
    refine HE.out.mono ?_
    rintro e w1 ⟨rfl, rfl⟩
    go_wp2_with fail
    refine (rhash0_any noneT w (by decide) (by decide)).mono ?_
    rintro e w2 ⟨rfl, hb2⟩
    have HB2 := Lib.hid hb2
    clear hb2
    go_wp2
    go_ret
    exact ⟨by rw [HP.out]; rfl, HB2.out⟩
set_option maxRecDepth 100000 in
set_option maxHeartbeats 4000000 in
theorem rdigest_any (els : List ByteArray) (a : Option Addr) (cap d : Nat) (hd : d ≤ 16) (hn : len els ≤ 65536) (hz : ∀ i, i < len els → (tth els i).size ≤ 140737488355200) : ∀ (l k : Nat) (w : World), l ≤ d → k < 2 ^ (d - l) → Txts w a els →
    Calls Tryz.prog 87 #[.slice a (len els) cap, .int .i64 (d : Nat), .int .i64 (l : Nat), .int .u64 (k : Nat)] w fun e w' => e = .returned (.string (plD els d l k)) ∧ Below w.heap.size w w'
  | 0, k, w, hl, hk, ht => rdigest_zero els a cap d k w hd hn hz hk ht
  | l + 1, k, w, hl, hk, ht => by
    have hp : 2 ^ (d - l) = 2 * 2 ^ (d - (l + 1)) := by rw [show d - l = d - (l + 1) + 1 by omega, Nat.pow_succ]; omega
    have hk2 : 2 ^ (d - l) ≤ 65536 := Nat.pow_le_pow_right (by decide) (show d - l ≤ 16 by omega)
    obtain ⟨k0, hk0⟩ : ∃ k0, 2 * k = k0 := ⟨_, rfl⟩
    obtain ⟨k1, hk1⟩ : ∃ k1, 2 * k + 1 = k1 := ⟨_, rfl⟩
    obtain ⟨m, hm⟩ : ∃ m, l + 1 = m := ⟨_, rfl⟩
    have f1 : IntKind.u64.wrap (2 * ((k : Nat) : Int)) = ((k0 : Nat) : Int) := by rw [IntWalk.u64_in _ (by omega)]; omega
    have f2 : IntKind.u64.wrap (((k0 : Nat) : Int) + 1) = ((k1 : Nat) : Int) := by rw [IntWalk.u64_in _ (by omega)]; omega
    have l1 : (0 : Int) < ((m : Nat) : Int) := by omega
    have l2 : IntKind.i64.wrap (((m : Nat) : Int) - 1) = ((l : Nat) : Int) := by rw [IntWalk.i64_in _ (by omega)]; omega
    have IH1 := Lib.hid (fun w9 h9 => rdigest_any els a cap d hd hn hz l (2 * k) w9 (by omega) (by omega) h9)
    have IH2 := Lib.hid (fun w9 h9 => rdigest_any els a cap d hd hn hz l (2 * k + 1) w9 (by omega) (by omega) h9)
    have HT := Lib.hid ht
    obtain ⟨X, hX⟩ : ∃ X, plD els d l (2 * k) = X := ⟨_, rfl⟩
    obtain ⟨Y, hY⟩ : ∃ Y, plD els d l (2 * k + 1) = Y := ⟨_, rfl⟩
    have HP : Hid (plD els d (l + 1) k = hashP nodeT [X, Y]) := Lib.hid (by rw [← hX, ← hY]; rfl)
    have HXS : Hid (X.size ≤ 1000000) := Lib.hid (by rw [← hX, plD_size]; decide)
    have HYS : Hid (Y.size ≤ 1000000) := Lib.hid (by rw [← hY, plD_size]; decide)
    rw [hX, hk0] at IH1
    rw [hY, hk1] at IH2
    rw [hm] at HP ⊢
    clear hX hY ht hk hp hk2 hd hn hz hl hk0 hk1 hm
    go_enter Tryz.func87, Tryz.ntmps87
    go_wp2_with fail
    refine (IH1.out w HT.out).mono ?_
    rintro e w1 ⟨rfl, hb1⟩
    have HB1 := Lib.hid hb1
    have HT1 := Lib.hid (HT.out.below hb1)
    clear hb1
    go_wp2_with fail
    refine (IH2.out w1 HT1.out).mono ?_
    rintro e w2 ⟨rfl, hb2⟩
    have HB2 : Hid (Below w.heap.size w w2) := Lib.hid (bnext HB1.out hb2)
    clear hb2
    go_wp2_with fail
    refine (rhash2_any nodeT X Y w2 (by decide) (by decide) HXS.out HYS.out).mono ?_
    rintro e w3 ⟨rfl, hb3⟩
    have HB3 : Hid (Below w.heap.size w w3) := Lib.hid (bnext HB2.out hb3)
    clear hb3
    go_wp2
    go_ret
    exact ⟨by rw [HP.out]; rfl, HB3.out⟩
end Go.Proofs.YtoafjbillcooiaaGreat
namespace Go.Proofs.YtoafjbillcooiaaGreat
open Go.RowKit
set_option linter.unusedSimpArgs false
set_option linter.unusedVariables false
structure RLadAt (seed : ByteArray) (f L K b : Nat) (la : Option Addr) (lc : Nat) (w : World) : Prop where
  c : w.heap[b]? = some (.cells #[.string seed, .int .u64 (f : Nat), .int .u64 (L : Nat), .slice la K lc] 77 (0, 0))
  t : Txts w la (rungL seed K)
theorem RLadAt.below {seed : ByteArray} {f L K b : Nat} {la : Option Addr} {lc : Nat} {w w' : World} (h : RLadAt seed f L K b la lc w) (hb : Below w.heap.size w w') : RLadAt seed f L K b la lc w' :=
  ⟨(hb.block _ (lt_of_block h.c)).trans h.c, h.t.below hb⟩
set_option maxRecDepth 100000 in
theorem rroot14_any (seed : ByteArray) (f L K b : Nat) (la : Option Addr) (lc : Nat) (w : World) (h : RLadAt seed f L K b la lc w) (hK : K ≤ 64) : Calls Tryz.prog 36 #[.pointer (some ⟨b, 0, none⟩)] w fun e w' => e = .returned (.string (ladR seed K)) ∧ Below w.heap.size w w' := by
  have H := Lib.hid h
  have HK := Lib.hid hK
  have c3 : w.cell? ⟨b, 3, none⟩ = some (.slice la K lc) := block_cell h.c 3
  have HD : Hid (depthZ (K : Nat) = ((depN (rungL seed K) : Nat) : Int)) := Lib.hid (by have h1 := depthZ_len (els := rungL seed K) (by rw [rungL_len]; omega); rw [rungL_len] at h1; exact h1)
  have HDL : Hid (depN (rungL seed K) ≤ 16) := Lib.hid (depN_le (by rw [rungL_len]; omega))
  clear h hK
  go_enter Tryz.func36, Tryz.ntmps36
  go_wp2_with fail
  refine (refDepth_any (K : Nat) w (by omega) (by have := HK.out; omega)).mono ?_
  rintro e w1 ⟨rfl, rfl⟩
  rw [HD.out]
  go_wp2_with fail
  have h9 := rdigest_any (rungL seed K) la lc (depN (rungL seed K)) HDL.out (by rw [rungL_len]; have := HK.out; omega) (fun i hi => by rw [rungL_len] at hi; rw [rungL_at _ _ _ hi, rungP_size]; decide) (depN (rungL seed K)) 0 w (Nat.le_refl _) (by rw [Nat.sub_self]; decide) H.out.t
  rw [rungL_len, show ((0 : Nat) : Int) = 0 from rfl] at h9
  refine h9.mono ?_
  rintro e w2 ⟨rfl, hb⟩
  have HB := Lib.hid hb
  clear hb h9 c3
  go_wp2
  go_ret
  exact ⟨rfl, HB.out⟩
set_option maxRecDepth 100000 in
set_option maxHeartbeats 4000000 in
theorem rkeyM_any (seed : ByteArray) (f L K b r : Nat) (la : Option Addr) (lc : Nat) (w : World) (h : RLadAt seed f L K b la lc w) (hK : K ≤ 64) (hf : f < 18446744073709551616) (hr : r < 18446744073709551616) (hL : 0 < L) : Calls Tryz.prog 38 #[.pointer (some ⟨b, 0, none⟩), .int .u64 (r : Nat)] w fun e w' => e = .returned (keyV (keyO f L K r)) ∧ Below w.heap.size w w' := by
  have c1 : w.cell? ⟨b, 1, none⟩ = some (.int .u64 (f : Nat)) := block_cell h.c 1
  have c2 : w.cell? ⟨b, 2, none⟩ = some (.int .u64 (L : Nat)) := block_cell h.c 2
  have c3 : w.cell? ⟨b, 3, none⟩ = some (.slice la K lc) := block_cell h.c 3
  have k2 : IntKind.u64.wrap ((K : Nat) : Int) = (K : Int) := IntWalk.u64_in _ (by omega)
  unfold keyV
  obtain ⟨x, hx⟩ : ∃ x, Value.int .u64 (((keyO f L K r).getD 0 : Nat) : Int) = x := ⟨_, rfl⟩
  obtain ⟨y, hy⟩ : ∃ y, Value.bool (keyO f L K r).isSome = y := ⟨_, rfl⟩
  rw [hx, hy]
  have HK9 : Hid (∀ wv : World, Calls Tryz.prog 79 #[.int .u64 (f : Nat), .int .u64 (L : Nat), .int .u64 (K : Nat), .int .u64 (r : Nat)] wv fun e w' => e = .returned (.tuple #[x, y]) ∧ Below wv.heap.size wv w') := Lib.hid (fun wv => by
    have h9 := rkey14_any f L K r wv hf hr hL
    unfold keyV at h9
    rw [hx, hy] at h9
    exact h9)
  clear h hx hy
  go_enter Tryz.func38, Tryz.ntmps38
  go_upto_region 1 with fail
  refine wp_region_all 1000 (none) (phis (List.map qv [.pointer (some ⟨b, 0, none⟩), .pointer (some ⟨b, 0, none⟩), .pointer (some ⟨b, 1, none⟩), .int .u64 (f : Nat), .pointer (some ⟨b, 0, none⟩), .pointer (some ⟨b, 0, none⟩), .pointer (some ⟨b, 2, none⟩), .int .u64 (L : Nat), .pointer (some ⟨b, 0, none⟩), .pointer (some ⟨b, 0, none⟩), .pointer (some ⟨b, 3, none⟩), .slice la K lc, .int .i64 (K : Nat), .int .u64 (K : Nat), .int .u64 (r : Nat), .tuple #[x, y], x, y, x, y])) rfl (by kernel_rfl) (mono_of mono_qv) (steps_of 20 ⟨?s0, ?s1, ?s2, ?s3, ?s4, ?s5, ?s6, ?s7, ?s8, ?s9, ?s10, ?s11, ?s12, ?s13, ?s14, ?s15, ?s16, ?s17, ?s18, ?s19, trivial⟩) ?_
  case s0 =>
    refine qV (fun _ => rfl) rfl fun av wv hE hO hD => ?_
    simp [go_sem, qF av 0 (.pointer (some ⟨b, 0, none⟩)) (hO.2.2 0 rfl), k2]
  case s1 =>
    refine qV (fun _ => rfl) rfl fun av wv hE hO hD => ?_
    simp [go_sem, qE (hD.1 rfl _ rfl), k2]
  case s2 =>
    refine qV (fun _ => rfl) rfl fun av wv hE hO hD => ?_
    simp [go_sem, qE (hD.1 rfl _ rfl), k2]
  case s3 =>
    refine qV (fun _ => rfl) rfl fun av wv hE hO hD => ?_
    simp [go_sem, qE (hD.1 rfl _ rfl), extB_cell hE (by simp) c1, extB_cell hE (by simp) c2, extB_cell hE (by simp) c3, k2]
  case s4 =>
    refine qV (fun _ => rfl) rfl fun av wv hE hO hD => ?_
    simp [go_sem, qF av 0 (.pointer (some ⟨b, 0, none⟩)) (hO.2.2 0 rfl), k2]
  case s5 =>
    refine qV (fun _ => rfl) rfl fun av wv hE hO hD => ?_
    simp [go_sem, qE (hD.1 rfl _ rfl), k2]
  case s6 =>
    refine qV (fun _ => rfl) rfl fun av wv hE hO hD => ?_
    simp [go_sem, qE (hD.1 rfl _ rfl), k2]
  case s7 =>
    refine qV (fun _ => rfl) rfl fun av wv hE hO hD => ?_
    simp [go_sem, qE (hD.1 rfl _ rfl), extB_cell hE (by simp) c1, extB_cell hE (by simp) c2, extB_cell hE (by simp) c3, k2]
  case s8 =>
    refine qV (fun _ => rfl) rfl fun av wv hE hO hD => ?_
    simp [go_sem, qF av 0 (.pointer (some ⟨b, 0, none⟩)) (hO.2.2 0 rfl), k2]
  case s9 =>
    refine qV (fun _ => rfl) rfl fun av wv hE hO hD => ?_
    simp [go_sem, qE (hD.1 rfl _ rfl), k2]
  case s10 =>
    refine qV (fun _ => rfl) rfl fun av wv hE hO hD => ?_
    simp [go_sem, qE (hD.1 rfl _ rfl), k2]
  case s11 =>
    refine qV (fun _ => rfl) rfl fun av wv hE hO hD => ?_
    simp [go_sem, qE (hD.1 rfl _ rfl), extB_cell hE (by simp) c1, extB_cell hE (by simp) c2, extB_cell hE (by simp) c3, k2]
  case s12 =>
    refine qV (fun _ => rfl) rfl fun av wv hE hO hD => ?_
    simp [go_sem, qE (hD.1 rfl _ rfl), k2]
  case s13 =>
    refine qV (fun _ => rfl) rfl fun av wv hE hO hD => ?_
    simp [go_sem, qE (hD.1 rfl _ rfl), k2]
  case s14 =>
    refine qV (fun _ => rfl) rfl fun av wv hE hO hD => ?_
    simp [go_sem, qF av 1 (.int .u64 (r : Nat)) (hO.2.2 1 rfl), k2]
  case s15 =>
    refine step_wp (fun av wv hE hS hO hD => ⟨rfl, ?_⟩)
    have f9 := qE (hD.1 rfl _ rfl)
    have f13 := qE (hD.2.1 rfl _ rfl)
    have f19 := qE (hD.2.2.1 rfl _ rfl)
    have f20 := qE (hD.2.2.2.1 rfl _ rfl)
    refine wp_of_call (v := .tuple #[x, y]) (by simp [go_sem, f9, f13, f19, f20]) (HK9.out wv) (fun w2 hb => ⟨_, rfl, es_of_ext hb, rfl⟩)
  case s16 =>
    refine qV (fun _ => rfl) rfl fun av wv hE hO hD => ?_
    simp [go_sem, qE (hD.1 rfl _ rfl), k2]
  case s17 =>
    refine qV (fun _ => rfl) rfl fun av wv hE hO hD => ?_
    simp [go_sem, qE (hD.1 rfl _ rfl), k2]
  case s18 =>
    refine qV (fun _ => rfl) rfl fun av wv hE hO hD => ?_
    simp [go_sem, qE (hD.1 rfl _ rfl), k2]
  case s19 =>
    refine qV (fun _ => rfl) rfl fun av wv hE hO hD => ?_
    simp [go_sem, qE (hD.1 rfl _ rfl), k2]
  intro a' w' hE hO hall
  have hA := act_of_outer (ds := [6, 7, 8, 9, 10, 11, 12, 13, 14, 15, 16, 17, 18, 19, 20, 21, 22, 23, 4, 5]) rfl hO (by kernel_rfl)
  obtain ⟨j0, j1, j2, j3, j4, j5, j6, j7, j8, j9, j10, j11, j12, j13, j14, j15, j16, j17, j18, j19, -⟩ := hall
  simp only [List.foldl_cons, List.foldl_nil, Act.put, List.setIfInBounds_toArray, List.set_cons_succ, List.set_cons_zero, qJ 6 (j0 _ rfl), qJ 7 (j1 _ rfl), qJ 8 (j2 _ rfl), qJ 9 (j3 _ rfl), qJ 10 (j4 _ rfl), qJ 11 (j5 _ rfl), qJ 12 (j6 _ rfl), qJ 13 (j7 _ rfl), qJ 14 (j8 _ rfl), qJ 15 (j9 _ rfl), qJ 16 (j10 _ rfl), qJ 17 (j11 _ rfl), qJ 18 (j12 _ rfl), qJ 19 (j13 _ rfl), qJ 20 (j14 _ rfl), qJ 21 (j15 _ rfl), qJ 22 (j16 _ rfl), qJ 23 (j17 _ rfl), qJ 4 (j18 _ rfl), qJ 5 (j19 _ rfl)] at hA
  clear hO j0 j1 j2 j3 j4 j5 j6 j7 j8 j9 j10 j11 j12 j13 j14 j15 j16 j17 j18 j19
  subst hA
  have HBE := Lib.hid (of_drew hE)
  clear hE c1 c2 c3
  go_wp2
  go_ret2
  exact ⟨rfl, HBE.out⟩
end Go.Proofs.YtoafjbillcooiaaGreat
namespace Go.Proofs.YtoafjbillcooiaaGreat
open Go.RowKit
set_option linter.unusedSimpArgs false
set_option linter.unusedVariables false
theorem txts1 {w : World} {b : Nat} {x : ByteArray} {T : TypeId} {fr : Nat × Nat} (h : w.heap[b]? = some (.cells #[.string x] T fr)) : Txts w (some ⟨b, 0, none⟩) [x] := fun i hi => ⟨b, 0, rfl, by
  have hi : i < 1 := hi
  obtain rfl : i = 0 := by omega
  exact block_cell h 0⟩
theorem all32_one (s : ByteArray) : all32 [s] = decide (s.size = 32) := by unfold all32; simp
structure NwB (seed : ByteArray) (f L : Nat) (K : Int) (b0 b1 b2 b3 : Nat) (w : World) : Prop where
  s : w.heap[b0]? = some (.cells #[.string seed] 9 (0, 0))
  f : w.heap[b1]? = some (.cells #[.int .u64 (f : Nat)] 37 (0, 0))
  l : w.heap[b2]? = some (.cells #[.int .u64 (L : Nat)] 37 (0, 0))
  k : w.heap[b3]? = some (.cells #[.int .i64 K] 3 (0, 0))
theorem NwB.below {seed : ByteArray} {f L : Nat} {K : Int} {b0 b1 b2 b3 : Nat} {w w' : World} (h : NwB seed f L K b0 b1 b2 b3 w) (hb : Below w.heap.size w w') : NwB seed f L K b0 b1 b2 b3 w' :=
  ⟨(hb.block _ (lt_of_block h.s)).trans h.s, (hb.block _ (lt_of_block h.f)).trans h.f, (hb.block _ (lt_of_block h.l)).trans h.l, (hb.block _ (lt_of_block h.k)).trans h.k⟩
set_option maxRecDepth 100000 in
set_option maxHeartbeats 4000000 in
theorem new1_any (seed : ByteArray) (f L : Nat) (K : Int) (b0 b1 b2 b3 : Nat) (w : World) (h : NwB seed f L K b0 b1 b2 b3 w) : Calls Tryz.prog 82 #[.pointer (some ⟨b0, 0, none⟩), .pointer (some ⟨b2, 0, none⟩), .pointer (some ⟨b3, 0, none⟩)] w fun e w' => e = .returned (.int .i64 (if mayL seed.size L K = true then 0 else 2)) ∧ Below w.heap.size w w' := by
  have H := Lib.hid h
  have c0 : w.cell? ⟨b0, 0, none⟩ = some (.string seed) := block_cell h.s 0
  clear h
  obtain ⟨R, hR⟩ : ∃ R : Int, (if mayL seed.size L K = true then 0 else 2) = R := ⟨_, rfl⟩
  have HM : Hid (R = if (all32 [seed] && decide (0 < L) && decide (1 ≤ K) && decide (K ≤ 64)) = true then 0 else 2) := Lib.hid (by rw [all32_one]; exact hR.symm)
  rw [hR]
  clear hR
  go_enter Tryz.func82, Tryz.ntmps82
  go_wp2_with fail
  refine (digests_any [seed] (some ⟨w.heap.size, 0, none⟩) 1 _ (txts1 (heap_alloc_new _ _)) (show 1 ≤ 1000000 by decide)).mono ?_
  rintro e w1 ⟨rfl, hb⟩
  have HB : Hid (Below w.heap.size w w1) := Lib.hid (bnext (balloc (Below.refl _ _) _) hb)
  have H1 := H.out.below HB.out
  have c1 : w1.cell? ⟨b2, 0, none⟩ = some (.int .u64 (L : Nat)) := block_cell H1.l 0
  have c2 : w1.cell? ⟨b3, 0, none⟩ = some (.int .i64 K) := block_cell H1.k 0
  clear hb c0 H1
  obtain ⟨x1, e1⟩ : ∃ b, all32 [seed] = b := ⟨_, rfl⟩
  obtain ⟨x2, e2⟩ : ∃ b, decide (0 < L) = b := ⟨_, rfl⟩
  obtain ⟨x3, e3⟩ : ∃ b, decide (1 ≤ K) = b := ⟨_, rfl⟩
  obtain ⟨x4, e4⟩ : ∃ b, decide (K ≤ 64) = b := ⟨_, rfl⟩
  rw [e1, e2, e3, e4] at HM
  rw [e1]
  clear e1
  cases x1 <;> cases x2 <;> cases x3 <;> cases x4
  all_goals
    go_wp2_with fail
    refine (unless_any _ 2 w1).mono ?_
    rintro e w2 ⟨rfl, hb⟩
    have HB2 := Lib.hid (bnext HB.out hb)
    clear hb c1 c2
    go_wp2
    go_ret
    exact ⟨by rw [HM.out]; rfl, HB2.out⟩
set_option maxRecDepth 100000 in
set_option maxHeartbeats 4000000 in
theorem new2_any (seed : ByteArray) (f L K : Nat) (b0 b1 b2 b3 : Nat) (w : World) (h : NwB seed f L (K : Nat) b0 b1 b2 b3 w) (hf : f < 18446744073709551616) (hK0 : 0 < K) (hK : K ≤ 64) : Calls Tryz.prog 83 #[.pointer (some ⟨b2, 0, none⟩), .pointer (some ⟨b1, 0, none⟩), .pointer (some ⟨b3, 0, none⟩)] w fun e w' => e = .returned (.int .i64 (if fitsL f L K = true then 0 else 21)) ∧ Below w.heap.size w w' := by
  have c0 : w.cell? ⟨b2, 0, none⟩ = some (.int .u64 (L : Nat)) := block_cell h.l 0
  have c1 : w.cell? ⟨b1, 0, none⟩ = some (.int .u64 (f : Nat)) := block_cell h.f 0
  have c2 : w.cell? ⟨b3, 0, none⟩ = some (.int .i64 (K : Nat)) := block_cell h.k 0
  obtain ⟨x, hx0⟩ : ∃ x, fitsL f L K = x := ⟨_, rfl⟩
  rw [hx0]
  unfold fitsL at hx0
  obtain ⟨d, hd⟩ : ∃ d, 18446744073709551615 - f = d := ⟨_, rfl⟩
  obtain ⟨q, hq⟩ : ∃ q, d / K = q := ⟨_, rfl⟩
  rw [hd, hq] at hx0
  have hx : decide (L ≤ q) = x := hx0
  have k1 : IntKind.u64.wrap (18446744073709551615 - ((f : Nat) : Int)) = (d : Int) := by rw [IntWalk.u64_in _ (by omega)]; omega
  have k2 : IntKind.u64.wrap ((K : Nat) : Int) = (K : Int) := IntWalk.u64_in _ (by omega)
  have k3 : Int.tdiv ((d : Nat) : Int) ((K : Nat) : Int) = (q : Int) := by rw [← hq]; exact (Int.ofNat_tdiv d K).symm
  have k4 : ((d : Nat) : Int) / ((K : Nat) : Int) = (q : Int) := by rw [← hq]; exact (Int.natCast_ediv d K).symm
  have hqd : q ≤ d := by rw [← hq]; exact Nat.div_le_self _ _
  have k5 : IntKind.u64.wrap ((q : Nat) : Int) = (q : Int) := IntWalk.u64_in _ (by omega)
  have k6 : K ≠ 0 := by omega
  obtain ⟨R, hR⟩ : ∃ R : Int, (if x = true then 0 else 21) = R := ⟨_, rfl⟩
  rw [hR]
  have HU : Hid (∀ wv : World, Calls Tryz.prog 69 #[.bool x, .int .i64 21] wv fun e w' => e = .returned (.int .i64 R) ∧ Below wv.heap.size wv w') := Lib.hid (fun wv => by
    have h9 := unless_any x 21 wv
    rw [hR] at h9
    exact h9)
  clear h hx0 hd hq hqd hR
  go_enter Tryz.func83, Tryz.ntmps83
  go_upto_region 1 with fail
  refine wp_region_all 1000 (none) (phis (List.map qv [.int .u64 (L : Nat), .int .u64 (f : Nat), .int .u64 (d : Nat), .int .i64 (K : Nat), .int .u64 (K : Nat), .int .u64 (q : Nat), .bool x, .int .i64 R, .int .i64 R])) rfl (by kernel_rfl) (mono_of mono_qv) (steps_of 9 ⟨?s0, ?s1, ?s2, ?s3, ?s4, ?s5, ?s6, ?s7, ?s8, trivial⟩) ?_
  case s0 =>
    refine qV (fun _ => rfl) rfl fun av wv hE hO hD => ?_
    simp [go_sem, qF av 0 (.pointer (some ⟨b2, 0, none⟩)) (hO.2.2 0 rfl), extB_cell hE (by simp) c0, extB_cell hE (by simp) c1, extB_cell hE (by simp) c2, k1, k2, k3, k4, k5, k6, hx]
  case s1 =>
    refine qV (fun _ => rfl) rfl fun av wv hE hO hD => ?_
    simp [go_sem, qF av 1 (.pointer (some ⟨b1, 0, none⟩)) (hO.2.2 1 rfl), extB_cell hE (by simp) c0, extB_cell hE (by simp) c1, extB_cell hE (by simp) c2, k1, k2, k3, k4, k5, k6, hx]
  case s2 =>
    refine qV (fun _ => rfl) rfl fun av wv hE hO hD => ?_
    simp [go_sem, qE (hD.1 rfl _ rfl), k1, k2, k3, k4, k5, k6, hx]
  case s3 =>
    refine qV (fun _ => rfl) rfl fun av wv hE hO hD => ?_
    simp [go_sem, qF av 2 (.pointer (some ⟨b3, 0, none⟩)) (hO.2.2 2 rfl), extB_cell hE (by simp) c0, extB_cell hE (by simp) c1, extB_cell hE (by simp) c2, k1, k2, k3, k4, k5, k6, hx]
  case s4 =>
    refine qV (fun _ => rfl) rfl fun av wv hE hO hD => ?_
    simp [go_sem, qE (hD.1 rfl _ rfl), k1, k2, k3, k4, k5, k6, hx]
  case s5 =>
    refine qV (fun _ => rfl) rfl fun av wv hE hO hD => ?_
    simp [go_sem, qE (hD.1 rfl _ rfl), qE (hD.2.1 rfl _ rfl), k1, k2, k3, k4, k5, k6, hx]
  case s6 =>
    refine qV (fun _ => rfl) rfl fun av wv hE hO hD => ?_
    simp [go_sem, qE (hD.1 rfl _ rfl), qE (hD.2.1 rfl _ rfl), k1, k2, k3, k4, k5, k6, hx]
  case s7 =>
    refine step_wp (fun av wv hE hS hO hD => ⟨rfl, ?_⟩)
    have f10 := qE (hD.1 rfl _ rfl)
    refine wp_of_call (v := .int .i64 R) (by simp [go_sem, f10]) (HU.out wv) (fun w2 hb => ⟨_, rfl, es_of_ext hb, rfl⟩)
  case s8 =>
    refine qV (fun _ => rfl) rfl fun av wv hE hO hD => ?_
    simp [go_sem, qE (hD.1 rfl _ rfl), k1, k2, k3, k4, k5, k6, hx]
  intro a' w' hE hO hall
  have hA := act_of_outer (ds := [4, 5, 6, 7, 8, 9, 10, 11, 3]) rfl hO (by kernel_rfl)
  obtain ⟨j0, j1, j2, j3, j4, j5, j6, j7, j8, -⟩ := hall
  simp only [List.foldl_cons, List.foldl_nil, Act.put, List.setIfInBounds_toArray, List.set_cons_succ, List.set_cons_zero, qJ 4 (j0 _ rfl), qJ 5 (j1 _ rfl), qJ 6 (j2 _ rfl), qJ 7 (j3 _ rfl), qJ 8 (j4 _ rfl), qJ 9 (j5 _ rfl), qJ 10 (j6 _ rfl), qJ 11 (j7 _ rfl), qJ 3 (j8 _ rfl)] at hA
  clear hO j0 j1 j2 j3 j4 j5 j6 j7 j8
  subst hA
  have HBE := Lib.hid (of_drew hE)
  clear hE
  go_wp2
  go_ret
  exact ⟨rfl, HBE.out⟩
end Go.Proofs.YtoafjbillcooiaaGreat
namespace Go.Proofs.YtoafjbillcooiaaGreat
open Go.RowKit
set_option linter.unusedSimpArgs false
set_option linter.unusedVariables false
def ne9 (x : Int) : Prop := x ≠ 0
def NewIs (seed : ByteArray) (f L : Nat) (K : Int) (w : World) (e : Ending) (w' : World) : Prop :=
  (ne9 (newE seed.size f L K) ∧ e = .returned (.tuple #[.pointer none, .int .i64 (newE seed.size f L K)]) ∨ newE seed.size f L K = 0 ∧ ∃ b tb, e = .returned (.tuple #[.pointer (some ⟨b, 0, none⟩), .int .i64 0]) ∧ LadAt seed f L K.toNat b tb w' ∧ w.heap.size ≤ b) ∧ Below w.heap.size w w'
structure NwQ (seed : ByteArray) (f L : Nat) (K : Int) (b0 : Nat) (w0 : World) (k : Nat) (w : World) : Prop where
  b : NwB seed f L K b0 (b0 + 1) (b0 + 2) (b0 + 3) w
  r : w.heap[b0 + 4]? = some (.cells #[.func (.func 82) #[] #[.pointer (some ⟨b0, 0, none⟩), .pointer (some ⟨b0 + 2, 0, none⟩), .pointer (some ⟨b0 + 3, 0, none⟩)], .func (.func 83) #[] #[.pointer (some ⟨b0 + 2, 0, none⟩), .pointer (some ⟨b0 + 1, 0, none⟩), .pointer (some ⟨b0 + 3, 0, none⟩)]] 120 (0, 0))
  w : Below w0.heap.size w0 w
  m : 1 ≤ k → mayL seed.size L K = true
  e : 2 ≤ k → newE seed.size f L K = 0
theorem NwQ.below {seed : ByteArray} {f L : Nat} {K : Int} {b0 : Nat} {w0 : World} {k : Nat} {w w' : World} (h : NwQ seed f L K b0 w0 k w) (hb : Below w.heap.size w w') : NwQ seed f L K b0 w0 k w' :=
  ⟨h.b.below hb, (hb.block _ (lt_of_block h.r)).trans h.r, bnext h.w hb, h.m, h.e⟩
def nwF (k : Nat) : FuncId := if k = 0 then 82 else 83
def nwC (b0 k : Nat) : Array Value := if k = 0 then #[.pointer (some ⟨b0, 0, none⟩), .pointer (some ⟨b0 + 2, 0, none⟩), .pointer (some ⟨b0 + 3, 0, none⟩)] else #[.pointer (some ⟨b0 + 2, 0, none⟩), .pointer (some ⟨b0 + 1, 0, none⟩), .pointer (some ⟨b0 + 3, 0, none⟩)]
theorem mayL_K {z L : Nat} {K : Int} (h : mayL z L K = true) : 1 ≤ K ∧ K ≤ 64 ∧ 0 < L ∧ z = 32 := by
  unfold mayL at h
  simp only [Bool.and_eq_true, decide_eq_true_eq] at h
  exact ⟨h.1.2, h.2, h.1.1.2, h.1.1.1⟩
theorem newfirst_any (seed : ByteArray) (f L : Nat) (K : Int) (b0 : Nat) (w0 w : World) (h : NwQ seed f L K b0 w0 0 w) (hf : f < 18446744073709551616) :
    Calls Tryz.prog 78 #[.slice (some ⟨b0 + 4, 0, none⟩) 2 2] w fun e w' => ∃ x, e = .returned (.int .i64 x) ∧ (x = newE seed.size f L K ∧ Below w0.heap.size w0 w' ∧ (x = 0 → NwQ seed f L K b0 w0 2 w')) :=
  lfirst_any 2 (b0 + 4) nwF (nwC b0) (NwQ seed f L K b0 w0) (fun x w' => x = newE seed.size f L K ∧ Below w0.heap.size w0 w' ∧ (x = 0 → NwQ seed f L K b0 w0 2 w')) w (by decide)
    (fun k => by
      unfold nwF
      split
      · exact enters_of Tryz.func82 (by kernel_rfl) rfl
      · exact enters_of Tryz.func83 (by kernel_rfl) rfl)
    (fun k w1 w2 h hb => h.below hb)
    (fun k hk w1 h => by
      rcases (by omega : k = 0 ∨ k = 1) with rfl | rfl
      · exact block_cell h.r 0
      · exact block_cell h.r 1)
    h
    (fun k hk w1 hw h => by
      rcases (by omega : k = 0 ∨ k = 1) with rfl | rfl
      · refine (new1_any seed f L K b0 (b0 + 1) (b0 + 2) (b0 + 3) w1 h.b).mono ?_
        rintro e w2 ⟨rfl, hb⟩
        refine ⟨_, rfl, fun hx => ?_, fun hx => ⟨?_, bnext h.w hb, fun hz => absurd hz hx⟩, Nat.le_trans hw hb.size⟩
        · have hm : mayL seed.size L K = true := by
            cases e : mayL seed.size L K with
            | true => rfl
            | false => rw [e] at hx; cases hx
          have h2 := h.below hb
          exact ⟨h2.b, h2.r, h2.w, fun _ => hm, fun h9 => by omega⟩
        · unfold newE
          cases e : mayL seed.size L K with
          | true => rw [e] at hx; exact absurd rfl hx
          | false => rfl
      · have hm := h.m (Nat.le_refl _)
        have hk1 := mayL_K hm
        obtain ⟨k9, rfl⟩ : ∃ k9 : Nat, K = (k9 : Int) := ⟨K.toNat, by omega⟩
        refine (new2_any seed f L k9 b0 (b0 + 1) (b0 + 2) (b0 + 3) w1 h.b hf (by omega) (by omega)).mono ?_
        rintro e w2 ⟨rfl, hb⟩
        have hn : newE seed.size f L (k9 : Int) = if fitsL f L k9 = true then 0 else 21 := by
          unfold newE
          rw [if_pos hm]
          rfl
        refine ⟨_, rfl, fun hx => ?_, fun hx => ⟨hn.symm, bnext h.w hb, fun hz => absurd hz hx⟩, Nat.le_trans hw hb.size⟩
        have h2 := h.below hb
        exact ⟨h2.b, h2.r, h2.w, fun _ => hm, fun _ => by rw [hn]; exact hx⟩)
    (fun w1 h => ⟨(h.e (Nat.le_refl _)).symm, h.w, fun _ => h⟩)
set_option maxRecDepth 100000 in
set_option maxHeartbeats 4000000 in
theorem new14_any (seed : ByteArray) (f L : Nat) (K : Int) (w : World) (hf : f < 18446744073709551616) : Calls Tryz.prog 30 #[.string seed, .int .u64 (f : Nat), .int .u64 (L : Nat), .int .i64 K] w (NewIs seed f L K w) := by
  have HF := Lib.hid hf
  obtain ⟨i0, hi, hz0, hz1, hz2⟩ := info_parts info_str
  have HZ := Lib.hid hz0
  clear hf hz0
  go_enter Tryz.func30, Tryz.ntmps30
  go_upto_region 3 with fail
  obtain ⟨b0, hb0⟩ : ∃ b0, w.heap.size = b0 := ⟨_, rfl⟩
  obtain ⟨V, hV⟩ : ∃ V, ((((w.alloc (.cells #[.string seed] 9)).alloc (.cells #[.int .u64 (f : Nat)] 37)).alloc (.cells #[.int .u64 (L : Nat)] 37)).alloc (.cells #[.int .i64 K] 3)) = V := ⟨_, rfl⟩
  have HVS : Hid (V.heap.size = b0 + 4) := Lib.hid (by rw [← hV, ← hb0]; simp)
  have HNB : Hid (NwB seed f L K b0 (b0 + 1) (b0 + 2) (b0 + 3) V) := Lib.hid (by
    rw [← hV]
    exact ⟨block_alloc (block_alloc (block_alloc (alloc_new_at _ hb0) _) _) _, block_alloc (block_alloc (alloc_new_at _ (by simp; omega)) _) _, block_alloc (alloc_new_at _ (by simp; omega)) _, alloc_new_at _ (by simp; omega)⟩)
  have HVW : Hid (Below w.heap.size w V) := Lib.hid (by rw [← hV]; exact balloc (balloc (balloc (balloc (Below.refl _ _) _) _) _) _)
  have HB0 : Hid (w.heap.size ≤ b0) := Lib.hid (Nat.le_of_eq hb0)
  have h04 : w.heap.size + 1 + 1 + 1 = b0 + 3 := by omega
  have h03 : w.heap.size + 1 + 1 = b0 + 2 := by omega
  have h02 : w.heap.size + 1 = b0 + 1 := by omega
  rw [hV, h04, h03, h02, hb0]
  clear hV hb0 h04 h03 h02
  go_wp2_with fail
  rw [HVS.out]
  refine (newfirst_any seed f L K b0 w _ ⟨⟨block_alloc HNB.out.s _, block_alloc HNB.out.f _, block_alloc HNB.out.l _, block_alloc HNB.out.k _⟩, alloc_new_at _ HVS.out, balloc HVW.out _, fun h => by omega, fun h => by omega⟩ HF.out).mono ?_
  rintro e w1 ⟨x, rfl, hx, hb, hq⟩
  have HX := Lib.hid hx
  have HB1 := Lib.hid hb
  by_cases h0 : x = 0
  · have HQ := Lib.hid (hq h0)
    subst h0
    have hm := mayL_K (HQ.out.m (by decide))
    obtain ⟨k, rfl⟩ : ∃ k9 : Nat, K = (k9 : Int) := ⟨K.toNat, by omega⟩
    have HK64 : Hid (1 ≤ k ∧ k ≤ 64) := Lib.hid (by omega)
    have HSD : Hid (seed.size ≤ 1000) := Lib.hid (by omega)
    have HL0 : Hid (0 < L) := Lib.hid hm.2.2.1
    have k2 : IntKind.u64.wrap ((k : Nat) : Int) = (k : Int) := IntWalk.u64_in _ (by omega)
    have c3 : w1.cell? ⟨b0 + 3, 0, none⟩ = some (.int .i64 (k : Nat)) := block_cell HQ.out.b.k 0
    clear hx hb hq hm
    go_wp2
    clear c3 k2
    go_loopg [28, 13] k (fun gg i v wr => ∃ m : Nat, gg + m = k ∧ i = .int .u64 (m : Nat) ∧ Hid (Below w1.heap.size w1 wr) ∧ Hid (wr.ownsRow w1.heap.size 9 1 v m ((rungL seed m).map Value.string)))
    case atStart => exact ⟨0, by omega, rfl, Lib.hid (Below.refl _ _), Lib.hid (World.ownsRow_nil _ _ _ _)⟩
    case round =>
      obtain ⟨m, hm, rfl, HW, HO⟩ := hrel
      by_cases hlt : m < k
      · have b0x : (m : Int) < (k : Int) := by omega
        have cS : wr.cell? ⟨b0, 0, none⟩ = some (.string seed) := block_cell (HQ.out.below HW.out).b.s 0
        have HM := Lib.hid hm
        have HLT := Lib.hid hlt
        clear hm hlt
        go_wp2_with fail
        refine (public_any seed m wr (by have := HLT.out; have := HK64.out; omega) HSD.out).mono ?_
        rintro e w2 ⟨rfl, hb⟩
        have HW2 := Lib.hid (bnext HW.out hb)
        have HO2 := Lib.hid (own_below HO.out hb)
        clear hb cS
        go_wp2_with fail
        refine (rung_any m (publicP seed m) w2 (by have := HLT.out; have := HK64.out; omega) (by rw [publicP_size]; decide)).mono ?_
        rintro e w3 ⟨rfl, hb⟩
        have HW3 := Lib.hid (bnext HW2.out hb)
        have HO3 := Lib.hid (own_below HO2.out hb)
        clear hb
        obtain ⟨y, hy⟩ : ∃ y, num8S m ++ publicP seed m = y := ⟨_, rfl⟩
        have HY : Hid (rungP seed m = y) := Lib.hid (by rw [← hy]; rfl)
        rw [hy]
        clear hy
        go_wp2_with (at_builtin; refine wpList_append_own _ rfl _ _ 22 rfl w1.heap.size 9 i0 (.string ⟨#[]⟩) 1 16 Tryz.underlying22 hi HZ.out hz1 hz2 rfl (by decide) _ _ _ rfl (HO3.out.alloc _) ⟨w3.heap.size, 0, none⟩ 1 1 [.string y] rfl rfl ?c1 ?c2 ?c3 ?c4 ?c5 ?_)
        case c1 => exact World.news_of_block (alloc_new_at _ rfl)
        case c2 => intro u hu; simp at hu; subst hu; rfl
        case c3 => unfold maxLen; have := HLT.out; have := HK64.out; omega
        case c4 => have := HLT.out; have := HK64.out; omega
        case c5 => have := HW3.out.size; simp; omega
        intro v' w4 hown' hgrow _
        have HW4 : Hid (Below w1.heap.size w1 w4) := Lib.hid (grownBy_below (balloc HW3.out _) hgrow (fun k9 hk' => (HO3.out.lt k9 hk').1))
        have HO4 : Hid (w4.ownsRow w1.heap.size 9 1 v' (m + 1) ((rungL seed (m + 1)).map Value.string)) := Lib.hid (by
          unfold rungL
          rw [chL_snoc, List.map_append, HY.out]
          exact hown')
        have k3 : IntKind.u64.wrap (((m : Nat) : Int) + 1) = (m : Int) + 1 := IntWalk.u64_in _ (by have := HLT.out; have := HK64.out; omega)
        clear hown' hgrow
        go_wp2
        go_roundg (gk - 1)
        case rel => exact ⟨m + 1, by have := HM.out; have := HLT.out; omega, by have := HLT.out; go_num, HW4, HO4⟩
        case measure => have := HM.out; have := HLT.out; omega
      · obtain rfl : m = k := by omega
        have b0x : ¬ ((m : Nat) : Int) < (m : Int) := by omega
        obtain ⟨aa, ca, hv, hta, hca, -⟩ := TextsAre.own HO.out
        have hbl := build_any (rungL seed m) aa ca wr hta (by rw [rungL_len]; have := HK64.out; omega) (fun i hi => by rw [rungL_len] at hi; rw [rungL_at _ _ _ hi, rungP_size]; decide)
        rw [rungL_len] at hbl hv
        have HBL := Lib.hid hbl
        subst hv
        clear hta hca hbl hm hlt
        go_wp2_with fail
        refine HBL.out.mono ?_
        rintro e w4 ⟨tb, rfl, htb, htr, hb⟩
        have HW4 := Lib.hid (bnext HW.out hb)
        have HTR := Lib.hid htr
        have HQ4 := HQ.out.below HW4.out
        have c0 : w4.cell? ⟨b0, 0, none⟩ = some (.string seed) := block_cell HQ4.b.s 0
        have c1 : w4.cell? ⟨b0 + 1, 0, none⟩ = some (.int .u64 (f : Nat)) := block_cell HQ4.b.f 0
        have c2 : w4.cell? ⟨b0 + 2, 0, none⟩ = some (.int .u64 (L : Nat)) := block_cell HQ4.b.l 0
        have c3 : w4.cell? ⟨b0 + 3, 0, none⟩ = some (.int .i64 (m : Nat)) := block_cell HQ4.b.k 0
        have k2 : IntKind.u64.wrap ((m : Nat) : Int) = (m : Int) := IntWalk.u64_in _ (by have := HK64.out; omega)
        clear hb htr htb HQ4
        go_wp2
        go_ret2
        exact ⟨Or.inr ⟨HX.out.symm, w4.heap.size, tb, rfl, ⟨heap_alloc_new _ _, HTR.out.below (balloc (Below.refl _ _) _)⟩, Nat.le_trans HB1.out.size HW4.out.size⟩, balloc (HB1.out.trans (HW4.out.mono HB1.out.size)) _⟩
  · have hx2 : ¬ (x : Int) = 0 := h0
    have HN : Hid (ne9 (newE seed.size f L K) ∧ newE seed.size f L K = x) := Lib.hid ⟨by rw [← hx]; exact h0, hx.symm⟩
    clear hx hb hq h0
    go_wp2
    go_ret2
    exact ⟨Or.inl ⟨HN.out.1, by rw [HN.out.2]; rfl⟩, HB1.out⟩
end Go.Proofs.YtoafjbillcooiaaGreat

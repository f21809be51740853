/- Parts of the proof, one behind the other. -/
import Derived.Test.YtpobhbdomldecaaGreatDoorHbdP5
import Derived.ProofKit
import Derived.OpenShut
import Derived.ShutString
import Derived.ChangeOld
import Derived.Deep.Slices
import Derived.Deep.Fields
import Derived.ChangeMaps5
import Derived.LaidMore
import Derived.LaidHandle
import Derived.Stop.Joined
import Derived.ChangeVars
import Derived.JoinedOf
import Derived.RowKitTokens
import Derived.Test.YtpobhbdomldecaaGreatDoorCards
import Derived.Test.YtpobhbdomldecaaGreatDoorTie
import Derived.SevenTiedAt
namespace Go.Proofs.YtpobhbdomldecaaGreatDoor
open Go.RowKit
set_option linter.unusedSimpArgs false
set_option linter.unusedVariables false
theorem nilB : (⟨#[]⟩ : ByteArray).toList = [] := by kernel_rfl
theorem emptyB (s : ByteArray) : s.toList.isEmpty = decide (s.size = 0) := by
  have h := str_beq s ⟨#[]⟩
  rw [nilB] at h
  by_cases e : s.size = 0
  · have : s = ⟨#[]⟩ := ByteArray.ext (Array.eq_empty_of_size_eq_zero e)
    rw [this, nilB]; rfl
  · have hn : ¬ s = ⟨#[]⟩ := fun h9 => e (by rw [h9]; rfl)
    rw [decide_eq_false hn] at h
    rw [decide_eq_false e]
    cases hs : s.toList with
    | nil => rw [hs] at h; cases h
    | cons x l => rfl
def xxT : ByteArray := ⟨#[120]⟩
def BodyOk (s : ByteArray) : Prop := 0 < s.size ∧ s.size ≤ 64
theorem body_all {L : List ByteArray} (h : ∀ x ∈ L, BodyOk x) (hn : len L ≤ 64) : bodsOk L = true := bod_yes hn (fun i hi => by
  rw [tth_eq L i hi]; exact h _ (List.getElem_mem hi))
theorem body_more (L : List ByteArray) : bodsOk (L ++ [⟨#[]⟩]) = false := by
  unfold bodsOk
  have : ((L ++ [(⟨#[]⟩ : ByteArray)]).all fun s => decide (0 < s.size) && decide (s.size ≤ 64)) = false := by
    rw [List.all_eq_false]
    exact ⟨⟨#[]⟩, by simp, by decide⟩
  rw [this]; simp
theorem run_one (b n c k : Nat) (h : k < n) (hc : n ≤ c) (w : World) : (Instr.slice 36 (.slice (some ⟨b, 0, none⟩) n c) (some (.int .u64 (k : Nat))) (some (.int .u64 ((k : Nat) + 1))) none).run Tryz.prog w = .ok (.slice (some ⟨b, k, none⟩) 1 (c - k)) w := by
  have h1 : k + 1 ≤ c := by omega
  have h2 : ¬ c = k := by omega
  have h3 : ((k : Nat) : Int) + 1 = ((k + 1 : Nat) : Int) := by omega
  rw [h3]
  simp [go_sem, h1, h2]
  try omega
theorem txts_one {w : World} {b : Nat} {L : List ByteArray} (h : Txts w (some ⟨b, 0, none⟩) L) {k : Nat} (hk : k < len L) : Txts w (some ⟨b, k, none⟩) [tth L k] := fun i hi => by
  have hi : i < 1 := hi
  obtain rfl : i = 0 := by omega
  obtain ⟨b9, o9, e, hc⟩ := h k hk
  cases e
  rw [Nat.zero_add] at hc
  exact ⟨b, k, rfl, hc⟩
structure BdSt (w wr : World) (v : Value) (L : List ByteArray) (m : Nat) : Prop where
  b : Below w.heap.size w wr
  o : wr.ownsRow w.heap.size 9 1 v m (L.map Value.string)
  n : len L = m
  y : ∀ x ∈ L, BodyOk x
set_option maxRecDepth 100000 in
set_option maxHeartbeats 8000000 in
theorem bodies23_law (B : Nat) (l : List ByteArray) (a : Option Addr) (cap : Nat) (A : Nat) (w : World) (ht : PT B w) (hl : Txts w a l) (hn : len l ≤ 9223372036854775807) (hA : A ≤ 255) : Calls Tryz.prog 9 #[.slice a (len l) cap, .int .u8 (A : Nat)] w fun e w' => e = .returned (.bool true) ∧ Below w.heap.size w w' := by
  have HT := Lib.hid ht
  have HL := Lib.hid hl
  have HN := Lib.hid hn
  have HA := Lib.hid hA
  obtain ⟨i0, hi, hz0, hz1, hz2⟩ := info_parts info_str
  have HZ := Lib.hid hz0
  clear ht hl hn hz0 hA
  go_enter Tryz.func9, Tryz.ntmps9
  go_wp2_with fail
  refine (works23_any B w HT.out).mono ?_
  rintro e w1 ⟨rfl, hb⟩
  have HB1 := Lib.hid hb
  clear hb
  go_wp2
  go_loopg [5, 6] 64 (fun g v i wr => ∃ (m : Nat) (L : List ByteArray), g + m = 64 ∧ i = .int .i64 m ∧ Hid (BdSt w wr v L m))
  case atStart => exact ⟨0, [], rfl, rfl, Lib.hid ⟨HB1.out, World.ownsRow_nil _ _ _ _, rfl, fun x hx => by cases hx⟩⟩
  case round =>
    obtain ⟨m, L, hm, rfl, HS⟩ := hrel
    by_cases hin : m < len l ∧ m < 64
    · obtain ⟨hlt, h64⟩ := hin
      have b0 : (m : Int) < len l := by omega
      have b1 : (m : Int) < 64 := by omega
      obtain ⟨pb, po, rfl, cs⟩ := (HL.out.below HS.out.b) m hlt
      obtain ⟨x, hx⟩ : ∃ x, tth l m = x := ⟨_, rfl⟩
      rw [hx] at cs
      obtain ⟨k, hk⟩ : ∃ k : Nat, min x.size 64 = k := ⟨_, rfl⟩
      obtain ⟨t, hxt⟩ : ∃ t, x.extract 0 k = t := ⟨_, rfl⟩
      have hts : t.size = k := by rw [← hxt, ByteArray.size_extract]; omega
      have HTS : Hid (t.size = k ∧ k ≤ 64) := Lib.hid ⟨hts, by omega⟩
      have kx : ¬ x.size < k := by omega
      have mk : min ((x.size : Nat) : Int) 64 = ((k : Nat) : Int) := by omega
      have bl : ¬ len l ≤ m := by omega
      have HM := Lib.hid hm
      have H64 := Lib.hid h64
      clear hx hk hts hm h64
      go_upto_region 7 with fail
      refine wp_region_all 1000 (none) (phis [fun u _ => u = (.slice (some ⟨pb, po, none⟩) (len l) cap), fun u _ => u = (.int .i64 (m : Nat)), fun u _ => u = (.pointer (some ⟨pb, po + m, none⟩)), fun u _ => u = (.string x), fun u _ => u = (.slice (some ⟨pb, po, none⟩) (len l) cap), fun u _ => u = (.int .i64 (m : Nat)), fun u _ => u = (.pointer (some ⟨pb, po + m, none⟩)), fun u _ => u = (.string x), fun u _ => u = (.int .i64 (x.size : Nat)), fun u _ => u = (.int .i64 (k : Nat)), fun u _ => u = (.string t), fun u _ => u = (.string t)]) rfl (by kernel_rfl) (mono_of ⟨mono_eq, mono_eq, mono_eq, mono_eq, mono_eq, mono_eq, mono_eq, mono_eq, mono_eq, mono_eq, mono_eq, mono_eq, trivial⟩) (steps_of 12 ⟨?s0, ?s1, ?s2, ?s3, ?s4, ?s5, ?s6, ?s7, ?s8, ?s9, ?s10, ?s11, trivial⟩) ?_
      case s0 =>
        refine step_val (v := (.slice (some ⟨pb, po, none⟩) (len l) cap)) (fun av wv hE hS hO hD => ?_) (fun _ => rfl)
        have h0 : av.eval (.tmp 0) = (.slice (some ⟨pb, po, none⟩) (len l) cap) := hO.2.2 0 rfl
        have f0 := (ev_form av 0).symm.trans h0
        refine ⟨rfl, ?_⟩
        simp [go_sem, f0, mk, kx, bl, hxt]
      case s1 =>
        refine step_val (v := (.int .i64 (m : Nat))) (fun av wv hE hS hO hD => ?_) (fun _ => rfl)
        have h6 : av.eval (.tmp 6) = (.int .i64 (m : Nat)) := hO.2.2 6 rfl
        have f6 := (ev_form av 6).symm.trans h6
        refine ⟨rfl, ?_⟩
        simp [go_sem, f6, mk, kx, bl, hxt]
      case s2 =>
        refine step_val (v := (.pointer (some ⟨pb, po + m, none⟩))) (fun av wv hE hS hO hD => ?_) (fun _ => rfl)
        have d29 : av.eval (.tmp 29) = (.slice (some ⟨pb, po, none⟩) (len l) cap) := hD.1 rfl _ rfl
        have f29 := (ev_form av 29).symm.trans d29
        have d30 : av.eval (.tmp 30) = (.int .i64 (m : Nat)) := hD.2.1 rfl _ rfl
        have f30 := (ev_form av 30).symm.trans d30
        refine ⟨rfl, ?_⟩
        simp [go_sem, f29, f30, mk, kx, bl, hxt]
      case s3 =>
        refine step_val (v := (.string x)) (fun av wv hE hS hO hD => ?_) (fun _ => rfl)
        have d31 : av.eval (.tmp 31) = (.pointer (some ⟨pb, po + m, none⟩)) := hD.1 rfl _ rfl
        have f31 := (ev_form av 31).symm.trans d31
        have cs := extB_cell hE (by simp) cs
        refine ⟨rfl, ?_⟩
        simp [go_sem, f31, cs, mk, kx, bl, hxt]
      case s4 =>
        refine step_val (v := (.slice (some ⟨pb, po, none⟩) (len l) cap)) (fun av wv hE hS hO hD => ?_) (fun _ => rfl)
        have h0 : av.eval (.tmp 0) = (.slice (some ⟨pb, po, none⟩) (len l) cap) := hO.2.2 0 rfl
        have f0 := (ev_form av 0).symm.trans h0
        refine ⟨rfl, ?_⟩
        simp [go_sem, f0, mk, kx, bl, hxt]
      case s5 =>
        refine step_val (v := (.int .i64 (m : Nat))) (fun av wv hE hS hO hD => ?_) (fun _ => rfl)
        have h6 : av.eval (.tmp 6) = (.int .i64 (m : Nat)) := hO.2.2 6 rfl
        have f6 := (ev_form av 6).symm.trans h6
        refine ⟨rfl, ?_⟩
        simp [go_sem, f6, mk, kx, bl, hxt]
      case s6 =>
        refine step_val (v := (.pointer (some ⟨pb, po + m, none⟩))) (fun av wv hE hS hO hD => ?_) (fun _ => rfl)
        have d33 : av.eval (.tmp 33) = (.slice (some ⟨pb, po, none⟩) (len l) cap) := hD.1 rfl _ rfl
        have f33 := (ev_form av 33).symm.trans d33
        have d34 : av.eval (.tmp 34) = (.int .i64 (m : Nat)) := hD.2.1 rfl _ rfl
        have f34 := (ev_form av 34).symm.trans d34
        refine ⟨rfl, ?_⟩
        simp [go_sem, f33, f34, mk, kx, bl, hxt]
      case s7 =>
        refine step_val (v := (.string x)) (fun av wv hE hS hO hD => ?_) (fun _ => rfl)
        have d35 : av.eval (.tmp 35) = (.pointer (some ⟨pb, po + m, none⟩)) := hD.1 rfl _ rfl
        have f35 := (ev_form av 35).symm.trans d35
        have cs := extB_cell hE (by simp) cs
        refine ⟨rfl, ?_⟩
        simp [go_sem, f35, cs, mk, kx, bl, hxt]
      case s8 =>
        refine step_val (v := (.int .i64 (x.size : Nat))) (fun av wv hE hS hO hD => ?_) (fun _ => rfl)
        have d36 : av.eval (.tmp 36) = (.string x) := hD.1 rfl _ rfl
        have f36 := (ev_form av 36).symm.trans d36
        refine ⟨rfl, ?_⟩
        simp [go_sem, f36, mk, kx, bl, hxt]
      case s9 =>
        refine step_val (v := (.int .i64 (k : Nat))) (fun av wv hE hS hO hD => ?_) (fun _ => rfl)
        have d37 : av.eval (.tmp 37) = (.int .i64 (x.size : Nat)) := hD.1 rfl _ rfl
        have f37 := (ev_form av 37).symm.trans d37
        refine ⟨rfl, ?_⟩
        simp [go_sem, f37, mk, kx, bl, hxt]
      case s10 =>
        refine step_val (v := (.string t)) (fun av wv hE hS hO hD => ?_) (fun _ => rfl)
        have d32 : av.eval (.tmp 32) = (.string x) := hD.1 rfl _ rfl
        have f32 := (ev_form av 32).symm.trans d32
        have d38 : av.eval (.tmp 38) = (.int .i64 (k : Nat)) := hD.2.1 rfl _ rfl
        have f38 := (ev_form av 38).symm.trans d38
        refine ⟨rfl, ?_⟩
        simp [go_sem, f32, f38, mk, kx, bl, hxt]
      case s11 =>
        refine step_val (v := (.string t)) (fun av wv hE hS hO hD => ?_) (fun _ => rfl)
        have d39 : av.eval (.tmp 39) = (.string t) := hD.1 rfl _ rfl
        have f39 := (ev_form av 39).symm.trans d39
        refine ⟨rfl, ?_⟩
        simp [go_sem, f39, mk, kx, bl, hxt]
      intro a' w' hE hO hall
      have hA := act_of_outer (ds := [29, 30, 31, 32, 33, 34, 35, 36, 37, 38, 39, 7]) rfl hO (by kernel_rfl)
      have e29 : (fun u _ => u = (.slice (some ⟨pb, po, none⟩) (len l) cap)) (a'.eval (.tmp 29)) w' := hall.1 _ rfl
      have e30 : (fun u _ => u = (.int .i64 (m : Nat))) (a'.eval (.tmp 30)) w' := hall.2.1 _ rfl
      have e31 : (fun u _ => u = (.pointer (some ⟨pb, po + m, none⟩))) (a'.eval (.tmp 31)) w' := hall.2.2.1 _ rfl
      have e32 : (fun u _ => u = (.string x)) (a'.eval (.tmp 32)) w' := hall.2.2.2.1 _ rfl
      have e33 : (fun u _ => u = (.slice (some ⟨pb, po, none⟩) (len l) cap)) (a'.eval (.tmp 33)) w' := hall.2.2.2.2.1 _ rfl
      have e34 : (fun u _ => u = (.int .i64 (m : Nat))) (a'.eval (.tmp 34)) w' := hall.2.2.2.2.2.1 _ rfl
      have e35 : (fun u _ => u = (.pointer (some ⟨pb, po + m, none⟩))) (a'.eval (.tmp 35)) w' := hall.2.2.2.2.2.2.1 _ rfl
      have e36 : (fun u _ => u = (.string x)) (a'.eval (.tmp 36)) w' := hall.2.2.2.2.2.2.2.1 _ rfl
      have e37 : (fun u _ => u = (.int .i64 (x.size : Nat))) (a'.eval (.tmp 37)) w' := hall.2.2.2.2.2.2.2.2.1 _ rfl
      have e38 : (fun u _ => u = (.int .i64 (k : Nat))) (a'.eval (.tmp 38)) w' := hall.2.2.2.2.2.2.2.2.2.1 _ rfl
      have e39 : (fun u _ => u = (.string t)) (a'.eval (.tmp 39)) w' := hall.2.2.2.2.2.2.2.2.2.2.1 _ rfl
      have e7 : (fun u _ => u = (.string t)) (a'.eval (.tmp 7)) w' := hall.2.2.2.2.2.2.2.2.2.2.2.1 _ rfl
      simp only [List.foldl_cons, List.foldl_nil, Act.put, List.setIfInBounds_toArray, List.set_cons_succ, List.set_cons_zero, e29, e30, e31, e32, e33, e34, e35, e36, e37, e38, e39, e7] at hA
      clear hO hall e29 e30 e31 e32 e33 e34 e35 e36 e37 e38 e39 e7
      subst hA
      have HBW : Hid (Below wr.heap.size wr w') := Lib.hid (of_drew hE)
      clear hE cs kx mk bl hxt
      by_cases ht0 : t.size = 0
      · have te : t.toList.isEmpty = true := by rw [emptyB, decide_eq_true ht0]
        clear ht0
        go_upto_region 10 with fail
        clear te
        obtain ⟨u, hu⟩ : ∃ u, xxT = u := ⟨_, rfl⟩
        have HU : Hid (BodyOk u) := Lib.hid (by rw [← hu]; exact ⟨by decide, by decide⟩)
        rw [show (⟨#[120]⟩ : ByteArray) = u from hu]
        clear hu
        have HO1 := Lib.hid (own_below HS.out.o HBW.out)
        have HB2 : Hid (Below w.heap.size w w') := Lib.hid (bnext HS.out.b HBW.out)
        go_wp2_with (at_builtin; refine wpList_append_lies _ rfl _ _ 36 rfl w.heap.size 9 i0 (.string ⟨#[]⟩) 1 16 Tryz.underlying36 hi HZ.out hz1 hz2 rfl (by decide) _ m _ rfl (HO1.out.alloc _) ⟨w'.heap.size, 0, none⟩ 1 1 [.string u] rfl rfl ?d1 ?d2 (by decide) ?d4 ?d5 ?d6 _ rfl ?_)
        case d1 => exact World.news_of_block (alloc_new_at _ rfl)
        case d2 => intro u hu; simp at hu; subst hu; rfl
        case d4 => unfold maxLen; have := H64.out; omega
        case d5 => have := H64.out; omega
        case d6 => have := HB2.out.size; simp; omega
        intro g2 cp2 x3 hown hgrow hat hgl
        have HX3 : Hid (Below w.heap.size w x3) := Lib.hid (grownBy_below (balloc HB2.out _) hgrow (fun q hq => (HO1.out.lt q hq).1))
        have HO3 : Hid (x3.ownsRow w.heap.size 9 1 (.slice (some ⟨g2, 0, none⟩) (m + 1) cp2) (m + 1) ((L ++ [u]).map Value.string)) := Lib.hid (by
          rw [List.map_append]
          simpa using hown)
        clear hown hgrow hat hgl
        go_wp2
        go_roundg (gk - 1)
        case rel => exact ⟨m + 1, L ++ [u], by have := H64.out; have := HM.out; omega, by have := H64.out; go_num, Lib.hid ⟨HX3.out, HO3.out, by rw [len_appT, HS.out.n]; rfl, fun x hx => by
          rcases List.mem_append.1 hx with h | h
          · exact HS.out.y x h
          · rw [List.mem_singleton.1 h]; exact HU.out⟩⟩
        case measure => have := H64.out; have := HM.out; omega
      · have te : t.toList.isEmpty = false := by rw [emptyB, decide_eq_false ht0]
        have HU : Hid (BodyOk t) := Lib.hid ⟨by omega, by have := HTS.out; omega⟩
        clear ht0
        go_upto_region 10 with fail
        clear te
        obtain ⟨u, hu⟩ : ∃ u, t = u := ⟨_, rfl⟩
        rw [hu] at HU ⊢
        clear hu
        have HO1 := Lib.hid (own_below HS.out.o HBW.out)
        have HB2 : Hid (Below w.heap.size w w') := Lib.hid (bnext HS.out.b HBW.out)
        go_wp2_with (at_builtin; refine wpList_append_lies _ rfl _ _ 36 rfl w.heap.size 9 i0 (.string ⟨#[]⟩) 1 16 Tryz.underlying36 hi HZ.out hz1 hz2 rfl (by decide) _ m _ rfl (HO1.out.alloc _) ⟨w'.heap.size, 0, none⟩ 1 1 [.string u] rfl rfl ?d1 ?d2 (by decide) ?d4 ?d5 ?d6 _ rfl ?_)
        case d1 => exact World.news_of_block (alloc_new_at _ rfl)
        case d2 => intro u hu; simp at hu; subst hu; rfl
        case d4 => unfold maxLen; have := H64.out; omega
        case d5 => have := H64.out; omega
        case d6 => have := HB2.out.size; simp; omega
        intro g2 cp2 x3 hown hgrow hat hgl
        have HX3 : Hid (Below w.heap.size w x3) := Lib.hid (grownBy_below (balloc HB2.out _) hgrow (fun q hq => (HO1.out.lt q hq).1))
        have HO3 : Hid (x3.ownsRow w.heap.size 9 1 (.slice (some ⟨g2, 0, none⟩) (m + 1) cp2) (m + 1) ((L ++ [u]).map Value.string)) := Lib.hid (by
          rw [List.map_append]
          simpa using hown)
        clear hown hgrow hat hgl
        go_wp2
        go_roundg (gk - 1)
        case rel => exact ⟨m + 1, L ++ [u], by have := H64.out; have := HM.out; omega, by have := H64.out; go_num, Lib.hid ⟨HX3.out, HO3.out, by rw [len_appT, HS.out.n]; rfl, fun x hx => by
          rcases List.mem_append.1 hx with h | h
          · exact HS.out.y x h
          · rw [List.mem_singleton.1 h]; exact HU.out⟩⟩
        case measure => have := H64.out; have := HM.out; omega
    · have HEX : Hid ((¬ (m : Int) < len l) ∨ ((m : Int) < len l ∧ ¬ (m : Int) < 64)) := Lib.hid (by omega)
      have HSB := Lib.hid HS.out.b
      have HLN : Hid (len L ≤ 64) := Lib.hid (by rw [HS.out.n]; omega)
      have HLY := Lib.hid HS.out.y
      have HLS : Hid (∀ i, i < len L → (tth L i).size ≤ 64) := Lib.hid (fun i hi => by rw [tth_eq L i hi]; exact (HS.out.y _ (List.getElem_mem hi)).2)
      have HOW : Hid (wr.ownsRow w.heap.size 9 1 u5 (len L) (L.map Value.string)) := Lib.hid (by rw [HS.out.n]; exact HS.out.o)
      have hex := HEX.out
      clear hin hm
      obtain ⟨a9, c9, rfl, ht9, hc9, h09⟩ := TextsAre.own HOW.out
      have HTX := Lib.hid ht9
      have HC9 := Lib.hid (And.intro hc9 h09)
      clear ht9 hc9 h09
      rcases hex with h1 | ⟨h1, h2⟩
      all_goals
        go_wp2_with fail
        try clear h1
        try clear h2
        refine (htxns_any L a9 c9 wr (by have := HLN.out; omega) HTX.out (fun i hi => Nat.le_trans (HLS.out i hi) (by decide))).mono ?_
        rintro e x1 ⟨rfl, hb⟩
        have z1 : txS L = treeR L := if_pos (body_all HLY.out HLN.out)
        have z2 : txE L = 0 := if_pos (body_all HLY.out HLN.out)
        rw [z1, z2]
        have HX1 : Hid (Below wr.heap.size wr x1) := Lib.hid hb
        clear hb z1 z2
        go_wp2_with fail
        refine (build_any L a9 c9 x1 (HTX.out.below HX1.out) (by have := HLN.out; omega) (fun i hi => Nat.le_trans (HLS.out i hi) (by decide))).mono ?_
        rintro e x2 ⟨tp, rfl, htp, htr, hb⟩
        have HX2 : Hid (Below wr.heap.size wr x2) := Lib.hid (bnext HX1.out hb)
        have HTR := Lib.hid htr
        clear hb htp htr
        go_wp2_with fail
        refine (root_any L tp x2 HTR.out).mono ?_
        rintro e x3 ⟨rfl, rfl⟩
        rw [show plD L (depN L) (depN L) 0 = treeR L from rfl]
        obtain ⟨R, hR⟩ : ∃ R, treeR L = R := ⟨_, rfl⟩
        have HR := Lib.hid hR
        rw [hR]
        have rr : (R.toList != R.toList) = false := by unfold bne; rw [str_beq, decide_eq_true rfl]; rfl
        clear hR
        have E0 : Hid ((x2.alloc (.cells #[] 9)).ownsRow x2.heap.size 9 1 (.slice (some ⟨x2.heap.size, 0, none⟩) 0 0) (len ([] : List ByteArray)) (([] : List ByteArray).map Value.string)) := Lib.hid (World.ownsRow_lit x2 #[] 0 (Nat.le_refl _) (Nat.zero_le _) rfl)
        go_wp2_with (at_builtin; refine wpList_append_txts rfl _ _ rfl x2.heap.size _ [] L a9 c9 rfl E0.out rfl ((HTX.out.below HX2.out).below (balloc (Below.refl _ _) _)) HC9.out.2 (show 0 + len L ≤ 100000 by have := HLN.out; omega) (by simp) ?_)
        intro v4 x4 hown hgrow
        have HG4 : Hid (Below x2.heap.size x2 x4) := Lib.hid (grownBy_below (balloc (Below.refl _ _) _) hgrow (fun k hk => by simp [Value.ownBlock] at hk; omega))
        have HO4 : Hid (x4.ownsRow x2.heap.size 9 1 v4 (len L) (L.map Value.string)) := Lib.hid hown
        clear hown hgrow E0 rr
        go_wp2_with (at_builtin; refine wpList_append_own _ rfl _ _ 36 rfl x2.heap.size 9 i0 (.string ⟨#[]⟩) 1 16 Tryz.underlying36 hi HZ.out hz1 hz2 rfl (by decide) _ _ _ rfl (HO4.out.alloc _) ⟨x4.heap.size, 0, none⟩ 1 1 [.string ⟨#[]⟩] rfl rfl ?c1 ?c2 ?c3 ?c4 ?c5 ?_)
        case c1 => exact World.news_of_block (alloc_new_at _ rfl)
        case c2 => intro u hu; simp at hu; subst hu; rfl
        case c3 => unfold maxLen; have := HLN.out; omega
        case c4 => have := HLN.out; omega
        case c5 => have := HG4.out.size; simp; omega
        intro v5 x5 hown hgrow _
        have HG5 : Hid (Below x2.heap.size x2 x5) := Lib.hid (grownBy_below (balloc HG4.out _) hgrow (fun k hk => (HO4.out.lt k hk).1))
        have HO5 : Hid (x5.ownsRow x2.heap.size 9 1 v5 (len (L ++ [(⟨#[]⟩ : ByteArray)])) ((L ++ [(⟨#[]⟩ : ByteArray)]).map Value.string)) := Lib.hid (by
          rw [List.map_append, len_appT, show len [(⟨#[]⟩ : ByteArray)] = 1 from rfl]; exact hown)
        clear hown hgrow
        obtain ⟨L5, hL5⟩ : ∃ L5, L ++ [(⟨#[]⟩ : ByteArray)] = L5 := ⟨_, rfl⟩
        have HL5 : Hid (bodsOk L5 = false ∧ len L5 ≤ 65 ∧ ∀ i, i < len L5 → (tth L5 i).size ≤ 64) := Lib.hid (by
          rw [← hL5]
          refine ⟨body_more L, by rw [len_appT]; have := HLN.out; show len L + 1 ≤ 65; omega, fun i hi => ?_⟩
          rw [tth_eq _ i hi]
          rcases List.mem_append.1 (List.getElem_mem hi) with h | h
          · exact (HLY.out _ h).2
          · rw [List.mem_singleton.1 h]; decide)
        rw [hL5] at HO5
        clear hL5
        obtain ⟨a5, c5, rfl, ht5, _, _⟩ := TextsAre.own HO5.out
        have HT5 := Lib.hid ht5
        clear ht5
        go_wp2_with fail
        refine (htxns_any L5 a5 c5 x5 (by have := HL5.out.2.1; omega) HT5.out (fun i hi => Nat.le_trans (HL5.out.2.2 i hi) (by decide))).mono ?_
        rintro e x6 ⟨rfl, hb⟩
        have z1 : txE L5 = 2 := if_neg (by rw [HL5.out.1]; decide)
        rw [z1]
        have HG6 : Hid (Below x2.heap.size x2 x6) := Lib.hid (bnext HG5.out hb)
        have HB6 : Hid (Below w.heap.size w x6) := Lib.hid (bnext (bnext HSB.out HX2.out) HG6.out)
        clear hb z1
        by_cases hz : len L = 0
        · have z1 : ((len L : Nat) : Int) = 0 := by omega
          have z2 : (((len L : Nat) : Int) == 0) = true := by simp; exact hz
          clear hz
          go_wp2
          go_ret
          exact ⟨rfl, HB6.out⟩
        · have z1 : (((len L : Nat) : Int) == 0) = false := by simp; exact hz
          have HNZ : Hid (0 < len L) := Lib.hid (by omega)
          obtain ⟨g9, rfl, _, _, _, _⟩ := own_at HOW.out 0 HNZ.out
          obtain ⟨k, hk⟩ : ∃ k : Nat, A % len L = k := ⟨_, rfl⟩
          have HK : Hid (k < len L) := Lib.hid (by rw [← hk]; exact Nat.mod_lt _ HNZ.out)
          have w1 : IntKind.u64.wrap ((A : Nat) : Int) = ((A : Nat) : Int) := by have := HA.out; exact IntWalk.u64_in _ (by omega)
          have w2 : IntKind.u64.wrap ((len L : Nat) : Int) = ((len L : Nat) : Int) := by have := HLN.out; exact IntWalk.u64_in _ (by omega)
          have z3 : ¬ len L = 0 := hz
          have kk : ((A : Nat) : Int) % ((len L : Nat) : Int) = ((k : Nat) : Int) := by rw [← hk]; simp
          clear hk
          go_upto_region 21 with fail
          rw [kk]
          clear hz z1 z3 kk w1 w2
          have HTR6 := Lib.hid (HTR.out.below HG6.out)
          have HTX6 := Lib.hid ((HTX.out.below HX2.out).below HG6.out)
          go_wp2_with fail
          refine (prove_ok L tp [((k : Nat) : Int)] (some ⟨x6.heap.size, 0, none⟩) 1 _ (HTR6.out.below (balloc (Below.refl _ _) _)) (by have := HLN.out; omega) (fun i hi => ⟨_, 0, rfl, by
            have hi : i < 1 := hi
            obtain rfl : i = 0 := by omega
            rw [block_cell (heap_alloc_new _ _)]; rfl⟩) (by show 1 ≤ 100; decide) (one_u64 (by have := HLN.out; omega) HK.out) (one_may HK.out)).mono ?_
          rintro e x7 ⟨v7, rfl, ho7, hb⟩
          have HG7 : Hid (Below x2.heap.size x2 x7) := Lib.hid (bnext (balloc HG6.out _) hb)
          have HX7 : Hid (Below x6.heap.size x6 x7) := Lib.hid (bnext (balloc (Below.refl _ _) _) hb)
          obtain ⟨D, hD⟩ : ∃ D, dgsL L (plcL (len L : Nat) [((k : Nat) : Int)]) = D := ⟨_, rfl⟩
          have HD : Hid (oneD L k = D) := Lib.hid hD
          rw [hD] at ho7
          obtain ⟨a7, c7, rfl, ht7, hc7, _⟩ := TextsAre.own ho7
          have HT7 := Lib.hid ht7
          have HC7 := Lib.hid hc7
          clear hb ho7 ht7 hc7 hD
          have HTX7 := Lib.hid (HTX6.out.below HX7.out)
          have kw : IntKind.u64.wrap (((k : Nat) : Int) + 1) = ((k : Nat) : Int) + 1 := by have := HLN.out; have := HK.out; exact IntWalk.u64_in _ (by omega)
          have sl := run_one g9 (len L) c9 k HK.out HC9.out.1
          go_wp2_with fail
          clear kw sl
          have HPR : Hid (PrIn [((k : Nat) : Int)] [tth L k] D (some ⟨x7.heap.size, 0, none⟩) (some ⟨g9, k, none⟩) a7 c7 (x7.alloc (.cells #[.int .u64 (k : Nat)] 23))) := Lib.hid
            { p := fun i hi => ⟨_, 0, rfl, by
                have hi : i < 1 := hi
                obtain rfl : i = 0 := by omega
                rw [block_cell (heap_alloc_new _ _)]; rfl⟩
              e := txts_one (HTX7.out.below (balloc (Below.refl _ _) _)) HK.out
              d := HT7.out.below (balloc (Below.refl _ _) _)
              pl := by show 1 ≤ 100; decide
              pu := one_u64 (by have := HLN.out; omega) HK.out
              el := by show 1 ≤ 1000000; decide
              dl := by rw [← HD.out, oneD_len (by have := HLN.out; omega)]; have := depN_le (els := L) (by have := HLN.out; omega); omega
              dc_ := HC7.out
              ez := fun i hi => by
                have hi : i < 1 := hi
                obtain rfl : i = 0 := by omega
                exact Nat.le_trans (HLS.out k HK.out) (by decide) }
          have hln := HLN.out
          refine (pcheck_any R (len L : Nat) [((k : Nat) : Int)] [tth L k] D _ _ a7 1 (c9 - k) c7 _ HPR.out (by omega) (by omega)).mono ?_
          rintro e x8 ⟨rfl, hb⟩
          have z9 : checkE R (len L : Nat) [((k : Nat) : Int)] [tth L k] D = 0 := by rw [← HR.out, ← HD.out]; exact one_check (by omega) HK.out
          rw [z9]
          have HBE : Hid (Below w.heap.size w x8) := Lib.hid (bnext (bnext (bnext HSB.out HX2.out) HG7.out) (bnext (balloc (Below.refl _ _) _) hb))
          clear hb z9
          go_wp2
          go_ret
          exact ⟨rfl, HBE.out⟩
end Go.Proofs.YtpobhbdomldecaaGreatDoor
namespace Go.Proofs.YtpobhbdomldecaaGreatDoor
set_option linter.unusedSimpArgs false
set_option linter.unusedVariables false
open Go.RowKit Go.ChangeShapes Go.WideShapes Go.ChangeAt Go.Deep
section
variable {H : Type} {enc : TypeId × Value → H} {P : Program} {w : World}
theorem below_trodAll (hl : laidOutB P = true) {W W' : World} (hb : Below W.heap.size W W') : ∀ {ts : List TypeId} {vs : List Value} {ds : List (DataW H)} {ps : List MemPlace},
    (∀ t ∈ ts, P.readableRec t = true ∧ t < P.types.size) → DataW.TrodAll enc P W 0 (fun _ => true) true ts vs ds ps → DataW.TrodAll enc P W' 0 (fun b => decide (b < W.heap.size)) true ts vs ds ps
  | [], vs, ds, ps, _, h => by
    obtain ⟨rfl, rfl, rfl⟩ := trodAll_nil h
    exact trodAll_mk0
  | t :: ts, vs, ds, ps, ht, h => by
    obtain ⟨v, vs', d, ds', p, q, rfl, rfl, rfl, h0, r0⟩ := trodAll_cons h
    have lt0 : ∀ x ∈ p, x.block < W.heap.size := by obtain ⟨m, hm⟩ := h0; exact DataW.trod_lt m _ _ _ hm
    exact trodAll_cons_mk (Below.trod hl (ht t (List.mem_cons_self ..)).1 (ht t (List.mem_cons_self ..)).2 h0 hb lt0) (below_trodAll hl hb (fun t' h' => ht t' (List.mem_cons_of_mem _ h')) r0)
theorem list_of {α : Type} {n : Nat} {p : Nat → α → Prop} (h : ∀ i, i < n → ∃ x, p i x) : ∃ l : List α, l.length = n ∧ ∀ i (hi : i < l.length), p i l[i] := by
  induction n with
  | zero => exact ⟨[], rfl, fun i hi => by simp at hi⟩
  | succ n ih =>
    obtain ⟨l, hl, hp⟩ := ih (fun i hi => h i (by omega))
    obtain ⟨x, hx⟩ := h n (by omega)
    refine ⟨l ++ [x], by simp [hl], fun i hi => ?_⟩
    rcases Nat.lt_or_ge i l.length with h' | h'
    · rw [List.getElem_append_left h']; exact hp i h'
    · have e : i = l.length := by simp at hi; omega
      subst e
      simp only [List.getElem_append_right (Nat.le_refl _), Nat.sub_self, List.getElem_cons_zero]
      rw [hl]; exact hx
theorem open_elems {α : Type} {t e : TypeId} (k : Nat) (cells : α → List Value) (ok : α → Prop) (ht : P.underlying t = some (.slice e)) (hC : P.cellsOf e = k) (hk : 0 < k)
    (hel : ∀ n cs' y, cs'.length = k → DataW.trod enc P w 0 (fun _ => true) true n e cs' = some y → ∃ x, cs' = cells x ∧ ok x)
    {v : Value} {d : DataW H} {p : List MemPlace} {r : Reach} {base : Nat} (hv : Value.okWide P w r base t v) (h : DataW.Trod enc P w 0 (fun _ => true) true t v d p) :
    ∃ a c, ∃ l : List α, v = .slice a (len l) c ∧ len l ≤ c ∧ c ≤ maxLen ∧ ∀ i (hi : i < l.length), ok l[i] ∧ ∃ b off, a = some ⟨b, off, none⟩ ∧ ∀ j, j < k → w.cell? ⟨b, off + i * k + j, none⟩ = (cells l[i])[j]? := by
  obtain ⟨a0, n0, c0, rfl⟩ := okWide_slice ht hv
  obtain ⟨fuel, hf⟩ := h
  rcases open_slice ht hf with ⟨hcs, _⟩ | ⟨a, n, c, m, q, D, Pl, hcs, _, hl, hm, hmm, _, hi⟩
  · simp [Value.cells] at hcs
    obtain ⟨rfl, rfl, rfl⟩ := hcs
    exact ⟨none, 0, [], rfl, Nat.le_refl _, Nat.zero_le _, fun i hi => by simp at hi⟩
  · simp [Value.cells] at hcs
    obtain ⟨rfl, rfl, rfl⟩ := hcs
    have hnm : n0 ≤ m := by rw [hmm]; simp; exact hl
    have each : ∀ i, i < n0 → ∃ x, ok x ∧ ∃ b off, some a = some ⟨b, off, none⟩ ∧ ∀ j, j < k → w.cell? ⟨b, off + i * k + j, none⟩ = (cells x)[j]? := by
      intro i hin
      obtain ⟨cs', hc, htr⟩ := hi i (by omega)
      rw [hC] at hc
      obtain ⟨_, hcl, hat⟩ := World.cells?_some hc
      obtain ⟨x, rfl, hx⟩ := hel q cs' _ hcl htr
      obtain ⟨b, off, spot⟩ := a
      have hspot : spot = none := by
        obtain ⟨cs0, hc0, htr0⟩ := hi 0 (by omega)
        rw [hC] at hc0
        obtain ⟨_, hcl0, hat0⟩ := World.cells?_some hc0
        have h1 := hat0 0 hk
        have h2 : cs0[0]? = some (cs0[0]'(by omega)) := List.getElem?_eq_getElem (by omega)
        rw [h2] at h1
        simpa [Addr.add] using World.cell?_spot h1
      subst hspot
      refine ⟨x, hx, b, off, rfl, fun j hj => ?_⟩
      have h1 := hat j hj
      rw [Go.Deep.add_add] at h1
      have e : (⟨b, off, none⟩ : Addr).add (i * k + j) = ⟨b, off + i * k + j, none⟩ := by
        unfold Addr.add; split
        · rename_i h0; simp <;> omega
        · simp [Nat.add_assoc]
      rw [e] at h1; exact h1
    obtain ⟨l, hll, hp⟩ := list_of each
    subst hll
    exact ⟨some a, c0, l, rfl, hl, hm, hp⟩
theorem wf_u8 {x : Int} (h : (Lit.int .u8 x).wf = true) : 0 ≤ x ∧ x ≤ 255 := by
  simp [Lit.wf, IntKind.min, IntKind.max, IntKind.bits, IntKind.signed] at h; omega
end
end Go.Proofs.YtpobhbdomldecaaGreatDoor
namespace Go.Proofs.YtpobhbdomldecaaGreatDoor
set_option linter.unusedSimpArgs false
set_option linter.unusedVariables false
open Go.RowKit Go.ChangeShapes Go.WideShapes Go.ChangeAt
theorem own : ownKnob Tryz.prog.godebug = none := by kernel_rfl
theorem laidOut : laidOutB Tryz.prog = true := by kernel_rfl
end Go.Proofs.YtpobhbdomldecaaGreatDoor
namespace Go.Proofs.YtpobhbdomldecaaGreatDoor
set_option linter.unusedSimpArgs false
set_option linter.unusedVariables false
open Go.RowKit Go.ChangeShapes Go.WideShapes Go.ChangeAt Go.ChangeMaps
section
variable {P : Program} {H : Type} {enc : TypeId × Value → H} {w : World}
theorem str_readx {n : Nat} {e : TypeId} {v : Value} {y : DataW H × List MemPlace} (he : P.underlying e = some .string) (h : DataW.trod enc P w 0 (fun _ => true) true n e [v] = some y) : ∃ s : ByteArray, v = .string s ∧ s.size ≤ maxLen := by
  obtain ⟨s, hx, _, hw⟩ := DataW.trod_string he h
  exact ⟨s, by simpa using hx, hw⟩
theorem open_txts {t e : TypeId} (ht : P.underlying t = some (.slice e)) (he : P.underlying e = some .string) (hC : P.cellsOf e = 1)
    {v : Value} {d : DataW H} {p : List MemPlace} {r : Reach} {base : Nat} (hv : Value.okWide P w r base t v) (h : DataW.Trod enc P w 0 (fun _ => true) true t v d p) :
    ∃ a c, ∃ l : List ByteArray, v = .slice a (len l) c ∧ len l ≤ c ∧ c ≤ maxLen ∧ Txts w a l := by
  obtain ⟨a, c, l, rfl, h1, h2, h3⟩ := open_elems 1 (fun x => [Value.string x]) (fun _ => True) ht hC (by decide) (fun n cs' y hl hy => by
    match cs', hl with
    | [v0], _ =>
      obtain ⟨s, rfl, _⟩ := str_readx he hy
      exact ⟨s, rfl, trivial⟩) hv h
  refine ⟨a, c, l, rfl, h1, h2, fun i hi => ?_⟩
  obtain ⟨_, b, off, e1, e2⟩ := h3 i hi
  refine ⟨b, off, e1, ?_⟩
  have := e2 0 (by decide)
  rw [Nat.mul_one, Nat.add_zero] at this
  rw [this, tth_eq l i hi]; rfl
end
end Go.Proofs.YtpobhbdomldecaaGreatDoor
namespace Go.Proofs.YtpobhbdomldecaaGreatDoor
set_option linter.unusedSimpArgs false
set_option linter.unusedVariables false
open Go.RowKit Go.ChangeShapes Go.WideShapes Go.ChangeAt
def rowD5 (r : PRow) : DataW Unit := .agg [.lit (.int .u64 r.below), .lit (.int .u8 r.first), .lit (.int .i64 r.size)]
set_option maxRecDepth 100000 in
theorem laid_prow {w : World} {fuel : Nat} {cs' : List Value} {r : PRow} {q : List MemPlace} (hl : cs'.length = 3) (h : DataW.trod (fun _ => ()) Tryz.prog w 0 (fun _ => true) false fuel 336 cs' = some (rowD5 r, q)) : cs' = r.cells := by
  match cs', hl with
  | [v0, v1, v2], _ =>
    obtain ⟨xs, m, _, e, _, hxl, hx⟩ := DataW.trod_struct Tryz.underlying336 h
    have cu : Tryz.prog.cellsOf 5 = 1 := by kernel_rfl
    have ci : Tryz.prog.cellsOf 3 = 1 := by kernel_rfl
    have cq : Tryz.prog.cellsOf 23 = 1 := by kernel_rfl
    have hxl' : xs.length = 3 := hxl
    have h0 : DataW.trod (fun _ => ()) Tryz.prog w 0 (fun _ => true) false m 23 (([v0, v1, v2].drop 0).take (Tryz.prog.cellsOf 23)) = xs[0]? := hx 0 _ rfl
    have h1 : DataW.trod (fun _ => ()) Tryz.prog w 0 (fun _ => true) false m 5 (([v0, v1, v2].drop 1).take (Tryz.prog.cellsOf 5)) = xs[1]? := hx 1 _ rfl
    have h2 : DataW.trod (fun _ => ()) Tryz.prog w 0 (fun _ => true) false m 3 (([v0, v1, v2].drop 2).take (Tryz.prog.cellsOf 3)) = xs[2]? := hx 2 _ rfl
    rw [cq] at h0
    rw [cu] at h1
    rw [ci] at h2
    match xs, hxl' with
    | [x0, x1, x2], _ =>
      obtain ⟨n0, e0, y0, _⟩ := DataW.trod_int Tryz.underlying23 (show DataW.trod (fun _ => ()) Tryz.prog w 0 (fun _ => true) false m 23 [v0] = some x0 from h0)
      obtain ⟨n1, e1, y1, _⟩ := DataW.trod_int Tryz.underlying5 (show DataW.trod (fun _ => ()) Tryz.prog w 0 (fun _ => true) false m 5 [v1] = some x1 from h1)
      obtain ⟨n2, e2, y2, _⟩ := DataW.trod_int Tryz.underlying3 (show DataW.trod (fun _ => ()) Tryz.prog w 0 (fun _ => true) false m 3 [v2] = some x2 from h2)
      subst y0 y1 y2
      simp [rowD5] at e e0 e1 e2
      obtain ⟨⟨a0, a1, a2⟩, _⟩ := e
      subst e0 e1 e2
      unfold PRow.cells
      rw [a0, a1, a2]
set_option maxRecDepth 100000 in
theorem laid_prows {w : World} {fuel : Nat} {cs : List Value} {l : List PRow} {p : List MemPlace} (h : DataW.trod (fun _ => ()) Tryz.prog w 0 (fun _ => true) false fuel 338 cs = some (.slice (l.map rowD5) [], p)) (hl : 0 < len l) :
    ∃ tb tq rc, cs = [.slice (some ⟨tb, tq, none⟩) (len l) rc] ∧ PRows w (some ⟨tb, tq, none⟩) l := by
  have hC : Tryz.prog.cellsOf 336 = 3 := by kernel_rfl
  rcases Go.Deep.open_slice Tryz.underlying338 h with ⟨_, hx⟩ | ⟨a, n, c, m, q, D, Pl, hcs, _, hln, hm, hmm, hx, hi⟩
  · simp at hx
  · simp only [Prod.mk.injEq, DataW.slice.injEq] at hx
    obtain ⟨⟨hD, _⟩, _⟩ := hx
    have hn : len l = n := by have := congrArg List.length hD; simpa [len] using this
    have hnm : n ≤ m := by rw [hmm]; simp; exact hln
    have each : ∀ i, i < len l → ∃ b off, a = ⟨b, off, none⟩ ∧ PRowAt w b (off + i * 3) (prth l i) := fun i hil => by
      obtain ⟨cs', hc, htr⟩ := hi i (by omega)
      rw [hC] at hc
      obtain ⟨_, hcl, hat⟩ := World.cells?_some hc
      have hDi : D i = rowD5 (prth l i) := by
        have h1 : (l.map rowD5)[i]? = ((List.range n).map D)[i]? := by rw [hD]
        have hil' : i < l.length := hil
        rw [List.getElem?_map, List.getElem?_map, List.getElem?_eq_getElem hil', List.getElem?_range (by omega)] at h1
        rw [prth_eq l i hil]
        exact (Option.some.inj h1).symm
      rw [hDi] at htr
      have hcs' := laid_prow hcl htr
      obtain ⟨b, off, spot⟩ := a
      have hat0 := hat 0 (by decide)
      rw [hcs'] at hat
      have hspot : spot = none := by
        obtain ⟨cs0, hc0, htr0⟩ := hi 0 (by omega)
        rw [hC] at hc0
        obtain ⟨_, hcl0, hat0⟩ := World.cells?_some hc0
        have h1 := hat0 0 (by decide)
        have h2 : cs0[0]? = some (cs0[0]'(by omega)) := List.getElem?_eq_getElem (by omega)
        rw [h2] at h1
        simpa [Addr.add] using World.cell?_spot h1
      subst hspot
      have key : ∀ j, j < 3 → w.cell? ⟨b, off + i * 3 + j, none⟩ = (prth l i).cells[j]? := fun j hj => by
        have h1 := hat j hj
        rw [Go.Deep.add_add] at h1
        have e : (⟨b, off, none⟩ : Addr).add (i * 3 + j) = ⟨b, off + i * 3 + j, none⟩ := by
          unfold Addr.add; split
          · rename_i h0; simp <;> omega
          · simp [Nat.add_assoc]
        rw [e] at h1; exact h1
      exact ⟨b, off, rfl, key 0 (by decide), key 1 (by decide), key 2 (by decide)⟩
    obtain ⟨b, off, rfl, _⟩ := each 0 hl
    refine ⟨b, off, c, by rw [hn]; exact hcs, fun i hil => ?_⟩
    obtain ⟨b', off', e, hR⟩ := each i hil
    cases e
    exact ⟨b, off, rfl, hR⟩
def tabD5 : DataW Unit := .agg ([0, 1, 2, 3, 4].map fun k => .slice ((hrowsP k).map rowD5) [])
set_option maxRecDepth 100000 in
theorem ptab_of {W : World} {g : Nat} {cs : Array Value} {fuel : Nat} {p : List MemPlace} (hgg : g = 5) (hg : Tryz.prog.globalNamed "sextant/pack.rows" = some g) (hv : W.var? Tryz.prog "sextant/pack.rows" = some cs)
    (h : DataW.trod (fun _ => ()) Tryz.prog W 0 (fun _ => true) false fuel 339 cs.toList = some (tabD5, p)) : PTab W.heap.size W := by
  obtain ⟨xs, m, _, e, hcl, hxl, hx⟩ := DataW.trod_array Tryz.underlying339 h
  have hC : Tryz.prog.cellsOf 338 = 1 := by kernel_rfl
  have hC5 : Tryz.prog.cellsOf 339 = 5 := by kernel_rfl
  rw [hC5] at hcl
  rw [hC] at hx
  have hd : tabD5 = .agg (xs.map (·.1)) := congrArg Prod.fst e
  unfold tabD5 at hd
  have hd2 : ([0, 1, 2, 3, 4].map fun k => (DataW.slice ((hrowsP k).map rowD5) [] : DataW Unit)) = xs.map (·.1) := by injection hd
  subst hgg
  have key : ∀ k, k < 5 → ∃ tb tq rc, cs[k]? = some (.slice (some ⟨tb, tq, none⟩) (len (hrowsP k)) rc) ∧ PRows W (some ⟨tb, tq, none⟩) (hrowsP k) := fun k hk => by
    have hxk : k < xs.length := by omega
    have h1 := hx k hk
    rw [List.getElem?_eq_getElem hxk] at h1
    have h2 : (xs[k]'hxk).1 = .slice ((hrowsP k).map rowD5) [] := by
      have h3 : (xs.map (·.1))[k]? = some (xs[k]'hxk).1 := by rw [List.getElem?_map, List.getElem?_eq_getElem hxk]; rfl
      rw [← hd2, List.getElem?_map] at h3
      have h4 : [0, 1, 2, 3, 4][k]? = some k := by
        have : k = 0 ∨ k = 1 ∨ k = 2 ∨ k = 3 ∨ k = 4 := by omega
        rcases this with rfl | rfl | rfl | rfl | rfl <;> rfl
      rw [h4] at h3
      exact (Option.some.inj h3).symm
    have h5 : DataW.trod (fun _ => ()) Tryz.prog W 0 (fun _ => true) false m 338 ((cs.toList.drop (k * 1)).take 1) = some (.slice ((hrowsP k).map rowD5) [], (xs[k]'hxk).2) := by rw [h1, ← h2]
    obtain ⟨tb, tq, rc, hcs, hr⟩ := laid_prows h5 (rowsP_pos k)
    refine ⟨tb, tq, rc, ?_, hr⟩
    have h6 : ((cs.toList.drop (k * 1)).take 1)[0]? = some (.slice (some ⟨tb, tq, none⟩) (len (hrowsP k)) rc) := by rw [hcs]; rfl
    rw [List.getElem?_take, if_pos (by decide), List.getElem?_drop] at h6
    simpa using h6
  have hlt : 5 < W.heap.size := by
    obtain ⟨tb, tq, rc, h1, h2⟩ := key 0 (by decide)
    have := World.var?_cell hg hv 0
    exact lt_of_cell (this.trans h1)
  refine ⟨hlt, Nat.le_refl _, fun k hk => ?_⟩
  obtain ⟨tb, tq, rc, h1, h2⟩ := key k hk
  refine ⟨tb, tq, rc, ?_, (World.var?_cell hg hv k).trans h1, h2⟩
  obtain ⟨b, off, e, hR⟩ := h2 0 (rowsP_pos k)
  cases e
  exact lt_of_cell hR.c0
end Go.Proofs.YtpobhbdomldecaaGreatDoor
namespace Go.Proofs.YtpobhbdomldecaaGreatDoor
set_option linter.unusedSimpArgs false
set_option linter.unusedVariables false
open Go.RowKit Go.ChangeShapes Go.WideShapes Go.ChangeAt
set_option maxRecDepth 100000 in
theorem of_laidHd {W : World} (h : laidMetH Tryz.prog Rows.headerRootsRow.laid W) : PT W.heap.size W := by
  have h' : laidMet Tryz.prog Rows.headerRootsRow.laid W := h
  obtain ⟨ps, ⟨g0, t0, cs0, f0, p0, q0, hg0, ht0, hv0, hd0, _⟩, _⟩ := h'
  obtain rfl : 5 = g0 := Option.some.inj ((show _ = some 5 by kernel_rfl).symm.trans hg0)
  obtain rfl : 339 = t0 := Option.some.inj ((show _ = some 339 by kernel_rfl).symm.trans ht0)
  exact ⟨ptab_of rfl hg0 hv0 hd0, Nat.le_refl _⟩
end Go.Proofs.YtpobhbdomldecaaGreatDoor
namespace Go.Proofs.YtpobhbdomldecaaGreatDoor.hbodies
set_option linter.unusedSimpArgs false
set_option linter.unusedVariables false
open Go.RowKit Go.ChangeShapes Go.WideShapes Go.ChangeAt
theorem door_met (os : Os) (args : Array Value) : laidMetH Tryz.prog Rows.headerBodiesRow.laid ((World.doorLaid Tryz.prog 72 os).forCall (fun _ _ => 0) ⟨#[], args, []⟩).memory :=
  laidMetH_of_parts3 (fuel := 8) (laidMet_of_run' 8 (by kernel_rfl) (by kernel_rfl)) (by kernel_rfl) (by kernel_rfl)
set_option maxRecDepth 100000 in
theorem lifted (os : Os) (started : os.Started) (H : Type) (enc : TypeId × Value → H) :
    ReturnsInHanded {} Tryz.checked os 9 .any (fun w args => (Rows.headerBodiesSpec.pre enc Tryz.prog Tryz.f9 [] false w args ∧ laidMetH Tryz.prog Rows.headerBodiesRow.laid w) ∧ sizedMet enc Tryz.prog Tryz.f9 (OpenSpec.ofChange Rows.headerBodiesSpec) false w args)
      (Rows.headerBodiesSpec.post enc Tryz.prog Tryz.f9 false true false false) := by
  refine returnsInHanded_of_change_and (C := Tryz.checked) (X := fun w _ => laidMetH Tryz.prog Rows.headerBodiesRow.laid w) (fun _ _ _ hh h => h.of_heap hh) own started (by kernel_rfl) Tryz.func9
    (ChangeSpec.witness_shaped (enc := enc) (C := Tryz.checked) (os := os) (X := fun w _ => laidMetH Tryz.prog Rows.headerBodiesRow.laid w) false (World.doorLaid Tryz.prog 72 os) #[.slice none 0 0, .int .u8 0] 8 rfl (World.shaped_of_RefB (by kernel_rfl) (by kernel_rfl)) (by kernel_rfl) (by kernel_rfl) (by kernel_rfl) (door_met os _)) ?_
  intro W base args ds gs before hval0 hW _ _ hL _
  have hval : ∀ (j : Nat) t v, Tryz.f9.params[j]? = some t → args[j]? = some v → Value.okWide Tryz.prog W .any base t v := hval0
  have hW' := hW
  obtain ⟨p, q, hA0, hV, rfl, hfz, hnd⟩ := hW
  have hA : DataW.TrodAll enc Tryz.prog W 0 (fun _ => true) true Tryz.f9.params.toList args.toList ds p := hA0
  rw [Tryz.params9] at hA hval
  have hAA := hA
  obtain ⟨v0, vs0, d0, ds0, p0, q0, hargs, rfl, rfl, h0, r0⟩ := trodAll_cons hA
  obtain ⟨v1, vs1, d1, ds1, p1, q1, rfl, rfl, rfl, h1, r1⟩ := trodAll_cons r0
  obtain ⟨rfl, rfl, rfl⟩ := trodAll_nil r1
  obtain rfl : args = #[v0, v1] := by cases args; simp_all
  obtain ⟨rfl, rfl⟩ := trodVars_none hV
  obtain ⟨a0, c0, l0, rfl, lc0, cm0, o0⟩ := open_txts Tryz.underlying36 Tryz.underlying9 (by kernel_rfl) (hval 0 _ _ rfl rfl) h0
  obtain ⟨x1, rfl, _, _, w1⟩ := open_int Tryz.underlying5 (hval 1 _ _ rfl rfl) h1
  have u1 := wf_u8 w1
  obtain ⟨A, rfl⟩ := Int.eq_ofNat_of_zero_le u1.1
  have hT := of_laidHd (show laidMetH Tryz.prog Rows.headerRootsRow.laid W from hL)
  unfold maxLen at cm0
  clear hA0 hval0
  refine (bodies23_law W.heap.size l0 a0 c0 A W hT o0 (by omega) (by omega)).mono fun e W' ⟨he, bel⟩ => ?_
  subst he
  have hback := below_trodAll laidOut bel (fun t ht => ⟨by revert t; exact of_decide_eq_true (by kernel_rfl), by revert t; exact of_decide_eq_true (by kernel_rfl)⟩) hAA
  exact ⟨_, rfl, _, _, _, [], _, [], hW', trodAll_mk1 (shut_bool Tryz.underlying4 _), hback, rfl, bel.frame _, fun h => by cases h⟩
end Go.Proofs.YtpobhbdomldecaaGreatDoor.hbodies

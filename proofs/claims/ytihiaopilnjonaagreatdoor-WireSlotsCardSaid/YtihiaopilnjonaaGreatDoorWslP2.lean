/- Parts of the proof, one behind the other. -/
import Derived.Test.YtihiaopilnjonaaGreatDoorWslP1
import Derived.Laws.BytesArg
import Derived.Maps.RangeRun
import Derived.Maps.RangeWalk
import Derived.Carry
import Derived.Laws.EntriesVeiled
namespace Go.Proofs.YtihiaopilnjonaaGreatDoor
open Go.RowKit
set_option linter.unusedSimpArgs false
set_option linter.unusedVariables false
structure PRow.Ok (r : PRow) (n : Int) : Prop where
  b0 : 0 ≤ r.below
  b1 : r.below ≤ 18446744073709551615
  f0 : 0 ≤ r.first
  f1 : r.first ≤ 255
  s0 : 0 ≤ r.size
  s1 : r.size ≤ 8
  fit : r.size = 0 → (n < r.below ∨ r.below = 0) → r.first + n ≤ 255
def Head1Is (r : PRow) (n : Int) (s : ByteArray) (b base : Nat) (w : World) (e : Ending) (w' : World) : Prop :=
  e = .returned (.bool (decide (n < r.below ∨ r.below = 0))) ∧ WrB w' b base (if n < r.below ∨ r.below = 0 then s ++ baL (rowB r n) else s) ∧ WK base b w w'
theorem hi_next (n : Int) (k i : Nat) (h : i < k) : (hiL n k).take (k - i) = (hiL n k).take (k - (i + 1)) ++ [n / 256 ^ i % 256] := by
  have hl := hiL_len n k
  have key : ∀ k, i < k → (hiL n k)[k - (i + 1)]? = some (n / 256 ^ i % 256) := by
    intro k
    induction k with
    | zero => intro h; omega
    | succ k ih =>
      intro h
      rw [hiL]
      by_cases e : i = k
      · subst e; simp
      · have h2 := ih (by omega)
        rw [show k + 1 - (i + 1) = (k - (i + 1)) + 1 by omega, List.getElem?_cons_succ]; exact h2
  have h3 := key k h
  rw [show k - i = k - (i + 1) + 1 by omega, List.take_add_one, h3]; rfl
set_option maxRecDepth 100000 in
set_option maxHeartbeats 4000000 in
theorem head1_any (r : PRow) (bn bw b base : Nat) (n : Int) (s : ByteArray) (w : World) (hn : w.heap[bn]? = some (.cells #[.int .u64 n] 23 (0, 0))) (hw : w.heap[bw]? = some (.cells #[.pointer (some ⟨b, 0, none⟩)] 166 (0, 0)))
    (hW : WrB w b base s) (h0 : 0 ≤ n) (h1 : n ≤ 18446744073709551615) (hr : r.Ok n) (hs : s.size ≤ 70000000000000) :
    Calls Tryz.prog 255 #[r.val, .pointer (some ⟨bn, 0, none⟩), .pointer (some ⟨bw, 0, none⟩)] w (Head1Is r n s b base w) := by
  have HR := Lib.hid hr
  have HN := Lib.hid hn
  have HW2 := Lib.hid hw
  have HWR := Lib.hid hW
  have cn := block_cell hn 0
  have cw := block_cell hw 0
  simp only [List.getElem?_toArray, List.getElem?_cons_zero] at cn cw
  have lbn := lt_of_block hn
  have lbw := lt_of_block hw
  clear hr hn hw hW
  unfold PRow.val
  by_cases hx : n < r.below ∨ r.below = 0
  · have HX : Hid (decide (n < r.below ∨ r.below = 0) = true) := Lib.hid (decide_eq_true hx)
    have hcase : decide (r.below ≤ n) = false ∨ (decide (r.below ≤ n) = true ∧ decide (0 < r.below) = false) := by
      rcases hx with h | h
      · exact .inl (decide_eq_false (by omega))
      · exact .inr ⟨decide_eq_true (by omega), decide_eq_false (by omega)⟩
    have HCS := Lib.hid hcase
    have hfit := fun h => HR.out.fit h hx
    have HFIT := Lib.hid hfit
    have HIF : Hid ((if n < r.below ∨ r.below = 0 then s ++ baL (rowB r n) else s) = s ++ baL (rowB r n)) := Lib.hid (if_pos hx)
    have f0 := HR.out.f0
    have f1 := HR.out.f1
    have s0 := HR.out.s0
    have s1 := HR.out.s1
    clear hx hfit hcase
    obtain ⟨hbase, v, hv, hown⟩ := HWR.out
    have n8w : Not8 (.cells #[v] 265 (0, 0)) := not8_cells (by decide)
    have n8n : Not8 (.cells #[.int .u64 n] 23 (0, 0)) := not8_cells (by decide)
    have n8b : Not8 (.cells #[.pointer (some ⟨b, 0, none⟩)] 166 (0, 0)) := not8_cells (by decide)
    have n8r : Not8 (.cells #[.int .u64 r.below, .int .u8 r.first, .int .i64 r.size] 332 (0, 0)) := not8_cells (by decide)
    obtain ⟨i0, hi, hz0, hz1, hz2⟩ := info_parts info_u8
    have cb := block_cell hv 0
    simp only [List.getElem?_toArray, List.getElem?_cons_zero] at cb
    have HV := Lib.hid hv
    have HOWN0 := Lib.hid hown
    have hltb := HWR.out.lt
    have HBS : Hid (base ≤ w.heap.size) := Lib.hid (by omega)
    clear hv hown
    have hcs := HCS.out
    clear HCS
    rcases hcs with g1 | ⟨g1, g2⟩
    · skip
      go_enter Tryz.func255, Tryz.ntmps255
      by_cases hsz : r.size = 0
      · have e0 : (r.size == 0) = true := by simpa using hsz
        have HSZ := Lib.hid hsz
        clear hsz
        go_upto_region 4 with fail
        obtain ⟨br, hbr⟩ : ∃ br, w.heap.size = br := ⟨_, rfl⟩
        obtain ⟨V, hV⟩ : ∃ V, w.alloc (.cells #[.int .u64 r.below, .int .u8 r.first, .int .i64 r.size] 332) = V := ⟨_, rfl⟩
        have VB : Hid (Below w.heap.size w V) := Lib.hid (by rw [← hV]; exact balloc (Below.refl _ _) _)
        have VR : Hid (V.heap[br]? = some (.cells #[.int .u64 r.below, .int .u8 r.first, .int .i64 r.size] 332 (0, 0))) := Lib.hid (by rw [← hV, ← hbr]; exact heap_alloc_new _ _)
        have VN : Hid (V.heap[bn]? = some (.cells #[.int .u64 n] 23 (0, 0))) := Lib.hid ((VB.out.block _ (lt_of_block HN.out)).trans HN.out)
        have VW : Hid (V.heap[bw]? = some (.cells #[.pointer (some ⟨b, 0, none⟩)] 166 (0, 0))) := Lib.hid ((VB.out.block _ (lt_of_block HW2.out)).trans HW2.out)
        have VV : Hid (V.heap[b]? = some (.cells #[v] 265 (0, 0))) := Lib.hid ((VB.out.block _ hltb).trans HV.out)
        have HOWN := Lib.hid (own_below HOWN0.out VB.out)
        have HQ : Hid (∀ g, v.ownBlock = some g → base ≤ g ∧ g < V.heap.size) := Lib.hid (fun g hg => HOWN.out.lt g hg)
        have n1 := own_not8 HOWN.out VN.out n8n
        have n2 := own_not8 HOWN.out VW.out n8b
        have n3 := own_not8 HOWN.out VR.out n8r
        have n4 := own_not8 HOWN.out VV.out n8w
        have c1 : V.cell? ⟨bn, 0, none⟩ = some (.int .u64 n) := block_cell VN.out 0
        have c2 : V.cell? ⟨bw, 0, none⟩ = some (.pointer (some ⟨b, 0, none⟩)) := block_cell VW.out 0
        have c3 : V.cell? ⟨br, 1, none⟩ = some (.int .u8 r.first) := block_cell VR.out 1
        have c4 : V.cell? ⟨b, 0, none⟩ = some v := block_cell VV.out 0
        have hbV : base ≤ V.heap.size := Nat.le_trans hbase (Nat.le_of_lt (lt_of_block VV.out))
        obtain ⟨y, hy⟩ : ∃ y, r.first + n = y := ⟨_, rfl⟩
        have hy1 : y ≤ 255 := by rw [← hy]; exact HFIT.out HSZ.out
        have y0 : IntKind.u8.wrap n = n := IntWalk.u8_in _ (by omega)
        have y1 : IntKind.u8.wrap (r.first + n) = y := by rw [hy]; exact IntWalk.u8_in _ (by omega)
        have hy0 : 0 ≤ y := by omega
        have HY := Lib.hid hy
        rw [hbr]
        try rw [hV]
        clear hV hbr hy cn cw cb
        refine wp_region_tail 14 11 (v.ownBlock) (phis [fun u _ => u = (.pointer (some ⟨b, 0, none⟩)), fun u _ => u = (.pointer (some ⟨b, 0, none⟩)), fun u _ => u = (.pointer (some ⟨b, 0, none⟩)), fun u _ => u = (.pointer (some ⟨b, 0, none⟩)), fun u _ => u = (v), fun u _ => u = (.pointer (some ⟨br, 1, none⟩)), fun u _ => u = (.int .u8 r.first), fun u _ => u = (.int .u64 n), fun u _ => u = (.int .u8 n), fun u _ => u = (.int .u8 y), fun u w' => ∃ b, u = .slice (some ⟨b, 0, none⟩) 1 1 ∧ some b ≠ v.ownBlock ∧ w'.heap[b]? = some (.cells ([.int .u8 y]).toArray 5 (0, 0)), fun u w' => w'.ownsRow (base) 5 1 u (s.size + 1) (Lib.strCells s ++ [.int .u8 y]), fun u _ => u = (.pointer (some ⟨b, 0, none⟩)), fun u _ => u = (.pointer (some ⟨b, 0, none⟩))]) rfl (by kernel_rfl) (by kernel_rfl) (mono_of ⟨mono_eq, mono_eq, mono_eq, mono_eq, mono_eq, mono_eq, mono_eq, mono_eq, mono_eq, mono_eq, ?m10, ?m11, mono_eq, mono_eq, trivial⟩) (steps_of 14 ⟨?s0, ?s1, ?s2, ?s3, ?s4, ?s5, ?s6, ?s7, ?s8, ?s9, ?s10, ?s11, ?s12, ?s13, trivial⟩) ?_
        case m10 =>
          exact ⟨fun u w1 w' h ⟨b, h1, hb, hb'⟩ => ⟨b, h1, hb, ext_block h hb'⟩, fun _ u w1 w' h ⟨b, h1, hb, hb'⟩ => ⟨b, h1, hb, extB_block h hb hb'⟩⟩
        case m11 =>
          exact ⟨fun u w1 w' h hu => own_below hu h, fun hn => absurd rfl hn⟩
        case s0 =>
          refine step_val (v := (.pointer (some ⟨b, 0, none⟩))) (fun av wv hE hS hO hD => ?_) (fun _ => rfl)
          have h2 : av.eval (.tmp 2) = (.pointer (some ⟨bw, 0, none⟩)) := hO.2.2 2 rfl
          have f2 := (ev_form av 2).symm.trans h2
          have c1 := extB_cell hE n1 c1
          have c2 := extB_cell hE n2 c2
          have c3 := extB_cell hE n3 c3
          have c4 := extB_cell hE n4 c4
          refine ⟨rfl, ?_⟩
          simp [go_sem, f2, c1, c2, c3, c4, y0, y1]
        case s1 =>
          refine step_val (v := (.pointer (some ⟨b, 0, none⟩))) (fun av wv hE hS hO hD => ?_) (fun _ => rfl)
          have h2 : av.eval (.tmp 2) = (.pointer (some ⟨bw, 0, none⟩)) := hO.2.2 2 rfl
          have f2 := (ev_form av 2).symm.trans h2
          have c1 := extB_cell hE n1 c1
          have c2 := extB_cell hE n2 c2
          have c3 := extB_cell hE n3 c3
          have c4 := extB_cell hE n4 c4
          refine ⟨rfl, ?_⟩
          simp [go_sem, f2, c1, c2, c3, c4, y0, y1]
        case s2 =>
          refine step_val (v := (.pointer (some ⟨b, 0, none⟩))) (fun av wv hE hS hO hD => ?_) (fun _ => rfl)
          have d19 : av.eval (.tmp 19) = (.pointer (some ⟨b, 0, none⟩)) := hD.1 rfl _ rfl
          have f19 := (ev_form av 19).symm.trans d19
          refine ⟨rfl, ?_⟩
          simp [go_sem, f19, y0, y1]
        case s3 =>
          refine step_val (v := (.pointer (some ⟨b, 0, none⟩))) (fun av wv hE hS hO hD => ?_) (fun _ => rfl)
          have d20 : av.eval (.tmp 20) = (.pointer (some ⟨b, 0, none⟩)) := hD.1 rfl _ rfl
          have f20 := (ev_form av 20).symm.trans d20
          refine ⟨rfl, ?_⟩
          simp [go_sem, f20, y0, y1]
        case s4 =>
          refine step_val (v := (v)) (fun av wv hE hS hO hD => ?_) (fun _ => rfl)
          have d21 : av.eval (.tmp 21) = (.pointer (some ⟨b, 0, none⟩)) := hD.1 rfl _ rfl
          have f21 := (ev_form av 21).symm.trans d21
          have c1 := extB_cell hE n1 c1
          have c2 := extB_cell hE n2 c2
          have c3 := extB_cell hE n3 c3
          have c4 := extB_cell hE n4 c4
          refine ⟨rfl, ?_⟩
          simp [go_sem, f21, c1, c2, c3, c4, y0, y1]
        case s5 =>
          refine step_val (v := (.pointer (some ⟨br, 1, none⟩))) (fun av wv hE hS hO hD => ?_) (fun _ => rfl)
          have h3 : av.eval (.tmp 3) = (.pointer (some ⟨br, 0, none⟩)) := hO.2.2 3 rfl
          have f3 := (ev_form av 3).symm.trans h3
          refine ⟨rfl, ?_⟩
          simp [go_sem, f3, y0, y1]
        case s6 =>
          refine step_val (v := (.int .u8 r.first)) (fun av wv hE hS hO hD => ?_) (fun _ => rfl)
          have d23 : av.eval (.tmp 23) = (.pointer (some ⟨br, 1, none⟩)) := hD.1 rfl _ rfl
          have f23 := (ev_form av 23).symm.trans d23
          have c1 := extB_cell hE n1 c1
          have c2 := extB_cell hE n2 c2
          have c3 := extB_cell hE n3 c3
          have c4 := extB_cell hE n4 c4
          refine ⟨rfl, ?_⟩
          simp [go_sem, f23, c1, c2, c3, c4, y0, y1]
        case s7 =>
          refine step_val (v := (.int .u64 n)) (fun av wv hE hS hO hD => ?_) (fun _ => rfl)
          have h1 : av.eval (.tmp 1) = (.pointer (some ⟨bn, 0, none⟩)) := hO.2.2 1 rfl
          have f1 := (ev_form av 1).symm.trans h1
          have c1 := extB_cell hE n1 c1
          have c2 := extB_cell hE n2 c2
          have c3 := extB_cell hE n3 c3
          have c4 := extB_cell hE n4 c4
          refine ⟨rfl, ?_⟩
          simp [go_sem, f1, c1, c2, c3, c4, y0, y1]
        case s8 =>
          refine step_val (v := (.int .u8 n)) (fun av wv hE hS hO hD => ?_) (fun _ => rfl)
          have d25 : av.eval (.tmp 25) = (.int .u64 n) := hD.1 rfl _ rfl
          have f25 := (ev_form av 25).symm.trans d25
          refine ⟨rfl, ?_⟩
          simp [go_sem, f25, y0, y1]
        case s9 =>
          refine step_val (v := (.int .u8 y)) (fun av wv hE hS hO hD => ?_) (fun _ => rfl)
          have d24 : av.eval (.tmp 24) = (.int .u8 r.first) := hD.1 rfl _ rfl
          have f24 := (ev_form av 24).symm.trans d24
          have d26 : av.eval (.tmp 26) = (.int .u8 n) := hD.2.1 rfl _ rfl
          have f26 := (ev_form av 26).symm.trans d26
          refine ⟨rfl, ?_⟩
          simp [go_sem, f24, f26, y0, y1]
        case s10 =>
          refine step_wp (fun av wv hE hS hO hD => ?_)
          have d27 : av.eval (.tmp 27) = (.int .u8 y) := hD.1 rfl _ rfl
          have f27 := (ev_form av 27).symm.trans d27
          refine ⟨rfl, ?_⟩
          refine wp_of_run (v := .slice (some ⟨wv.heap.size, 0, none⟩) 1 1) (w' := wv.alloc (.cells ([.int .u8 y]).toArray 5)) (by first | (simp [go_sem, f27, y0, y1]; done) | (simp [go_sem, f27, y0, y1]; rfl)) ⟨_, rfl, es_of_ext (balloc (Ext_refl _) _), wv.heap.size, rfl, ?_, heap_alloc_new _ _⟩
          exact fun e => absurd (HQ.out _ e.symm).2 (by have := hE.size; simp at this; omega)
        case s11 =>
          refine step_wp (fun av wv hE hS hO hD => ?_)
          have d22 : av.eval (.tmp 22) = (v) := hD.1 rfl _ rfl
          have f22 := (ev_form av 22).symm.trans d22
          have d28 : (fun u w' => ∃ b, u = .slice (some ⟨b, 0, none⟩) 1 1 ∧ some b ≠ v.ownBlock ∧ w'.heap[b]? = some (.cells ([.int .u8 y]).toArray 5 (0, 0))) (av.eval (.tmp 28)) wv := hD.2.1 rfl _ rfl
          refine ⟨rfl, ?_⟩
          obtain ⟨bS, hS1, hbS, hcS⟩ := d28
          have hown1 : wv.ownsRow (base) 5 1 (v) (s.size) (Lib.strCells s) := own_below (w := World.drew _) (HOWN.out) (hS rfl)
          refine wp_append_lies wv _ _ _ rfl (base) 5 i0 (.int .u8 0) 1 1 Tryz.underlying106 hi hz0 hz1 hz2 rfl (by decide) (v) (s.size) _ d22 hown1 ⟨bS, 0, none⟩ 1 1 ([.int .u8 y]) (by exact hS1) rfl (World.news_of_block hcS) (one_u8 _) (by decide) (by unfold maxLen; omega) (by omega) (by have := hE.size; simp at this; omega) _ rfl ?_
          intro g cap1 w2 hown2 hgrow hat hlt2
          exact ⟨_, rfl, es_sp hgrow, hown2⟩
        case s12 =>
          refine step_val (v := (.pointer (some ⟨b, 0, none⟩))) (fun av wv hE hS hO hD => ?_) (fun _ => rfl)
          have d18 : av.eval (.tmp 18) = (.pointer (some ⟨b, 0, none⟩)) := hD.1 rfl _ rfl
          have f18 := (ev_form av 18).symm.trans d18
          refine ⟨rfl, ?_⟩
          simp [go_sem, f18, y0, y1]
        case s13 =>
          refine step_val (v := (.pointer (some ⟨b, 0, none⟩))) (fun av wv hE hS hO hD => ?_) (fun _ => rfl)
          have d30 : av.eval (.tmp 30) = (.pointer (some ⟨b, 0, none⟩)) := hD.1 rfl _ rfl
          have f30 := (ev_form av 30).symm.trans d30
          refine ⟨rfl, ?_⟩
          simp [go_sem, f30, y0, y1]
        intro a' w' hE hO hall
        have hA := act_of_outer (ds := [18, 19, 20, 21, 22, 23, 24, 25, 26, 27, 28, 29, 30, 31]) rfl hO (by kernel_rfl)
        have e18 : (fun u _ => u = (.pointer (some ⟨b, 0, none⟩))) (a'.eval (.tmp 18)) w' := hall.1 _ rfl
        have e19 : (fun u _ => u = (.pointer (some ⟨b, 0, none⟩))) (a'.eval (.tmp 19)) w' := hall.2.1 _ rfl
        have e20 : (fun u _ => u = (.pointer (some ⟨b, 0, none⟩))) (a'.eval (.tmp 20)) w' := hall.2.2.1 _ rfl
        have e21 : (fun u _ => u = (.pointer (some ⟨b, 0, none⟩))) (a'.eval (.tmp 21)) w' := hall.2.2.2.1 _ rfl
        have e22 : (fun u _ => u = (v)) (a'.eval (.tmp 22)) w' := hall.2.2.2.2.1 _ rfl
        have e23 : (fun u _ => u = (.pointer (some ⟨br, 1, none⟩))) (a'.eval (.tmp 23)) w' := hall.2.2.2.2.2.1 _ rfl
        have e24 : (fun u _ => u = (.int .u8 r.first)) (a'.eval (.tmp 24)) w' := hall.2.2.2.2.2.2.1 _ rfl
        have e25 : (fun u _ => u = (.int .u64 n)) (a'.eval (.tmp 25)) w' := hall.2.2.2.2.2.2.2.1 _ rfl
        have e26 : (fun u _ => u = (.int .u8 n)) (a'.eval (.tmp 26)) w' := hall.2.2.2.2.2.2.2.2.1 _ rfl
        have e27 : (fun u _ => u = (.int .u8 y)) (a'.eval (.tmp 27)) w' := hall.2.2.2.2.2.2.2.2.2.1 _ rfl
        have e28 : (fun u w' => ∃ b, u = .slice (some ⟨b, 0, none⟩) 1 1 ∧ some b ≠ v.ownBlock ∧ w'.heap[b]? = some (.cells ([.int .u8 y]).toArray 5 (0, 0))) (a'.eval (.tmp 28)) w' := hall.2.2.2.2.2.2.2.2.2.2.1 _ rfl
        have e29 : (fun u w' => w'.ownsRow (base) 5 1 u (s.size + 1) (Lib.strCells s ++ [.int .u8 y])) (a'.eval (.tmp 29)) w' := hall.2.2.2.2.2.2.2.2.2.2.2.1 _ rfl
        have e30 : (fun u _ => u = (.pointer (some ⟨b, 0, none⟩))) (a'.eval (.tmp 30)) w' := hall.2.2.2.2.2.2.2.2.2.2.2.2.1 _ rfl
        have e31 : (fun u _ => u = (.pointer (some ⟨b, 0, none⟩))) (a'.eval (.tmp 31)) w' := hall.2.2.2.2.2.2.2.2.2.2.2.2.2.1 _ rfl
        obtain ⟨v28, hv28⟩ : ∃ v, a'.eval (.tmp 28) = v := ⟨_, rfl⟩
        rw [hv28] at e28
        obtain ⟨v29, hv29⟩ : ∃ v, a'.eval (.tmp 29) = v := ⟨_, rfl⟩
        rw [hv29] at e29
        simp only [List.foldl_cons, List.foldl_nil, Act.put, List.setIfInBounds_toArray, List.set_cons_succ, List.set_cons_zero, e18, e19, e20, e21, e22, e23, e24, e25, e26, e27, hv28, hv29, e30, e31] at hA
        clear hO hall e18 e19 e20 e21 e22 e23 e24 e25 e26 e27 hv28 hv29 e30 e31
        subst hA
        obtain ⟨ga, gc, rfl⟩ := own_slice e29
        have hst := wr_step (s' := s ++ baL [toB y]) hbase VV.out HOWN.out hE (by rw [baL_one]; exact e29) (by rw [strCells_app, strCells_one hy0 hy1])
        have HST := Lib.hid hst
        have hc4 := hst.1
        have hf4 := hst.2.1
        clear hst hE e29
        go_wp2
        go_ret
        refine ⟨ret_bool HX.out.symm, ?_, (WK.of_below VB.out HBS.out).trans HST.out.2.2.2⟩
        rw [HIF.out]
        have e4 : rowB r n = [toB y] := by unfold rowB; rw [if_pos HSZ.out, HY.out]
        rw [e4]; exact HST.out.2.2.1
      · have e0 : (r.size == 0) = false := by simpa using hsz
        have HSZ := Lib.hid hsz
        clear hsz
        go_upto_region 6 with fail
        obtain ⟨br, hbr⟩ : ∃ br, w.heap.size = br := ⟨_, rfl⟩
        obtain ⟨V, hV⟩ : ∃ V, w.alloc (.cells #[.int .u64 r.below, .int .u8 r.first, .int .i64 r.size] 332) = V := ⟨_, rfl⟩
        have VB : Hid (Below w.heap.size w V) := Lib.hid (by rw [← hV]; exact balloc (Below.refl _ _) _)
        have VR : Hid (V.heap[br]? = some (.cells #[.int .u64 r.below, .int .u8 r.first, .int .i64 r.size] 332 (0, 0))) := Lib.hid (by rw [← hV, ← hbr]; exact heap_alloc_new _ _)
        have VN : Hid (V.heap[bn]? = some (.cells #[.int .u64 n] 23 (0, 0))) := Lib.hid ((VB.out.block _ (lt_of_block HN.out)).trans HN.out)
        have VW : Hid (V.heap[bw]? = some (.cells #[.pointer (some ⟨b, 0, none⟩)] 166 (0, 0))) := Lib.hid ((VB.out.block _ (lt_of_block HW2.out)).trans HW2.out)
        have VV : Hid (V.heap[b]? = some (.cells #[v] 265 (0, 0))) := Lib.hid ((VB.out.block _ hltb).trans HV.out)
        have HOWN := Lib.hid (own_below HOWN0.out VB.out)
        have HQ : Hid (∀ g, v.ownBlock = some g → base ≤ g ∧ g < V.heap.size) := Lib.hid (fun g hg => HOWN.out.lt g hg)
        have n1 := own_not8 HOWN.out VN.out n8n
        have n2 := own_not8 HOWN.out VW.out n8b
        have n3 := own_not8 HOWN.out VR.out n8r
        have n4 := own_not8 HOWN.out VV.out n8w
        have c1 : V.cell? ⟨bn, 0, none⟩ = some (.int .u64 n) := block_cell VN.out 0
        have c2 : V.cell? ⟨bw, 0, none⟩ = some (.pointer (some ⟨b, 0, none⟩)) := block_cell VW.out 0
        have c3 : V.cell? ⟨br, 1, none⟩ = some (.int .u8 r.first) := block_cell VR.out 1
        have c4 : V.cell? ⟨b, 0, none⟩ = some v := block_cell VV.out 0
        have hbV : base ≤ V.heap.size := Nat.le_trans hbase (Nat.le_of_lt (lt_of_block VV.out))
        rw [hbr]
        try rw [hV]
        clear hV hbr cn cw cb
        refine wp_region_tail 11 8 (v.ownBlock) (phis [fun u _ => u = (.pointer (some ⟨b, 0, none⟩)), fun u _ => u = (.pointer (some ⟨b, 0, none⟩)), fun u _ => u = (.pointer (some ⟨b, 0, none⟩)), fun u _ => u = (.pointer (some ⟨b, 0, none⟩)), fun u _ => u = (v), fun u _ => u = (.pointer (some ⟨br, 1, none⟩)), fun u _ => u = (.int .u8 r.first), fun u w' => ∃ b, u = .slice (some ⟨b, 0, none⟩) 1 1 ∧ some b ≠ v.ownBlock ∧ w'.heap[b]? = some (.cells ([.int .u8 r.first]).toArray 5 (0, 0)), fun u w' => w'.ownsRow (base) 5 1 u (s.size + 1) (Lib.strCells s ++ [.int .u8 r.first]), fun u _ => u = (.pointer (some ⟨b, 0, none⟩)), fun u _ => u = (.pointer (some ⟨b, 0, none⟩))]) rfl (by kernel_rfl) (by kernel_rfl) (mono_of ⟨mono_eq, mono_eq, mono_eq, mono_eq, mono_eq, mono_eq, mono_eq, ?m7, ?m8, mono_eq, mono_eq, trivial⟩) (steps_of 11 ⟨?s0, ?s1, ?s2, ?s3, ?s4, ?s5, ?s6, ?s7, ?s8, ?s9, ?s10, trivial⟩) ?_
        case m7 =>
          exact ⟨fun u w1 w' h ⟨b, h1, hb, hb'⟩ => ⟨b, h1, hb, ext_block h hb'⟩, fun _ u w1 w' h ⟨b, h1, hb, hb'⟩ => ⟨b, h1, hb, extB_block h hb hb'⟩⟩
        case m8 =>
          exact ⟨fun u w1 w' h hu => own_below hu h, fun hn => absurd rfl hn⟩
        case s0 =>
          refine step_val (v := (.pointer (some ⟨b, 0, none⟩))) (fun av wv hE hS hO hD => ?_) (fun _ => rfl)
          have h2 : av.eval (.tmp 2) = (.pointer (some ⟨bw, 0, none⟩)) := hO.2.2 2 rfl
          have f2 := (ev_form av 2).symm.trans h2
          have c1 := extB_cell hE n1 c1
          have c2 := extB_cell hE n2 c2
          have c3 := extB_cell hE n3 c3
          have c4 := extB_cell hE n4 c4
          refine ⟨rfl, ?_⟩
          simp [go_sem, f2, c1, c2, c3, c4]
        case s1 =>
          refine step_val (v := (.pointer (some ⟨b, 0, none⟩))) (fun av wv hE hS hO hD => ?_) (fun _ => rfl)
          have h2 : av.eval (.tmp 2) = (.pointer (some ⟨bw, 0, none⟩)) := hO.2.2 2 rfl
          have f2 := (ev_form av 2).symm.trans h2
          have c1 := extB_cell hE n1 c1
          have c2 := extB_cell hE n2 c2
          have c3 := extB_cell hE n3 c3
          have c4 := extB_cell hE n4 c4
          refine ⟨rfl, ?_⟩
          simp [go_sem, f2, c1, c2, c3, c4]
        case s2 =>
          refine step_val (v := (.pointer (some ⟨b, 0, none⟩))) (fun av wv hE hS hO hD => ?_) (fun _ => rfl)
          have d33 : av.eval (.tmp 33) = (.pointer (some ⟨b, 0, none⟩)) := hD.1 rfl _ rfl
          have f33 := (ev_form av 33).symm.trans d33
          refine ⟨rfl, ?_⟩
          simp [go_sem, f33]
        case s3 =>
          refine step_val (v := (.pointer (some ⟨b, 0, none⟩))) (fun av wv hE hS hO hD => ?_) (fun _ => rfl)
          have d34 : av.eval (.tmp 34) = (.pointer (some ⟨b, 0, none⟩)) := hD.1 rfl _ rfl
          have f34 := (ev_form av 34).symm.trans d34
          refine ⟨rfl, ?_⟩
          simp [go_sem, f34]
        case s4 =>
          refine step_val (v := (v)) (fun av wv hE hS hO hD => ?_) (fun _ => rfl)
          have d35 : av.eval (.tmp 35) = (.pointer (some ⟨b, 0, none⟩)) := hD.1 rfl _ rfl
          have f35 := (ev_form av 35).symm.trans d35
          have c1 := extB_cell hE n1 c1
          have c2 := extB_cell hE n2 c2
          have c3 := extB_cell hE n3 c3
          have c4 := extB_cell hE n4 c4
          refine ⟨rfl, ?_⟩
          simp [go_sem, f35, c1, c2, c3, c4]
        case s5 =>
          refine step_val (v := (.pointer (some ⟨br, 1, none⟩))) (fun av wv hE hS hO hD => ?_) (fun _ => rfl)
          have h3 : av.eval (.tmp 3) = (.pointer (some ⟨br, 0, none⟩)) := hO.2.2 3 rfl
          have f3 := (ev_form av 3).symm.trans h3
          refine ⟨rfl, ?_⟩
          simp [go_sem, f3]
        case s6 =>
          refine step_val (v := (.int .u8 r.first)) (fun av wv hE hS hO hD => ?_) (fun _ => rfl)
          have d37 : av.eval (.tmp 37) = (.pointer (some ⟨br, 1, none⟩)) := hD.1 rfl _ rfl
          have f37 := (ev_form av 37).symm.trans d37
          have c1 := extB_cell hE n1 c1
          have c2 := extB_cell hE n2 c2
          have c3 := extB_cell hE n3 c3
          have c4 := extB_cell hE n4 c4
          refine ⟨rfl, ?_⟩
          simp [go_sem, f37, c1, c2, c3, c4]
        case s7 =>
          refine step_wp (fun av wv hE hS hO hD => ?_)
          have d38 : av.eval (.tmp 38) = (.int .u8 r.first) := hD.1 rfl _ rfl
          have f38 := (ev_form av 38).symm.trans d38
          refine ⟨rfl, ?_⟩
          refine wp_of_run (v := .slice (some ⟨wv.heap.size, 0, none⟩) 1 1) (w' := wv.alloc (.cells ([.int .u8 r.first]).toArray 5)) (by first | (simp [go_sem, f38]; done) | (simp [go_sem, f38]; rfl)) ⟨_, rfl, es_of_ext (balloc (Ext_refl _) _), wv.heap.size, rfl, ?_, heap_alloc_new _ _⟩
          exact fun e => absurd (HQ.out _ e.symm).2 (by have := hE.size; simp at this; omega)
        case s8 =>
          refine step_wp (fun av wv hE hS hO hD => ?_)
          have d36 : av.eval (.tmp 36) = (v) := hD.1 rfl _ rfl
          have f36 := (ev_form av 36).symm.trans d36
          have d39 : (fun u w' => ∃ b, u = .slice (some ⟨b, 0, none⟩) 1 1 ∧ some b ≠ v.ownBlock ∧ w'.heap[b]? = some (.cells ([.int .u8 r.first]).toArray 5 (0, 0))) (av.eval (.tmp 39)) wv := hD.2.1 rfl _ rfl
          refine ⟨rfl, ?_⟩
          obtain ⟨bS, hS1, hbS, hcS⟩ := d39
          have hown1 : wv.ownsRow (base) 5 1 (v) (s.size) (Lib.strCells s) := own_below (w := World.drew _) (HOWN.out) (hS rfl)
          refine wp_append_lies wv _ _ _ rfl (base) 5 i0 (.int .u8 0) 1 1 Tryz.underlying106 hi hz0 hz1 hz2 rfl (by decide) (v) (s.size) _ d36 hown1 ⟨bS, 0, none⟩ 1 1 ([.int .u8 r.first]) (by exact hS1) rfl (World.news_of_block hcS) (one_u8 _) (by decide) (by unfold maxLen; omega) (by omega) (by have := hE.size; simp at this; omega) _ rfl ?_
          intro g cap1 w2 hown2 hgrow hat hlt2
          exact ⟨_, rfl, es_sp hgrow, hown2⟩
        case s9 =>
          refine step_val (v := (.pointer (some ⟨b, 0, none⟩))) (fun av wv hE hS hO hD => ?_) (fun _ => rfl)
          have d32 : av.eval (.tmp 32) = (.pointer (some ⟨b, 0, none⟩)) := hD.1 rfl _ rfl
          have f32 := (ev_form av 32).symm.trans d32
          refine ⟨rfl, ?_⟩
          simp [go_sem, f32]
        case s10 =>
          refine step_val (v := (.pointer (some ⟨b, 0, none⟩))) (fun av wv hE hS hO hD => ?_) (fun _ => rfl)
          have d41 : av.eval (.tmp 41) = (.pointer (some ⟨b, 0, none⟩)) := hD.1 rfl _ rfl
          have f41 := (ev_form av 41).symm.trans d41
          refine ⟨rfl, ?_⟩
          simp [go_sem, f41]
        intro a' w' hE hO hall
        have hA := act_of_outer (ds := [32, 33, 34, 35, 36, 37, 38, 39, 40, 41, 42]) rfl hO (by kernel_rfl)
        have e32 : (fun u _ => u = (.pointer (some ⟨b, 0, none⟩))) (a'.eval (.tmp 32)) w' := hall.1 _ rfl
        have e33 : (fun u _ => u = (.pointer (some ⟨b, 0, none⟩))) (a'.eval (.tmp 33)) w' := hall.2.1 _ rfl
        have e34 : (fun u _ => u = (.pointer (some ⟨b, 0, none⟩))) (a'.eval (.tmp 34)) w' := hall.2.2.1 _ rfl
        have e35 : (fun u _ => u = (.pointer (some ⟨b, 0, none⟩))) (a'.eval (.tmp 35)) w' := hall.2.2.2.1 _ rfl
        have e36 : (fun u _ => u = (v)) (a'.eval (.tmp 36)) w' := hall.2.2.2.2.1 _ rfl
        have e37 : (fun u _ => u = (.pointer (some ⟨br, 1, none⟩))) (a'.eval (.tmp 37)) w' := hall.2.2.2.2.2.1 _ rfl
        have e38 : (fun u _ => u = (.int .u8 r.first)) (a'.eval (.tmp 38)) w' := hall.2.2.2.2.2.2.1 _ rfl
        have e39 : (fun u w' => ∃ b, u = .slice (some ⟨b, 0, none⟩) 1 1 ∧ some b ≠ v.ownBlock ∧ w'.heap[b]? = some (.cells ([.int .u8 r.first]).toArray 5 (0, 0))) (a'.eval (.tmp 39)) w' := hall.2.2.2.2.2.2.2.1 _ rfl
        have e40 : (fun u w' => w'.ownsRow (base) 5 1 u (s.size + 1) (Lib.strCells s ++ [.int .u8 r.first])) (a'.eval (.tmp 40)) w' := hall.2.2.2.2.2.2.2.2.1 _ rfl
        have e41 : (fun u _ => u = (.pointer (some ⟨b, 0, none⟩))) (a'.eval (.tmp 41)) w' := hall.2.2.2.2.2.2.2.2.2.1 _ rfl
        have e42 : (fun u _ => u = (.pointer (some ⟨b, 0, none⟩))) (a'.eval (.tmp 42)) w' := hall.2.2.2.2.2.2.2.2.2.2.1 _ rfl
        obtain ⟨v39, hv39⟩ : ∃ v, a'.eval (.tmp 39) = v := ⟨_, rfl⟩
        rw [hv39] at e39
        obtain ⟨v40, hv40⟩ : ∃ v, a'.eval (.tmp 40) = v := ⟨_, rfl⟩
        rw [hv40] at e40
        simp only [List.foldl_cons, List.foldl_nil, Act.put, List.setIfInBounds_toArray, List.set_cons_succ, List.set_cons_zero, e32, e33, e34, e35, e36, e37, e38, hv39, hv40, e41, e42] at hA
        clear hO hall e32 e33 e34 e35 e36 e37 e38 hv39 hv40 e41 e42
        subst hA
        obtain ⟨ga, gc, rfl⟩ := own_slice e40
        have hst := wr_step (s' := s ++ baL [toB r.first]) hbase VV.out HOWN.out hE (by rw [baL_one]; exact e40) (by rw [strCells_app, strCells_one f0 f1])
        have HST := Lib.hid hst
        have hc4 := hst.1
        have hf4 := hst.2.1
        have HBR : Hid (w'.cell? ⟨br, 2, none⟩ = some (.int .i64 r.size)) := Lib.hid (extB_cell hE n3 (block_cell VR.out 2))
        clear hst hE e40 c1 c2 c3 c4
        have hne : br ≠ b := fun e => by have h1 := VR.out; rw [e, VV.out] at h1; cases h1
        have c5 : (w'.setCell ⟨b, 0, none⟩ (.slice (some ⟨ga, 0, none⟩) (s.size + 1) gc)).cell? ⟨br, 2, none⟩ = some (.int .i64 r.size) := by
          have h := (HST.out.2.2.2).keep br _ VR.out hne n8r
          exact block_cell h 2
        obtain ⟨k, hk⟩ := Int.eq_ofNat_of_zero_le s0
        have HKK := Lib.hid hk
        have k8 : k ≤ 8 := by omega
        rw [hk] at c5
        have hw1 : IntKind.i64.wrap ((k : Int) - 1) = (k : Int) - 1 := IntWalk.i64_in _ (by omega)
        clear hk HBR
        go_wp2
        obtain ⟨V2, hV2⟩ : ∃ V2, w'.setCell ⟨b, 0, none⟩ (.slice (some ⟨ga, 0, none⟩) (s.size + 1) gc) = V2 := ⟨_, rfl⟩
        have HWR2 : Hid (WrB V2 b base (s ++ baL (toB r.first :: ((hiL n k).take (k - k)).map toB))) := Lib.hid (by rw [← hV2, Nat.sub_self]; exact HST.out.2.2.1)
        have HWK2 : Hid (WK base b V V2) := Lib.hid (by rw [← hV2]; exact HST.out.2.2.2)
        try rw [hV2]
        clear hV2 HST hc4 hf4 c5 hw1 HWR
        have nbn : bn ≠ b := fun e => by have h1 := VN.out; rw [e, VV.out] at h1; cases h1
        have nbw : bw ≠ b := fun e => by have h1 := VW.out; rw [e, VV.out] at h1; cases h1
        have hbVS : base ≤ V.heap.size := hbV
        clear n1 n2 n3 n4 hbV hltb HQ
        go_loopg [5] k (fun g i wr => g ≤ k ∧ i = .int .i64 ((g : Int) - 1) ∧ Hid (WrB wr b base (s ++ baL (toB r.first :: ((hiL n k).take (k - g)).map toB))) ∧ Hid (WK base b V wr))
        case atStart => exact ⟨Nat.le_refl _, rfl, HWR2.out, HWK2.out⟩
        case round =>
          clear HWR2 HWK2
          obtain ⟨hgk, rfl, HWR, HWK⟩ := hrel
          obtain ⟨G, hG⟩ : ∃ G, G = gk := ⟨_, rfl⟩
          subst hG
          cases G with
          | zero =>
            have e2 : ((0 : Nat) : Int) - 1 = -1 := rfl
            rw [e2]
            clear e2
            go_wp2
            go_ret
            refine ⟨ret_bool HX.out.symm, ?_, (WK.of_below VB.out HBS.out).trans HWK.out⟩
            rw [HIF.out]
            have e4 : rowB r n = toB r.first :: ((hiL n k).take (k - 0)).map toB := by
              unfold rowB
              rw [if_neg HSZ.out, HKK.out, Nat.sub_zero, List.take_of_length_le (by rw [hiL_len]; exact Nat.le_refl _)]; rfl
            rw [e4]; exact HWR.out
          | succ i =>
            have e2 : ((i + 1 : Nat) : Int) - 1 = (i : Int) := by omega
            rw [e2]
            obtain ⟨t, ht⟩ : ∃ t, s ++ baL (toB r.first :: ((hiL n k).take (k - (i + 1))).map toB) = t := ⟨_, rfl⟩
            have hts : t.size ≤ 70000000000009 := by
              rw [← ht, ByteArray.size_append, baL_size, List.length_cons, List.length_map, List.length_take, hiL_len]; omega
            obtain ⟨x, hx⟩ : ∃ x, n / 2 ^ (8 * i) % 256 = x := ⟨_, rfl⟩
            have hx0 : 0 ≤ x ∧ x ≤ 255 := by rw [← hx]; omega
            have HT : Hid (s ++ baL (toB r.first :: ((hiL n k).take (k - i)).map toB) = t ++ baL [toB x]) := Lib.hid (by
              rw [← ht, hi_next n k i (by omega), show (256 : Int) ^ i = 2 ^ (8 * i) by rw [Int.pow_mul]; rfl, hx, List.map_append, ← List.cons_append, baL_app, ByteArray.append_assoc]; rfl)
            rw [ht] at HWR
            have y0 : IntKind.u8.wrap (n / 2 ^ (8 * i)) = x := by rw [IntKind.wrap_u8]; exact hx
            have y1 : IntKind.i64.wrap (8 * (i : Int)) = 8 * (i : Int) := IntWalk.i64_in _ (by omega)
            have y2 : 0 ≤ 8 * (i : Int) := by omega
            have y3 : (8 * (i : Int)).toNat = 8 * i := by omega
            clear ht e2 hx
            obtain ⟨-, v, hv, hown⟩ := HWR.out
            have VV2 := Lib.hid hv
            have HOWN := Lib.hid hown
            have VN2 := Lib.hid (HWK.out.keep _ _ VN.out nbn n8n)
            have VW2 := Lib.hid (HWK.out.keep _ _ VW.out nbw n8b)
            have n8w : Not8 (.cells #[v] 265 (0, 0)) := not8_cells (by decide)
            have HQ : Hid (∀ g, v.ownBlock = some g → base ≤ g ∧ g < wr.heap.size) := Lib.hid (fun g hg => HOWN.out.lt g hg)
            have n1 := own_not8 HOWN.out VN2.out n8n
            have n2 := own_not8 HOWN.out VW2.out n8b
            have n4 := own_not8 HOWN.out VV2.out n8w
            have c1 : wr.cell? ⟨bn, 0, none⟩ = some (.int .u64 n) := block_cell VN2.out 0
            have c2 : wr.cell? ⟨bw, 0, none⟩ = some (.pointer (some ⟨b, 0, none⟩)) := block_cell VW2.out 0
            have c4 : wr.cell? ⟨b, 0, none⟩ = some v := block_cell VV2.out 0
            have hbV : base ≤ wr.heap.size := Nat.le_trans hbase (Nat.le_of_lt (lt_of_block VV2.out))
            clear hv hown
            go_upto_region 10 with fail
            refine wp_region_tail 14 11 (v.ownBlock) (phis [fun u _ => u = (.pointer (some ⟨b, 0, none⟩)), fun u _ => u = (.pointer (some ⟨b, 0, none⟩)), fun u _ => u = (.pointer (some ⟨b, 0, none⟩)), fun u _ => u = (.pointer (some ⟨b, 0, none⟩)), fun u _ => u = (v), fun u _ => u = (.int .u64 n), fun u _ => u = (.int .i64 i), fun u _ => u = (.int .i64 (8 * (i : Int))), fun u _ => u = (.int .u64 (n / 2 ^ (8 * i))), fun u _ => u = (.int .u8 x), fun u w' => ∃ b, u = .slice (some ⟨b, 0, none⟩) 1 1 ∧ some b ≠ v.ownBlock ∧ w'.heap[b]? = some (.cells ([.int .u8 x]).toArray 5 (0, 0)), fun u w' => w'.ownsRow (base) 5 1 u (t.size + 1) (Lib.strCells t ++ [.int .u8 x]), fun u _ => u = (.pointer (some ⟨b, 0, none⟩)), fun u _ => u = (.pointer (some ⟨b, 0, none⟩))]) rfl (by kernel_rfl) (by kernel_rfl) (mono_of ⟨mono_eq, mono_eq, mono_eq, mono_eq, mono_eq, mono_eq, mono_eq, mono_eq, mono_eq, mono_eq, ?m10, ?m11, mono_eq, mono_eq, trivial⟩) (steps_of 14 ⟨?s0, ?s1, ?s2, ?s3, ?s4, ?s5, ?s6, ?s7, ?s8, ?s9, ?s10, ?s11, ?s12, ?s13, trivial⟩) ?_
            case m10 =>
              exact ⟨fun u w1 w' h ⟨b, h1, hb, hb'⟩ => ⟨b, h1, hb, ext_block h hb'⟩, fun _ u w1 w' h ⟨b, h1, hb, hb'⟩ => ⟨b, h1, hb, extB_block h hb hb'⟩⟩
            case m11 =>
              exact ⟨fun u w1 w' h hu => own_below hu h, fun hn => absurd rfl hn⟩
            case s0 =>
              refine step_val (v := (.pointer (some ⟨b, 0, none⟩))) (fun av wv hE hS hO hD => ?_) (fun _ => rfl)
              have h2 : av.eval (.tmp 2) = (.pointer (some ⟨bw, 0, none⟩)) := hO.2.2 2 rfl
              have f2 := (ev_form av 2).symm.trans h2
              have c1 := extB_cell hE n1 c1
              have c2 := extB_cell hE n2 c2
              have c4 := extB_cell hE n4 c4
              refine ⟨rfl, ?_⟩
              simp [go_sem, f2, c1, c2, c4, y0, y1, y2, y3]
            case s1 =>
              refine step_val (v := (.pointer (some ⟨b, 0, none⟩))) (fun av wv hE hS hO hD => ?_) (fun _ => rfl)
              have h2 : av.eval (.tmp 2) = (.pointer (some ⟨bw, 0, none⟩)) := hO.2.2 2 rfl
              have f2 := (ev_form av 2).symm.trans h2
              have c1 := extB_cell hE n1 c1
              have c2 := extB_cell hE n2 c2
              have c4 := extB_cell hE n4 c4
              refine ⟨rfl, ?_⟩
              simp [go_sem, f2, c1, c2, c4, y0, y1, y2, y3]
            case s2 =>
              refine step_val (v := (.pointer (some ⟨b, 0, none⟩))) (fun av wv hE hS hO hD => ?_) (fun _ => rfl)
              have d51 : av.eval (.tmp 51) = (.pointer (some ⟨b, 0, none⟩)) := hD.1 rfl _ rfl
              have f51 := (ev_form av 51).symm.trans d51
              refine ⟨rfl, ?_⟩
              simp [go_sem, f51, y0, y1, y2, y3]
            case s3 =>
              refine step_val (v := (.pointer (some ⟨b, 0, none⟩))) (fun av wv hE hS hO hD => ?_) (fun _ => rfl)
              have d52 : av.eval (.tmp 52) = (.pointer (some ⟨b, 0, none⟩)) := hD.1 rfl _ rfl
              have f52 := (ev_form av 52).symm.trans d52
              refine ⟨rfl, ?_⟩
              simp [go_sem, f52, y0, y1, y2, y3]
            case s4 =>
              refine step_val (v := (v)) (fun av wv hE hS hO hD => ?_) (fun _ => rfl)
              have d53 : av.eval (.tmp 53) = (.pointer (some ⟨b, 0, none⟩)) := hD.1 rfl _ rfl
              have f53 := (ev_form av 53).symm.trans d53
              have c1 := extB_cell hE n1 c1
              have c2 := extB_cell hE n2 c2
              have c4 := extB_cell hE n4 c4
              refine ⟨rfl, ?_⟩
              simp [go_sem, f53, c1, c2, c4, y0, y1, y2, y3]
            case s5 =>
              refine step_val (v := (.int .u64 n)) (fun av wv hE hS hO hD => ?_) (fun _ => rfl)
              have h1 : av.eval (.tmp 1) = (.pointer (some ⟨bn, 0, none⟩)) := hO.2.2 1 rfl
              have f1 := (ev_form av 1).symm.trans h1
              have c1 := extB_cell hE n1 c1
              have c2 := extB_cell hE n2 c2
              have c4 := extB_cell hE n4 c4
              refine ⟨rfl, ?_⟩
              simp [go_sem, f1, c1, c2, c4, y0, y1, y2, y3]
            case s6 =>
              refine step_val (v := (.int .i64 i)) (fun av wv hE hS hO hD => ?_) (fun _ => rfl)
              have h5 : av.eval (.tmp 5) = (.int .i64 i) := hO.2.2 5 rfl
              have f5 := (ev_form av 5).symm.trans h5
              refine ⟨rfl, ?_⟩
              simp [go_sem, f5, y0, y1, y2, y3]
            case s7 =>
              refine step_val (v := (.int .i64 (8 * (i : Int)))) (fun av wv hE hS hO hD => ?_) (fun _ => rfl)
              have d56 : av.eval (.tmp 56) = (.int .i64 i) := hD.1 rfl _ rfl
              have f56 := (ev_form av 56).symm.trans d56
              refine ⟨rfl, ?_⟩
              simp [go_sem, f56, y0, y1, y2, y3]
            case s8 =>
              refine step_val (v := (.int .u64 (n / 2 ^ (8 * i)))) (fun av wv hE hS hO hD => ?_) (fun _ => rfl)
              have d55 : av.eval (.tmp 55) = (.int .u64 n) := hD.1 rfl _ rfl
              have f55 := (ev_form av 55).symm.trans d55
              have d57 : av.eval (.tmp 57) = (.int .i64 (8 * (i : Int))) := hD.2.1 rfl _ rfl
              have f57 := (ev_form av 57).symm.trans d57
              refine ⟨rfl, ?_⟩
              simp [go_sem, f55, f57, y0, y1, y2, y3]
            case s9 =>
              refine step_val (v := (.int .u8 x)) (fun av wv hE hS hO hD => ?_) (fun _ => rfl)
              have d58 : av.eval (.tmp 58) = (.int .u64 (n / 2 ^ (8 * i))) := hD.1 rfl _ rfl
              have f58 := (ev_form av 58).symm.trans d58
              refine ⟨rfl, ?_⟩
              simp [go_sem, f58, y0, y1, y2, y3]
            case s10 =>
              refine step_wp (fun av wv hE hS hO hD => ?_)
              have d59 : av.eval (.tmp 59) = (.int .u8 x) := hD.1 rfl _ rfl
              have f59 := (ev_form av 59).symm.trans d59
              refine ⟨rfl, ?_⟩
              refine wp_of_run (v := .slice (some ⟨wv.heap.size, 0, none⟩) 1 1) (w' := wv.alloc (.cells ([.int .u8 x]).toArray 5)) (by first | (simp [go_sem, f59, y0, y1, y2, y3]; done) | (simp [go_sem, f59, y0, y1, y2, y3]; rfl)) ⟨_, rfl, es_of_ext (balloc (Ext_refl _) _), wv.heap.size, rfl, ?_, heap_alloc_new _ _⟩
              exact fun e => absurd (HQ.out _ e.symm).2 (by have := hE.size; simp at this; omega)
            case s11 =>
              refine step_wp (fun av wv hE hS hO hD => ?_)
              have d54 : av.eval (.tmp 54) = (v) := hD.1 rfl _ rfl
              have f54 := (ev_form av 54).symm.trans d54
              have d60 : (fun u w' => ∃ b, u = .slice (some ⟨b, 0, none⟩) 1 1 ∧ some b ≠ v.ownBlock ∧ w'.heap[b]? = some (.cells ([.int .u8 x]).toArray 5 (0, 0))) (av.eval (.tmp 60)) wv := hD.2.1 rfl _ rfl
              refine ⟨rfl, ?_⟩
              obtain ⟨bS, hS1, hbS, hcS⟩ := d60
              have hown1 : wv.ownsRow (base) 5 1 (v) (t.size) (Lib.strCells t) := own_below (w := World.drew _) (HOWN.out) (hS rfl)
              refine wp_append_lies wv _ _ _ rfl (base) 5 i0 (.int .u8 0) 1 1 Tryz.underlying106 hi hz0 hz1 hz2 rfl (by decide) (v) (t.size) _ d54 hown1 ⟨bS, 0, none⟩ 1 1 ([.int .u8 x]) (by exact hS1) rfl (World.news_of_block hcS) (one_u8 _) (by decide) (by unfold maxLen; omega) (by omega) (by have := hE.size; simp at this; omega) _ rfl ?_
              intro g cap1 w2 hown2 hgrow hat hlt2
              exact ⟨_, rfl, es_sp hgrow, hown2⟩
            case s12 =>
              refine step_val (v := (.pointer (some ⟨b, 0, none⟩))) (fun av wv hE hS hO hD => ?_) (fun _ => rfl)
              have d50 : av.eval (.tmp 50) = (.pointer (some ⟨b, 0, none⟩)) := hD.1 rfl _ rfl
              have f50 := (ev_form av 50).symm.trans d50
              refine ⟨rfl, ?_⟩
              simp [go_sem, f50, y0, y1, y2, y3]
            case s13 =>
              refine step_val (v := (.pointer (some ⟨b, 0, none⟩))) (fun av wv hE hS hO hD => ?_) (fun _ => rfl)
              have d62 : av.eval (.tmp 62) = (.pointer (some ⟨b, 0, none⟩)) := hD.1 rfl _ rfl
              have f62 := (ev_form av 62).symm.trans d62
              refine ⟨rfl, ?_⟩
              simp [go_sem, f62, y0, y1, y2, y3]
            intro a' w' hE hO hall
            have hA := act_of_outer (ds := [50, 51, 52, 53, 54, 55, 56, 57, 58, 59, 60, 61, 62, 63]) rfl hO (by kernel_rfl)
            have e50 : (fun u _ => u = (.pointer (some ⟨b, 0, none⟩))) (a'.eval (.tmp 50)) w' := hall.1 _ rfl
            have e51 : (fun u _ => u = (.pointer (some ⟨b, 0, none⟩))) (a'.eval (.tmp 51)) w' := hall.2.1 _ rfl
            have e52 : (fun u _ => u = (.pointer (some ⟨b, 0, none⟩))) (a'.eval (.tmp 52)) w' := hall.2.2.1 _ rfl
            have e53 : (fun u _ => u = (.pointer (some ⟨b, 0, none⟩))) (a'.eval (.tmp 53)) w' := hall.2.2.2.1 _ rfl
            have e54 : (fun u _ => u = (v)) (a'.eval (.tmp 54)) w' := hall.2.2.2.2.1 _ rfl
            have e55 : (fun u _ => u = (.int .u64 n)) (a'.eval (.tmp 55)) w' := hall.2.2.2.2.2.1 _ rfl
            have e56 : (fun u _ => u = (.int .i64 i)) (a'.eval (.tmp 56)) w' := hall.2.2.2.2.2.2.1 _ rfl
            have e57 : (fun u _ => u = (.int .i64 (8 * (i : Int)))) (a'.eval (.tmp 57)) w' := hall.2.2.2.2.2.2.2.1 _ rfl
            have e58 : (fun u _ => u = (.int .u64 (n / 2 ^ (8 * i)))) (a'.eval (.tmp 58)) w' := hall.2.2.2.2.2.2.2.2.1 _ rfl
            have e59 : (fun u _ => u = (.int .u8 x)) (a'.eval (.tmp 59)) w' := hall.2.2.2.2.2.2.2.2.2.1 _ rfl
            have e60 : (fun u w' => ∃ b, u = .slice (some ⟨b, 0, none⟩) 1 1 ∧ some b ≠ v.ownBlock ∧ w'.heap[b]? = some (.cells ([.int .u8 x]).toArray 5 (0, 0))) (a'.eval (.tmp 60)) w' := hall.2.2.2.2.2.2.2.2.2.2.1 _ rfl
            have e61 : (fun u w' => w'.ownsRow (base) 5 1 u (t.size + 1) (Lib.strCells t ++ [.int .u8 x])) (a'.eval (.tmp 61)) w' := hall.2.2.2.2.2.2.2.2.2.2.2.1 _ rfl
            have e62 : (fun u _ => u = (.pointer (some ⟨b, 0, none⟩))) (a'.eval (.tmp 62)) w' := hall.2.2.2.2.2.2.2.2.2.2.2.2.1 _ rfl
            have e63 : (fun u _ => u = (.pointer (some ⟨b, 0, none⟩))) (a'.eval (.tmp 63)) w' := hall.2.2.2.2.2.2.2.2.2.2.2.2.2.1 _ rfl
            obtain ⟨v60, hv60⟩ : ∃ v, a'.eval (.tmp 60) = v := ⟨_, rfl⟩
            rw [hv60] at e60
            obtain ⟨v61, hv61⟩ : ∃ v, a'.eval (.tmp 61) = v := ⟨_, rfl⟩
            rw [hv61] at e61
            simp only [List.foldl_cons, List.foldl_nil, Act.put, List.setIfInBounds_toArray, List.set_cons_succ, List.set_cons_zero, e50, e51, e52, e53, e54, e55, e56, e57, e58, e59, hv60, hv61, e62, e63] at hA
            clear hO hall e50 e51 e52 e53 e54 e55 e56 e57 e58 e59 hv60 hv61 e62 e63
            subst hA
            obtain ⟨ga, gc, rfl⟩ := own_slice e61
            have hst := wr_step (s' := t ++ baL [toB x]) hbase VV2.out HOWN.out hE (by rw [baL_one]; exact e61) (by rw [strCells_app, strCells_one hx0.1 hx0.2])
            have HST := Lib.hid hst
            have hc4 := hst.1
            have hf4 := hst.2.1
            clear hst hE e61 c1 c2 c4 n1 n2 n4
            go_wp2
            go_roundg i
            case rel => exact ⟨by omega, by go_num, by rw [HT.out]; exact HST.out.2.2.1, HWK.out.trans HST.out.2.2.2⟩
            case measure => omega
    · skip
      go_enter Tryz.func255, Tryz.ntmps255
      by_cases hsz : r.size = 0
      · have e0 : (r.size == 0) = true := by simpa using hsz
        have HSZ := Lib.hid hsz
        clear hsz
        go_upto_region 4 with fail
        obtain ⟨br, hbr⟩ : ∃ br, w.heap.size = br := ⟨_, rfl⟩
        obtain ⟨V, hV⟩ : ∃ V, w.alloc (.cells #[.int .u64 r.below, .int .u8 r.first, .int .i64 r.size] 332) = V := ⟨_, rfl⟩
        have VB : Hid (Below w.heap.size w V) := Lib.hid (by rw [← hV]; exact balloc (Below.refl _ _) _)
        have VR : Hid (V.heap[br]? = some (.cells #[.int .u64 r.below, .int .u8 r.first, .int .i64 r.size] 332 (0, 0))) := Lib.hid (by rw [← hV, ← hbr]; exact heap_alloc_new _ _)
        have VN : Hid (V.heap[bn]? = some (.cells #[.int .u64 n] 23 (0, 0))) := Lib.hid ((VB.out.block _ (lt_of_block HN.out)).trans HN.out)
        have VW : Hid (V.heap[bw]? = some (.cells #[.pointer (some ⟨b, 0, none⟩)] 166 (0, 0))) := Lib.hid ((VB.out.block _ (lt_of_block HW2.out)).trans HW2.out)
        have VV : Hid (V.heap[b]? = some (.cells #[v] 265 (0, 0))) := Lib.hid ((VB.out.block _ hltb).trans HV.out)
        have HOWN := Lib.hid (own_below HOWN0.out VB.out)
        have HQ : Hid (∀ g, v.ownBlock = some g → base ≤ g ∧ g < V.heap.size) := Lib.hid (fun g hg => HOWN.out.lt g hg)
        have n1 := own_not8 HOWN.out VN.out n8n
        have n2 := own_not8 HOWN.out VW.out n8b
        have n3 := own_not8 HOWN.out VR.out n8r
        have n4 := own_not8 HOWN.out VV.out n8w
        have c1 : V.cell? ⟨bn, 0, none⟩ = some (.int .u64 n) := block_cell VN.out 0
        have c2 : V.cell? ⟨bw, 0, none⟩ = some (.pointer (some ⟨b, 0, none⟩)) := block_cell VW.out 0
        have c3 : V.cell? ⟨br, 1, none⟩ = some (.int .u8 r.first) := block_cell VR.out 1
        have c4 : V.cell? ⟨b, 0, none⟩ = some v := block_cell VV.out 0
        have hbV : base ≤ V.heap.size := Nat.le_trans hbase (Nat.le_of_lt (lt_of_block VV.out))
        obtain ⟨y, hy⟩ : ∃ y, r.first + n = y := ⟨_, rfl⟩
        have hy1 : y ≤ 255 := by rw [← hy]; exact HFIT.out HSZ.out
        have y0 : IntKind.u8.wrap n = n := IntWalk.u8_in _ (by omega)
        have y1 : IntKind.u8.wrap (r.first + n) = y := by rw [hy]; exact IntWalk.u8_in _ (by omega)
        have hy0 : 0 ≤ y := by omega
        have HY := Lib.hid hy
        rw [hbr]
        try rw [hV]
        clear hV hbr hy cn cw cb
        refine wp_region_tail 14 11 (v.ownBlock) (phis [fun u _ => u = (.pointer (some ⟨b, 0, none⟩)), fun u _ => u = (.pointer (some ⟨b, 0, none⟩)), fun u _ => u = (.pointer (some ⟨b, 0, none⟩)), fun u _ => u = (.pointer (some ⟨b, 0, none⟩)), fun u _ => u = (v), fun u _ => u = (.pointer (some ⟨br, 1, none⟩)), fun u _ => u = (.int .u8 r.first), fun u _ => u = (.int .u64 n), fun u _ => u = (.int .u8 n), fun u _ => u = (.int .u8 y), fun u w' => ∃ b, u = .slice (some ⟨b, 0, none⟩) 1 1 ∧ some b ≠ v.ownBlock ∧ w'.heap[b]? = some (.cells ([.int .u8 y]).toArray 5 (0, 0)), fun u w' => w'.ownsRow (base) 5 1 u (s.size + 1) (Lib.strCells s ++ [.int .u8 y]), fun u _ => u = (.pointer (some ⟨b, 0, none⟩)), fun u _ => u = (.pointer (some ⟨b, 0, none⟩))]) rfl (by kernel_rfl) (by kernel_rfl) (mono_of ⟨mono_eq, mono_eq, mono_eq, mono_eq, mono_eq, mono_eq, mono_eq, mono_eq, mono_eq, mono_eq, ?m10, ?m11, mono_eq, mono_eq, trivial⟩) (steps_of 14 ⟨?s0, ?s1, ?s2, ?s3, ?s4, ?s5, ?s6, ?s7, ?s8, ?s9, ?s10, ?s11, ?s12, ?s13, trivial⟩) ?_
        case m10 =>
          exact ⟨fun u w1 w' h ⟨b, h1, hb, hb'⟩ => ⟨b, h1, hb, ext_block h hb'⟩, fun _ u w1 w' h ⟨b, h1, hb, hb'⟩ => ⟨b, h1, hb, extB_block h hb hb'⟩⟩
        case m11 =>
          exact ⟨fun u w1 w' h hu => own_below hu h, fun hn => absurd rfl hn⟩
        case s0 =>
          refine step_val (v := (.pointer (some ⟨b, 0, none⟩))) (fun av wv hE hS hO hD => ?_) (fun _ => rfl)
          have h2 : av.eval (.tmp 2) = (.pointer (some ⟨bw, 0, none⟩)) := hO.2.2 2 rfl
          have f2 := (ev_form av 2).symm.trans h2
          have c1 := extB_cell hE n1 c1
          have c2 := extB_cell hE n2 c2
          have c3 := extB_cell hE n3 c3
          have c4 := extB_cell hE n4 c4
          refine ⟨rfl, ?_⟩
          simp [go_sem, f2, c1, c2, c3, c4, y0, y1]
        case s1 =>
          refine step_val (v := (.pointer (some ⟨b, 0, none⟩))) (fun av wv hE hS hO hD => ?_) (fun _ => rfl)
          have h2 : av.eval (.tmp 2) = (.pointer (some ⟨bw, 0, none⟩)) := hO.2.2 2 rfl
          have f2 := (ev_form av 2).symm.trans h2
          have c1 := extB_cell hE n1 c1
          have c2 := extB_cell hE n2 c2
          have c3 := extB_cell hE n3 c3
          have c4 := extB_cell hE n4 c4
          refine ⟨rfl, ?_⟩
          simp [go_sem, f2, c1, c2, c3, c4, y0, y1]
        case s2 =>
          refine step_val (v := (.pointer (some ⟨b, 0, none⟩))) (fun av wv hE hS hO hD => ?_) (fun _ => rfl)
          have d19 : av.eval (.tmp 19) = (.pointer (some ⟨b, 0, none⟩)) := hD.1 rfl _ rfl
          have f19 := (ev_form av 19).symm.trans d19
          refine ⟨rfl, ?_⟩
          simp [go_sem, f19, y0, y1]
        case s3 =>
          refine step_val (v := (.pointer (some ⟨b, 0, none⟩))) (fun av wv hE hS hO hD => ?_) (fun _ => rfl)
          have d20 : av.eval (.tmp 20) = (.pointer (some ⟨b, 0, none⟩)) := hD.1 rfl _ rfl
          have f20 := (ev_form av 20).symm.trans d20
          refine ⟨rfl, ?_⟩
          simp [go_sem, f20, y0, y1]
        case s4 =>
          refine step_val (v := (v)) (fun av wv hE hS hO hD => ?_) (fun _ => rfl)
          have d21 : av.eval (.tmp 21) = (.pointer (some ⟨b, 0, none⟩)) := hD.1 rfl _ rfl
          have f21 := (ev_form av 21).symm.trans d21
          have c1 := extB_cell hE n1 c1
          have c2 := extB_cell hE n2 c2
          have c3 := extB_cell hE n3 c3
          have c4 := extB_cell hE n4 c4
          refine ⟨rfl, ?_⟩
          simp [go_sem, f21, c1, c2, c3, c4, y0, y1]
        case s5 =>
          refine step_val (v := (.pointer (some ⟨br, 1, none⟩))) (fun av wv hE hS hO hD => ?_) (fun _ => rfl)
          have h3 : av.eval (.tmp 3) = (.pointer (some ⟨br, 0, none⟩)) := hO.2.2 3 rfl
          have f3 := (ev_form av 3).symm.trans h3
          refine ⟨rfl, ?_⟩
          simp [go_sem, f3, y0, y1]
        case s6 =>
          refine step_val (v := (.int .u8 r.first)) (fun av wv hE hS hO hD => ?_) (fun _ => rfl)
          have d23 : av.eval (.tmp 23) = (.pointer (some ⟨br, 1, none⟩)) := hD.1 rfl _ rfl
          have f23 := (ev_form av 23).symm.trans d23
          have c1 := extB_cell hE n1 c1
          have c2 := extB_cell hE n2 c2
          have c3 := extB_cell hE n3 c3
          have c4 := extB_cell hE n4 c4
          refine ⟨rfl, ?_⟩
          simp [go_sem, f23, c1, c2, c3, c4, y0, y1]
        case s7 =>
          refine step_val (v := (.int .u64 n)) (fun av wv hE hS hO hD => ?_) (fun _ => rfl)
          have h1 : av.eval (.tmp 1) = (.pointer (some ⟨bn, 0, none⟩)) := hO.2.2 1 rfl
          have f1 := (ev_form av 1).symm.trans h1
          have c1 := extB_cell hE n1 c1
          have c2 := extB_cell hE n2 c2
          have c3 := extB_cell hE n3 c3
          have c4 := extB_cell hE n4 c4
          refine ⟨rfl, ?_⟩
          simp [go_sem, f1, c1, c2, c3, c4, y0, y1]
        case s8 =>
          refine step_val (v := (.int .u8 n)) (fun av wv hE hS hO hD => ?_) (fun _ => rfl)
          have d25 : av.eval (.tmp 25) = (.int .u64 n) := hD.1 rfl _ rfl
          have f25 := (ev_form av 25).symm.trans d25
          refine ⟨rfl, ?_⟩
          simp [go_sem, f25, y0, y1]
        case s9 =>
          refine step_val (v := (.int .u8 y)) (fun av wv hE hS hO hD => ?_) (fun _ => rfl)
          have d24 : av.eval (.tmp 24) = (.int .u8 r.first) := hD.1 rfl _ rfl
          have f24 := (ev_form av 24).symm.trans d24
          have d26 : av.eval (.tmp 26) = (.int .u8 n) := hD.2.1 rfl _ rfl
          have f26 := (ev_form av 26).symm.trans d26
          refine ⟨rfl, ?_⟩
          simp [go_sem, f24, f26, y0, y1]
        case s10 =>
          refine step_wp (fun av wv hE hS hO hD => ?_)
          have d27 : av.eval (.tmp 27) = (.int .u8 y) := hD.1 rfl _ rfl
          have f27 := (ev_form av 27).symm.trans d27
          refine ⟨rfl, ?_⟩
          refine wp_of_run (v := .slice (some ⟨wv.heap.size, 0, none⟩) 1 1) (w' := wv.alloc (.cells ([.int .u8 y]).toArray 5)) (by first | (simp [go_sem, f27, y0, y1]; done) | (simp [go_sem, f27, y0, y1]; rfl)) ⟨_, rfl, es_of_ext (balloc (Ext_refl _) _), wv.heap.size, rfl, ?_, heap_alloc_new _ _⟩
          exact fun e => absurd (HQ.out _ e.symm).2 (by have := hE.size; simp at this; omega)
        case s11 =>
          refine step_wp (fun av wv hE hS hO hD => ?_)
          have d22 : av.eval (.tmp 22) = (v) := hD.1 rfl _ rfl
          have f22 := (ev_form av 22).symm.trans d22
          have d28 : (fun u w' => ∃ b, u = .slice (some ⟨b, 0, none⟩) 1 1 ∧ some b ≠ v.ownBlock ∧ w'.heap[b]? = some (.cells ([.int .u8 y]).toArray 5 (0, 0))) (av.eval (.tmp 28)) wv := hD.2.1 rfl _ rfl
          refine ⟨rfl, ?_⟩
          obtain ⟨bS, hS1, hbS, hcS⟩ := d28
          have hown1 : wv.ownsRow (base) 5 1 (v) (s.size) (Lib.strCells s) := own_below (w := World.drew _) (HOWN.out) (hS rfl)
          refine wp_append_lies wv _ _ _ rfl (base) 5 i0 (.int .u8 0) 1 1 Tryz.underlying106 hi hz0 hz1 hz2 rfl (by decide) (v) (s.size) _ d22 hown1 ⟨bS, 0, none⟩ 1 1 ([.int .u8 y]) (by exact hS1) rfl (World.news_of_block hcS) (one_u8 _) (by decide) (by unfold maxLen; omega) (by omega) (by have := hE.size; simp at this; omega) _ rfl ?_
          intro g cap1 w2 hown2 hgrow hat hlt2
          exact ⟨_, rfl, es_sp hgrow, hown2⟩
        case s12 =>
          refine step_val (v := (.pointer (some ⟨b, 0, none⟩))) (fun av wv hE hS hO hD => ?_) (fun _ => rfl)
          have d18 : av.eval (.tmp 18) = (.pointer (some ⟨b, 0, none⟩)) := hD.1 rfl _ rfl
          have f18 := (ev_form av 18).symm.trans d18
          refine ⟨rfl, ?_⟩
          simp [go_sem, f18, y0, y1]
        case s13 =>
          refine step_val (v := (.pointer (some ⟨b, 0, none⟩))) (fun av wv hE hS hO hD => ?_) (fun _ => rfl)
          have d30 : av.eval (.tmp 30) = (.pointer (some ⟨b, 0, none⟩)) := hD.1 rfl _ rfl
          have f30 := (ev_form av 30).symm.trans d30
          refine ⟨rfl, ?_⟩
          simp [go_sem, f30, y0, y1]
        intro a' w' hE hO hall
        have hA := act_of_outer (ds := [18, 19, 20, 21, 22, 23, 24, 25, 26, 27, 28, 29, 30, 31]) rfl hO (by kernel_rfl)
        have e18 : (fun u _ => u = (.pointer (some ⟨b, 0, none⟩))) (a'.eval (.tmp 18)) w' := hall.1 _ rfl
        have e19 : (fun u _ => u = (.pointer (some ⟨b, 0, none⟩))) (a'.eval (.tmp 19)) w' := hall.2.1 _ rfl
        have e20 : (fun u _ => u = (.pointer (some ⟨b, 0, none⟩))) (a'.eval (.tmp 20)) w' := hall.2.2.1 _ rfl
        have e21 : (fun u _ => u = (.pointer (some ⟨b, 0, none⟩))) (a'.eval (.tmp 21)) w' := hall.2.2.2.1 _ rfl
        have e22 : (fun u _ => u = (v)) (a'.eval (.tmp 22)) w' := hall.2.2.2.2.1 _ rfl
        have e23 : (fun u _ => u = (.pointer (some ⟨br, 1, none⟩))) (a'.eval (.tmp 23)) w' := hall.2.2.2.2.2.1 _ rfl
        have e24 : (fun u _ => u = (.int .u8 r.first)) (a'.eval (.tmp 24)) w' := hall.2.2.2.2.2.2.1 _ rfl
        have e25 : (fun u _ => u = (.int .u64 n)) (a'.eval (.tmp 25)) w' := hall.2.2.2.2.2.2.2.1 _ rfl
        have e26 : (fun u _ => u = (.int .u8 n)) (a'.eval (.tmp 26)) w' := hall.2.2.2.2.2.2.2.2.1 _ rfl
        have e27 : (fun u _ => u = (.int .u8 y)) (a'.eval (.tmp 27)) w' := hall.2.2.2.2.2.2.2.2.2.1 _ rfl
        have e28 : (fun u w' => ∃ b, u = .slice (some ⟨b, 0, none⟩) 1 1 ∧ some b ≠ v.ownBlock ∧ w'.heap[b]? = some (.cells ([.int .u8 y]).toArray 5 (0, 0))) (a'.eval (.tmp 28)) w' := hall.2.2.2.2.2.2.2.2.2.2.1 _ rfl
        have e29 : (fun u w' => w'.ownsRow (base) 5 1 u (s.size + 1) (Lib.strCells s ++ [.int .u8 y])) (a'.eval (.tmp 29)) w' := hall.2.2.2.2.2.2.2.2.2.2.2.1 _ rfl
        have e30 : (fun u _ => u = (.pointer (some ⟨b, 0, none⟩))) (a'.eval (.tmp 30)) w' := hall.2.2.2.2.2.2.2.2.2.2.2.2.1 _ rfl
        have e31 : (fun u _ => u = (.pointer (some ⟨b, 0, none⟩))) (a'.eval (.tmp 31)) w' := hall.2.2.2.2.2.2.2.2.2.2.2.2.2.1 _ rfl
        obtain ⟨v28, hv28⟩ : ∃ v, a'.eval (.tmp 28) = v := ⟨_, rfl⟩
        rw [hv28] at e28
        obtain ⟨v29, hv29⟩ : ∃ v, a'.eval (.tmp 29) = v := ⟨_, rfl⟩
        rw [hv29] at e29
        simp only [List.foldl_cons, List.foldl_nil, Act.put, List.setIfInBounds_toArray, List.set_cons_succ, List.set_cons_zero, e18, e19, e20, e21, e22, e23, e24, e25, e26, e27, hv28, hv29, e30, e31] at hA
        clear hO hall e18 e19 e20 e21 e22 e23 e24 e25 e26 e27 hv28 hv29 e30 e31
        subst hA
        obtain ⟨ga, gc, rfl⟩ := own_slice e29
        have hst := wr_step (s' := s ++ baL [toB y]) hbase VV.out HOWN.out hE (by rw [baL_one]; exact e29) (by rw [strCells_app, strCells_one hy0 hy1])
        have HST := Lib.hid hst
        have hc4 := hst.1
        have hf4 := hst.2.1
        clear hst hE e29
        go_wp2
        go_ret
        refine ⟨ret_bool HX.out.symm, ?_, (WK.of_below VB.out HBS.out).trans HST.out.2.2.2⟩
        rw [HIF.out]
        have e4 : rowB r n = [toB y] := by unfold rowB; rw [if_pos HSZ.out, HY.out]
        rw [e4]; exact HST.out.2.2.1
      · have e0 : (r.size == 0) = false := by simpa using hsz
        have HSZ := Lib.hid hsz
        clear hsz
        go_upto_region 6 with fail
        obtain ⟨br, hbr⟩ : ∃ br, w.heap.size = br := ⟨_, rfl⟩
        obtain ⟨V, hV⟩ : ∃ V, w.alloc (.cells #[.int .u64 r.below, .int .u8 r.first, .int .i64 r.size] 332) = V := ⟨_, rfl⟩
        have VB : Hid (Below w.heap.size w V) := Lib.hid (by rw [← hV]; exact balloc (Below.refl _ _) _)
        have VR : Hid (V.heap[br]? = some (.cells #[.int .u64 r.below, .int .u8 r.first, .int .i64 r.size] 332 (0, 0))) := Lib.hid (by rw [← hV, ← hbr]; exact heap_alloc_new _ _)
        have VN : Hid (V.heap[bn]? = some (.cells #[.int .u64 n] 23 (0, 0))) := Lib.hid ((VB.out.block _ (lt_of_block HN.out)).trans HN.out)
        have VW : Hid (V.heap[bw]? = some (.cells #[.pointer (some ⟨b, 0, none⟩)] 166 (0, 0))) := Lib.hid ((VB.out.block _ (lt_of_block HW2.out)).trans HW2.out)
        have VV : Hid (V.heap[b]? = some (.cells #[v] 265 (0, 0))) := Lib.hid ((VB.out.block _ hltb).trans HV.out)
        have HOWN := Lib.hid (own_below HOWN0.out VB.out)
        have HQ : Hid (∀ g, v.ownBlock = some g → base ≤ g ∧ g < V.heap.size) := Lib.hid (fun g hg => HOWN.out.lt g hg)
        have n1 := own_not8 HOWN.out VN.out n8n
        have n2 := own_not8 HOWN.out VW.out n8b
        have n3 := own_not8 HOWN.out VR.out n8r
        have n4 := own_not8 HOWN.out VV.out n8w
        have c1 : V.cell? ⟨bn, 0, none⟩ = some (.int .u64 n) := block_cell VN.out 0
        have c2 : V.cell? ⟨bw, 0, none⟩ = some (.pointer (some ⟨b, 0, none⟩)) := block_cell VW.out 0
        have c3 : V.cell? ⟨br, 1, none⟩ = some (.int .u8 r.first) := block_cell VR.out 1
        have c4 : V.cell? ⟨b, 0, none⟩ = some v := block_cell VV.out 0
        have hbV : base ≤ V.heap.size := Nat.le_trans hbase (Nat.le_of_lt (lt_of_block VV.out))
        rw [hbr]
        try rw [hV]
        clear hV hbr cn cw cb
        refine wp_region_tail 11 8 (v.ownBlock) (phis [fun u _ => u = (.pointer (some ⟨b, 0, none⟩)), fun u _ => u = (.pointer (some ⟨b, 0, none⟩)), fun u _ => u = (.pointer (some ⟨b, 0, none⟩)), fun u _ => u = (.pointer (some ⟨b, 0, none⟩)), fun u _ => u = (v), fun u _ => u = (.pointer (some ⟨br, 1, none⟩)), fun u _ => u = (.int .u8 r.first), fun u w' => ∃ b, u = .slice (some ⟨b, 0, none⟩) 1 1 ∧ some b ≠ v.ownBlock ∧ w'.heap[b]? = some (.cells ([.int .u8 r.first]).toArray 5 (0, 0)), fun u w' => w'.ownsRow (base) 5 1 u (s.size + 1) (Lib.strCells s ++ [.int .u8 r.first]), fun u _ => u = (.pointer (some ⟨b, 0, none⟩)), fun u _ => u = (.pointer (some ⟨b, 0, none⟩))]) rfl (by kernel_rfl) (by kernel_rfl) (mono_of ⟨mono_eq, mono_eq, mono_eq, mono_eq, mono_eq, mono_eq, mono_eq, ?m7, ?m8, mono_eq, mono_eq, trivial⟩) (steps_of 11 ⟨?s0, ?s1, ?s2, ?s3, ?s4, ?s5, ?s6, ?s7, ?s8, ?s9, ?s10, trivial⟩) ?_
        case m7 =>
          exact ⟨fun u w1 w' h ⟨b, h1, hb, hb'⟩ => ⟨b, h1, hb, ext_block h hb'⟩, fun _ u w1 w' h ⟨b, h1, hb, hb'⟩ => ⟨b, h1, hb, extB_block h hb hb'⟩⟩
        case m8 =>
          exact ⟨fun u w1 w' h hu => own_below hu h, fun hn => absurd rfl hn⟩
        case s0 =>
          refine step_val (v := (.pointer (some ⟨b, 0, none⟩))) (fun av wv hE hS hO hD => ?_) (fun _ => rfl)
          have h2 : av.eval (.tmp 2) = (.pointer (some ⟨bw, 0, none⟩)) := hO.2.2 2 rfl
          have f2 := (ev_form av 2).symm.trans h2
          have c1 := extB_cell hE n1 c1
          have c2 := extB_cell hE n2 c2
          have c3 := extB_cell hE n3 c3
          have c4 := extB_cell hE n4 c4
          refine ⟨rfl, ?_⟩
          simp [go_sem, f2, c1, c2, c3, c4]
        case s1 =>
          refine step_val (v := (.pointer (some ⟨b, 0, none⟩))) (fun av wv hE hS hO hD => ?_) (fun _ => rfl)
          have h2 : av.eval (.tmp 2) = (.pointer (some ⟨bw, 0, none⟩)) := hO.2.2 2 rfl
          have f2 := (ev_form av 2).symm.trans h2
          have c1 := extB_cell hE n1 c1
          have c2 := extB_cell hE n2 c2
          have c3 := extB_cell hE n3 c3
          have c4 := extB_cell hE n4 c4
          refine ⟨rfl, ?_⟩
          simp [go_sem, f2, c1, c2, c3, c4]
        case s2 =>
          refine step_val (v := (.pointer (some ⟨b, 0, none⟩))) (fun av wv hE hS hO hD => ?_) (fun _ => rfl)
          have d33 : av.eval (.tmp 33) = (.pointer (some ⟨b, 0, none⟩)) := hD.1 rfl _ rfl
          have f33 := (ev_form av 33).symm.trans d33
          refine ⟨rfl, ?_⟩
          simp [go_sem, f33]
        case s3 =>
          refine step_val (v := (.pointer (some ⟨b, 0, none⟩))) (fun av wv hE hS hO hD => ?_) (fun _ => rfl)
          have d34 : av.eval (.tmp 34) = (.pointer (some ⟨b, 0, none⟩)) := hD.1 rfl _ rfl
          have f34 := (ev_form av 34).symm.trans d34
          refine ⟨rfl, ?_⟩
          simp [go_sem, f34]
        case s4 =>
          refine step_val (v := (v)) (fun av wv hE hS hO hD => ?_) (fun _ => rfl)
          have d35 : av.eval (.tmp 35) = (.pointer (some ⟨b, 0, none⟩)) := hD.1 rfl _ rfl
          have f35 := (ev_form av 35).symm.trans d35
          have c1 := extB_cell hE n1 c1
          have c2 := extB_cell hE n2 c2
          have c3 := extB_cell hE n3 c3
          have c4 := extB_cell hE n4 c4
          refine ⟨rfl, ?_⟩
          simp [go_sem, f35, c1, c2, c3, c4]
        case s5 =>
          refine step_val (v := (.pointer (some ⟨br, 1, none⟩))) (fun av wv hE hS hO hD => ?_) (fun _ => rfl)
          have h3 : av.eval (.tmp 3) = (.pointer (some ⟨br, 0, none⟩)) := hO.2.2 3 rfl
          have f3 := (ev_form av 3).symm.trans h3
          refine ⟨rfl, ?_⟩
          simp [go_sem, f3]
        case s6 =>
          refine step_val (v := (.int .u8 r.first)) (fun av wv hE hS hO hD => ?_) (fun _ => rfl)
          have d37 : av.eval (.tmp 37) = (.pointer (some ⟨br, 1, none⟩)) := hD.1 rfl _ rfl
          have f37 := (ev_form av 37).symm.trans d37
          have c1 := extB_cell hE n1 c1
          have c2 := extB_cell hE n2 c2
          have c3 := extB_cell hE n3 c3
          have c4 := extB_cell hE n4 c4
          refine ⟨rfl, ?_⟩
          simp [go_sem, f37, c1, c2, c3, c4]
        case s7 =>
          refine step_wp (fun av wv hE hS hO hD => ?_)
          have d38 : av.eval (.tmp 38) = (.int .u8 r.first) := hD.1 rfl _ rfl
          have f38 := (ev_form av 38).symm.trans d38
          refine ⟨rfl, ?_⟩
          refine wp_of_run (v := .slice (some ⟨wv.heap.size, 0, none⟩) 1 1) (w' := wv.alloc (.cells ([.int .u8 r.first]).toArray 5)) (by first | (simp [go_sem, f38]; done) | (simp [go_sem, f38]; rfl)) ⟨_, rfl, es_of_ext (balloc (Ext_refl _) _), wv.heap.size, rfl, ?_, heap_alloc_new _ _⟩
          exact fun e => absurd (HQ.out _ e.symm).2 (by have := hE.size; simp at this; omega)
        case s8 =>
          refine step_wp (fun av wv hE hS hO hD => ?_)
          have d36 : av.eval (.tmp 36) = (v) := hD.1 rfl _ rfl
          have f36 := (ev_form av 36).symm.trans d36
          have d39 : (fun u w' => ∃ b, u = .slice (some ⟨b, 0, none⟩) 1 1 ∧ some b ≠ v.ownBlock ∧ w'.heap[b]? = some (.cells ([.int .u8 r.first]).toArray 5 (0, 0))) (av.eval (.tmp 39)) wv := hD.2.1 rfl _ rfl
          refine ⟨rfl, ?_⟩
          obtain ⟨bS, hS1, hbS, hcS⟩ := d39
          have hown1 : wv.ownsRow (base) 5 1 (v) (s.size) (Lib.strCells s) := own_below (w := World.drew _) (HOWN.out) (hS rfl)
          refine wp_append_lies wv _ _ _ rfl (base) 5 i0 (.int .u8 0) 1 1 Tryz.underlying106 hi hz0 hz1 hz2 rfl (by decide) (v) (s.size) _ d36 hown1 ⟨bS, 0, none⟩ 1 1 ([.int .u8 r.first]) (by exact hS1) rfl (World.news_of_block hcS) (one_u8 _) (by decide) (by unfold maxLen; omega) (by omega) (by have := hE.size; simp at this; omega) _ rfl ?_
          intro g cap1 w2 hown2 hgrow hat hlt2
          exact ⟨_, rfl, es_sp hgrow, hown2⟩
        case s9 =>
          refine step_val (v := (.pointer (some ⟨b, 0, none⟩))) (fun av wv hE hS hO hD => ?_) (fun _ => rfl)
          have d32 : av.eval (.tmp 32) = (.pointer (some ⟨b, 0, none⟩)) := hD.1 rfl _ rfl
          have f32 := (ev_form av 32).symm.trans d32
          refine ⟨rfl, ?_⟩
          simp [go_sem, f32]
        case s10 =>
          refine step_val (v := (.pointer (some ⟨b, 0, none⟩))) (fun av wv hE hS hO hD => ?_) (fun _ => rfl)
          have d41 : av.eval (.tmp 41) = (.pointer (some ⟨b, 0, none⟩)) := hD.1 rfl _ rfl
          have f41 := (ev_form av 41).symm.trans d41
          refine ⟨rfl, ?_⟩
          simp [go_sem, f41]
        intro a' w' hE hO hall
        have hA := act_of_outer (ds := [32, 33, 34, 35, 36, 37, 38, 39, 40, 41, 42]) rfl hO (by kernel_rfl)
        have e32 : (fun u _ => u = (.pointer (some ⟨b, 0, none⟩))) (a'.eval (.tmp 32)) w' := hall.1 _ rfl
        have e33 : (fun u _ => u = (.pointer (some ⟨b, 0, none⟩))) (a'.eval (.tmp 33)) w' := hall.2.1 _ rfl
        have e34 : (fun u _ => u = (.pointer (some ⟨b, 0, none⟩))) (a'.eval (.tmp 34)) w' := hall.2.2.1 _ rfl
        have e35 : (fun u _ => u = (.pointer (some ⟨b, 0, none⟩))) (a'.eval (.tmp 35)) w' := hall.2.2.2.1 _ rfl
        have e36 : (fun u _ => u = (v)) (a'.eval (.tmp 36)) w' := hall.2.2.2.2.1 _ rfl
        have e37 : (fun u _ => u = (.pointer (some ⟨br, 1, none⟩))) (a'.eval (.tmp 37)) w' := hall.2.2.2.2.2.1 _ rfl
        have e38 : (fun u _ => u = (.int .u8 r.first)) (a'.eval (.tmp 38)) w' := hall.2.2.2.2.2.2.1 _ rfl
        have e39 : (fun u w' => ∃ b, u = .slice (some ⟨b, 0, none⟩) 1 1 ∧ some b ≠ v.ownBlock ∧ w'.heap[b]? = some (.cells ([.int .u8 r.first]).toArray 5 (0, 0))) (a'.eval (.tmp 39)) w' := hall.2.2.2.2.2.2.2.1 _ rfl
        have e40 : (fun u w' => w'.ownsRow (base) 5 1 u (s.size + 1) (Lib.strCells s ++ [.int .u8 r.first])) (a'.eval (.tmp 40)) w' := hall.2.2.2.2.2.2.2.2.1 _ rfl
        have e41 : (fun u _ => u = (.pointer (some ⟨b, 0, none⟩))) (a'.eval (.tmp 41)) w' := hall.2.2.2.2.2.2.2.2.2.1 _ rfl
        have e42 : (fun u _ => u = (.pointer (some ⟨b, 0, none⟩))) (a'.eval (.tmp 42)) w' := hall.2.2.2.2.2.2.2.2.2.2.1 _ rfl
        obtain ⟨v39, hv39⟩ : ∃ v, a'.eval (.tmp 39) = v := ⟨_, rfl⟩
        rw [hv39] at e39
        obtain ⟨v40, hv40⟩ : ∃ v, a'.eval (.tmp 40) = v := ⟨_, rfl⟩
        rw [hv40] at e40
        simp only [List.foldl_cons, List.foldl_nil, Act.put, List.setIfInBounds_toArray, List.set_cons_succ, List.set_cons_zero, e32, e33, e34, e35, e36, e37, e38, hv39, hv40, e41, e42] at hA
        clear hO hall e32 e33 e34 e35 e36 e37 e38 hv39 hv40 e41 e42
        subst hA
        obtain ⟨ga, gc, rfl⟩ := own_slice e40
        have hst := wr_step (s' := s ++ baL [toB r.first]) hbase VV.out HOWN.out hE (by rw [baL_one]; exact e40) (by rw [strCells_app, strCells_one f0 f1])
        have HST := Lib.hid hst
        have hc4 := hst.1
        have hf4 := hst.2.1
        have HBR : Hid (w'.cell? ⟨br, 2, none⟩ = some (.int .i64 r.size)) := Lib.hid (extB_cell hE n3 (block_cell VR.out 2))
        clear hst hE e40 c1 c2 c3 c4
        have hne : br ≠ b := fun e => by have h1 := VR.out; rw [e, VV.out] at h1; cases h1
        have c5 : (w'.setCell ⟨b, 0, none⟩ (.slice (some ⟨ga, 0, none⟩) (s.size + 1) gc)).cell? ⟨br, 2, none⟩ = some (.int .i64 r.size) := by
          have h := (HST.out.2.2.2).keep br _ VR.out hne n8r
          exact block_cell h 2
        obtain ⟨k, hk⟩ := Int.eq_ofNat_of_zero_le s0
        have HKK := Lib.hid hk
        have k8 : k ≤ 8 := by omega
        rw [hk] at c5
        have hw1 : IntKind.i64.wrap ((k : Int) - 1) = (k : Int) - 1 := IntWalk.i64_in _ (by omega)
        clear hk HBR
        go_wp2
        obtain ⟨V2, hV2⟩ : ∃ V2, w'.setCell ⟨b, 0, none⟩ (.slice (some ⟨ga, 0, none⟩) (s.size + 1) gc) = V2 := ⟨_, rfl⟩
        have HWR2 : Hid (WrB V2 b base (s ++ baL (toB r.first :: ((hiL n k).take (k - k)).map toB))) := Lib.hid (by rw [← hV2, Nat.sub_self]; exact HST.out.2.2.1)
        have HWK2 : Hid (WK base b V V2) := Lib.hid (by rw [← hV2]; exact HST.out.2.2.2)
        try rw [hV2]
        clear hV2 HST hc4 hf4 c5 hw1 HWR
        have nbn : bn ≠ b := fun e => by have h1 := VN.out; rw [e, VV.out] at h1; cases h1
        have nbw : bw ≠ b := fun e => by have h1 := VW.out; rw [e, VV.out] at h1; cases h1
        have hbVS : base ≤ V.heap.size := hbV
        clear n1 n2 n3 n4 hbV hltb HQ
        go_loopg [5] k (fun g i wr => g ≤ k ∧ i = .int .i64 ((g : Int) - 1) ∧ Hid (WrB wr b base (s ++ baL (toB r.first :: ((hiL n k).take (k - g)).map toB))) ∧ Hid (WK base b V wr))
        case atStart => exact ⟨Nat.le_refl _, rfl, HWR2.out, HWK2.out⟩
        case round =>
          clear HWR2 HWK2
          obtain ⟨hgk, rfl, HWR, HWK⟩ := hrel
          obtain ⟨G, hG⟩ : ∃ G, G = gk := ⟨_, rfl⟩
          subst hG
          cases G with
          | zero =>
            have e2 : ((0 : Nat) : Int) - 1 = -1 := rfl
            rw [e2]
            clear e2
            go_wp2
            go_ret
            refine ⟨ret_bool HX.out.symm, ?_, (WK.of_below VB.out HBS.out).trans HWK.out⟩
            rw [HIF.out]
            have e4 : rowB r n = toB r.first :: ((hiL n k).take (k - 0)).map toB := by
              unfold rowB
              rw [if_neg HSZ.out, HKK.out, Nat.sub_zero, List.take_of_length_le (by rw [hiL_len]; exact Nat.le_refl _)]; rfl
            rw [e4]; exact HWR.out
          | succ i =>
            have e2 : ((i + 1 : Nat) : Int) - 1 = (i : Int) := by omega
            rw [e2]
            obtain ⟨t, ht⟩ : ∃ t, s ++ baL (toB r.first :: ((hiL n k).take (k - (i + 1))).map toB) = t := ⟨_, rfl⟩
            have hts : t.size ≤ 70000000000009 := by
              rw [← ht, ByteArray.size_append, baL_size, List.length_cons, List.length_map, List.length_take, hiL_len]; omega
            obtain ⟨x, hx⟩ : ∃ x, n / 2 ^ (8 * i) % 256 = x := ⟨_, rfl⟩
            have hx0 : 0 ≤ x ∧ x ≤ 255 := by rw [← hx]; omega
            have HT : Hid (s ++ baL (toB r.first :: ((hiL n k).take (k - i)).map toB) = t ++ baL [toB x]) := Lib.hid (by
              rw [← ht, hi_next n k i (by omega), show (256 : Int) ^ i = 2 ^ (8 * i) by rw [Int.pow_mul]; rfl, hx, List.map_append, ← List.cons_append, baL_app, ByteArray.append_assoc]; rfl)
            rw [ht] at HWR
            have y0 : IntKind.u8.wrap (n / 2 ^ (8 * i)) = x := by rw [IntKind.wrap_u8]; exact hx
            have y1 : IntKind.i64.wrap (8 * (i : Int)) = 8 * (i : Int) := IntWalk.i64_in _ (by omega)
            have y2 : 0 ≤ 8 * (i : Int) := by omega
            have y3 : (8 * (i : Int)).toNat = 8 * i := by omega
            clear ht e2 hx
            obtain ⟨-, v, hv, hown⟩ := HWR.out
            have VV2 := Lib.hid hv
            have HOWN := Lib.hid hown
            have VN2 := Lib.hid (HWK.out.keep _ _ VN.out nbn n8n)
            have VW2 := Lib.hid (HWK.out.keep _ _ VW.out nbw n8b)
            have n8w : Not8 (.cells #[v] 265 (0, 0)) := not8_cells (by decide)
            have HQ : Hid (∀ g, v.ownBlock = some g → base ≤ g ∧ g < wr.heap.size) := Lib.hid (fun g hg => HOWN.out.lt g hg)
            have n1 := own_not8 HOWN.out VN2.out n8n
            have n2 := own_not8 HOWN.out VW2.out n8b
            have n4 := own_not8 HOWN.out VV2.out n8w
            have c1 : wr.cell? ⟨bn, 0, none⟩ = some (.int .u64 n) := block_cell VN2.out 0
            have c2 : wr.cell? ⟨bw, 0, none⟩ = some (.pointer (some ⟨b, 0, none⟩)) := block_cell VW2.out 0
            have c4 : wr.cell? ⟨b, 0, none⟩ = some v := block_cell VV2.out 0
            have hbV : base ≤ wr.heap.size := Nat.le_trans hbase (Nat.le_of_lt (lt_of_block VV2.out))
            clear hv hown
            go_upto_region 10 with fail
            refine wp_region_tail 14 11 (v.ownBlock) (phis [fun u _ => u = (.pointer (some ⟨b, 0, none⟩)), fun u _ => u = (.pointer (some ⟨b, 0, none⟩)), fun u _ => u = (.pointer (some ⟨b, 0, none⟩)), fun u _ => u = (.pointer (some ⟨b, 0, none⟩)), fun u _ => u = (v), fun u _ => u = (.int .u64 n), fun u _ => u = (.int .i64 i), fun u _ => u = (.int .i64 (8 * (i : Int))), fun u _ => u = (.int .u64 (n / 2 ^ (8 * i))), fun u _ => u = (.int .u8 x), fun u w' => ∃ b, u = .slice (some ⟨b, 0, none⟩) 1 1 ∧ some b ≠ v.ownBlock ∧ w'.heap[b]? = some (.cells ([.int .u8 x]).toArray 5 (0, 0)), fun u w' => w'.ownsRow (base) 5 1 u (t.size + 1) (Lib.strCells t ++ [.int .u8 x]), fun u _ => u = (.pointer (some ⟨b, 0, none⟩)), fun u _ => u = (.pointer (some ⟨b, 0, none⟩))]) rfl (by kernel_rfl) (by kernel_rfl) (mono_of ⟨mono_eq, mono_eq, mono_eq, mono_eq, mono_eq, mono_eq, mono_eq, mono_eq, mono_eq, mono_eq, ?m10, ?m11, mono_eq, mono_eq, trivial⟩) (steps_of 14 ⟨?s0, ?s1, ?s2, ?s3, ?s4, ?s5, ?s6, ?s7, ?s8, ?s9, ?s10, ?s11, ?s12, ?s13, trivial⟩) ?_
            case m10 =>
              exact ⟨fun u w1 w' h ⟨b, h1, hb, hb'⟩ => ⟨b, h1, hb, ext_block h hb'⟩, fun _ u w1 w' h ⟨b, h1, hb, hb'⟩ => ⟨b, h1, hb, extB_block h hb hb'⟩⟩
            case m11 =>
              exact ⟨fun u w1 w' h hu => own_below hu h, fun hn => absurd rfl hn⟩
            case s0 =>
              refine step_val (v := (.pointer (some ⟨b, 0, none⟩))) (fun av wv hE hS hO hD => ?_) (fun _ => rfl)
              have h2 : av.eval (.tmp 2) = (.pointer (some ⟨bw, 0, none⟩)) := hO.2.2 2 rfl
              have f2 := (ev_form av 2).symm.trans h2
              have c1 := extB_cell hE n1 c1
              have c2 := extB_cell hE n2 c2
              have c4 := extB_cell hE n4 c4
              refine ⟨rfl, ?_⟩
              simp [go_sem, f2, c1, c2, c4, y0, y1, y2, y3]
            case s1 =>
              refine step_val (v := (.pointer (some ⟨b, 0, none⟩))) (fun av wv hE hS hO hD => ?_) (fun _ => rfl)
              have h2 : av.eval (.tmp 2) = (.pointer (some ⟨bw, 0, none⟩)) := hO.2.2 2 rfl
              have f2 := (ev_form av 2).symm.trans h2
              have c1 := extB_cell hE n1 c1
              have c2 := extB_cell hE n2 c2
              have c4 := extB_cell hE n4 c4
              refine ⟨rfl, ?_⟩
              simp [go_sem, f2, c1, c2, c4, y0, y1, y2, y3]
            case s2 =>
              refine step_val (v := (.pointer (some ⟨b, 0, none⟩))) (fun av wv hE hS hO hD => ?_) (fun _ => rfl)
              have d51 : av.eval (.tmp 51) = (.pointer (some ⟨b, 0, none⟩)) := hD.1 rfl _ rfl
              have f51 := (ev_form av 51).symm.trans d51
              refine ⟨rfl, ?_⟩
              simp [go_sem, f51, y0, y1, y2, y3]
            case s3 =>
              refine step_val (v := (.pointer (some ⟨b, 0, none⟩))) (fun av wv hE hS hO hD => ?_) (fun _ => rfl)
              have d52 : av.eval (.tmp 52) = (.pointer (some ⟨b, 0, none⟩)) := hD.1 rfl _ rfl
              have f52 := (ev_form av 52).symm.trans d52
              refine ⟨rfl, ?_⟩
              simp [go_sem, f52, y0, y1, y2, y3]
            case s4 =>
              refine step_val (v := (v)) (fun av wv hE hS hO hD => ?_) (fun _ => rfl)
              have d53 : av.eval (.tmp 53) = (.pointer (some ⟨b, 0, none⟩)) := hD.1 rfl _ rfl
              have f53 := (ev_form av 53).symm.trans d53
              have c1 := extB_cell hE n1 c1
              have c2 := extB_cell hE n2 c2
              have c4 := extB_cell hE n4 c4
              refine ⟨rfl, ?_⟩
              simp [go_sem, f53, c1, c2, c4, y0, y1, y2, y3]
            case s5 =>
              refine step_val (v := (.int .u64 n)) (fun av wv hE hS hO hD => ?_) (fun _ => rfl)
              have h1 : av.eval (.tmp 1) = (.pointer (some ⟨bn, 0, none⟩)) := hO.2.2 1 rfl
              have f1 := (ev_form av 1).symm.trans h1
              have c1 := extB_cell hE n1 c1
              have c2 := extB_cell hE n2 c2
              have c4 := extB_cell hE n4 c4
              refine ⟨rfl, ?_⟩
              simp [go_sem, f1, c1, c2, c4, y0, y1, y2, y3]
            case s6 =>
              refine step_val (v := (.int .i64 i)) (fun av wv hE hS hO hD => ?_) (fun _ => rfl)
              have h5 : av.eval (.tmp 5) = (.int .i64 i) := hO.2.2 5 rfl
              have f5 := (ev_form av 5).symm.trans h5
              refine ⟨rfl, ?_⟩
              simp [go_sem, f5, y0, y1, y2, y3]
            case s7 =>
              refine step_val (v := (.int .i64 (8 * (i : Int)))) (fun av wv hE hS hO hD => ?_) (fun _ => rfl)
              have d56 : av.eval (.tmp 56) = (.int .i64 i) := hD.1 rfl _ rfl
              have f56 := (ev_form av 56).symm.trans d56
              refine ⟨rfl, ?_⟩
              simp [go_sem, f56, y0, y1, y2, y3]
            case s8 =>
              refine step_val (v := (.int .u64 (n / 2 ^ (8 * i)))) (fun av wv hE hS hO hD => ?_) (fun _ => rfl)
              have d55 : av.eval (.tmp 55) = (.int .u64 n) := hD.1 rfl _ rfl
              have f55 := (ev_form av 55).symm.trans d55
              have d57 : av.eval (.tmp 57) = (.int .i64 (8 * (i : Int))) := hD.2.1 rfl _ rfl
              have f57 := (ev_form av 57).symm.trans d57
              refine ⟨rfl, ?_⟩
              simp [go_sem, f55, f57, y0, y1, y2, y3]
            case s9 =>
              refine step_val (v := (.int .u8 x)) (fun av wv hE hS hO hD => ?_) (fun _ => rfl)
              have d58 : av.eval (.tmp 58) = (.int .u64 (n / 2 ^ (8 * i))) := hD.1 rfl _ rfl
              have f58 := (ev_form av 58).symm.trans d58
              refine ⟨rfl, ?_⟩
              simp [go_sem, f58, y0, y1, y2, y3]
            case s10 =>
              refine step_wp (fun av wv hE hS hO hD => ?_)
              have d59 : av.eval (.tmp 59) = (.int .u8 x) := hD.1 rfl _ rfl
              have f59 := (ev_form av 59).symm.trans d59
              refine ⟨rfl, ?_⟩
              refine wp_of_run (v := .slice (some ⟨wv.heap.size, 0, none⟩) 1 1) (w' := wv.alloc (.cells ([.int .u8 x]).toArray 5)) (by first | (simp [go_sem, f59, y0, y1, y2, y3]; done) | (simp [go_sem, f59, y0, y1, y2, y3]; rfl)) ⟨_, rfl, es_of_ext (balloc (Ext_refl _) _), wv.heap.size, rfl, ?_, heap_alloc_new _ _⟩
              exact fun e => absurd (HQ.out _ e.symm).2 (by have := hE.size; simp at this; omega)
            case s11 =>
              refine step_wp (fun av wv hE hS hO hD => ?_)
              have d54 : av.eval (.tmp 54) = (v) := hD.1 rfl _ rfl
              have f54 := (ev_form av 54).symm.trans d54
              have d60 : (fun u w' => ∃ b, u = .slice (some ⟨b, 0, none⟩) 1 1 ∧ some b ≠ v.ownBlock ∧ w'.heap[b]? = some (.cells ([.int .u8 x]).toArray 5 (0, 0))) (av.eval (.tmp 60)) wv := hD.2.1 rfl _ rfl
              refine ⟨rfl, ?_⟩
              obtain ⟨bS, hS1, hbS, hcS⟩ := d60
              have hown1 : wv.ownsRow (base) 5 1 (v) (t.size) (Lib.strCells t) := own_below (w := World.drew _) (HOWN.out) (hS rfl)
              refine wp_append_lies wv _ _ _ rfl (base) 5 i0 (.int .u8 0) 1 1 Tryz.underlying106 hi hz0 hz1 hz2 rfl (by decide) (v) (t.size) _ d54 hown1 ⟨bS, 0, none⟩ 1 1 ([.int .u8 x]) (by exact hS1) rfl (World.news_of_block hcS) (one_u8 _) (by decide) (by unfold maxLen; omega) (by omega) (by have := hE.size; simp at this; omega) _ rfl ?_
              intro g cap1 w2 hown2 hgrow hat hlt2
              exact ⟨_, rfl, es_sp hgrow, hown2⟩
            case s12 =>
              refine step_val (v := (.pointer (some ⟨b, 0, none⟩))) (fun av wv hE hS hO hD => ?_) (fun _ => rfl)
              have d50 : av.eval (.tmp 50) = (.pointer (some ⟨b, 0, none⟩)) := hD.1 rfl _ rfl
              have f50 := (ev_form av 50).symm.trans d50
              refine ⟨rfl, ?_⟩
              simp [go_sem, f50, y0, y1, y2, y3]
            case s13 =>
              refine step_val (v := (.pointer (some ⟨b, 0, none⟩))) (fun av wv hE hS hO hD => ?_) (fun _ => rfl)
              have d62 : av.eval (.tmp 62) = (.pointer (some ⟨b, 0, none⟩)) := hD.1 rfl _ rfl
              have f62 := (ev_form av 62).symm.trans d62
              refine ⟨rfl, ?_⟩
              simp [go_sem, f62, y0, y1, y2, y3]
            intro a' w' hE hO hall
            have hA := act_of_outer (ds := [50, 51, 52, 53, 54, 55, 56, 57, 58, 59, 60, 61, 62, 63]) rfl hO (by kernel_rfl)
            have e50 : (fun u _ => u = (.pointer (some ⟨b, 0, none⟩))) (a'.eval (.tmp 50)) w' := hall.1 _ rfl
            have e51 : (fun u _ => u = (.pointer (some ⟨b, 0, none⟩))) (a'.eval (.tmp 51)) w' := hall.2.1 _ rfl
            have e52 : (fun u _ => u = (.pointer (some ⟨b, 0, none⟩))) (a'.eval (.tmp 52)) w' := hall.2.2.1 _ rfl
            have e53 : (fun u _ => u = (.pointer (some ⟨b, 0, none⟩))) (a'.eval (.tmp 53)) w' := hall.2.2.2.1 _ rfl
            have e54 : (fun u _ => u = (v)) (a'.eval (.tmp 54)) w' := hall.2.2.2.2.1 _ rfl
            have e55 : (fun u _ => u = (.int .u64 n)) (a'.eval (.tmp 55)) w' := hall.2.2.2.2.2.1 _ rfl
            have e56 : (fun u _ => u = (.int .i64 i)) (a'.eval (.tmp 56)) w' := hall.2.2.2.2.2.2.1 _ rfl
            have e57 : (fun u _ => u = (.int .i64 (8 * (i : Int)))) (a'.eval (.tmp 57)) w' := hall.2.2.2.2.2.2.2.1 _ rfl
            have e58 : (fun u _ => u = (.int .u64 (n / 2 ^ (8 * i)))) (a'.eval (.tmp 58)) w' := hall.2.2.2.2.2.2.2.2.1 _ rfl
            have e59 : (fun u _ => u = (.int .u8 x)) (a'.eval (.tmp 59)) w' := hall.2.2.2.2.2.2.2.2.2.1 _ rfl
            have e60 : (fun u w' => ∃ b, u = .slice (some ⟨b, 0, none⟩) 1 1 ∧ some b ≠ v.ownBlock ∧ w'.heap[b]? = some (.cells ([.int .u8 x]).toArray 5 (0, 0))) (a'.eval (.tmp 60)) w' := hall.2.2.2.2.2.2.2.2.2.2.1 _ rfl
            have e61 : (fun u w' => w'.ownsRow (base) 5 1 u (t.size + 1) (Lib.strCells t ++ [.int .u8 x])) (a'.eval (.tmp 61)) w' := hall.2.2.2.2.2.2.2.2.2.2.2.1 _ rfl
            have e62 : (fun u _ => u = (.pointer (some ⟨b, 0, none⟩))) (a'.eval (.tmp 62)) w' := hall.2.2.2.2.2.2.2.2.2.2.2.2.1 _ rfl
            have e63 : (fun u _ => u = (.pointer (some ⟨b, 0, none⟩))) (a'.eval (.tmp 63)) w' := hall.2.2.2.2.2.2.2.2.2.2.2.2.2.1 _ rfl
            obtain ⟨v60, hv60⟩ : ∃ v, a'.eval (.tmp 60) = v := ⟨_, rfl⟩
            rw [hv60] at e60
            obtain ⟨v61, hv61⟩ : ∃ v, a'.eval (.tmp 61) = v := ⟨_, rfl⟩
            rw [hv61] at e61
            simp only [List.foldl_cons, List.foldl_nil, Act.put, List.setIfInBounds_toArray, List.set_cons_succ, List.set_cons_zero, e50, e51, e52, e53, e54, e55, e56, e57, e58, e59, hv60, hv61, e62, e63] at hA
            clear hO hall e50 e51 e52 e53 e54 e55 e56 e57 e58 e59 hv60 hv61 e62 e63
            subst hA
            obtain ⟨ga, gc, rfl⟩ := own_slice e61
            have hst := wr_step (s' := t ++ baL [toB x]) hbase VV2.out HOWN.out hE (by rw [baL_one]; exact e61) (by rw [strCells_app, strCells_one hx0.1 hx0.2])
            have HST := Lib.hid hst
            have hc4 := hst.1
            have hf4 := hst.2.1
            clear hst hE e61 c1 c2 c4 n1 n2 n4
            go_wp2
            go_roundg i
            case rel => exact ⟨by omega, by go_num, by rw [HT.out]; exact HST.out.2.2.1, HWK.out.trans HST.out.2.2.2⟩
            case measure => omega
  · have HX : Hid (decide (n < r.below ∨ r.below = 0) = false) := Lib.hid (decide_eq_false hx)
    have g1 : decide (r.below ≤ n) = true := by simp; omega
    have g2 : decide (0 < r.below) = true := by have := HR.out.b0; simp; omega
    have HNX := Lib.hid hx
    clear hx
    go_enter Tryz.func255, Tryz.ntmps255
    go_wp2
    go_ret
    exact ⟨ret_bool HX.out.symm, by rw [if_neg HNX.out]; exact HWR.out.below (by (repeat (first | exact Below.refl _ _ | assumption | (refine bdrew ?_) | (refine bdrewN ?_ _) | (refine balloc ?_ _) | (refine bset ?_ (by first | omega | (simp; done) | (simp; omega)) _) | (refine bnext ?_ (by assumption))))), WK.of_below (by (repeat (first | exact Below.refl _ _ | assumption | (refine bdrew ?_) | (refine bdrewN ?_ _) | (refine balloc ?_ _) | (refine bset ?_ (by first | omega | (simp; done) | (simp; omega)) _) | (refine bnext ?_ (by assumption))))) (by have := HWR.out.1; have := HWR.out.lt; omega)⟩
end Go.Proofs.YtihiaopilnjonaaGreatDoor
namespace Go.Proofs.YtihiaopilnjonaaGreatDoor
open Go.RowKit
set_option linter.unusedSimpArgs false
set_option linter.unusedVariables false
structure PTab (B : Nat) (w : World) : Prop where
  glob : 4 < B
  size : B ≤ w.heap.size
  tab : ∀ k, k < 5 → ∃ tb tq rc, tb < B ∧ w.cell? ⟨4, k, none⟩ = some (.slice (some ⟨tb, tq, none⟩) (len (rowsP k)) rc) ∧ PRows w (some ⟨tb, tq, none⟩) (rowsP k)
theorem PTab.keep {B B' : Nat} {w w' : World} (h : PTab B w) (hb : Below B' w w') (hB : B ≤ B') : PTab B w' := by
  refine ⟨h.glob, Nat.le_trans h.size hb.size, fun k hk => ?_⟩
  obtain ⟨tb, tq, rc, h1, h2, h3⟩ := h.tab k hk
  have e : ∀ b o, b < B → w'.cell? ⟨b, o, none⟩ = w.cell? ⟨b, o, none⟩ := fun b o hb2 => hb.cell (p := ⟨b, o, none⟩) (Nat.lt_of_lt_of_le hb2 hB)
  refine ⟨tb, tq, rc, h1, (e _ _ h.glob).trans h2, fun i hi => ?_⟩
  obtain ⟨b, off, e2, c0, c1, c2⟩ := h3 i hi
  cases e2
  exact ⟨tb, tq, rfl, (e _ _ h1).trans c0, (e _ _ h1).trans c1, (e _ _ h1).trans c2⟩
theorem rowsP_pos (k : Nat) : 0 < len (rowsP k) := by
  unfold rowsP; split <;> simp [len]
theorem rowsP_ok {sort : Nat} {n : Int} (h0 : 0 ≤ n) (i : Nat) (hi : i < len (rowsP sort)) : (prth (rowsP sort) i).Ok n := by
  have hi' : i < (rowsP sort).length := hi
  rw [prth_eq _ i hi']
  have hm : (rowsP sort)[i] ∈ rowsP sort := List.getElem_mem _
  generalize (rowsP sort)[i] = r at hm
  unfold rowsP at hm
  split at hm <;> simp at hm
  · rcases hm with rfl | rfl <;> exact ⟨by decide, by decide, by decide, by decide, by decide, by decide, fun h => by simp at h⟩
  · rcases hm with rfl | rfl | rfl
    · exact ⟨by decide, by decide, by decide, by decide, by decide, by decide, fun _ h => by simp at h; simp; omega⟩
    · exact ⟨by decide, by decide, by decide, by decide, by decide, by decide, fun h => by simp at h⟩
    · exact ⟨by decide, by decide, by decide, by decide, by decide, by decide, fun h => by simp at h⟩
  · rcases hm with rfl | rfl
    · exact ⟨by decide, by decide, by decide, by decide, by decide, by decide, fun _ h => by simp at h; simp; omega⟩
    · exact ⟨by decide, by decide, by decide, by decide, by decide, by decide, fun h => by simp at h⟩
  · rcases hm with rfl | rfl
    · exact ⟨by decide, by decide, by decide, by decide, by decide, by decide, fun _ h => by simp at h; simp; omega⟩
    · exact ⟨by decide, by decide, by decide, by decide, by decide, by decide, fun h => by simp at h⟩
  · rcases hm with rfl | rfl | rfl | rfl | rfl
    · exact ⟨by decide, by decide, by decide, by decide, by decide, by decide, fun _ h => by simp at h; simp; omega⟩
    all_goals exact ⟨by decide, by decide, by decide, by decide, by decide, by decide, fun h => by simp at h⟩
theorem headP_at {sort i : Nat} {n : Int} (hi : i < len (rowsP sort)) (hn : ∀ j, j < i → ¬ (n < (prth (rowsP sort) j).below ∨ (prth (rowsP sort) j).below = 0)) (hy : n < (prth (rowsP sort) i).below ∨ (prth (rowsP sort) i).below = 0) : headP sort n = rowB (prth (rowsP sort) i) n := by
  have hi' : i < (rowsP sort).length := hi
  have hf : (rowsP sort).find? (fun r => decide (n < r.below ∨ r.below = 0)) = some (prth (rowsP sort) i) := by
    rw [prth_eq _ i hi'] at hy ⊢
    rw [List.find?_eq_some_iff_getElem]
    refine ⟨by simpa using hy, i, hi', rfl, fun j hj => ?_⟩
    have := hn j hj
    rw [prth_eq _ j (by omega)] at this
    simpa using this
  unfold headP
  rw [hf]
theorem headP_end {sort : Nat} {n : Int} (hn : ∀ j, j < len (rowsP sort) → ¬ (n < (prth (rowsP sort) j).below ∨ (prth (rowsP sort) j).below = 0)) : headP sort n = [] := by
  have hf : (rowsP sort).find? (fun r => decide (n < r.below ∨ r.below = 0)) = none := by
    rw [List.find?_eq_none]
    intro x hx
    obtain ⟨j, hj, rfl⟩ := List.getElem_of_mem hx
    have := hn j hj
    rw [prth_eq _ j hj] at this
    simpa using this
  unfold headP
  rw [hf]
theorem prows_keep {w w' : World} {tb tq B B' : Nat} {l : List PRow} (h : PRows w (some ⟨tb, tq, none⟩) l) (htb : tb < B) (hb : Below B' w w') (hB : B ≤ B') : PRows w' (some ⟨tb, tq, none⟩) l := fun i hi => by
  have e : ∀ o, w'.cell? ⟨tb, o, none⟩ = w.cell? ⟨tb, o, none⟩ := fun o => hb.cell (p := ⟨tb, o, none⟩) (Nat.lt_of_lt_of_le htb hB)
  obtain ⟨b, off, e2, c0, c1, c2⟩ := h i hi
  cases e2
  exact ⟨tb, tq, rfl, (e _).trans c0, (e _).trans c1, (e _).trans c2⟩
def HeadOut (s' : ByteArray) (b base : Nat) (w : World) (e : Ending) (w' : World) : Prop := e = .returned (.tuple #[]) ∧ WrB w' b base s' ∧ WK base b w w'
set_option maxRecDepth 100000 in
set_option maxHeartbeats 4000000 in
theorem phead_any (B b base sort : Nat) (n : Int) (s : ByteArray) (w : World) (ht : PTab B w) (hB : B ≤ base) (hW : WrB w b base s) (h5 : sort < 5) (h0 : 0 ≤ n) (h1 : n ≤ 18446744073709551615) (hs : s.size ≤ 70000000000000) :
    Calls Tryz.prog 222 #[.pointer (some ⟨b, 0, none⟩), .int .i64 sort, .int .u64 n] w (HeadOut (s ++ baL (headP sort n)) b base w) := by
  have HT := Lib.hid ht
  have HWR := Lib.hid hW
  obtain ⟨tb, tq, rc, htb, hg, hrows⟩ := ht.tab sort h5
  have HROWS := Lib.hid hrows
  have HBS : Hid (base ≤ w.heap.size) := Lib.hid (by have := hW.1; have := hW.lt; omega)
  have hgl : 4 < w.heap.size := lt_of_cell hg
  have i5 : (sort : Int) < 5 := by omega
  have eg := enters_of Tryz.func255 (by kernel_rfl) rfl
  clear hrows ht hW
  obtain ⟨nr, hnr⟩ : ∃ nr, len (rowsP sort) = nr := ⟨_, rfl⟩
  have HNR := Lib.hid hnr
  have nr5 : nr ≤ 5 := by rw [← hnr]; unfold rowsP; split <;> simp [len]
  rw [hnr] at hg
  clear hnr
  go_enter Tryz.func222, Tryz.ntmps222
  go_wp2
  obtain ⟨bw, hbw⟩ : ∃ bw, w.heap.size = bw := ⟨_, rfl⟩
  obtain ⟨V, hV⟩ : ∃ V, (w.alloc (.cells #[.pointer (some ⟨b, 0, none⟩)] 166)).alloc (.cells #[.int .u64 n] 23) = V := ⟨_, rfl⟩
  have VW : Hid (V.heap[bw]? = some (.cells #[.pointer (some ⟨b, 0, none⟩)] 166 (0, 0))) := Lib.hid (by rw [← hV, ← hbw]; exact block_alloc (heap_alloc_new _ _) _)
  have VN : Hid (V.heap[bw + 1]? = some (.cells #[.int .u64 n] 23 (0, 0))) := Lib.hid (by rw [← hV, ← hbw]; exact alloc_new_at _ (by simp))
  have VB : Hid (Below w.heap.size w V) := Lib.hid (by rw [← hV]; (repeat (first | exact Below.refl _ _ | assumption | (refine bdrew ?_) | (refine bdrewN ?_ _) | (refine balloc ?_ _) | (refine bset ?_ (by first | omega | (simp; done) | (simp; omega)) _) | (refine bnext ?_ (by assumption)))))
  have HWV : Hid (WrB V b base s) := Lib.hid (HWR.out.below VB.out)
  have hbb : Hid (b < bw) := Lib.hid (by rw [← hbw]; exact HWR.out.lt)
  have HBV : Hid (base ≤ V.heap.size) := Lib.hid (by have := VB.out.size; have := HBS.out; omega)
  rw [hbw]
  try rw [hV]
  clear hV hbw hgl
  go_loopg [14] nr (fun g i wr => ∃ m : Nat, g + m = nr ∧ i = .int .i64 m ∧ Hid (∀ j, j < m → ¬ (n < (prth (rowsP sort) j).below ∨ (prth (rowsP sort) j).below = 0)) ∧ Hid (WrB wr b base s) ∧ Hid (WK base b V wr))
  case atStart => exact ⟨0, rfl, rfl, fun j hj => by omega, HWV.out, WK.refl _ _ _⟩
  case round =>
    clear HWV
    obtain ⟨m, hm, rfl, HN, HWW, HWK⟩ := hrel
    by_cases hlt : m < nr
    · have i1 : (m : Int) < nr := by omega
      obtain ⟨rb, ro, hre, c0, c1, c2⟩ := prows_keep (prows_keep HROWS.out htb VB.out (Nat.le_trans hB HBS.out)) htb HWK.out.bel hB m (by rw [HNR.out]; exact hlt)
      cases hre
      obtain ⟨r, hr⟩ : ∃ r, prth (rowsP sort) m = r := ⟨_, rfl⟩
      have HRE := Lib.hid hr
      rw [hr] at c0 c1 c2
      clear hr
      have n8n : Not8 (.cells #[.int .u64 n] 23 (0, 0)) := not8_cells (by decide)
      have n8b : Not8 (.cells #[.pointer (some ⟨b, 0, none⟩)] 166 (0, 0)) := not8_cells (by decide)
      go_wp2_with fail
      refine (head1_any r (bw + 1) bw b base n s _ (block_alloc (HWK.out.keep _ _ VN.out (by have := hbb.out; omega) n8n) _) (block_alloc (HWK.out.keep _ _ VW.out (by have := hbb.out; omega) n8b) _) (HWW.out.below (balloc (Below.refl _ _) _)) h0 h1 (by rw [← HRE.out]; exact rowsP_ok h0 m (by rw [HNR.out]; exact hlt)) hs).mono ?_
      rintro e w6 ⟨rfl, hw6, hk6⟩
      have HK6 : Hid (WK base b V w6) := Lib.hid ((HWK.out.next (balloc (Below.refl _ _) _) HBV.out).trans hk6)
      have HW6 := Lib.hid hw6
      clear hw6 hk6 HWK HWW c0 c1 c2 n8n n8b
      by_cases hx : n < r.below ∨ r.below = 0
      · rw [decide_eq_true hx]
        rw [if_pos hx] at HW6
        have HP : Hid (headP sort n = rowB r n) := Lib.hid (by rw [← HRE.out]; exact headP_at (by rw [HNR.out]; exact hlt) HN.out (by rw [HRE.out]; exact hx))
        clear hx
        go_wp2
        refine bodyPost_ret (results_none rfl _ _ _) rfl ?_
        refine ⟨rfl, ?_, (WK.of_below VB.out HBS.out).trans HK6.out⟩
        rw [HP.out]; exact HW6.out
      · rw [decide_eq_false hx]
        rw [if_neg hx] at HW6
        have HN2 : Hid (∀ j, j < m + 1 → ¬ (n < (prth (rowsP sort) j).below ∨ (prth (rowsP sort) j).below = 0)) := Lib.hid (fun j hj => by
          by_cases e : j = m
          · subst e; rw [HRE.out]; exact hx
          · exact HN.out j (by omega))
        clear hx
        go_wp2
        go_roundg (nr - (m + 1))
        case rel => exact ⟨m + 1, by omega, by go_num, HN2.out, HW6.out, HK6.out⟩
        case measure => omega
    · obtain rfl : m = nr := by omega
      have i1 : ¬ (m : Int) < m := by omega
      go_wp2
      go_end0
      refine ⟨rfl, ?_, (WK.of_below VB.out HBS.out).trans HWK.out⟩
      rw [headP_end (fun j hj => HN.out j (by rw [HNR.out] at hj; exact hj))]
      have e : s ++ baL [] = s := ba_ext (by simp [baL])
      rw [e]; exact HWW.out
end Go.Proofs.YtihiaopilnjonaaGreatDoor
namespace Go.Proofs.YtihiaopilnjonaaGreatDoor
open Go.RowKit
set_option linter.unusedSimpArgs false
set_option linter.unusedVariables false
def catB : List ByteArray → ByteArray
  | [] => ByteArray.empty
  | x :: r => x ++ catB r
theorem catB_app : ∀ a b : List ByteArray, catB (a ++ b) = catB a ++ catB b
  | [], b => by simp [catB]
  | x :: r, b => by rw [List.cons_append, catB, catB_app r b, catB, ByteArray.append_assoc]
theorem catB_snoc (a : List ByteArray) (x : ByteArray) : catB (a ++ [x]) = catB a ++ x := by rw [catB_app]; simp [catB]
structure FSpec where
  key : ByteArray
  must : Bool
  empty : Bool
  may : Bool
  bytes : ByteArray
def strP (s : ByteArray) : ByteArray := laidP 2 s.size s
def binP (s : ByteArray) : ByteArray := laidP 1 s.size s
def numP (n : Int) : ByteArray := laidP 0 n ByteArray.empty
def listP (n : Nat) : ByteArray := laidP 3 n ByteArray.empty
def mapP (n : Nat) : ByteArray := laidP 4 n ByteArray.empty
def fieldP (f : FSpec) : ByteArray := strP f.key ++ f.bytes
def keptF (l : List FSpec) : List FSpec := l.filter fun f => !f.empty
def layP (l : List FSpec) : ByteArray := mapP (keptF l).length ++ catB ((keptF l).map fieldP)
def allMay (l : List FSpec) : Bool := l.all fun f => f.may
def rkept (l : List (ByteArray × ByteArray)) : List (ByteArray × ByteArray) := l.filter fun p => decide (p.2.size ≠ 0)
def rlayP (l : List (ByteArray × ByteArray)) : ByteArray := mapP (rkept l).length ++ catB ((rkept l).map fun p => strP p.1 ++ p.2)
theorem lay_same : ∀ (l : List FSpec) (r : List (ByteArray × ByteArray)), l.length = r.length → (∀ i (h : i < l.length) (h' : i < r.length), l[i].key = r[i].1 ∧ (l[i].empty = true ↔ r[i].2.size = 0) ∧ (l[i].empty = false → l[i].bytes = r[i].2)) →
    (keptF l).length = (rkept r).length ∧ catB ((keptF l).map fieldP) = catB ((rkept r).map fun p => strP p.1 ++ p.2)
  | [], [], _, _ => ⟨rfl, rfl⟩
  | [], _ :: _, h, _ => by simp at h
  | _ :: _, [], h, _ => by simp at h
  | f :: l, p :: r, h, hh => by
    have ih := lay_same l r (by simpa using h) (fun i h1 h2 => hh (i + 1) (by simpa using h1) (by simpa using h2))
    have h0 := hh 0 (by simp) (by simp)
    simp only [List.getElem_cons_zero] at h0
    obtain ⟨e1, e2, e3⟩ := h0
    unfold keptF rkept at ih ⊢
    cases he : f.empty with
    | true =>
      have h2 := e2.1 he
      rw [List.filter_cons_of_neg (by simp [he]), List.filter_cons_of_neg (by simp [h2])]
      exact ih
    | false =>
      have h2 : p.2.size ≠ 0 := fun h => by rw [e2.2 h] at he; cases he
      rw [List.filter_cons_of_pos (by simp [he]), List.filter_cons_of_pos (by simp [h2])]
      refine ⟨by simp [ih.1], ?_⟩
      rw [List.map_cons, List.map_cons, catB, catB, ih.2]
      unfold fieldP
      rw [e1, e3 he]
theorem layP_eq {l : List FSpec} {r : List (ByteArray × ByteArray)} (h : l.length = r.length) (hh : ∀ i (h : i < l.length) (h' : i < r.length), l[i].key = r[i].1 ∧ (l[i].empty = true ↔ r[i].2.size = 0) ∧ (l[i].empty = false → l[i].bytes = r[i].2)) : layP l = rlayP r := by
  obtain ⟨h1, h2⟩ := lay_same l r h hh
  unfold layP rlayP
  rw [h1, h2]
end Go.Proofs.YtihiaopilnjonaaGreatDoor
namespace Go.Proofs.YtihiaopilnjonaaGreatDoor
open Go.RowKit
set_option linter.unusedSimpArgs false
set_option linter.unusedVariables false
def LaidOut (s' : ByteArray) (b base : Nat) (w : World) (e : Ending) (w' : World) : Prop := e = .returned (.int .i64 0) ∧ WrB w' b base s' ∧ WK base b w w'
theorem many_any (B b base sort n : Nat) (s : ByteArray) (w : World) (ht : PTab B w) (hB : B ≤ base) (hW : WrB w b base s) (h5 : sort < 5) (hn : n < 65536) (hs : s.size ≤ 70000000000000) :
    Calls Tryz.prog 239 #[.pointer (some ⟨b, 0, none⟩), .int .i64 sort, .int .i64 n] w (LaidOut (s ++ baL (headP sort n)) b base w) := by
  have H := Lib.hid (phead_any B b base sort n s w ht hB hW h5 (by omega) (by omega) hs)
  have i1 : decide ((65536 : Int) ≤ (n : Int)) = false := decide_eq_false (by omega)
  have i2 : IntKind.u64.wrap (n : Int) = n := IntWalk.u64_in _ (by omega)
  clear ht hW
  go_enter Tryz.func239, Tryz.ntmps239
  go_wp2_with fail
  refine H.out.mono ?_
  rintro e w' ⟨rfl, h1, h2⟩
  have H1 := Lib.hid h1
  have H2 := Lib.hid h2
  clear h1 h2
  go_wp2
  go_ret
  exact ⟨rfl, H1.out, H2.out⟩
set_option maxRecDepth 100000 in
theorem whole_any (B b base sort : Nat) (t s : ByteArray) (w : World) (ht : PTab B w) (hB : B ≤ base) (hW : WrB w b base s) (h5 : sort < 5) (hn : t.size < 65536) (hs : s.size ≤ 70000000000000) :
    Calls Tryz.prog 240 #[.pointer (some ⟨b, 0, none⟩), .int .i64 sort, .string t] w (LaidOut (s ++ (baL (headP sort t.size) ++ t)) b base w) := by
  have H := Lib.hid (many_any B b base sort t.size s w ht hB hW h5 hn hs)
  have HBS : Hid (base ≤ w.heap.size) := Lib.hid (by have := hW.1; have := hW.lt; omega)
  obtain ⟨i0, hi, hz0, hz1, hz2⟩ := info_parts info_u8
  clear ht hW
  go_enter Tryz.func240, Tryz.ntmps240
  go_wp2_with fail
  refine H.out.mono ?_
  rintro e w1 ⟨rfl, h1, h2⟩
  obtain ⟨s1, hs1⟩ : ∃ s1, s ++ baL (headP sort t.size) = s1 := ⟨_, rfl⟩
  have hl2 : s1.size ≤ 70000000000009 := by have hl := headP_len sort t.size; rw [← hs1, ByteArray.size_append, baL_size]; omega
  have HS1 : Hid (s ++ (baL (headP sort t.size) ++ t) = s1 ++ t) := Lib.hid (by rw [← hs1, ByteArray.append_assoc])
  rw [hs1] at h1
  clear hs1
  obtain ⟨hb, v, hv, hown⟩ := h1
  have HV := Lib.hid hv
  have HOWN := Lib.hid hown
  have H2 := Lib.hid h2
  have cb := block_cell hv 0
  simp only [List.getElem?_toArray, List.getElem?_cons_zero] at cb
  clear hv hown h2
  go_wp2_with (at_builtin; refine Lib.wpList_append_own_string _ rfl _ _ 106 9 rfl base 5 i0 Tryz.underlying106 Tryz.underlying9 hi hz0 hz1 hz2 _ _ _ rfl HOWN.out t rfl (by unfold maxLen; omega) (by omega) (by have := HBS.out; have := H2.out.bel.size; omega) ?_)
  intro v' w2 hown' hgrow _
  have hst := wr_step (s' := s1 ++ t) hb HV.out HOWN.out (w1 := w2) ⟨hgrow.os, hgrow.tape, hgrow.output, hgrow.size, hgrow.block⟩ (v' := v') (ys := Lib.strCells s1 ++ Lib.strCells t) (by rw [ByteArray.size_append]; exact hown') (by rw [← strCells_app])
  have HST := Lib.hid hst
  have hc4 := hst.1
  have hf4 := hst.2.1
  have hsl : ∃ g cap, v' = .slice (some ⟨g, 0, none⟩) (s1.size + t.size) cap ∨ v' = .slice none 0 0 := by
    rcases hown'.2 with ⟨h, _⟩ | ⟨g, cap, cur, h, _⟩
    · exact ⟨0, 0, .inr h⟩
    · exact ⟨g, cap, .inl h⟩
  clear hst hown' hgrow
  obtain ⟨ga, gc, rfl | rfl⟩ := hsl
  · go_wp2
    go_ret
    exact ⟨rfl, by rw [HS1.out]; exact HST.out.2.2.1, H2.out.trans HST.out.2.2.2⟩
  · go_wp2
    go_ret
    exact ⟨rfl, by rw [HS1.out]; exact HST.out.2.2.1, H2.out.trans HST.out.2.2.2⟩
theorem Num_w (B b base : Nat) (n : Int) (s : ByteArray) (w : World) (ht : PTab B w) (hB : B ≤ base) (hW : WrB w b base s) (h0 : 0 ≤ n) (h1 : n ≤ 18446744073709551615) (hs : s.size ≤ 70000000000000) :
    Calls Tryz.prog 149 #[.pointer (some ⟨b, 0, none⟩), .int .u64 n] w (LaidOut (s ++ numP n) b base w) := by
  have H := Lib.hid (phead_any B b base 0 n s w ht hB hW (by decide) h0 h1 hs)
  clear ht hW
  go_enter Tryz.func149, Tryz.ntmps149
  go_wp2_with fail
  refine H.out.mono ?_
  rintro e w' ⟨rfl, h1, h2⟩
  have H1 := Lib.hid h1
  have H2 := Lib.hid h2
  clear h1 h2
  go_wp2
  go_ret
  have e : numP n = baL (headP 0 n) := by unfold numP laidP; exact ba_ext (by simp)
  exact ⟨rfl, by rw [e]; exact H1.out, H2.out⟩
theorem Str_w (B b base : Nat) (t s : ByteArray) (w : World) (ht : PTab B w) (hB : B ≤ base) (hW : WrB w b base s) (hn : t.size < 65536) (hs : s.size ≤ 70000000000000) :
    Calls Tryz.prog 176 #[.pointer (some ⟨b, 0, none⟩), .string t] w (LaidOut (s ++ strP t) b base w) := by
  have H := Lib.hid (whole_any B b base 2 t s w ht hB hW (by decide) hn hs)
  clear ht hW
  go_enter Tryz.func176, Tryz.ntmps176
  go_wp2_with fail
  refine H.out.mono ?_
  rintro e w' ⟨rfl, h1, h2⟩
  have H1 := Lib.hid h1
  have H2 := Lib.hid h2
  clear h1 h2
  go_wp2
  go_ret
  exact ⟨rfl, H1.out, H2.out⟩
theorem Bin_w (B b base : Nat) (t s : ByteArray) (w : World) (ht : PTab B w) (hB : B ≤ base) (hW : WrB w b base s) (hn : t.size < 65536) (hs : s.size ≤ 70000000000000) :
    Calls Tryz.prog 193 #[.pointer (some ⟨b, 0, none⟩), .string t] w (LaidOut (s ++ binP t) b base w) := by
  have H := Lib.hid (whole_any B b base 1 t s w ht hB hW (by decide) hn hs)
  clear ht hW
  go_enter Tryz.func193, Tryz.ntmps193
  go_wp2_with fail
  refine H.out.mono ?_
  rintro e w' ⟨rfl, h1, h2⟩
  have H1 := Lib.hid h1
  have H2 := Lib.hid h2
  clear h1 h2
  go_wp2
  go_ret
  exact ⟨rfl, H1.out, H2.out⟩
theorem List_w (B b base n : Nat) (s : ByteArray) (w : World) (ht : PTab B w) (hB : B ≤ base) (hW : WrB w b base s) (hn : n < 65536) (hs : s.size ≤ 70000000000000) :
    Calls Tryz.prog 219 #[.pointer (some ⟨b, 0, none⟩), .int .i64 n] w (LaidOut (s ++ listP n) b base w) := by
  have H := Lib.hid (many_any B b base 3 n s w ht hB hW (by decide) hn hs)
  clear ht hW
  go_enter Tryz.func219, Tryz.ntmps219
  go_wp2_with fail
  refine H.out.mono ?_
  rintro e w' ⟨rfl, h1, h2⟩
  have H1 := Lib.hid h1
  have H2 := Lib.hid h2
  clear h1 h2
  go_wp2
  go_ret
  have e : listP n = baL (headP 3 n) := by unfold listP laidP; exact ba_ext (by simp)
  exact ⟨rfl, by rw [e]; exact H1.out, H2.out⟩
theorem Map_w (B b base n : Nat) (s : ByteArray) (w : World) (ht : PTab B w) (hB : B ≤ base) (hW : WrB w b base s) (hn : n < 65536) (hs : s.size ≤ 70000000000000) :
    Calls Tryz.prog 175 #[.pointer (some ⟨b, 0, none⟩), .int .i64 n] w (LaidOut (s ++ mapP n) b base w) := by
  have H := Lib.hid (many_any B b base 4 n s w ht hB hW (by decide) hn hs)
  clear ht hW
  go_enter Tryz.func175, Tryz.ntmps175
  go_wp2_with fail
  refine H.out.mono ?_
  rintro e w' ⟨rfl, h1, h2⟩
  have H1 := Lib.hid h1
  have H2 := Lib.hid h2
  clear h1 h2
  go_wp2
  go_ret
  have e : mapP n = baL (headP 4 n) := by unfold mapP laidP; exact ba_ext (by simp)
  exact ⟨rfl, by rw [e]; exact H1.out, H2.out⟩
theorem strNums (s : ByteArray) : strOfNums (s.data.toList.map fun b => (b.toNat : Int)) = s := by
  refine ba_ext ?_
  rw [strOfNums_data, List.map_map]
  conv => rhs; rw [← List.map_id s.data.toList]
  refine List.map_congr_left fun x _ => ?_
  simp
set_option maxRecDepth 100000 in
theorem ptext_any (b base : Nat) (s : ByteArray) (w : World) (hW : WrB w b base s) : Calls Tryz.prog 106 #[.pointer (some ⟨b, 0, none⟩)] w fun e w' => e = .returned (.string s) ∧ w = w' := by
  obtain ⟨hb, v, hv, hown⟩ := hW
  have cb := block_cell hv 0
  simp only [List.getElem?_toArray, List.getElem?_cons_zero] at cb
  have hc : ∀ t, Tryz.prog.underlying t = some .string → (convert 106 t v).run Tryz.prog w = .ok (.string s) w := by
    intro t ht
    rcases hown.2 with ⟨rfl, h0⟩ | ⟨g, cap, cur, rfl, _, _, _, _, _, _⟩
    · have e : s = ByteArray.empty := ba_ext (by
        have : s.data.toList.length = 0 := by rw [ba_len]; exact h0
        rw [List.eq_nil_of_length_eq_zero this]; rfl)
      rw [e]
      exact run_convert_bytes_nil w 106 5 Tryz.underlying106 Tryz.underlying5 0 0 t ht
    · have h := run_convert_bytes_arg (P := Tryz.prog) w 106 5 Tryz.underlying106 Tryz.underlying5 g 0 s.size cap (s.data.toList.map fun b => (b.toNat : Int)) (by rw [List.length_map, ba_len]) (fun i hi => by
        have h1 := hown.cellAt i (by omega)
        rw [Nat.zero_add, h1]
        have hi2 : i < s.data.toList.length := by rw [ba_len]; exact hi
        unfold Lib.strCells
        rw [List.getElem?_map, List.getElem?_eq_getElem hi2, List.getD_eq_getElem?_getD, List.getElem?_map, List.getElem?_eq_getElem hi2]; rfl) t ht
      rw [strNums] at h; exact h
  have hcv := hc 9 Tryz.underlying9
  clear hc hown hv
  go_enter Tryz.func106, Tryz.ntmps106
  go_wp2
  go_ret
  exact ⟨rfl, rfl⟩
theorem pnew_any (w : World) : Calls Tryz.prog 104 #[] w fun e w' => e = .returned (.pointer (some ⟨w.heap.size, 0, none⟩)) ∧ WrB w' w.heap.size w.heap.size ByteArray.empty ∧ Below w.heap.size w w' := by
  go_enter Tryz.func104, Tryz.ntmps104
  go_wp2
  go_ret
  exact ⟨rfl, ⟨Nat.le_refl _, .slice none 0 0, heap_alloc_new _ _, World.ownsRow_nil _ _ _ _⟩, by (repeat (first | exact Below.refl _ _ | assumption | (refine bdrew ?_) | (refine bdrewN ?_ _) | (refine balloc ?_ _) | (refine bset ?_ (by first | omega | (simp; done) | (simp; omega)) _) | (refine bnext ?_ (by assumption))))⟩
end Go.Proofs.YtihiaopilnjonaaGreatDoor
namespace Go.Proofs.YtihiaopilnjonaaGreatDoor
open Go.RowKit
set_option linter.unusedSimpArgs false
set_option linter.unusedVariables false
structure FVal where
  key : ByteArray
  must : Bool
  ef : Nat
  ec : Array Value
  mf : Nat
  mc : Array Value
  pf : Nat
  pc : Array Value
  gf : Nat
  gc : Array Value
abbrev FVal.val (r : FVal) : Value := .agg #[.string r.key, .bool r.must, .func (.func r.ef) #[] r.ec, .func (.func r.mf) #[] r.mc, .func (.func r.pf) #[] r.pc, .func (.func r.gf) #[] r.gc]
def FVal.cells (r : FVal) : List Value := [.string r.key, .bool r.must, .func (.func r.ef) #[] r.ec, .func (.func r.mf) #[] r.mc, .func (.func r.pf) #[] r.pc, .func (.func r.gf) #[] r.gc]
theorem FVal.cells_len (r : FVal) : r.cells.length = 6 := rfl
theorem FVal.cells_one (r : FVal) : ∀ u ∈ r.cells, u.oneCell' = true := by intro u hu; simp only [FVal.cells, List.mem_cons, List.not_mem_nil, or_false] at hu; rcases hu with rfl | rfl | rfl | rfl | rfl | rfl <;> rfl
def FVal.zero : FVal := ⟨ByteArray.empty, false, 0, #[], 0, #[], 0, #[], 0, #[]⟩
def fth (l : List FVal) (i : Nat) : FVal := l.getD i FVal.zero
theorem fth_eq (l : List FVal) (i : Nat) (h : i < l.length) : fth l i = l[i] := by unfold fth; rw [List.getD_eq_getElem?_getD, List.getElem?_eq_getElem h]; rfl
structure FValAt (w : World) (b o : Nat) (r : FVal) : Prop where
  c0 : w.cell? ⟨b, o, none⟩ = some (.string r.key)
  c1 : w.cell? ⟨b, o + 1, none⟩ = some (.bool r.must)
  c2 : w.cell? ⟨b, o + 2, none⟩ = some (.func (.func r.ef) #[] r.ec)
  c3 : w.cell? ⟨b, o + 3, none⟩ = some (.func (.func r.mf) #[] r.mc)
  c4 : w.cell? ⟨b, o + 4, none⟩ = some (.func (.func r.pf) #[] r.pc)
  c5 : w.cell? ⟨b, o + 5, none⟩ = some (.func (.func r.gf) #[] r.gc)
theorem FValAt.below {w w' : World} {b o : Nat} {r : FVal} (h : FValAt w b o r) (hb : Below w.heap.size w w') : FValAt w' b o r := by
  have hl := lt_of_cell h.c0
  have e : ∀ q, w'.cell? ⟨b, q, none⟩ = w.cell? ⟨b, q, none⟩ := fun q => hb.cell (p := ⟨b, q, none⟩) hl
  obtain ⟨c0, c1, c2, c3, c4, c5⟩ := h
  constructor <;> (rw [e]; assumption)
def Flds (w : World) (a : Option Addr) (l : List FVal) : Prop := ∀ i, i < len l → ∃ b off, a = some ⟨b, off, none⟩ ∧ FValAt w b (off + i * 6) (fth l i)
theorem Flds.nil (w : World) (a : Option Addr) : Flds w a [] := fun i hi => absurd hi (by simp [len])
theorem Flds.below {w w' : World} {a : Option Addr} {l : List FVal} (h : Flds w a l) (hb : Below w.heap.size w w') : Flds w' a l := fun i hi => by
  obtain ⟨b, off, rfl, hc⟩ := h i hi
  exact ⟨b, off, rfl, hc.below hb⟩
theorem Flds.drew {w w' : World} {a : Option Addr} {l : List FVal} (h : Flds w a l) (hb : Drew w w') : Flds w' a l := h.below (hb.below _)
theorem Flds.take {w : World} {a : Option Addr} {l : List FVal} (h : Flds w a l) (k : Nat) : Flds w a (l.take k) := fun i hi => by
  have hi2 : i < l.length ∧ i < k := by simp only [len, List.length_take] at hi; omega
  have hi3 : i < (l.take k).length := hi
  have e : fth (l.take k) i = fth l i := by rw [fth_eq l i hi2.1, fth_eq _ i hi3, List.getElem_take]
  rw [e]; exact h i hi2.1
theorem Flds.drop {w : World} {b off : Nat} {l : List FVal} (h : Flds w (some ⟨b, off, none⟩) l) (k : Nat) : Flds w (some ⟨b, off + k * 6, none⟩) (l.drop k) := fun i hi => by
  have hi2 : k + i < l.length := by simp only [len, List.length_drop] at hi; omega
  have hi3 : i < (l.drop k).length := hi
  have e : fth (l.drop k) i = fth l (k + i) := by rw [fth_eq l _ hi2, fth_eq _ i hi3, List.getElem_drop]
  obtain ⟨b', off', e2, hc⟩ := h (k + i) hi2
  cases e2
  exact ⟨b, _, rfl, by rw [e, show off + k * 6 + i * 6 = off + (k + i) * 6 by omega]; exact hc⟩
theorem Flds.own {w : World} {base e n : Nat} {v : Value} {l : List FVal} (h : w.ownsRow base e 6 v n (l.flatMap FVal.cells)) : ∃ a cap, v = .slice a (len l) cap ∧ Flds w a l ∧ len l ≤ cap := by
  have hn : len l = n := by have := h.1; rw [flat_length FVal.cells 6 FVal.cells_len] at this; rw [len_eq]; omega
  obtain ⟨h1, h2⟩ := h
  rcases h2 with ⟨rfl, h2⟩ | ⟨g, cap, cur, rfl, hg, hh, hc1, hc2, hc3, hc4⟩
  · obtain rfl : l = [] := List.eq_nil_of_length_eq_zero (by rw [← len_eq]; omega)
    exact ⟨none, 0, rfl, Flds.nil _ _, Nat.le_refl _⟩
  · refine ⟨some ⟨g, 0, none⟩, cap, by rw [hn], fun i hi => ⟨g, 0, rfl, ?_⟩, by omega⟩
    have hown : w.ownsRow base e 6 (.slice (some ⟨g, 0, none⟩) n cap) n (l.flatMap FVal.cells) := ⟨h1, .inr ⟨g, cap, cur, rfl, hg, hh, hc1, hc2, hc3, hc4⟩⟩
    have key : ∀ r, r < 6 → w.cell? ⟨g, 0 + i * 6 + r, none⟩ = (fth l i).cells[r]? := fun r hr => by
      have := hown.cellAt (i * 6 + r) (by rw [← hn]; omega)
      rw [Nat.zero_add, this, flat_get FVal.cells 6 FVal.cells_len l i r hi hr, fth_eq l i hi]
    exact ⟨key 0 (by decide), key 1 (by decide), key 2 (by decide), key 3 (by decide), key 4 (by decide), key 5 (by decide)⟩
theorem Flds.block {w : World} {g : Nat} {l : List FVal} {t : TypeId} {fr : Nat × Nat} (h : w.heap[g]? = some (.cells (l.flatMap FVal.cells).toArray t fr)) : Flds w (some ⟨g, 0, none⟩) l := fun i hi => ⟨g, 0, rfl, by
  have key : ∀ r, r < 6 → w.cell? ⟨g, 0 + i * 6 + r, none⟩ = (fth l i).cells[r]? := fun r hr => by
    rw [Nat.zero_add, block_cell h, List.getElem?_toArray, flat_get FVal.cells 6 FVal.cells_len l i r hi hr, fth_eq l i hi]
  exact ⟨key 0 (by decide), key 1 (by decide), key 2 (by decide), key 3 (by decide), key 4 (by decide), key 5 (by decide)⟩⟩
structure Keep8 (B : Nat) (W0 w : World) : Prop where
  s0 : B ≤ W0.heap.size
  s1 : W0.heap.size ≤ w.heap.size
  low : ∀ k : Nat, k < B → w.heap[k]? = W0.heap[k]?
  keep : ∀ (k : Nat) (x : Obj), W0.heap[k]? = some x → Not8 x → w.heap[k]? = some x
theorem Keep8.refl {B : Nat} {w : World} (h : B ≤ w.heap.size) : Keep8 B w w := ⟨h, Nat.le_refl _, fun _ _ => rfl, fun _ _ h _ => h⟩
theorem Keep8.trans {B : Nat} {a b c : World} (h : Keep8 B a b) (k : Keep8 B b c) : Keep8 B a c := ⟨h.s0, Nat.le_trans h.s1 k.s1, fun i hi => (k.low i hi).trans (h.low i hi), fun i x hx hn => k.keep i x (h.keep i x hx hn) hn⟩
theorem Keep8.of_below {B : Nat} {w w' : World} (h : Below w.heap.size w w') (hB : B ≤ w.heap.size) : Keep8 B w w' := ⟨hB, h.size, fun k hk => h.block k (Nat.lt_of_lt_of_le hk hB), fun k x hx _ => (h.block k (lt_of_block hx)).trans hx⟩
theorem Keep8.next {B : Nat} {W0 w w' : World} (h : Keep8 B W0 w) (hb : Below w.heap.size w w') : Keep8 B W0 w' := h.trans (Keep8.of_below hb (Nat.le_trans h.s0 h.s1))
theorem Keep8.base {B B' : Nat} {W0 w w' : World} (h : Keep8 B W0 w) (hb : Below B' w w') (hB : W0.heap.size ≤ B') : Keep8 B W0 w' :=
  ⟨h.s0, Nat.le_trans h.s1 hb.size, fun k hk => (hb.block k (Nat.lt_of_lt_of_le hk (Nat.le_trans h.s0 hB))).trans (h.low k hk), fun k x hx hn => (hb.block k (Nat.lt_of_lt_of_le (lt_of_block hx) hB)).trans (h.keep k x hx hn)⟩
def Off8 (W0 : World) (b : Nat) : Prop := ∀ x, W0.heap[b]? = some x → ¬ Not8 x
theorem Off8.of_le {W0 : World} {b : Nat} (h : W0.heap.size ≤ b) : Off8 W0 b := fun x hx => by have := lt_of_block hx; omega
theorem Off8.ne {W0 : World} {b k : Nat} {x : Obj} (h : Off8 W0 b) (hk : W0.heap[k]? = some x) (hn : Not8 x) : k ≠ b := fun e => by subst e; exact h x hk hn
theorem Off8.early {B b : Nat} {W0 W1 : World} (h : Off8 W1 b) (hk : Keep8 B W0 W1) : Off8 W0 b := fun x hx hn => h x (hk.keep b x hx hn) hn
theorem Keep8.wk {B base b : Nat} {W0 w w' : World} (h : Keep8 B W0 w) (hk : WK base b w w') (hb : Off8 W0 b) (hB : B ≤ base) : Keep8 B W0 w' :=
  ⟨h.s0, Nat.le_trans h.s1 hk.bel.size, fun k hk2 => (hk.bel.block k (Nat.lt_of_lt_of_le hk2 hB)).trans (h.low k hk2), fun k x hx hn => hk.keep k x (h.keep k x hx hn) (hb.ne hx hn) hn⟩
structure FSem (B : Nat) (W0 : World) (v : FVal) (f : FSpec) : Prop where
  key : v.key = f.key
  must : v.must = f.must
  ksz : f.key.size < 65536
  ee : ∀ args w, (callFunc v.ef args).run Tryz.prog w = .ok (.enter v.ef args) w
  em : ∀ args w, (callFunc v.mf args).run Tryz.prog w = .ok (.enter v.mf args) w
  ep : ∀ args w, (callFunc v.pf args).run Tryz.prog w = .ok (.enter v.pf args) w
  empty : ∀ w, Keep8 B W0 w → Calls Tryz.prog v.ef v.ec w fun e w' => e = .returned (.bool f.empty) ∧ Below w.heap.size w w'
  may : ∀ w, Keep8 B W0 w → Calls Tryz.prog v.mf v.mc w fun e w' => e = .returned (.bool f.may) ∧ Below w.heap.size w w'
  put : f.may = true → f.empty = false → ∀ w b base s, Keep8 B W0 w → Off8 W0 b → PTab B w → B ≤ base → WrB w b base s → s.size + f.bytes.size ≤ 60000000000000 →
    Calls Tryz.prog v.pf (#[.pointer (some ⟨b, 0, none⟩)] ++ v.pc) w fun e w' => e = .returned (.tuple #[]) ∧ WrB w' b base (s ++ f.bytes) ∧ WK base b w w'
theorem FSem.later {B : Nat} {W0 W1 : World} {v : FVal} {f : FSpec} (h : FSem B W0 v f) (hk : Keep8 B W0 W1) : FSem B W1 v f :=
  ⟨h.key, h.must, h.ksz, h.ee, h.em, h.ep, fun w hw => h.empty w (hk.trans hw), fun w hw => h.may w (hk.trans hw), fun h1 h2 w b base s hw hb => h.put h1 h2 w b base s (hk.trans hw) (hb.early hk)⟩
def spth (l : List FSpec) (i : Nat) : FSpec := l.getD i ⟨ByteArray.empty, false, false, false, ByteArray.empty⟩
theorem spth_eq (l : List FSpec) (i : Nat) (h : i < l.length) : spth l i = l[i] := by unfold spth; rw [List.getD_eq_getElem?_getD, List.getElem?_eq_getElem h]; rfl
def FSems (B : Nat) (W0 : World) (l : List FVal) (fs : List FSpec) : Prop := len fs = len l ∧ ∀ i, i < len l → FSem B W0 (fth l i) (spth fs i)
theorem FSems.later {B : Nat} {W0 W1 : World} {l : List FVal} {fs : List FSpec} (h : FSems B W0 l fs) (hk : Keep8 B W0 W1) : FSems B W1 l fs := ⟨h.1, fun i hi => (h.2 i hi).later hk⟩
def SaysF (w : World) (l : List FVal) (g : Nat) (lb : Array Value) (p : Nat → Bool) : Prop :=
  (∀ args w', (callFunc g args).run Tryz.prog w' = .ok (.enter g args) w') ∧ ∀ i, i < len l → ∀ w', Below w.heap.size w w' → Calls Tryz.prog g (#[(fth l i).val] ++ lb) w' fun e w'' => e = .returned (.bool (p i)) ∧ Below w'.heap.size w' w''
def IdxOut (n : Nat) (p : Nat → Bool) (w : World) (e : Ending) (w' : World) : Prop :=
  ∃ r : Int, e = .returned (.int .i64 r) ∧ ((r = -1 ∧ ∀ i, i < n → p i = false) ∨ ∃ k : Nat, k < n ∧ r = k ∧ p k = true ∧ ∀ i, i < k → p i = false) ∧ Below w.heap.size w w'
set_option maxRecDepth 100000 in
set_option maxHeartbeats 4000000 in
theorem idxf_any (a : Option Addr) (c : Nat) (l : List FVal) (g : Nat) (lb : Array Value) (p : Nat → Bool) (w : World) (hl : Flds w a l) (hn : len l ≤ 1000) (hp : SaysF w l g lb p) :
    Calls Tryz.prog 202 #[.slice a (len l) c, .func (.func g) #[] lb] w (IdxOut (len l) p w) := by
  have HL := Lib.hid hl
  have HP := Lib.hid hp.2
  have eg := hp.1
  clear hl hp
  go_enter Tryz.func202, Tryz.ntmps202
  go_wp2
  go_loopg [8] (len l) (fun g i wr => ∃ m : Nat, g + m = len l ∧ i = .int .i64 m ∧ Hid (∀ i, i < m → p i = false) ∧ Hid (Below w.heap.size w wr))
  case atStart => exact ⟨0, rfl, rfl, fun i hi => by omega, Below.refl _ _⟩
  case round =>
    obtain ⟨m, hm, rfl, HN, HB⟩ := hrel
    by_cases hlt : m < len l
    · obtain ⟨b, off, rfl, c0, c1, c2, c3, c4, c5⟩ := (HL.out.below HB.out) m hlt
      have i1 : (m : Int) < len l := by omega
      have hcall := HP.out m hlt wr HB.out
      unfold FVal.val at hcall
      have HC := Lib.hid hcall
      clear hcall
      generalize fth l m = v at c0 c1 c2 c3 c4 c5 HC
      go_wp2_with fail
      refine HC.out.mono ?_
      rintro e w1 ⟨rfl, hb⟩
      have HB1 : Hid (Below w.heap.size w w1) := Lib.hid (bnext HB.out hb)
      clear hb c0 c1 c2 c3 c4 c5
      cases hpm : p m with
      | true =>
        go_wp2
        go_ret
        exact ⟨m, rfl, .inr ⟨m, hlt, rfl, hpm, HN.out⟩, HB1.out⟩
      | false =>
        have HN2 : Hid (∀ i, i < m + 1 → p i = false) := Lib.hid (fun i hi => by
          by_cases e : i = m
          · subst e; exact hpm
          · exact HN.out i (by omega))
        clear hpm
        go_wp2
        go_roundg (len l - (m + 1))
        case rel => exact ⟨m + 1, by omega, by go_num, HN2.out, HB1.out⟩
        case measure => omega
    · obtain rfl : m = len l := by omega
      have i1 : ¬ ((len l : Nat) : Int) < len l := by omega
      go_wp2
      go_ret
      exact ⟨-1, rfl, .inl ⟨rfl, HN.out⟩, HB.out⟩
theorem containsf_any (a : Option Addr) (c : Nat) (l : List FVal) (g : Nat) (lb : Array Value) (p : Nat → Bool) (w : World) (hl : Flds w a l) (hn : len l ≤ 1000) (hp : SaysF w l g lb p) :
    Calls Tryz.prog 170 #[.slice a (len l) c, .func (.func g) #[] lb] w fun e w' => ∃ b, e = .returned (.bool b) ∧ (b = true ↔ ∃ i, i < len l ∧ p i = true) ∧ Below w.heap.size w w' := by
  have H := Lib.hid (idxf_any a c l g lb p w hl hn hp)
  clear hl hp
  go_enter Tryz.func170, Tryz.ntmps170
  go_wp2_with fail
  refine H.out.mono ?_
  rintro e w1 ⟨r, rfl, hr, hb⟩
  have HB := Lib.hid hb
  clear hb
  rcases hr with ⟨rfl, hall⟩ | ⟨k, hk, rfl, hpk, -⟩
  · have HA := Lib.hid hall
    clear hall
    go_wp2
    go_ret
    exact ⟨false, rfl, ⟨fun h => (by cases h), fun ⟨i, hi, h⟩ => by rw [HA.out i hi] at h; cases h⟩, HB.out⟩
  · have HK := Lib.hid hpk
    clear hpk
    go_wp2
    go_ret
    exact ⟨true, rfl, ⟨fun _ => ⟨k, hk, HK.out⟩, fun _ => rfl⟩, HB.out⟩
end Go.Proofs.YtihiaopilnjonaaGreatDoor
namespace Go.Proofs.YtihiaopilnjonaaGreatDoor
open Go.RowKit
set_option linter.unusedSimpArgs false
set_option linter.unusedVariables false
structure Chg (rb tb : Nat) (w w' : World) : Prop where
  os : w'.os = w.os
  tape : w'.tape = w.tape
  output : w'.output = w.output
  size : w.heap.size ≤ w'.heap.size
  block : ∀ i, i < w.heap.size → i ≠ rb → i ≠ tb → w'.heap[i]? = w.heap[i]?
theorem Chg.refl (rb tb : Nat) (w : World) : Chg rb tb w w := ⟨rfl, rfl, rfl, Nat.le_refl _, fun _ _ _ _ => rfl⟩
theorem Chg.trans {rb tb : Nat} {a b c : World} (h : Chg rb tb a b) (k : Chg rb tb b c) : Chg rb tb a c :=
  ⟨k.os.trans h.os, k.tape.trans h.tape, k.output.trans h.output, Nat.le_trans h.size k.size, fun i hi h1 h2 => (k.block i (Nat.lt_of_lt_of_le hi h.size) h1 h2).trans (h.block i hi h1 h2)⟩
theorem Chg.of_below {rb tb : Nat} {w w' : World} (h : Below w.heap.size w w') : Chg rb tb w w' := ⟨h.os, h.tape, h.output, h.size, fun i hi _ _ => h.block i hi⟩
theorem Chg.of_ext {rb tb : Nat} {w w' : World} (h : ExtB (some rb) w w') : Chg rb tb w w' := ⟨h.os, h.tape, h.output, h.size, fun i hi h1 _ => h.block i hi (by simpa using h1)⟩
theorem Chg.next {rb tb : Nat} {a b c : World} (h : Chg rb tb a b) (k : Below b.heap.size b c) : Chg rb tb a c := h.trans (Chg.of_below k)
theorem Chg.ext {rb tb : Nat} {a b c : World} (h : Chg rb tb a b) (k : ExtB (some rb) b c) : Chg rb tb a c := h.trans (Chg.of_ext k)
theorem Chg.set {rb tb : Nat} {a b : World} (h : Chg rb tb a b) (o : Nat) (v : Value) : Chg rb tb a (b.setCell ⟨tb, o, none⟩ v) :=
  ⟨h.os, h.tape, h.output, by simpa using h.size, fun i hi h1 h2 => by rw [Below.heap_setCell _ _ _ _ h2]; exact h.block i hi h1 h2⟩
theorem Chg.setNew {rb tb : Nat} {a b : World} (h : Chg rb tb a b) {p : Addr} (hp : a.heap.size ≤ p.block) (v : Value) : Chg rb tb a (b.setCell p v) :=
  ⟨h.os, h.tape, h.output, by simpa using h.size, fun i hi h1 h2 => by rw [Below.heap_setCell _ _ _ _ (by omega)]; exact h.block i hi h1 h2⟩
theorem Chg.inner {rb tb tb' : Nat} {a b c : World} (h : Chg rb tb a b) (k : Chg rb tb' b c) (ht : a.heap.size ≤ tb') : Chg rb tb a c :=
  ⟨k.os.trans h.os, k.tape.trans h.tape, k.output.trans h.output, Nat.le_trans h.size k.size, fun i hi h1 h2 => (k.block i (Nat.lt_of_lt_of_le hi h.size) h1 (by omega)).trans (h.block i hi h1 h2)⟩
def Off (rb tb : Nat) (a : Option Addr) : Prop := ∀ b off, a = some ⟨b, off, none⟩ → rb < b ∧ tb < b
def Tx (w : World) (a : Option Addr) (l : List ByteArray) : Prop := Txs w a l ∧ ∀ b off, a = some ⟨b, off, none⟩ → ∃ cs, w.heap[b]? = some (.cells cs 9 (0, 0))
def Ux (w : World) (a : Option Addr) (l : List Int) : Prop := U64s w a l ∧ ∀ b off, a = some ⟨b, off, none⟩ → ∃ cs, w.heap[b]? = some (.cells cs 23 (0, 0))
theorem Tx.keep {w w' : World} {a : Option Addr} {l : List ByteArray} (h : Tx w a l) (hb : ∀ b off cs, a = some ⟨b, off, none⟩ → w.heap[b]? = some (.cells cs 9 (0, 0)) → w'.heap[b]? = w.heap[b]?) : Tx w' a l := by
  refine ⟨fun i hi => ?_, fun b off e => ?_⟩
  · obtain ⟨b, off, rfl, h1⟩ := h.1 i hi
    obtain ⟨cs, h2⟩ := h.2 b off rfl
    exact ⟨b, off, rfl, by rw [World.cell?_of_block (w := w) (hb b off cs rfl h2)]; exact h1⟩
  · obtain ⟨cs, h2⟩ := h.2 b off e
    exact ⟨cs, (hb b off cs e h2).trans h2⟩
theorem Ux.keep {w w' : World} {a : Option Addr} {l : List Int} (h : Ux w a l) (hb : ∀ b off cs, a = some ⟨b, off, none⟩ → w.heap[b]? = some (.cells cs 23 (0, 0)) → w'.heap[b]? = w.heap[b]?) : Ux w' a l := by
  refine ⟨fun i hi => ?_, fun b off e => ?_⟩
  · obtain ⟨b, off, rfl, h1⟩ := h.1 i hi
    obtain ⟨cs, h2⟩ := h.2 b off rfl
    exact ⟨b, off, rfl, by rw [World.cell?_of_block (w := w) (hb b off cs rfl h2)]; exact h1⟩
  · obtain ⟨cs, h2⟩ := h.2 b off e
    exact ⟨cs, (hb b off cs e h2).trans h2⟩
theorem Tx.chg {rb tb : Nat} {w w' : World} {a : Option Addr} {l : List ByteArray} (h : Tx w a l) (ho : Off rb tb a) (hc : Chg rb tb w w') : Tx w' a l :=
  h.keep fun b off cs e h2 => hc.block b (lt_of_block h2) (by have := (ho b off e).1; omega) (by have := (ho b off e).2; omega)
theorem Ux.chg {rb tb : Nat} {w w' : World} {a : Option Addr} {l : List Int} (h : Ux w a l) (ho : Off rb tb a) (hc : Chg rb tb w w') : Ux w' a l :=
  h.keep fun b off cs e h2 => hc.block b (lt_of_block h2) (by have := (ho b off e).1; omega) (by have := (ho b off e).2; omega)
theorem Tx.ext {row : Option Nat} {w w' : World} {a : Option Addr} {l : List ByteArray} (h : Tx w a l) (hE : ExtB row w w') (hr : ∀ k, row = some k → ∃ cs T, w.heap[k]? = some (.cells cs T (0, 0)) ∧ T ≠ 9) : Tx w' a l :=
  h.keep fun b off cs e h2 => hE.block b (lt_of_block h2) (fun e2 => by obtain ⟨cs', T, h3, h4⟩ := hr b e2.symm; rw [h2] at h3; cases h3; exact h4 rfl)
theorem Revs.chg {rb tb : Nat} {w w' : World} {a : Option Addr} {l : List Rev} (h : Revs w a l) (ho : Off rb tb a) (hc : Chg rb tb w w') : Revs w' a l := fun i hi => by
  obtain ⟨b, off, rfl, h1⟩ := h i hi
  have hb := hc.block b (lt_of_cell h1.c0) (by have := (ho b off rfl).1; omega) (by have := (ho b off rfl).2; omega)
  have e : ∀ q, w'.cell? ⟨b, q, none⟩ = w.cell? ⟨b, q, none⟩ := fun q => World.cell?_of_block (w := w) hb
  obtain ⟨c0, c1, c2, c3, c4, c5, c6, c7, c8, c9, c10⟩ := h1
  exact ⟨b, off, rfl, by constructor <;> (rw [e]; assumption)⟩
def lth (l : List RevD) (i : Nat) : RevD := l.getD i ⟨0, 0, false, 0, [], [], ⟨#[]⟩, 0, 0, 0, 0⟩
theorem lth_eq (l : List RevD) (i : Nat) (h : i < l.length) : lth l i = l[i] := by unfold lth; rw [List.getD_eq_getElem?_getD, List.getElem?_eq_getElem h]; rfl
structure RevIs (rb tb : Nat) (w : World) (r : Rev) (d : RevD) : Prop where
  pos : r.pos = d.pos
  L : r.L = d.L
  signed : r.signed = d.signed
  idx : r.idx = d.idx
  wn : r.wn = len d.ws
  ws : Tx w r.wa d.ws
  wo : Off rb tb r.wa
  pn : r.pn = len d.ps
  ps : Tx w r.pa d.ps
  po : Off rb tb r.pa
  root : r.root = d.root
  wt : r.wt = d.wt
  first : r.first = d.first
  life : r.life = d.life
  keys : r.keys = d.keys
theorem RevIs.chg {rb tb : Nat} {w w' : World} {r : Rev} {d : RevD} (h : RevIs rb tb w r d) (hc : Chg rb tb w w') : RevIs rb tb w' r d :=
  ⟨h.pos, h.L, h.signed, h.idx, h.wn, h.ws.chg h.wo hc, h.wo, h.pn, h.ps.chg h.po hc, h.po, h.root, h.wt, h.first, h.life, h.keys⟩
theorem RevIs.ext {rb tb : Nat} {row : Option Nat} {w w' : World} {r : Rev} {d : RevD} (h : RevIs rb tb w r d) (hE : ExtB row w w') (hr : ∀ k, row = some k → ∃ cs T, w.heap[k]? = some (.cells cs T (0, 0)) ∧ T ≠ 9) : RevIs rb tb w' r d :=
  ⟨h.pos, h.L, h.signed, h.idx, h.wn, h.ws.ext hE hr, h.wo, h.pn, h.ps.ext hE hr, h.po, h.root, h.wt, h.first, h.life, h.keys⟩
theorem RevIs.outer {rb tb xb : Nat} {w : World} {r : Rev} {d : RevD} (h : RevIs rb xb w r d) (hx : tb ≤ xb) : RevIs rb tb w r d :=
  ⟨h.pos, h.L, h.signed, h.idx, h.wn, h.ws, fun b off e => ⟨(h.wo b off e).1, Nat.lt_of_le_of_lt hx (h.wo b off e).2⟩, h.pn, h.ps, fun b off e => ⟨(h.po b off e).1, Nat.lt_of_le_of_lt hx (h.po b off e).2⟩, h.root, h.wt, h.first, h.life, h.keys⟩
def HoldsD (rb tb : Nat) (w : World) (v : Value) : DV → Prop
  | .num n => v = .int .u64 n
  | .flag q => v = .bool q
  | .str s => v = .string s
  | .strs l => ∃ a c, v = .slice a (len l) c ∧ (len l = 0 → a = none ∧ c = 0) ∧ Off rb tb a ∧ Tx w a l
  | .nums l => ∃ a c, v = .slice a (len l) c ∧ (len l = 0 → a = none ∧ c = 0) ∧ Off rb tb a ∧ Ux w a l
  | .revs l => ∃ a c, v = .slice a (len l) c ∧ (len l = 0 → a = none ∧ c = 0) ∧ Off rb tb a ∧ ∃ rs : List Rev, len rs = len l ∧ Revs w a rs ∧ ∀ i, i < len l → RevIs rb tb w (rnth rs i) (lth l i)
theorem HoldsD.chg {rb tb : Nat} {w w' : World} {v : Value} {d : DV} (h : HoldsD rb tb w v d) (hc : Chg rb tb w w') : HoldsD rb tb w' v d := by
  cases d with
  | num n => exact h
  | flag q => exact h
  | str s => exact h
  | strs l => obtain ⟨a, c, h1, h2, h3, h4⟩ := h; exact ⟨a, c, h1, h2, h3, h4.chg h3 hc⟩
  | nums l => obtain ⟨a, c, h1, h2, h3, h4⟩ := h; exact ⟨a, c, h1, h2, h3, h4.chg h3 hc⟩
  | revs l => obtain ⟨a, c, h1, h2, h3, rs, h4, h5, h6⟩ := h; exact ⟨a, c, h1, h2, h3, rs, h4, h5.chg h3 hc, fun i hi => (h6 i hi).chg hc⟩
def RecAt (rb tb : Nat) (T : TypeId) (n : Nat) (w : World) (x : Rcd) : Prop :=
  ∃ cs : Array Value, w.heap[tb]? = some (.cells cs T (0, 0)) ∧ cs.size = n ∧ ∀ i, i < n → ∃ v, cs[i]? = some v ∧ HoldsD rb tb w v (x i)
theorem RecAt.keep {rb tb : Nat} {T : TypeId} {n : Nat} {w w' : World} {x : Rcd} (h : RecAt rb tb T n w x) (hb : w'.heap[tb]? = w.heap[tb]?) (hc : Chg rb tb w w') : RecAt rb tb T n w' x := by
  obtain ⟨cs, h1, h2, h3⟩ := h
  refine ⟨cs, hb.trans h1, h2, fun i hi => ?_⟩
  obtain ⟨v, h4, h5⟩ := h3 i hi
  exact ⟨v, h4, h5.chg hc⟩
theorem RecAt.lt {rb tb : Nat} {T : TypeId} {n : Nat} {w : World} {x : Rcd} (h : RecAt rb tb T n w x) : tb < w.heap.size := by
  obtain ⟨cs, h1, _⟩ := h; exact lt_of_block h1
theorem RecAt.below {rb tb : Nat} {T : TypeId} {n : Nat} {w w' : World} {x : Rcd} (h : RecAt rb tb T n w x) (hb : Below w.heap.size w w') : RecAt rb tb T n w' x := h.keep (hb.block _ h.lt) (Chg.of_below hb)
theorem RecAt.ext {rb tb : Nat} {T : TypeId} {n : Nat} {w w' : World} {x : Rcd} (h : RecAt rb tb T n w x) (hE : ExtB (some rb) w w') (hne : tb ≠ rb) : RecAt rb tb T n w' x := h.keep (hE.block _ h.lt (by simpa using hne)) (Chg.of_ext hE)
theorem RecAt.get {rb tb : Nat} {T : TypeId} {n : Nat} {w : World} {x : Rcd} (h : RecAt rb tb T n w x) {o : Nat} (ho : o < n) : ∃ v, w.cell? ⟨tb, o, none⟩ = some v ∧ HoldsD rb tb w v (x o) := by
  obtain ⟨cs, h1, h2, h3⟩ := h
  obtain ⟨v, h4, h5⟩ := h3 o ho
  exact ⟨v, by rw [block_cell h1]; exact h4, h5⟩
theorem RecAt.free {rb tb : Nat} {T : TypeId} {n : Nat} {w : World} {x : Rcd} (h : RecAt rb tb T n w x) (o : Nat) : w.frozen? ⟨tb, o, none⟩ = false := by
  obtain ⟨cs, h1, _⟩ := h; exact block_free h1 o
theorem RecAt.set {rb tb : Nat} {T : TypeId} {n : Nat} {w : World} {x : Rcd} (h : RecAt rb tb T n w x) {o : Nat} (ho : o < n) {v : Value} {d : DV} (hv : HoldsD rb tb w v d) : RecAt rb tb T n (w.setCell ⟨tb, o, none⟩ v) (upd x o d) := by
  obtain ⟨cs, h1, h2, h3⟩ := h
  have hc : Chg rb tb w (w.setCell ⟨tb, o, none⟩ v) := (Chg.refl rb tb w).set o v
  refine ⟨_, block_setCell h1 v, by simpa using h2, fun i hi => ?_⟩
  by_cases e : i = o
  · subst e
    exact ⟨v, by rw [Array.getElem?_setIfInBounds_self_of_lt (by omega)], by rw [upd_at]; exact hv.chg hc⟩
  · obtain ⟨u, h4, h5⟩ := h3 i hi
    exact ⟨u, by rw [Array.getElem?_setIfInBounds_ne (fun e2 => e e2.symm)]; exact h4, by rw [upd_ne e]; exact h5.chg hc⟩
theorem RecAt.put {rb tb : Nat} {T : TypeId} {n : Nat} {w w' : World} {x : Rcd} {cs : Array Value} (h1 : w.heap[tb]? = some (.cells cs T (0, 0))) (h : RecAt rb tb T n w x) {o : Nat} (ho : o < n) {v : Value} {d : DV} (hc : Chg rb tb w w') (h2 : w'.heap[tb]? = some (.cells (cs.setIfInBounds o v) T (0, 0))) (hv : HoldsD rb tb w' v d) : RecAt rb tb T n w' (upd x o d) := by
  obtain ⟨cs', h1', h2', h3⟩ := h
  rw [h1] at h1'
  cases h1'
  refine ⟨_, h2, by simpa using h2', fun i hi => ?_⟩
  by_cases e : i = o
  · subst e
    exact ⟨v, by rw [Array.getElem?_setIfInBounds_self_of_lt (by omega)], by rw [upd_at]; exact hv⟩
  · obtain ⟨u, h4, h5⟩ := h3 i hi
    exact ⟨u, by rw [Array.getElem?_setIfInBounds_ne (fun e2 => e e2.symm)]; exact h4, by rw [upd_ne e]; exact h5.chg hc⟩
def ThAt (tb : Nat) (T : TypeId) (n : Nat) (w : World) : Prop := ∃ cs, w.heap[tb]? = some (.cells cs T (0, 0)) ∧ cs.size = n
theorem RecAt.thAt {rb tb : Nat} {T : TypeId} {n : Nat} {w : World} {x : Rcd} (h : RecAt rb tb T n w x) : ThAt tb T n w := by
  obtain ⟨cs, h1, h2, _⟩ := h; exact ⟨cs, h1, h2⟩
def GetIs (res : Except Flt (Rcd × Nat)) (rb tb : Nat) (T : TypeId) (n : Nat) (s : ByteArray) (w : World) (e : Ending) (w' : World) : Prop :=
  Chg rb tb w w' ∧ match res with
    | .ok x => e = .returned (.tuple #[]) ∧ RdB w' rb s x.2 10240 ∧ x.2 ≤ s.size ∧ RecAt rb tb T n w' x.1
    | .error f => ∃ fb, e = .panicked (stopC fb) ∧ FltB w' fb f.1 f.2 ∧ ThAt tb T n w'
theorem getIs_ok {x : Rcd × Nat} {rb tb : Nat} {T : TypeId} {n : Nat} {s : ByteArray} {w w' : World} {e : Ending} (h : GetIs (.ok x) rb tb T n s w e w') : e = .returned (.tuple #[]) ∧ RdB w' rb s x.2 10240 ∧ x.2 ≤ s.size ∧ RecAt rb tb T n w' x.1 ∧ Chg rb tb w w' := ⟨h.2.1, h.2.2.1, h.2.2.2.1, h.2.2.2.2, h.1⟩
theorem getIs_err {f : Flt} {rb tb : Nat} {T : TypeId} {n : Nat} {s : ByteArray} {w w' : World} {e : Ending} (h : GetIs (.error f) rb tb T n s w e w') : ∃ fb, e = .panicked (stopC fb) ∧ FltB w' fb f.1 f.2 ∧ Chg rb tb w w' := by
  obtain ⟨h1, fb, h2, h3, h4⟩ := h; exact ⟨fb, h2, h3, h1⟩
theorem getIs_th {f : Flt} {rb tb : Nat} {T : TypeId} {n : Nat} {s : ByteArray} {w w' : World} {e : Ending} (h : GetIs (.error f) rb tb T n s w e w') : ThAt tb T n w' := by
  obtain ⟨h1, fb, h2, h3, h4⟩ := h; exact h4
def fresh (x0 : Rcd) (g : GSpec) (x : Rcd) : Prop := ∀ i, i ∈ g.offs → x i = x0 i
theorem RdEnv.chg {B : Nat} {w w' : World} {qb rb tb : Nat} {s : ByteArray} {a a' : Nat} (h : RdEnv B w qb rb s a) (hc : Chg rb tb w w') (hqt : qb ≠ tb) (hBt : B ≤ tb) (hr : RdB w' rb s a' 10240) (ha : a' ≤ s.size) : RdEnv B w' qb rb s a' := by
  refine ⟨(hc.block _ (lt_of_block h.q) h.ne hqt).trans h.q, hr, ?_, h.bq, h.br, h.ne, ha, h.sz⟩
  have key : ∀ g l, TabAt B w g l → TabAt B w' g l := fun g l ⟨t, tq, rc, h1, h2, h3, h4, h5⟩ => by
    have e : ∀ b, b < B → w'.heap[b]? = w.heap[b]? := fun b hb => hc.block b (by omega) (by have := h.br; omega) (by omega)
    refine ⟨t, tq, rc, h1, h2, Nat.le_trans h3 hc.size, by rw [World.cell?_of_block (w := w) (e g h1)]; exact h4, fun i hi => ?_⟩
    obtain ⟨b, off, e2, hr⟩ := h5 i hi
    cases e2
    have e3 : ∀ q, w'.cell? ⟨t, q, none⟩ = w.cell? ⟨t, q, none⟩ := fun q => World.cell?_of_block (w := w) (e t h2)
    obtain ⟨c0, c1, c2, c3⟩ := hr
    exact ⟨t, tq, rfl, by constructor <;> (rw [e3]; assumption)⟩
  exact ⟨key _ _ h.tabs.nums, key _ _ h.tabs.lists, key _ _ h.tabs.bins, key _ _ h.tabs.strs, key _ _ h.tabs.pairs⟩
structure GSem (B qb rb tb : Nat) (x0 : Rcd) (T : TypeId) (n : Nat) (s : ByteArray) (W0 : World) (v : FVal) (g : GSpec) : Prop where
  key : v.key = g.key
  must : v.must = g.must
  ee : ∀ args w, (callFunc v.ef args).run Tryz.prog w = .ok (.enter v.ef args) w
  eg : ∀ args w, (callFunc v.gf args).run Tryz.prog w = .ok (.enter v.gf args) w
  empty : ∀ w x, Chg rb tb W0 w → RecAt rb tb T n w x → Kd x0 x → Calls Tryz.prog v.ef v.ec w fun e w' => e = .returned (.bool (g.empty x)) ∧ Below w.heap.size w w'
  read : ∀ w x a, Chg rb tb W0 w → RecAt rb tb T n w x → RdEnv B w qb rb s a → fresh x0 g x → Kd x0 x → Calls Tryz.prog v.gf (#[.pointer (some ⟨qb, 0, none⟩)] ++ v.gc) w (GetIs (g.read x a) rb tb T n s w)
theorem GSem.later {B qb rb tb : Nat} {x0 : Rcd} {T : TypeId} {n : Nat} {s : ByteArray} {W0 W1 : World} {v : FVal} {g : GSpec} (h : GSem B qb rb tb x0 T n s W0 v g) (hk : Chg rb tb W0 W1) : GSem B qb rb tb x0 T n s W1 v g :=
  ⟨h.key, h.must, h.ee, h.eg, fun w x hw => h.empty w x (hk.trans hw), fun w x a hw => h.read w x a (hk.trans hw)⟩
def GSems (B qb rb tb : Nat) (x0 : Rcd) (T : TypeId) (n : Nat) (s : ByteArray) (W0 : World) (l : List FVal) (gs : List GSpec) : Prop := len gs = len l ∧ ∀ i, i < len l → GSem B qb rb tb x0 T n s W0 (fth l i) (gth gs i)
theorem GSems.later {B qb rb tb : Nat} {x0 : Rcd} {T : TypeId} {n : Nat} {s : ByteArray} {W0 W1 : World} {l : List FVal} {gs : List GSpec} (h : GSems B qb rb tb x0 T n s W0 l gs) (hk : Chg rb tb W0 W1) : GSems B qb rb tb x0 T n s W1 l gs := ⟨h.1, fun i hi => (h.2 i hi).later hk⟩
end Go.Proofs.YtihiaopilnjonaaGreatDoor
namespace Go.Proofs.YtihiaopilnjonaaGreatDoor
open Go.RowKit
set_option linter.unusedSimpArgs false
set_option linter.unusedVariables false
theorem of_drewE {row : Option Nat} {w w1 : World} (h : ExtB row w.drew w1) : ExtB row w w1 := ExtB_trans _ _ _ _ (ext_extB (bdrew (Below.refl _ _))) h
theorem wp_of_callR {P : Program} {o : Oper} {a : Act} {w : World} {f : FuncId} {args : Array Value} {R : Value → World → Prop} {K : Act → World → Prop} {Q : Exit → Act → World → Prop} (h : (execOp a.eval o).run P w = .ok (.enter f args) w)
    (hc : Calls P f args w (fun e w' => ∃ v, e = .returned v ∧ R v w')) (hK : ∀ v w', R v w' → K (a.put o.dst v) w') : o.wp P a w K Q := by
  unfold Oper.wp; rw [h]
  exact hc.mono fun e w' ⟨v, he, hR⟩ => by subst he; exact hK v w' hR
theorem wp_of_panicR {P : Program} {o : Oper} {a : Act} {w : World} {f : FuncId} {args : Array Value} {R : Nat → World → Prop} {K : Act → World → Prop} {Q : Exit → Act → World → Prop} (h : (execOp a.eval o).run P w = .ok (.enter f args) w)
    (hc : Calls P f args w (fun e w' => ∃ fb, e = .panicked (stopC fb) ∧ R fb w')) (hK : ∀ fb w', R fb w' → Q (.panic (stopC fb)) a w') : o.wp P a w K Q := by
  unfold Oper.wp; rw [h]
  exact hc.mono fun e w' ⟨v, he, hR⟩ => by subst he; exact hK v w' hR
set_option maxRecDepth 100000 in
set_option maxHeartbeats 2000000 in
theorem num3_any (B qb rb tb o bx : Nat) (T : TypeId) (n : Nat) (s key : ByteArray) (a : Nat) (x : Rcd) (w : World) (h1 : w.heap[bx]? = some (.cells #[.pointer (some ⟨tb, o, none⟩)] 177 (0, 0))) (hbr : bx ≠ rb) (htr : tb ≠ rb) (ho : o < n)
    (hx : RecAt rb tb T n w x) (h : RdEnv B w qb rb s a) : Calls Tryz.prog 186 #[.pointer (some ⟨qb, 0, none⟩), .pointer (some ⟨bx, 0, none⟩)] w (GetIs ((gnum s key o).read x a) rb tb T n s w) := by
  have H := Lib.hid h
  have HX := Lib.hid hx
  have hqr := h.ne
  have c0 : w.cell? ⟨qb, 0, none⟩ = some (.pointer (some ⟨rb, 0, none⟩)) := block_cell h.q 0
  have c1 : w.cell? ⟨bx, 0, none⟩ = some (.pointer (some ⟨tb, o, none⟩)) := block_cell h1 0
  clear h1 hx h
  cases hr : tkR 0 s a with
  | error f =>
    have HR : Hid ((gnum s key o).read x a = .error f) := Lib.hid (by simp only [gnum, rnum, hr])
    have HN : Hid (∀ w', Below w.heap.size w w' → Calls Tryz.prog 152 #[.pointer (some ⟨rb, 0, none⟩)] w' (fun e w2 => ∃ u, e = .returned u ∧ ((∃ fb, u = .tuple #[.int .u64 0, .iface 127 (.pointer (some ⟨fb, 0, none⟩))] ∧ FltB w2 fb f.1 f.2 ∧ fb ≠ rb) ∧ ExtB (some rb) w' w2))) := Lib.hid (fun w' hb => (Num_tk w' B qb rb s a (H.out.below hb)).mono fun e w2 hh => by rw [hr] at hh; obtain ⟨fb, h1, h2, h3, h4⟩ := tkIs_err hh; exact ⟨_, h1, ⟨fb, rfl, h2, by have := lt_of_block H.out.r; have := hb.size; omega⟩, h3⟩)
    clear hr
    go_enter Tryz.func186, Tryz.ntmps186
    refine wp_region_tail 10 5 (some rb) (phis [fun u _ => u = (.pointer (some ⟨tb, o, none⟩)), fun u _ => u = (.pointer (some ⟨qb, 0, none⟩)), fun u _ => u = (.pointer (some ⟨qb, 0, none⟩)), fun u _ => u = (.pointer (some ⟨qb, 0, none⟩)), fun u _ => u = (.pointer (some ⟨rb, 0, none⟩)), fun u w' => ∃ fb, u = .tuple #[.int .u64 0, .iface 127 (.pointer (some ⟨fb, 0, none⟩))] ∧ FltB w' fb f.1 f.2 ∧ fb ≠ rb, fun u _ => u = (.int .u64 0), fun u w' => ∃ fb, u = .iface 127 (.pointer (some ⟨fb, 0, none⟩)) ∧ FltB w' fb f.1 f.2 ∧ fb ≠ rb, fun _ _ => False, fun u _ => u = (.pointer (some ⟨tb, o, none⟩))]) rfl (by kernel_rfl) (by kernel_rfl) (mono_of ⟨mono_eq, mono_eq, mono_eq, mono_eq, mono_eq, ?m5, mono_eq, ?m7, mono_eq, mono_eq, trivial⟩) (steps_of 10 ⟨?s0, ?s1, ?s2, ?s3, ?s4, ?s5, ?s6, ?s7, ?s8, ?s9, trivial⟩) ?_
    case m5 =>
      exact ⟨fun u w1 w2 h ⟨fb, h1, h2, h3⟩ => ⟨fb, h1, h2.below h, h3⟩, fun hn => absurd rfl hn⟩
    case m7 =>
      exact ⟨fun u w1 w2 h ⟨fb, h1, h2, h3⟩ => ⟨fb, h1, h2.below h, h3⟩, fun _ u w1 w2 h ⟨fb, h1, h2, h3⟩ => ⟨fb, h1, extB_block h (fun e => h3 (Option.some.inj e)) h2, h3⟩⟩
    case s0 =>
      refine step_val (v := (.pointer (some ⟨tb, o, none⟩))) (fun av wv hE hS hO hD => ?_) (fun _ => rfl)
      have h1 : av.eval (.tmp 1) = (.pointer (some ⟨bx, 0, none⟩)) := hO.2.2 1 rfl
      have f1 := (ev_form av 1).symm.trans h1
      have c1 := extB_cell hE (fun e => hbr (Option.some.inj e)) c1
      have c0 := extB_cell hE (fun e => hqr (Option.some.inj e)) c0
      refine ⟨rfl, ?_⟩
      simp [go_sem, f1, c1, c0]
    case s1 =>
      refine step_val (v := (.pointer (some ⟨qb, 0, none⟩))) (fun av wv hE hS hO hD => ?_) (fun _ => rfl)
      have h0 : av.eval (.tmp 0) = (.pointer (some ⟨qb, 0, none⟩)) := hO.2.2 0 rfl
      have f0 := (ev_form av 0).symm.trans h0
      refine ⟨rfl, ?_⟩
      simp [go_sem, f0]
    case s2 =>
      refine step_val (v := (.pointer (some ⟨qb, 0, none⟩))) (fun av wv hE hS hO hD => ?_) (fun _ => rfl)
      have d4 : av.eval (.tmp 4) = (.pointer (some ⟨qb, 0, none⟩)) := hD.1 rfl _ rfl
      have f4 := (ev_form av 4).symm.trans d4
      refine ⟨rfl, ?_⟩
      simp [go_sem, f4]
    case s3 =>
      refine step_val (v := (.pointer (some ⟨qb, 0, none⟩))) (fun av wv hE hS hO hD => ?_) (fun _ => rfl)
      have d5 : av.eval (.tmp 5) = (.pointer (some ⟨qb, 0, none⟩)) := hD.1 rfl _ rfl
      have f5 := (ev_form av 5).symm.trans d5
      refine ⟨rfl, ?_⟩
      simp [go_sem, f5]
    case s4 =>
      refine step_val (v := (.pointer (some ⟨rb, 0, none⟩))) (fun av wv hE hS hO hD => ?_) (fun _ => rfl)
      have d6 : av.eval (.tmp 6) = (.pointer (some ⟨qb, 0, none⟩)) := hD.1 rfl _ rfl
      have f6 := (ev_form av 6).symm.trans d6
      have c1 := extB_cell hE (fun e => hbr (Option.some.inj e)) c1
      have c0 := extB_cell hE (fun e => hqr (Option.some.inj e)) c0
      refine ⟨rfl, ?_⟩
      simp [go_sem, f6, c1, c0]
    case s5 =>
      refine step_wp (fun av wv hE hS hO hD => ?_)
      have d7 : av.eval (.tmp 7) = (.pointer (some ⟨rb, 0, none⟩)) := hD.1 rfl _ rfl
      have f7 := (ev_form av 7).symm.trans d7
      refine ⟨rfl, ?_⟩
      refine wp_of_callR (f := 152) (args := #[.pointer (some ⟨rb, 0, none⟩)]) (by simp [go_sem, f7]) (HN.out wv (bnext (bdrew (Below.refl _ _)) (hS rfl))) (fun u w2 ⟨h1, h3⟩ => ⟨u, rfl, es_sp h3, h1⟩)
    case s6 =>
      refine step_wp (fun av wv hE hS hO hD => ?_)
      have d8 : (fun u w' => ∃ fb, u = .tuple #[.int .u64 0, .iface 127 (.pointer (some ⟨fb, 0, none⟩))] ∧ FltB w' fb f.1 f.2 ∧ fb ≠ rb) (av.eval (.tmp 8)) wv := hD.1 rfl _ rfl
      refine ⟨rfl, ?_⟩
      obtain ⟨fb, hu8, -, -⟩ := d8
      have f8 := (ev_form av 8).symm.trans hu8
      exact wp_of_run (v := .int .u64 0) (by simp [go_sem, f8]) ⟨_, rfl, es_of_ext (Ext_refl _), rfl⟩
    case s7 =>
      refine step_wp (fun av wv hE hS hO hD => ?_)
      have d8 : (fun u w' => ∃ fb, u = .tuple #[.int .u64 0, .iface 127 (.pointer (some ⟨fb, 0, none⟩))] ∧ FltB w' fb f.1 f.2 ∧ fb ≠ rb) (av.eval (.tmp 8)) wv := hD.1 rfl _ rfl
      refine ⟨rfl, ?_⟩
      obtain ⟨fb, hu8, hf8, hn8⟩ := d8
      have f8 := (ev_form av 8).symm.trans hu8
      exact wp_of_run (v := .iface 127 (.pointer (some ⟨fb, 0, none⟩))) (by simp [go_sem, f8]) ⟨_, rfl, es_of_ext (Ext_refl _), fb, rfl, hf8, hn8⟩
    case s8 =>
      refine step_wp (fun av wv hE hS hO hD => ?_)
      have d9 : av.eval (.tmp 9) = (.int .u64 0) := hD.1 rfl _ rfl
      have f9 := (ev_form av 9).symm.trans d9
      have d10 : (fun u w' => ∃ fb, u = .iface 127 (.pointer (some ⟨fb, 0, none⟩)) ∧ FltB w' fb f.1 f.2 ∧ fb ≠ rb) (av.eval (.tmp 10)) wv := hD.2.1 rfl _ rfl
      refine ⟨rfl, ?_⟩
      obtain ⟨fb, hu10, hf, hn8⟩ := d10
      have f10 := (ev_form av 10).symm.trans hu10
      refine wp_of_panic (chain := stopC fb) (by simp [go_sem, f9, f10]) ((wholeu_no 0 fb wv).mono (fun e w2 ⟨h1, h2⟩ => ⟨h1, by rw [h2]; exact Below.refl _ _⟩)) (fun w2 hb => ?_)
      exact ⟨hO.1, by rw [HR.out]; exact ⟨(Chg.of_ext (of_drewE hE)).next hb, fb, rfl, hf.below hb, ((HX.out.ext (of_drewE hE) htr).below hb).thAt⟩⟩
    case s9 =>
      refine step_val (v := (.pointer (some ⟨tb, o, none⟩))) (fun av wv hE hS hO hD => ?_) (fun _ => rfl)
      have d3 : av.eval (.tmp 3) = (.pointer (some ⟨tb, o, none⟩)) := hD.1 rfl _ rfl
      have f3 := (ev_form av 3).symm.trans d3
      refine ⟨rfl, ?_⟩
      simp [go_sem, f3]
    intro a' w' hE hO hall
    have hA := act_of_outer (ds := [3, 4, 5, 6, 7, 8, 9, 10, 11, 12]) rfl hO (by kernel_rfl)
    have e3 : (fun u _ => u = (.pointer (some ⟨tb, o, none⟩))) (a'.eval (.tmp 3)) w' := hall.1 _ rfl
    have e4 : (fun u _ => u = (.pointer (some ⟨qb, 0, none⟩))) (a'.eval (.tmp 4)) w' := hall.2.1 _ rfl
    have e5 : (fun u _ => u = (.pointer (some ⟨qb, 0, none⟩))) (a'.eval (.tmp 5)) w' := hall.2.2.1 _ rfl
    have e6 : (fun u _ => u = (.pointer (some ⟨qb, 0, none⟩))) (a'.eval (.tmp 6)) w' := hall.2.2.2.1 _ rfl
    have e7 : (fun u _ => u = (.pointer (some ⟨rb, 0, none⟩))) (a'.eval (.tmp 7)) w' := hall.2.2.2.2.1 _ rfl
    have e8 : (fun u w' => ∃ fb, u = .tuple #[.int .u64 0, .iface 127 (.pointer (some ⟨fb, 0, none⟩))] ∧ FltB w' fb f.1 f.2 ∧ fb ≠ rb) (a'.eval (.tmp 8)) w' := hall.2.2.2.2.2.1 _ rfl
    have e9 : (fun u _ => u = (.int .u64 0)) (a'.eval (.tmp 9)) w' := hall.2.2.2.2.2.2.1 _ rfl
    have e10 : (fun u w' => ∃ fb, u = .iface 127 (.pointer (some ⟨fb, 0, none⟩)) ∧ FltB w' fb f.1 f.2 ∧ fb ≠ rb) (a'.eval (.tmp 10)) w' := hall.2.2.2.2.2.2.2.1 _ rfl
    have e11 : (fun _ _ => False) (a'.eval (.tmp 11)) w' := hall.2.2.2.2.2.2.2.2.1 _ rfl
    have e12 : (fun u _ => u = (.pointer (some ⟨tb, o, none⟩))) (a'.eval (.tmp 12)) w' := hall.2.2.2.2.2.2.2.2.2.1 _ rfl
    obtain ⟨v8, hv8⟩ : ∃ v, a'.eval (.tmp 8) = v := ⟨_, rfl⟩
    rw [hv8] at e8
    obtain ⟨v10, hv10⟩ : ∃ v, a'.eval (.tmp 10) = v := ⟨_, rfl⟩
    rw [hv10] at e10
    obtain ⟨v11, hv11⟩ : ∃ v, a'.eval (.tmp 11) = v := ⟨_, rfl⟩
    rw [hv11] at e11
    simp only [List.foldl_cons, List.foldl_nil, Act.put, List.setIfInBounds_toArray, List.set_cons_succ, List.set_cons_zero, e3, e4, e5, e6, e7, hv8, e9, hv10, hv11, e12] at hA
    clear hO hall e3 e4 e5 e6 e7 hv8 e9 hv10 hv11 e12
    subst hA
    exact e11.elim
  | ok y =>
    have HR : Hid ((gnum s key o).read x a = .ok (upd x o (.num y.1), y.2.2)) := Lib.hid (by simp only [gnum, rnum, hr])
    have HN : Hid (∀ w', Below w.heap.size w w' → Calls Tryz.prog 152 #[.pointer (some ⟨rb, 0, none⟩)] w' (fun e w2 => ∃ u, e = .returned u ∧ (u = .tuple #[.int .u64 y.1, .nilIface] ∧ RdB w2 rb s y.2.2 10240 ∧ ExtB (some rb) w' w2))) := Lib.hid (fun w' hb => (Num_tk w' B qb rb s a (H.out.below hb)).mono fun e w2 hh => by rw [hr] at hh; obtain ⟨h1, h2, h3⟩ := tkIs_ok hh; exact ⟨_, h1, rfl, h2, h3⟩)
    have hle : y.2.2 ≤ s.size := (tkR_bd (by decide) hr).1
    clear hr
    go_enter Tryz.func186, Tryz.ntmps186
    refine wp_region_tail 10 5 (some rb) (phis [fun u _ => u = (.pointer (some ⟨tb, o, none⟩)), fun u _ => u = (.pointer (some ⟨qb, 0, none⟩)), fun u _ => u = (.pointer (some ⟨qb, 0, none⟩)), fun u _ => u = (.pointer (some ⟨qb, 0, none⟩)), fun u _ => u = (.pointer (some ⟨rb, 0, none⟩)), fun u w' => u = .tuple #[.int .u64 y.1, .nilIface] ∧ RdB w' rb s y.2.2 10240, fun u _ => u = (.int .u64 y.1), fun u _ => u = (.nilIface), fun u _ => u = (.int .u64 y.1), fun u _ => u = (.pointer (some ⟨tb, o, none⟩))]) rfl (by kernel_rfl) (by kernel_rfl) (mono_of ⟨mono_eq, mono_eq, mono_eq, mono_eq, mono_eq, ?m5, mono_eq, mono_eq, mono_eq, mono_eq, trivial⟩) (steps_of 10 ⟨?s0, ?s1, ?s2, ?s3, ?s4, ?s5, ?s6, ?s7, ?s8, ?s9, trivial⟩) ?_
    case m5 =>
      exact ⟨fun u w1 w2 h ⟨h1, h2⟩ => ⟨h1, h2.below h⟩, fun hn => absurd rfl hn⟩
    case s0 =>
      refine step_val (v := (.pointer (some ⟨tb, o, none⟩))) (fun av wv hE hS hO hD => ?_) (fun _ => rfl)
      have h1 : av.eval (.tmp 1) = (.pointer (some ⟨bx, 0, none⟩)) := hO.2.2 1 rfl
      have f1 := (ev_form av 1).symm.trans h1
      have c1 := extB_cell hE (fun e => hbr (Option.some.inj e)) c1
      have c0 := extB_cell hE (fun e => hqr (Option.some.inj e)) c0
      refine ⟨rfl, ?_⟩
      simp [go_sem, f1, c1, c0]
    case s1 =>
      refine step_val (v := (.pointer (some ⟨qb, 0, none⟩))) (fun av wv hE hS hO hD => ?_) (fun _ => rfl)
      have h0 : av.eval (.tmp 0) = (.pointer (some ⟨qb, 0, none⟩)) := hO.2.2 0 rfl
      have f0 := (ev_form av 0).symm.trans h0
      refine ⟨rfl, ?_⟩
      simp [go_sem, f0]
    case s2 =>
      refine step_val (v := (.pointer (some ⟨qb, 0, none⟩))) (fun av wv hE hS hO hD => ?_) (fun _ => rfl)
      have d4 : av.eval (.tmp 4) = (.pointer (some ⟨qb, 0, none⟩)) := hD.1 rfl _ rfl
      have f4 := (ev_form av 4).symm.trans d4
      refine ⟨rfl, ?_⟩
      simp [go_sem, f4]
    case s3 =>
      refine step_val (v := (.pointer (some ⟨qb, 0, none⟩))) (fun av wv hE hS hO hD => ?_) (fun _ => rfl)
      have d5 : av.eval (.tmp 5) = (.pointer (some ⟨qb, 0, none⟩)) := hD.1 rfl _ rfl
      have f5 := (ev_form av 5).symm.trans d5
      refine ⟨rfl, ?_⟩
      simp [go_sem, f5]
    case s4 =>
      refine step_val (v := (.pointer (some ⟨rb, 0, none⟩))) (fun av wv hE hS hO hD => ?_) (fun _ => rfl)
      have d6 : av.eval (.tmp 6) = (.pointer (some ⟨qb, 0, none⟩)) := hD.1 rfl _ rfl
      have f6 := (ev_form av 6).symm.trans d6
      have c1 := extB_cell hE (fun e => hbr (Option.some.inj e)) c1
      have c0 := extB_cell hE (fun e => hqr (Option.some.inj e)) c0
      refine ⟨rfl, ?_⟩
      simp [go_sem, f6, c1, c0]
    case s5 =>
      refine step_wp (fun av wv hE hS hO hD => ?_)
      have d7 : av.eval (.tmp 7) = (.pointer (some ⟨rb, 0, none⟩)) := hD.1 rfl _ rfl
      have f7 := (ev_form av 7).symm.trans d7
      refine ⟨rfl, ?_⟩
      refine wp_of_callR (f := 152) (args := #[.pointer (some ⟨rb, 0, none⟩)]) (by simp [go_sem, f7]) (HN.out wv (bnext (bdrew (Below.refl _ _)) (hS rfl))) (fun u w2 ⟨h1, h2, h3⟩ => ⟨u, rfl, es_sp h3, h1, h2⟩)
    case s6 =>
      refine step_wp (fun av wv hE hS hO hD => ?_)
      have d8 : (fun u w' => u = .tuple #[.int .u64 y.1, .nilIface] ∧ RdB w' rb s y.2.2 10240) (av.eval (.tmp 8)) wv := hD.1 rfl _ rfl
      refine ⟨rfl, ?_⟩
      have f8 := (ev_form av 8).symm.trans d8.1
      exact wp_of_run (v := .int .u64 y.1) (by simp [go_sem, f8]) ⟨_, rfl, es_of_ext (Ext_refl _), rfl⟩
    case s7 =>
      refine step_wp (fun av wv hE hS hO hD => ?_)
      have d8 : (fun u w' => u = .tuple #[.int .u64 y.1, .nilIface] ∧ RdB w' rb s y.2.2 10240) (av.eval (.tmp 8)) wv := hD.1 rfl _ rfl
      refine ⟨rfl, ?_⟩
      have f8 := (ev_form av 8).symm.trans d8.1
      exact wp_of_run (v := .nilIface) (by simp [go_sem, f8]) ⟨_, rfl, es_of_ext (Ext_refl _), rfl⟩
    case s8 =>
      refine step_wp (fun av wv hE hS hO hD => ?_)
      have d9 : av.eval (.tmp 9) = (.int .u64 y.1) := hD.1 rfl _ rfl
      have f9 := (ev_form av 9).symm.trans d9
      have d10 : av.eval (.tmp 10) = (.nilIface) := hD.2.1 rfl _ rfl
      have f10 := (ev_form av 10).symm.trans d10
      refine ⟨rfl, ?_⟩
      refine wp_of_call (v := .int .u64 y.1) (by simp [go_sem, f9, f10]) ((wholeu_ok y.1 wv).mono (fun e w2 ⟨h1, h2⟩ => ⟨h1, by rw [h2]; exact Below.refl _ _⟩)) (fun w2 hb => ⟨_, rfl, es_of_ext hb, rfl⟩)
    case s9 =>
      refine step_val (v := (.pointer (some ⟨tb, o, none⟩))) (fun av wv hE hS hO hD => ?_) (fun _ => rfl)
      have d3 : av.eval (.tmp 3) = (.pointer (some ⟨tb, o, none⟩)) := hD.1 rfl _ rfl
      have f3 := (ev_form av 3).symm.trans d3
      refine ⟨rfl, ?_⟩
      simp [go_sem, f3]
    intro a' w' hE hO hall
    have hA := act_of_outer (ds := [3, 4, 5, 6, 7, 8, 9, 10, 11, 12]) rfl hO (by kernel_rfl)
    have e3 : (fun u _ => u = (.pointer (some ⟨tb, o, none⟩))) (a'.eval (.tmp 3)) w' := hall.1 _ rfl
    have e4 : (fun u _ => u = (.pointer (some ⟨qb, 0, none⟩))) (a'.eval (.tmp 4)) w' := hall.2.1 _ rfl
    have e5 : (fun u _ => u = (.pointer (some ⟨qb, 0, none⟩))) (a'.eval (.tmp 5)) w' := hall.2.2.1 _ rfl
    have e6 : (fun u _ => u = (.pointer (some ⟨qb, 0, none⟩))) (a'.eval (.tmp 6)) w' := hall.2.2.2.1 _ rfl
    have e7 : (fun u _ => u = (.pointer (some ⟨rb, 0, none⟩))) (a'.eval (.tmp 7)) w' := hall.2.2.2.2.1 _ rfl
    have e8 : (fun u w' => u = .tuple #[.int .u64 y.1, .nilIface] ∧ RdB w' rb s y.2.2 10240) (a'.eval (.tmp 8)) w' := hall.2.2.2.2.2.1 _ rfl
    have e9 : (fun u _ => u = (.int .u64 y.1)) (a'.eval (.tmp 9)) w' := hall.2.2.2.2.2.2.1 _ rfl
    have e10 : (fun u _ => u = (.nilIface)) (a'.eval (.tmp 10)) w' := hall.2.2.2.2.2.2.2.1 _ rfl
    have e11 : (fun u _ => u = (.int .u64 y.1)) (a'.eval (.tmp 11)) w' := hall.2.2.2.2.2.2.2.2.1 _ rfl
    have e12 : (fun u _ => u = (.pointer (some ⟨tb, o, none⟩))) (a'.eval (.tmp 12)) w' := hall.2.2.2.2.2.2.2.2.2.1 _ rfl
    obtain ⟨v8, hv8⟩ : ∃ v, a'.eval (.tmp 8) = v := ⟨_, rfl⟩
    rw [hv8] at e8
    simp only [List.foldl_cons, List.foldl_nil, Act.put, List.setIfInBounds_toArray, List.set_cons_succ, List.set_cons_zero, e3, e4, e5, e6, e7, hv8, e9, e10, e11, e12] at hA
    clear hO hall e3 e4 e5 e6 e7 hv8 e9 e10 e11 e12
    subst hA
    have HRD := Lib.hid e8.2
    have hX2 := HX.out.ext (of_drewE hE) htr
    obtain ⟨u, hu, -⟩ := hX2.get ho
    have hfz := hX2.free o
    have HX2 := Lib.hid hX2
    have HE := Lib.hid (of_drewE hE)
    have e81 := e8.1
    clear hE hX2 e8
    subst e81
    go_wp2
    go_end0
    rw [HR.out]
    exact ⟨(Chg.of_ext HE.out).set o _, rfl, block_setCell_ne HRD.out (by exact fun e => htr e.symm) _, hle, HX2.out.set ho rfl⟩
set_option maxRecDepth 100000 in
set_option maxHeartbeats 2000000 in
theorem flag3_any (B qb rb tb o bx : Nat) (T : TypeId) (n : Nat) (s key : ByteArray) (a : Nat) (x : Rcd) (w : World) (h1 : w.heap[bx]? = some (.cells #[.pointer (some ⟨tb, o, none⟩)] 179 (0, 0))) (hbr : bx ≠ rb) (htr : tb ≠ rb) (ho : o < n)
    (hx : RecAt rb tb T n w x) (h : RdEnv B w qb rb s a) : Calls Tryz.prog 189 #[.pointer (some ⟨qb, 0, none⟩), .pointer (some ⟨bx, 0, none⟩)] w (GetIs ((gflag s key o).read x a) rb tb T n s w) := by
  have H := Lib.hid h
  have HX := Lib.hid hx
  have hqr := h.ne
  have c0 : w.cell? ⟨qb, 0, none⟩ = some (.pointer (some ⟨rb, 0, none⟩)) := block_cell h.q 0
  have c1 : w.cell? ⟨bx, 0, none⟩ = some (.pointer (some ⟨tb, o, none⟩)) := block_cell h1 0
  clear h1 hx h
  cases hr : tkR 0 s a with
  | error f =>
    have HR : Hid ((gflag s key o).read x a = .error f) := Lib.hid (by simp only [gflag, rnum, hr])
    have HN : Hid (∀ w', Below w.heap.size w w' → Calls Tryz.prog 152 #[.pointer (some ⟨rb, 0, none⟩)] w' (fun e w2 => ∃ u, e = .returned u ∧ ((∃ fb, u = .tuple #[.int .u64 0, .iface 127 (.pointer (some ⟨fb, 0, none⟩))] ∧ FltB w2 fb f.1 f.2 ∧ fb ≠ rb) ∧ ExtB (some rb) w' w2))) := Lib.hid (fun w' hb => (Num_tk w' B qb rb s a (H.out.below hb)).mono fun e w2 hh => by rw [hr] at hh; obtain ⟨fb, h1, h2, h3, h4⟩ := tkIs_err hh; exact ⟨_, h1, ⟨fb, rfl, h2, by have := lt_of_block H.out.r; have := hb.size; omega⟩, h3⟩)
    clear hr
    go_enter Tryz.func189, Tryz.ntmps189
    refine wp_region_tail 11 5 (some rb) (phis [fun u _ => u = (.pointer (some ⟨tb, o, none⟩)), fun u _ => u = (.pointer (some ⟨qb, 0, none⟩)), fun u _ => u = (.pointer (some ⟨qb, 0, none⟩)), fun u _ => u = (.pointer (some ⟨qb, 0, none⟩)), fun u _ => u = (.pointer (some ⟨rb, 0, none⟩)), fun u w' => ∃ fb, u = .tuple #[.int .u64 0, .iface 127 (.pointer (some ⟨fb, 0, none⟩))] ∧ FltB w' fb f.1 f.2 ∧ fb ≠ rb, fun u _ => u = (.int .u64 0), fun u w' => ∃ fb, u = .iface 127 (.pointer (some ⟨fb, 0, none⟩)) ∧ FltB w' fb f.1 f.2 ∧ fb ≠ rb, fun _ _ => False, fun _ _ => True, fun u _ => u = (.pointer (some ⟨tb, o, none⟩))]) rfl (by kernel_rfl) (by kernel_rfl) (mono_of ⟨mono_eq, mono_eq, mono_eq, mono_eq, mono_eq, ?m5, mono_eq, ?m7, mono_eq, mono_eq, mono_eq, trivial⟩) (steps_of 11 ⟨?s0, ?s1, ?s2, ?s3, ?s4, ?s5, ?s6, ?s7, ?s8, ?s9, ?s10, trivial⟩) ?_
    case m5 =>
      exact ⟨fun u w1 w2 h ⟨fb, h1, h2, h3⟩ => ⟨fb, h1, h2.below h, h3⟩, fun hn => absurd rfl hn⟩
    case m7 =>
      exact ⟨fun u w1 w2 h ⟨fb, h1, h2, h3⟩ => ⟨fb, h1, h2.below h, h3⟩, fun _ u w1 w2 h ⟨fb, h1, h2, h3⟩ => ⟨fb, h1, extB_block h (fun e => h3 (Option.some.inj e)) h2, h3⟩⟩
    case s0 =>
      refine step_val (v := (.pointer (some ⟨tb, o, none⟩))) (fun av wv hE hS hO hD => ?_) (fun _ => rfl)
      have h1 : av.eval (.tmp 1) = (.pointer (some ⟨bx, 0, none⟩)) := hO.2.2 1 rfl
      have f1 := (ev_form av 1).symm.trans h1
      have c1 := extB_cell hE (fun e => hbr (Option.some.inj e)) c1
      have c0 := extB_cell hE (fun e => hqr (Option.some.inj e)) c0
      refine ⟨rfl, ?_⟩
      simp [go_sem, f1, c1, c0]
    case s1 =>
      refine step_val (v := (.pointer (some ⟨qb, 0, none⟩))) (fun av wv hE hS hO hD => ?_) (fun _ => rfl)
      have h0 : av.eval (.tmp 0) = (.pointer (some ⟨qb, 0, none⟩)) := hO.2.2 0 rfl
      have f0 := (ev_form av 0).symm.trans h0
      refine ⟨rfl, ?_⟩
      simp [go_sem, f0]
    case s2 =>
      refine step_val (v := (.pointer (some ⟨qb, 0, none⟩))) (fun av wv hE hS hO hD => ?_) (fun _ => rfl)
      have d4 : av.eval (.tmp 4) = (.pointer (some ⟨qb, 0, none⟩)) := hD.1 rfl _ rfl
      have f4 := (ev_form av 4).symm.trans d4
      refine ⟨rfl, ?_⟩
      simp [go_sem, f4]
    case s3 =>
      refine step_val (v := (.pointer (some ⟨qb, 0, none⟩))) (fun av wv hE hS hO hD => ?_) (fun _ => rfl)
      have d5 : av.eval (.tmp 5) = (.pointer (some ⟨qb, 0, none⟩)) := hD.1 rfl _ rfl
      have f5 := (ev_form av 5).symm.trans d5
      refine ⟨rfl, ?_⟩
      simp [go_sem, f5]
    case s4 =>
      refine step_val (v := (.pointer (some ⟨rb, 0, none⟩))) (fun av wv hE hS hO hD => ?_) (fun _ => rfl)
      have d6 : av.eval (.tmp 6) = (.pointer (some ⟨qb, 0, none⟩)) := hD.1 rfl _ rfl
      have f6 := (ev_form av 6).symm.trans d6
      have c1 := extB_cell hE (fun e => hbr (Option.some.inj e)) c1
      have c0 := extB_cell hE (fun e => hqr (Option.some.inj e)) c0
      refine ⟨rfl, ?_⟩
      simp [go_sem, f6, c1, c0]
    case s5 =>
      refine step_wp (fun av wv hE hS hO hD => ?_)
      have d7 : av.eval (.tmp 7) = (.pointer (some ⟨rb, 0, none⟩)) := hD.1 rfl _ rfl
      have f7 := (ev_form av 7).symm.trans d7
      refine ⟨rfl, ?_⟩
      refine wp_of_callR (f := 152) (args := #[.pointer (some ⟨rb, 0, none⟩)]) (by simp [go_sem, f7]) (HN.out wv (bnext (bdrew (Below.refl _ _)) (hS rfl))) (fun u w2 ⟨h1, h3⟩ => ⟨u, rfl, es_sp h3, h1⟩)
    case s6 =>
      refine step_wp (fun av wv hE hS hO hD => ?_)
      have d8 : (fun u w' => ∃ fb, u = .tuple #[.int .u64 0, .iface 127 (.pointer (some ⟨fb, 0, none⟩))] ∧ FltB w' fb f.1 f.2 ∧ fb ≠ rb) (av.eval (.tmp 8)) wv := hD.1 rfl _ rfl
      refine ⟨rfl, ?_⟩
      obtain ⟨fb, hu8, -, -⟩ := d8
      have f8 := (ev_form av 8).symm.trans hu8
      exact wp_of_run (v := .int .u64 0) (by simp [go_sem, f8]) ⟨_, rfl, es_of_ext (Ext_refl _), rfl⟩
    case s7 =>
      refine step_wp (fun av wv hE hS hO hD => ?_)
      have d8 : (fun u w' => ∃ fb, u = .tuple #[.int .u64 0, .iface 127 (.pointer (some ⟨fb, 0, none⟩))] ∧ FltB w' fb f.1 f.2 ∧ fb ≠ rb) (av.eval (.tmp 8)) wv := hD.1 rfl _ rfl
      refine ⟨rfl, ?_⟩
      obtain ⟨fb, hu8, hf8, hn8⟩ := d8
      have f8 := (ev_form av 8).symm.trans hu8
      exact wp_of_run (v := .iface 127 (.pointer (some ⟨fb, 0, none⟩))) (by simp [go_sem, f8]) ⟨_, rfl, es_of_ext (Ext_refl _), fb, rfl, hf8, hn8⟩
    case s8 =>
      refine step_wp (fun av wv hE hS hO hD => ?_)
      have d9 : av.eval (.tmp 9) = (.int .u64 0) := hD.1 rfl _ rfl
      have f9 := (ev_form av 9).symm.trans d9
      have d10 : (fun u w' => ∃ fb, u = .iface 127 (.pointer (some ⟨fb, 0, none⟩)) ∧ FltB w' fb f.1 f.2 ∧ fb ≠ rb) (av.eval (.tmp 10)) wv := hD.2.1 rfl _ rfl
      refine ⟨rfl, ?_⟩
      obtain ⟨fb, hu10, hf, hn8⟩ := d10
      have f10 := (ev_form av 10).symm.trans hu10
      refine wp_of_panic (chain := stopC fb) (by simp [go_sem, f9, f10]) ((wholeu_no 0 fb wv).mono (fun e w2 ⟨h1, h2⟩ => ⟨h1, by rw [h2]; exact Below.refl _ _⟩)) (fun w2 hb => ?_)
      exact ⟨hO.1, by rw [HR.out]; exact ⟨(Chg.of_ext (of_drewE hE)).next hb, fb, rfl, hf.below hb, ((HX.out.ext (of_drewE hE) htr).below hb).thAt⟩⟩
    case s9 =>
      refine step_wp (fun av wv hE hS hO hD => ?_)
      have d11 : (fun _ _ => False) (av.eval (.tmp 11)) wv := hD.1 rfl _ rfl
      refine ⟨rfl, ?_⟩
      exact d11.elim
    case s10 =>
      refine step_val (v := (.pointer (some ⟨tb, o, none⟩))) (fun av wv hE hS hO hD => ?_) (fun _ => rfl)
      have d3 : av.eval (.tmp 3) = (.pointer (some ⟨tb, o, none⟩)) := hD.1 rfl _ rfl
      have f3 := (ev_form av 3).symm.trans d3
      refine ⟨rfl, ?_⟩
      simp [go_sem, f3]
    intro a' w' hE hO hall
    have hA := act_of_outer (ds := [3, 4, 5, 6, 7, 8, 9, 10, 11, 12, 13]) rfl hO (by kernel_rfl)
    have e3 : (fun u _ => u = (.pointer (some ⟨tb, o, none⟩))) (a'.eval (.tmp 3)) w' := hall.1 _ rfl
    have e4 : (fun u _ => u = (.pointer (some ⟨qb, 0, none⟩))) (a'.eval (.tmp 4)) w' := hall.2.1 _ rfl
    have e5 : (fun u _ => u = (.pointer (some ⟨qb, 0, none⟩))) (a'.eval (.tmp 5)) w' := hall.2.2.1 _ rfl
    have e6 : (fun u _ => u = (.pointer (some ⟨qb, 0, none⟩))) (a'.eval (.tmp 6)) w' := hall.2.2.2.1 _ rfl
    have e7 : (fun u _ => u = (.pointer (some ⟨rb, 0, none⟩))) (a'.eval (.tmp 7)) w' := hall.2.2.2.2.1 _ rfl
    have e8 : (fun u w' => ∃ fb, u = .tuple #[.int .u64 0, .iface 127 (.pointer (some ⟨fb, 0, none⟩))] ∧ FltB w' fb f.1 f.2 ∧ fb ≠ rb) (a'.eval (.tmp 8)) w' := hall.2.2.2.2.2.1 _ rfl
    have e9 : (fun u _ => u = (.int .u64 0)) (a'.eval (.tmp 9)) w' := hall.2.2.2.2.2.2.1 _ rfl
    have e10 : (fun u w' => ∃ fb, u = .iface 127 (.pointer (some ⟨fb, 0, none⟩)) ∧ FltB w' fb f.1 f.2 ∧ fb ≠ rb) (a'.eval (.tmp 10)) w' := hall.2.2.2.2.2.2.2.1 _ rfl
    have e11 : (fun _ _ => False) (a'.eval (.tmp 11)) w' := hall.2.2.2.2.2.2.2.2.1 _ rfl
    have e12 : (fun _ _ => True) (a'.eval (.tmp 12)) w' := hall.2.2.2.2.2.2.2.2.2.1 _ rfl
    have e13 : (fun u _ => u = (.pointer (some ⟨tb, o, none⟩))) (a'.eval (.tmp 13)) w' := hall.2.2.2.2.2.2.2.2.2.2.1 _ rfl
    obtain ⟨v8, hv8⟩ : ∃ v, a'.eval (.tmp 8) = v := ⟨_, rfl⟩
    rw [hv8] at e8
    obtain ⟨v10, hv10⟩ : ∃ v, a'.eval (.tmp 10) = v := ⟨_, rfl⟩
    rw [hv10] at e10
    obtain ⟨v11, hv11⟩ : ∃ v, a'.eval (.tmp 11) = v := ⟨_, rfl⟩
    rw [hv11] at e11
    obtain ⟨v12, hv12⟩ : ∃ v, a'.eval (.tmp 12) = v := ⟨_, rfl⟩
    rw [hv12] at e12
    simp only [List.foldl_cons, List.foldl_nil, Act.put, List.setIfInBounds_toArray, List.set_cons_succ, List.set_cons_zero, e3, e4, e5, e6, e7, hv8, e9, hv10, hv11, hv12, e13] at hA
    clear hO hall e3 e4 e5 e6 e7 hv8 e9 hv10 hv11 hv12 e13
    subst hA
    exact e11.elim
  | ok y =>
    have HR : Hid ((gflag s key o).read x a = .ok (upd x o (.flag (y.1 == 1)), y.2.2)) := Lib.hid (by simp only [gflag, rnum, hr])
    have HN : Hid (∀ w', Below w.heap.size w w' → Calls Tryz.prog 152 #[.pointer (some ⟨rb, 0, none⟩)] w' (fun e w2 => ∃ u, e = .returned u ∧ (u = .tuple #[.int .u64 y.1, .nilIface] ∧ RdB w2 rb s y.2.2 10240 ∧ ExtB (some rb) w' w2))) := Lib.hid (fun w' hb => (Num_tk w' B qb rb s a (H.out.below hb)).mono fun e w2 hh => by rw [hr] at hh; obtain ⟨h1, h2, h3⟩ := tkIs_ok hh; exact ⟨_, h1, rfl, h2, h3⟩)
    have hle : y.2.2 ≤ s.size := (tkR_bd (by decide) hr).1
    clear hr
    go_enter Tryz.func189, Tryz.ntmps189
    refine wp_region_tail 11 5 (some rb) (phis [fun u _ => u = (.pointer (some ⟨tb, o, none⟩)), fun u _ => u = (.pointer (some ⟨qb, 0, none⟩)), fun u _ => u = (.pointer (some ⟨qb, 0, none⟩)), fun u _ => u = (.pointer (some ⟨qb, 0, none⟩)), fun u _ => u = (.pointer (some ⟨rb, 0, none⟩)), fun u w' => u = .tuple #[.int .u64 y.1, .nilIface] ∧ RdB w' rb s y.2.2 10240, fun u _ => u = (.int .u64 y.1), fun u _ => u = (.nilIface), fun u _ => u = (.int .u64 y.1), fun u _ => u = (.bool (y.1 == 1)), fun u _ => u = (.pointer (some ⟨tb, o, none⟩))]) rfl (by kernel_rfl) (by kernel_rfl) (mono_of ⟨mono_eq, mono_eq, mono_eq, mono_eq, mono_eq, ?m5, mono_eq, mono_eq, mono_eq, mono_eq, mono_eq, trivial⟩) (steps_of 11 ⟨?s0, ?s1, ?s2, ?s3, ?s4, ?s5, ?s6, ?s7, ?s8, ?s9, ?s10, trivial⟩) ?_
    case m5 =>
      exact ⟨fun u w1 w2 h ⟨h1, h2⟩ => ⟨h1, h2.below h⟩, fun hn => absurd rfl hn⟩
    case s0 =>
      refine step_val (v := (.pointer (some ⟨tb, o, none⟩))) (fun av wv hE hS hO hD => ?_) (fun _ => rfl)
      have h1 : av.eval (.tmp 1) = (.pointer (some ⟨bx, 0, none⟩)) := hO.2.2 1 rfl
      have f1 := (ev_form av 1).symm.trans h1
      have c1 := extB_cell hE (fun e => hbr (Option.some.inj e)) c1
      have c0 := extB_cell hE (fun e => hqr (Option.some.inj e)) c0
      refine ⟨rfl, ?_⟩
      simp [go_sem, f1, c1, c0]
    case s1 =>
      refine step_val (v := (.pointer (some ⟨qb, 0, none⟩))) (fun av wv hE hS hO hD => ?_) (fun _ => rfl)
      have h0 : av.eval (.tmp 0) = (.pointer (some ⟨qb, 0, none⟩)) := hO.2.2 0 rfl
      have f0 := (ev_form av 0).symm.trans h0
      refine ⟨rfl, ?_⟩
      simp [go_sem, f0]
    case s2 =>
      refine step_val (v := (.pointer (some ⟨qb, 0, none⟩))) (fun av wv hE hS hO hD => ?_) (fun _ => rfl)
      have d4 : av.eval (.tmp 4) = (.pointer (some ⟨qb, 0, none⟩)) := hD.1 rfl _ rfl
      have f4 := (ev_form av 4).symm.trans d4
      refine ⟨rfl, ?_⟩
      simp [go_sem, f4]
    case s3 =>
      refine step_val (v := (.pointer (some ⟨qb, 0, none⟩))) (fun av wv hE hS hO hD => ?_) (fun _ => rfl)
      have d5 : av.eval (.tmp 5) = (.pointer (some ⟨qb, 0, none⟩)) := hD.1 rfl _ rfl
      have f5 := (ev_form av 5).symm.trans d5
      refine ⟨rfl, ?_⟩
      simp [go_sem, f5]
    case s4 =>
      refine step_val (v := (.pointer (some ⟨rb, 0, none⟩))) (fun av wv hE hS hO hD => ?_) (fun _ => rfl)
      have d6 : av.eval (.tmp 6) = (.pointer (some ⟨qb, 0, none⟩)) := hD.1 rfl _ rfl
      have f6 := (ev_form av 6).symm.trans d6
      have c1 := extB_cell hE (fun e => hbr (Option.some.inj e)) c1
      have c0 := extB_cell hE (fun e => hqr (Option.some.inj e)) c0
      refine ⟨rfl, ?_⟩
      simp [go_sem, f6, c1, c0]
    case s5 =>
      refine step_wp (fun av wv hE hS hO hD => ?_)
      have d7 : av.eval (.tmp 7) = (.pointer (some ⟨rb, 0, none⟩)) := hD.1 rfl _ rfl
      have f7 := (ev_form av 7).symm.trans d7
      refine ⟨rfl, ?_⟩
      refine wp_of_callR (f := 152) (args := #[.pointer (some ⟨rb, 0, none⟩)]) (by simp [go_sem, f7]) (HN.out wv (bnext (bdrew (Below.refl _ _)) (hS rfl))) (fun u w2 ⟨h1, h2, h3⟩ => ⟨u, rfl, es_sp h3, h1, h2⟩)
    case s6 =>
      refine step_wp (fun av wv hE hS hO hD => ?_)
      have d8 : (fun u w' => u = .tuple #[.int .u64 y.1, .nilIface] ∧ RdB w' rb s y.2.2 10240) (av.eval (.tmp 8)) wv := hD.1 rfl _ rfl
      refine ⟨rfl, ?_⟩
      have f8 := (ev_form av 8).symm.trans d8.1
      exact wp_of_run (v := .int .u64 y.1) (by simp [go_sem, f8]) ⟨_, rfl, es_of_ext (Ext_refl _), rfl⟩
    case s7 =>
      refine step_wp (fun av wv hE hS hO hD => ?_)
      have d8 : (fun u w' => u = .tuple #[.int .u64 y.1, .nilIface] ∧ RdB w' rb s y.2.2 10240) (av.eval (.tmp 8)) wv := hD.1 rfl _ rfl
      refine ⟨rfl, ?_⟩
      have f8 := (ev_form av 8).symm.trans d8.1
      exact wp_of_run (v := .nilIface) (by simp [go_sem, f8]) ⟨_, rfl, es_of_ext (Ext_refl _), rfl⟩
    case s8 =>
      refine step_wp (fun av wv hE hS hO hD => ?_)
      have d9 : av.eval (.tmp 9) = (.int .u64 y.1) := hD.1 rfl _ rfl
      have f9 := (ev_form av 9).symm.trans d9
      have d10 : av.eval (.tmp 10) = (.nilIface) := hD.2.1 rfl _ rfl
      have f10 := (ev_form av 10).symm.trans d10
      refine ⟨rfl, ?_⟩
      refine wp_of_call (v := .int .u64 y.1) (by simp [go_sem, f9, f10]) ((wholeu_ok y.1 wv).mono (fun e w2 ⟨h1, h2⟩ => ⟨h1, by rw [h2]; exact Below.refl _ _⟩)) (fun w2 hb => ⟨_, rfl, es_of_ext hb, rfl⟩)
    case s9 =>
      refine step_val (v := (.bool (y.1 == 1))) (fun av wv hE hS hO hD => ?_) (fun _ => rfl)
      have d11 : av.eval (.tmp 11) = (.int .u64 y.1) := hD.1 rfl _ rfl
      have f11 := (ev_form av 11).symm.trans d11
      refine ⟨rfl, ?_⟩
      simp [go_sem, f11]
    case s10 =>
      refine step_val (v := (.pointer (some ⟨tb, o, none⟩))) (fun av wv hE hS hO hD => ?_) (fun _ => rfl)
      have d3 : av.eval (.tmp 3) = (.pointer (some ⟨tb, o, none⟩)) := hD.1 rfl _ rfl
      have f3 := (ev_form av 3).symm.trans d3
      refine ⟨rfl, ?_⟩
      simp [go_sem, f3]
    intro a' w' hE hO hall
    have hA := act_of_outer (ds := [3, 4, 5, 6, 7, 8, 9, 10, 11, 12, 13]) rfl hO (by kernel_rfl)
    have e3 : (fun u _ => u = (.pointer (some ⟨tb, o, none⟩))) (a'.eval (.tmp 3)) w' := hall.1 _ rfl
    have e4 : (fun u _ => u = (.pointer (some ⟨qb, 0, none⟩))) (a'.eval (.tmp 4)) w' := hall.2.1 _ rfl
    have e5 : (fun u _ => u = (.pointer (some ⟨qb, 0, none⟩))) (a'.eval (.tmp 5)) w' := hall.2.2.1 _ rfl
    have e6 : (fun u _ => u = (.pointer (some ⟨qb, 0, none⟩))) (a'.eval (.tmp 6)) w' := hall.2.2.2.1 _ rfl
    have e7 : (fun u _ => u = (.pointer (some ⟨rb, 0, none⟩))) (a'.eval (.tmp 7)) w' := hall.2.2.2.2.1 _ rfl
    have e8 : (fun u w' => u = .tuple #[.int .u64 y.1, .nilIface] ∧ RdB w' rb s y.2.2 10240) (a'.eval (.tmp 8)) w' := hall.2.2.2.2.2.1 _ rfl
    have e9 : (fun u _ => u = (.int .u64 y.1)) (a'.eval (.tmp 9)) w' := hall.2.2.2.2.2.2.1 _ rfl
    have e10 : (fun u _ => u = (.nilIface)) (a'.eval (.tmp 10)) w' := hall.2.2.2.2.2.2.2.1 _ rfl
    have e11 : (fun u _ => u = (.int .u64 y.1)) (a'.eval (.tmp 11)) w' := hall.2.2.2.2.2.2.2.2.1 _ rfl
    have e12 : (fun u _ => u = (.bool (y.1 == 1))) (a'.eval (.tmp 12)) w' := hall.2.2.2.2.2.2.2.2.2.1 _ rfl
    have e13 : (fun u _ => u = (.pointer (some ⟨tb, o, none⟩))) (a'.eval (.tmp 13)) w' := hall.2.2.2.2.2.2.2.2.2.2.1 _ rfl
    obtain ⟨v8, hv8⟩ : ∃ v, a'.eval (.tmp 8) = v := ⟨_, rfl⟩
    rw [hv8] at e8
    simp only [List.foldl_cons, List.foldl_nil, Act.put, List.setIfInBounds_toArray, List.set_cons_succ, List.set_cons_zero, e3, e4, e5, e6, e7, hv8, e9, e10, e11, e12, e13] at hA
    clear hO hall e3 e4 e5 e6 e7 hv8 e9 e10 e11 e12 e13
    subst hA
    have HRD := Lib.hid e8.2
    have hX2 := HX.out.ext (of_drewE hE) htr
    obtain ⟨u, hu, -⟩ := hX2.get ho
    have hfz := hX2.free o
    have HX2 := Lib.hid hX2
    have HE := Lib.hid (of_drewE hE)
    have e81 := e8.1
    clear hE hX2 e8
    subst e81
    go_wp2
    go_end0
    rw [HR.out]
    exact ⟨(Chg.of_ext HE.out).set o _, rfl, block_setCell_ne HRD.out (by exact fun e => htr e.symm) _, hle, HX2.out.set ho rfl⟩
theorem rdig_le {s : ByteArray} {a : Nat} {y : ByteArray × Nat} (h : rdig s a = .ok y) : y.2 ≤ s.size := by
  unfold rdig at h
  split at h
  · cases h
  · next x hx =>
    split at h
    · cases h; exact (tkR_bd (by decide) hx).1
    · cases h
set_option maxRecDepth 100000 in
set_option maxHeartbeats 2000000 in
theorem digest4_any (B qb rb tb o bx : Nat) (T : TypeId) (n : Nat) (s key : ByteArray) (a : Nat) (x : Rcd) (w : World) (h1 : w.heap[bx]? = some (.cells #[.pointer (some ⟨tb, o, none⟩)] 181 (0, 0))) (hbr : bx ≠ rb) (htr : tb ≠ rb) (ho : o < n)
    (hx : RecAt rb tb T n w x) (h : RdEnv B w qb rb s a) : Calls Tryz.prog 194 #[.pointer (some ⟨qb, 0, none⟩), .pointer (some ⟨bx, 0, none⟩)] w (GetIs ((gdig s key o).read x a) rb tb T n s w) := by
  have H := Lib.hid h
  have HX := Lib.hid hx
  have hqr := h.ne
  have c0 : w.cell? ⟨qb, 0, none⟩ = some (.pointer (some ⟨rb, 0, none⟩)) := block_cell h.q 0
  have c1 : w.cell? ⟨bx, 0, none⟩ = some (.pointer (some ⟨tb, o, none⟩)) := block_cell h1 0
  clear h1 hx h
  cases hr : rdig s a with
  | error f =>
    have HR : Hid ((gdig s key o).read x a = .error f) := Lib.hid (by simp only [gdig, hr])
    have HN : Hid (∀ w', Below w.heap.size w w' → Calls Tryz.prog 195 #[.pointer (some ⟨qb, 0, none⟩)] w' (fun e w2 => ∃ fb, e = .panicked (stopC fb) ∧ (FltB w2 fb f.1 f.2 ∧ ExtB (some rb) w' w2))) := Lib.hid (fun w' hb => (dgRead_any B qb rb s a w' (H.out.below hb)).mono fun e w2 hh => by rw [hr] at hh; obtain ⟨fb, h1, h2, h3⟩ := vIs_err hh; exact ⟨fb, h1, h2, h3⟩)
    clear hr
    go_enter Tryz.func194, Tryz.ntmps194
    refine wp_region_tail 4 2 (some rb) (phis [fun u _ => u = (.pointer (some ⟨tb, o, none⟩)), fun u _ => u = (.pointer (some ⟨qb, 0, none⟩)), fun _ _ => False, fun u _ => u = (.pointer (some ⟨tb, o, none⟩))]) rfl (by kernel_rfl) (by kernel_rfl) (mono_of ⟨mono_eq, mono_eq, mono_eq, mono_eq, trivial⟩) (steps_of 4 ⟨?s0, ?s1, ?s2, ?s3, trivial⟩) ?_
    case s0 =>
      refine step_val (v := (.pointer (some ⟨tb, o, none⟩))) (fun av wv hE hS hO hD => ?_) (fun _ => rfl)
      have h1 : av.eval (.tmp 1) = (.pointer (some ⟨bx, 0, none⟩)) := hO.2.2 1 rfl
      have f1 := (ev_form av 1).symm.trans h1
      have c1 := extB_cell hE (fun e => hbr (Option.some.inj e)) c1
      have c0 := extB_cell hE (fun e => hqr (Option.some.inj e)) c0
      refine ⟨rfl, ?_⟩
      simp [go_sem, f1, c1, c0]
    case s1 =>
      refine step_val (v := (.pointer (some ⟨qb, 0, none⟩))) (fun av wv hE hS hO hD => ?_) (fun _ => rfl)
      have h0 : av.eval (.tmp 0) = (.pointer (some ⟨qb, 0, none⟩)) := hO.2.2 0 rfl
      have f0 := (ev_form av 0).symm.trans h0
      refine ⟨rfl, ?_⟩
      simp [go_sem, f0]
    case s2 =>
      refine step_wp (fun av wv hE hS hO hD => ?_)
      have d4 : av.eval (.tmp 4) = (.pointer (some ⟨qb, 0, none⟩)) := hD.1 rfl _ rfl
      have f4 := (ev_form av 4).symm.trans d4
      refine ⟨rfl, ?_⟩
      refine wp_of_panicR (f := 195) (args := #[.pointer (some ⟨qb, 0, none⟩)]) (by simp [go_sem, f4]) (HN.out wv (bnext (bdrew (Below.refl _ _)) (hS rfl))) (fun fb w2 ⟨hf, hE2⟩ => ?_)
      exact ⟨hO.1, by rw [HR.out]; exact ⟨(Chg.of_ext (of_drewE hE)).ext hE2, fb, rfl, hf, ((HX.out.ext (of_drewE hE) htr).ext hE2 htr).thAt⟩⟩
    case s3 =>
      refine step_val (v := (.pointer (some ⟨tb, o, none⟩))) (fun av wv hE hS hO hD => ?_) (fun _ => rfl)
      have d3 : av.eval (.tmp 3) = (.pointer (some ⟨tb, o, none⟩)) := hD.1 rfl _ rfl
      have f3 := (ev_form av 3).symm.trans d3
      refine ⟨rfl, ?_⟩
      simp [go_sem, f3]
    intro a' w' hE hO hall
    have hA := act_of_outer (ds := [3, 4, 5, 6]) rfl hO (by kernel_rfl)
    have e3 : (fun u _ => u = (.pointer (some ⟨tb, o, none⟩))) (a'.eval (.tmp 3)) w' := hall.1 _ rfl
    have e4 : (fun u _ => u = (.pointer (some ⟨qb, 0, none⟩))) (a'.eval (.tmp 4)) w' := hall.2.1 _ rfl
    have e5 : (fun _ _ => False) (a'.eval (.tmp 5)) w' := hall.2.2.1 _ rfl
    have e6 : (fun u _ => u = (.pointer (some ⟨tb, o, none⟩))) (a'.eval (.tmp 6)) w' := hall.2.2.2.1 _ rfl
    obtain ⟨v5, hv5⟩ : ∃ v, a'.eval (.tmp 5) = v := ⟨_, rfl⟩
    rw [hv5] at e5
    simp only [List.foldl_cons, List.foldl_nil, Act.put, List.setIfInBounds_toArray, List.set_cons_succ, List.set_cons_zero, e3, e4, hv5, e6] at hA
    clear hO hall e3 e4 hv5 e6
    subst hA
    exact e5.elim
  | ok y =>
    have HR : Hid ((gdig s key o).read x a = .ok (upd x o (.str y.1), y.2)) := Lib.hid (by simp only [gdig, hr])
    have HN : Hid (∀ w', Below w.heap.size w w' → Calls Tryz.prog 195 #[.pointer (some ⟨qb, 0, none⟩)] w' (fun e w2 => ∃ u, e = .returned u ∧ (u = .string y.1 ∧ RdB w2 rb s y.2 10240 ∧ ExtB (some rb) w' w2))) := Lib.hid (fun w' hb => (dgRead_any B qb rb s a w' (H.out.below hb)).mono fun e w2 hh => by rw [hr] at hh; obtain ⟨h1, h2, h4, h3⟩ := vIs_ok hh; exact ⟨_, h1, rfl, h2, h3⟩)
    have hle : y.2 ≤ s.size := rdig_le hr
    clear hr
    go_enter Tryz.func194, Tryz.ntmps194
    refine wp_region_tail 4 2 (some rb) (phis [fun u _ => u = (.pointer (some ⟨tb, o, none⟩)), fun u _ => u = (.pointer (some ⟨qb, 0, none⟩)), fun u w' => u = .string y.1 ∧ RdB w' rb s y.2 10240, fun u _ => u = (.pointer (some ⟨tb, o, none⟩))]) rfl (by kernel_rfl) (by kernel_rfl) (mono_of ⟨mono_eq, mono_eq, ?m2, mono_eq, trivial⟩) (steps_of 4 ⟨?s0, ?s1, ?s2, ?s3, trivial⟩) ?_
    case m2 =>
      exact ⟨fun u w1 w2 h ⟨h1, h2⟩ => ⟨h1, h2.below h⟩, fun hn => absurd rfl hn⟩
    case s0 =>
      refine step_val (v := (.pointer (some ⟨tb, o, none⟩))) (fun av wv hE hS hO hD => ?_) (fun _ => rfl)
      have h1 : av.eval (.tmp 1) = (.pointer (some ⟨bx, 0, none⟩)) := hO.2.2 1 rfl
      have f1 := (ev_form av 1).symm.trans h1
      have c1 := extB_cell hE (fun e => hbr (Option.some.inj e)) c1
      have c0 := extB_cell hE (fun e => hqr (Option.some.inj e)) c0
      refine ⟨rfl, ?_⟩
      simp [go_sem, f1, c1, c0]
    case s1 =>
      refine step_val (v := (.pointer (some ⟨qb, 0, none⟩))) (fun av wv hE hS hO hD => ?_) (fun _ => rfl)
      have h0 : av.eval (.tmp 0) = (.pointer (some ⟨qb, 0, none⟩)) := hO.2.2 0 rfl
      have f0 := (ev_form av 0).symm.trans h0
      refine ⟨rfl, ?_⟩
      simp [go_sem, f0]
    case s2 =>
      refine step_wp (fun av wv hE hS hO hD => ?_)
      have d4 : av.eval (.tmp 4) = (.pointer (some ⟨qb, 0, none⟩)) := hD.1 rfl _ rfl
      have f4 := (ev_form av 4).symm.trans d4
      refine ⟨rfl, ?_⟩
      refine wp_of_callR (f := 195) (args := #[.pointer (some ⟨qb, 0, none⟩)]) (by simp [go_sem, f4]) (HN.out wv (bnext (bdrew (Below.refl _ _)) (hS rfl))) (fun u w2 ⟨h1, h2, h3⟩ => ⟨u, rfl, es_sp h3, h1, h2⟩)
    case s3 =>
      refine step_val (v := (.pointer (some ⟨tb, o, none⟩))) (fun av wv hE hS hO hD => ?_) (fun _ => rfl)
      have d3 : av.eval (.tmp 3) = (.pointer (some ⟨tb, o, none⟩)) := hD.1 rfl _ rfl
      have f3 := (ev_form av 3).symm.trans d3
      refine ⟨rfl, ?_⟩
      simp [go_sem, f3]
    intro a' w' hE hO hall
    have hA := act_of_outer (ds := [3, 4, 5, 6]) rfl hO (by kernel_rfl)
    have e3 : (fun u _ => u = (.pointer (some ⟨tb, o, none⟩))) (a'.eval (.tmp 3)) w' := hall.1 _ rfl
    have e4 : (fun u _ => u = (.pointer (some ⟨qb, 0, none⟩))) (a'.eval (.tmp 4)) w' := hall.2.1 _ rfl
    have e5 : (fun u w' => u = .string y.1 ∧ RdB w' rb s y.2 10240) (a'.eval (.tmp 5)) w' := hall.2.2.1 _ rfl
    have e6 : (fun u _ => u = (.pointer (some ⟨tb, o, none⟩))) (a'.eval (.tmp 6)) w' := hall.2.2.2.1 _ rfl
    obtain ⟨v5, hv5⟩ : ∃ v, a'.eval (.tmp 5) = v := ⟨_, rfl⟩
    rw [hv5] at e5
    simp only [List.foldl_cons, List.foldl_nil, Act.put, List.setIfInBounds_toArray, List.set_cons_succ, List.set_cons_zero, e3, e4, hv5, e6] at hA
    clear hO hall e3 e4 hv5 e6
    subst hA
    have HRD := Lib.hid e5.2
    have hX2 := HX.out.ext (of_drewE hE) htr
    obtain ⟨u, hu, -⟩ := hX2.get ho
    have hfz := hX2.free o
    have HX2 := Lib.hid hX2
    have HE := Lib.hid (of_drewE hE)
    have e51 := e5.1
    clear hE hX2 e5
    subst e51
    go_wp2
    go_end0
    rw [HR.out]
    exact ⟨(Chg.of_ext HE.out).set o _, rfl, block_setCell_ne HRD.out (by exact fun e => htr e.symm) _, hle, HX2.out.set ho rfl⟩
end Go.Proofs.YtihiaopilnjonaaGreatDoor
namespace Go.Proofs.YtihiaopilnjonaaGreatDoor
open Go.RowKit
set_option linter.unusedSimpArgs false
set_option linter.unusedVariables false
def ElIs {α : Type} (res : Except Flt (α × Nat)) (hold : α → World → Array Value → Prop) (rb xb : Nat) (T : TypeId) (s : ByteArray) (w : World) (e : Ending) (w' : World) : Prop :=
  Chg rb xb w w' ∧ match res with
    | .ok y => e = .returned (.tuple #[]) ∧ RdB w' rb s y.2 10240 ∧ y.2 ≤ s.size ∧ ∃ cs, w'.heap[xb]? = some (.cells cs T (0, 0)) ∧ hold y.1 w' cs
    | .error f => ∃ fb, e = .panicked (stopC fb) ∧ FltB w' fb f.1 f.2
theorem elIs_ok {α : Type} {y : α × Nat} {hold : α → World → Array Value → Prop} {rb xb : Nat} {T : TypeId} {s : ByteArray} {w w' : World} {e : Ending} (h : ElIs (.ok y) hold rb xb T s w e w') : e = .returned (.tuple #[]) ∧ Chg rb xb w w' ∧ RdB w' rb s y.2 10240 ∧ y.2 ≤ s.size ∧ ∃ cs, w'.heap[xb]? = some (.cells cs T (0, 0)) ∧ hold y.1 w' cs := ⟨h.2.1, h.1, h.2.2⟩
theorem elIs_err {α : Type} {f : Flt} {hold : α → World → Array Value → Prop} {rb xb : Nat} {T : TypeId} {s : ByteArray} {w w' : World} {e : Ending} (h : ElIs (.error f) hold rb xb T s w e w') : ∃ fb, e = .panicked (stopC fb) ∧ FltB w' fb f.1 f.2 ∧ Chg rb xb w w' := by
  obtain ⟨h1, fb, h2, h3⟩ := h; exact ⟨fb, h2, h3, h1⟩
theorem own_chg {rb xb base : Nat} {w w' : World} {e size n : Nat} {v : Value} {xs : List Value} (h : w.ownsRow base e size v n xs) (hc : Chg rb xb w w') (hr : rb < base) (hx : w.heap.size ≤ xb) : w'.ownsRow base e size v n xs := by
  refine ⟨h.1, ?_⟩
  rcases h.2 with h2 | ⟨g, cap, cur, hv, hg, hh, hr2⟩
  · exact .inl h2
  · exact .inr ⟨g, cap, cur, hv, hg, (hc.block g (lt_of_block hh) (by omega) (by have := lt_of_block hh; omega)).trans hh, hr2⟩
theorem own_chgT {rb tb base : Nat} {w w' : World} {e size n : Nat} {v : Value} {xs : List Value} (h : w.ownsRow base e size v n xs) (hc : Chg rb tb w w') (hr : rb < base) (hx : tb < base) : w'.ownsRow base e size v n xs := by
  refine ⟨h.1, ?_⟩
  rcases h.2 with h2 | ⟨g, cap, cur, hv, hg, hh, hr2⟩
  · exact .inl h2
  · exact .inr ⟨g, cap, cur, hv, hg, (hc.block g (lt_of_block hh) (by omega) (by omega)).trans hh, hr2⟩
theorem own_set {w : World} {base e size n : Nat} {v : Value} {xs xs' : List Value} (h : w.ownsRow base e size v n xs) {b o : Nat} (hb : b < base) {u : Value} (hx : xs = xs') : (w.setCell ⟨b, o, none⟩ u).ownsRow base e size v n xs' := by
  subst hx
  refine ⟨h.1, ?_⟩
  rcases h.2 with h2 | ⟨g, cap, cur, hv, hg, hh, hr2⟩
  · exact .inl h2
  · exact .inr ⟨g, cap, cur, hv, hg, block_setCell_ne hh (by show g ≠ b; omega) u, hr2⟩
theorem own_apart_lt {base : Nat} {w : World} {e size n : Nat} {v : Value} {xs : List Value} (h : w.ownsRow base e size v n xs) {b : Nat} (hb : b < base) : some b ≠ v.ownBlock := fun e => by
  have := h.lt b e.symm; omega
theorem own_apart_ge {base : Nat} {w : World} {e size n : Nat} {v : Value} {xs : List Value} (h : w.ownsRow base e size v n xs) {b : Nat} (hb : w.heap.size ≤ b) : some b ≠ v.ownBlock := fun e => by
  have := h.lt b e.symm; omega
theorem own_type {base : Nat} {w : World} {e size n : Nat} {v : Value} {xs : List Value} (h : w.ownsRow base e size v n xs) : ∀ k, v.ownBlock = some k → ∃ cs, w.heap[k]? = some (.cells cs e (0, 0)) := fun k hk => by
  rcases h.2 with ⟨rfl, -⟩ | ⟨g, cap, cur, rfl, hg, hh, -⟩
  · cases hk
  · obtain rfl : g = k := by simpa [Value.ownBlock] using hk
    exact ⟨cur, hh⟩
theorem own_tx {w : World} {base n : Nat} {v : Value} {l : List ByteArray} (h : w.ownsRow base 9 1 v n (l.map Value.string)) {rb tb : Nat} (hr : rb < base) (ht : tb < base) (h0 : n = 0 → v = .slice none 0 0) : HoldsD rb tb w v (.strs l) := by
  have hn : len l = n := by have := h.1; rw [len_eq]; simpa using this
  obtain ⟨a, c, rfl, h1⟩ := own_txs h
  refine ⟨a, c, rfl, fun e => ?_, fun b off e => ?_, h1, fun b off e => ?_⟩
  · have h5 := h0 (by omega); simp only [Value.slice.injEq] at h5; exact ⟨h5.1, h5.2.2⟩
  · have := h.lt b (by rw [e]; rfl); omega
  · exact own_type h b (by rw [e]; rfl)
theorem rmany_succ_ok {α : Type} {rd : Nat → Except Flt (α × Nat)} {n a : Nat} {l : List α} {y : α × Nat} (h : rd a = .ok y) : rmany rd (n + 1) a l = rmany rd n y.2 (l ++ [y.1]) := by rw [rmany, h]
theorem rmany_succ_err {α : Type} {rd : Nat → Except Flt (α × Nat)} {n a : Nat} {l : List α} {f : Flt} (h : rd a = .error f) : rmany rd (n + 1) a l = .error f := by rw [rmany, h]
theorem rlist_le {s : ByteArray} {most a : Nat} {y : Nat × Nat} (h : rlist s most a = .ok y) : y.1 ≤ most := by
  unfold rlist at h
  split at h
  · cases h
  · split at h
    · cases h; omega
    · cases h
theorem gmany_err {α : Type} {s key : ByteArray} {o most a k a0 : Nat} {toD : List α → DV} {rd : Nat → Except Flt (α × Nat)} {x : Rcd} {f : Flt} (h1 : rlist s most a = .ok (k, a0)) (h2 : rmany rd k a0 [] = .error f) : (gmany s key o most toD rd).read x a = .error f := by simp only [gmany, h1, h2]
theorem gmany_ok {α : Type} {s key : ByteArray} {o most a k a0 : Nat} {toD : List α → DV} {rd : Nat → Except Flt (α × Nat)} {x : Rcd} {y : List α × Nat} (h1 : rlist s most a = .ok (k, a0)) (h2 : rmany rd k a0 [] = .ok y) : (gmany s key o most toD rd).read x a = .ok (upd x o (toD y.1), y.2) := by simp only [gmany, h1, h2]
set_option maxRecDepth 100000 in
set_option maxHeartbeats 4000000 in
theorem many4s_any (B qb rb tb o bx mb gb gf most : Nat) (gc : Array Value) (x0 : Rcd) (T : TypeId) (n : Nat) (s key : ByteArray) (a : Nat) (x : Rcd) (w : World) (rd : Nat → Except Flt (ByteArray × Nat))
    (h1 : w.heap[bx]? = some (.cells #[.pointer (some ⟨tb, o, none⟩)] 230 (0, 0))) (h2 : w.heap[mb]? = some (.cells #[.int .i64 most] 3 (0, 0))) (h3 : ∃ t, w.heap[gb]? = some (.cells #[.func (.func gf) #[] gc] t (0, 0)))
    (hbr : bx ≠ rb ∧ bx ≠ tb) (hgr : gb ≠ rb ∧ gb ≠ tb) (htr : tb ≠ rb) (hqt : qb ≠ tb) (hBt : B ≤ tb) (ho : o < n) (hm : most ≤ 10240)
    (eg : ∀ args w, (callFunc gf args).run Tryz.prog w = .ok (.enter gf args) w)
    (hget : ∀ w' xb a', Chg rb tb w w' → w.heap.size ≤ xb → w'.heap[xb]? = some (.cells #[.string ⟨#[]⟩] 9 (0, 0)) → RdEnv B w' qb rb s a' → Calls Tryz.prog gf (#[.pointer (some ⟨qb, 0, none⟩), .pointer (some ⟨xb, 0, none⟩)] ++ gc) w' (ElIs (rd a') (fun y _ c => c = #[.string y]) rb xb 9 s w'))
    (hx : RecAt rb tb T n w x) (hx0 : x o = .strs []) (h : RdEnv B w qb rb s a) :
    Calls Tryz.prog 252 #[.pointer (some ⟨qb, 0, none⟩), .pointer (some ⟨mb, 0, none⟩), .pointer (some ⟨gb, 0, none⟩), .pointer (some ⟨bx, 0, none⟩)] w (GetIs ((gmany s key o most .strs rd).read x a) rb tb T n s w) := by
  have H := Lib.hid h
  have HX := Lib.hid hx
  have HG := Lib.hid hget
  obtain ⟨tg, h3⟩ := h3
  have H1 := Lib.hid h1
  have H3 := Lib.hid h3
  have hrs : rb < w.heap.size := lt_of_block h.r
  have hts : tb < w.heap.size := hx.lt
  have hbs : bx < w.heap.size := lt_of_block h1
  have hgs : gb < w.heap.size := lt_of_block h3
  have c1 : w.cell? ⟨mb, 0, none⟩ = some (.int .i64 most) := block_cell h2 0
  obtain ⟨cs, hcs, hcn, hch⟩ := hx
  have HCS := Lib.hid hcs
  have ho' : o < cs.size := by omega
  have HCN := Lib.hid hcn
  obtain ⟨v0, hv0, hd0⟩ := hch o ho
  rw [hx0] at hd0
  obtain ⟨za, zc, hz1, hz2, -⟩ := hd0
  obtain ⟨rfl, rfl⟩ := hz2 rfl
  have HZ : Hid (cs[o]? = some (.slice none 0 0)) := Lib.hid (by rw [hv0, hz1]; rfl)
  clear h1 h2 h3 h hget hcs hcn hch hv0 hz1 hz2 hx0
  go_enter Tryz.func252, Tryz.ntmps252
  go_wp2_with fail
  refine (lsRead_any B qb rb s a most w H.out).mono ?_
  intro e w1 hh
  cases hr : rlist s most a with
  | error f =>
    rw [hr] at hh
    obtain ⟨fb, rfl, hf, hE⟩ := vIs_err hh
    have HF := Lib.hid hf
    have HE := Lib.hid hE
    have HR : Hid ((gmany s key o most .strs rd).read x a = .error f) := Lib.hid (by simp only [gmany, hr])
    clear hh hf hE hr
    go_wp2
    refine ⟨rfl, ?_⟩
    rw [HR.out]
    exact ⟨Chg.of_ext HE.out, fb, rfl, HF.out, (HX.out.ext HE.out htr).thAt⟩
  | ok kk =>
    rw [hr] at hh
    obtain ⟨rfl, hrd, hle, hE⟩ := vIs_ok hh
    have HRD := Lib.hid hrd
    have HLE := Lib.hid hle
    have hc1 := Chg.of_ext (tb := tb) hE
    have HC1 := Lib.hid hc1
    have HB1 : Hid (w1.heap[tb]? = some (.cells cs T (0, 0))) := Lib.hid ((hE.block _ hts (by simpa using htr)).trans HCS.out)
    have hkm : kk.1 ≤ 10240 := by have := rlist_le hr; omega
    obtain ⟨k, a0⟩ := kk
    have HR := Lib.hid hr
    clear hh hrd hle hE hr hc1
    go_wp2
    clear c1
    go_loopg [9] k (fun g i wr => ∃ (m : Nat) (acc : List ByteArray) (a' : Nat) (v : Value), g + m = k ∧ i = .int .i64 m ∧ Hid (rmany rd k a0 [] = rmany rd g a' acc) ∧ Hid (len acc = m) ∧ Hid (a' ≤ s.size) ∧ Hid (RdB wr rb s a' 10240) ∧ Hid (Chg rb tb w wr) ∧
      Hid (wr.heap[tb]? = some (.cells (cs.setIfInBounds o v) T (0, 0))) ∧ Hid (wr.ownsRow w.heap.size 9 1 v m (acc.map Value.string)) ∧ Hid (m = 0 → v = .slice none 0 0))
    case atStart =>
      have e : cs.setIfInBounds o (.slice none 0 0) = cs := by
        apply Array.ext'
        rw [Array.toList_setIfInBounds]
        have h6 := HZ.out
        apply List.ext_getElem?
        intro i
        by_cases e2 : i = o
        · subst e2; rw [List.getElem?_set_self (by have := (Array.getElem?_eq_some_iff.1 h6).1; simpa using this)]; simpa using h6.symm
        · rw [List.getElem?_set_ne (fun e3 => e2 e3.symm)]
      exact ⟨0, [], a0, .slice none 0 0, rfl, rfl, rfl, rfl, HLE.out, HRD.out, HC1.out, by rw [e]; exact HB1.out, World.ownsRow_nil _ _ _ _, fun _ => rfl⟩
    case round =>
      clear HRD HLE HC1 HB1
      obtain ⟨m, acc, a', v, hgm, rfl, HRM, HLA, HLE, HRD, HC, HB, HO, H0⟩ := hrel
      have HEV : Hid (RdEnv B wr qb rb s a') := Lib.hid (H.out.chg HC.out hqt hBt HRD.out HLE.out)
      by_cases hlt : m < k
      · have i1 : (m : Int) < k := by omega
        obtain ⟨g', rfl⟩ : ∃ g', gk = g' + 1 := ⟨gk - 1, by omega⟩
        have c3 : (wr.alloc (.cells #[.string ⟨#[]⟩] 9)).cell? ⟨gb, 0, none⟩ = some (.func (.func gf) #[] gc) := block_cell (block_alloc ((HC.out.block gb hgs hgr.1 hgr.2).trans H3.out) _) 0
        obtain ⟨xb, hxb⟩ : ∃ xb, wr.heap.size = xb := ⟨_, rfl⟩
        have hxw : w.heap.size ≤ xb := by rw [← hxb]; exact HC.out.size
        obtain ⟨wa, hwa⟩ : ∃ wa, wr.alloc (.cells #[.string ⟨#[]⟩] 9) = wa := ⟨_, rfl⟩
        have HA : Hid (Below wr.heap.size wr wa) := Lib.hid (by rw [← hwa]; exact balloc (Below.refl _ _) _)
        have HXB : Hid (wa.heap[xb]? = some (.cells #[.string ⟨#[]⟩] 9 (0, 0))) := Lib.hid (by rw [← hwa, ← hxb]; exact heap_alloc_new _ _)
        rw [hwa] at c3
        have HEA : Hid (RdEnv B wa qb rb s a') := Lib.hid (HEV.out.below HA.out)
        go_upto_region 3 with fail
        try rw [hwa]
        try simp only [hxb]
        clear hwa
        go_wp2_with fail
        refine (HG.out wa xb a' (HC.out.next HA.out) hxw HXB.out HEA.out).mono ?_
        intro e w3 hh
        cases hr3 : rd a' with
        | error f =>
          rw [hr3] at hh
          obtain ⟨fb, rfl, hf, hc⟩ := elIs_err hh
          have HF := Lib.hid hf
          have HC3 : Hid (Chg rb tb w w3) := Lib.hid ((HC.out.next HA.out).inner hc hxw)
          have HTH : Hid (ThAt tb T n w3) := Lib.hid ⟨_, (((Chg.of_below HA.out).trans hc).block tb (Nat.lt_of_lt_of_le hts HC.out.size) htr (by omega)).trans HB.out, by rw [Array.size_setIfInBounds]; exact HCN.out⟩
          have HE : Hid (rmany rd k a0 [] = .error f) := Lib.hid (HRM.out.trans (rmany_succ_err hr3))
          clear hh hf hc hr3 c3
          go_wp2
          refine ⟨rfl, ?_⟩
          rw [gmany_err HR.out HE.out]
          exact ⟨HC3.out, fb, rfl, HF.out, HTH.out⟩
        | ok y =>
          rw [hr3] at hh
          obtain ⟨rfl, hc, hrd3, hle3, cx, hx3, rfl⟩ := elIs_ok hh
          have hcw : Chg rb xb wr w3 := (Chg.of_below HA.out).trans hc
          have HC3 : Hid (Chg rb tb w w3) := Lib.hid ((HC.out.next HA.out).inner hc hxw)
          have HRM3 : Hid (rmany rd k a0 [] = rmany rd g' y.2 (acc ++ [y.1])) := Lib.hid (HRM.out.trans (rmany_succ_ok hr3))
          have HRD3 := Lib.hid hrd3
          have HLE3 := Lib.hid hle3
          have HX3 := Lib.hid hx3
          have hxs : xb < w3.heap.size := lt_of_block hx3
          have htw : tb < wr.heap.size := Nat.lt_of_lt_of_le hts HC.out.size
          have HB3 : Hid (w3.heap[tb]? = some (.cells (cs.setIfInBounds o v) T (0, 0))) := Lib.hid ((hcw.block tb htw htr (by omega)).trans HB.out)
          have HO3 : Hid (w3.ownsRow w.heap.size 9 1 v m (acc.map Value.string)) := Lib.hid (own_chg HO.out hcw hrs (by omega))
          have cl : w3.cell? ⟨bx, 0, none⟩ = some (.pointer (some ⟨tb, o, none⟩)) := block_cell ((HC3.out.block bx hbs hbr.1 hbr.2).trans H1.out) 0
          have ct : w3.cell? ⟨tb, o, none⟩ = some v := by rw [block_cell HB3.out, Array.getElem?_setIfInBounds_self_of_lt ho']
          have cx1 : w3.cell? ⟨xb, 0, none⟩ = some (.string y.1) := block_cell hx3 0
          have hne1 : some bx ≠ v.ownBlock := own_apart_lt HO3.out hbs
          have hne2 : some tb ≠ v.ownBlock := own_apart_lt HO3.out hts
          have hne3 : some xb ≠ v.ownBlock := own_apart_ge HO.out (by omega)
          have hrn : some rb ≠ v.ownBlock := own_apart_lt HO3.out hrs
          obtain ⟨i0, hi, hz0, hz1, hz2⟩ := info_parts info_str
          have hmk : m < 10240 := by omega
          have hws : w.heap.size ≤ w3.heap.size := HC3.out.size
          clear hh hc hcw hrd3 hle3 hx3 hr3 c3 HB HO HRM HRD HLE HXB HEA HEV
          go_upto_region 4 with fail
          refine wp_region_tail 8 6 (v.ownBlock) (phis [fun u _ => u = (.pointer (some ⟨tb, o, none⟩)), fun u _ => u = (.pointer (some ⟨tb, o, none⟩)), fun u _ => u = (.pointer (some ⟨tb, o, none⟩)), fun u _ => u = (v), fun u _ => u = (.string y.1), fun u w' => ∃ b, u = .slice (some ⟨b, 0, none⟩) 1 1 ∧ some b ≠ v.ownBlock ∧ w'.heap[b]? = some (.cells #[.string y.1] 9 (0, 0)), fun u w' => w'.ownsRow w.heap.size 9 1 u (m + 1) ((acc.map Value.string) ++ [.string y.1]), fun u _ => u = (.pointer (some ⟨tb, o, none⟩))]) rfl (by kernel_rfl) (by kernel_rfl) (mono_of ⟨mono_eq, mono_eq, mono_eq, mono_eq, mono_eq, ?m5, ?m6, mono_eq, trivial⟩) (steps_of 8 ⟨?s0, ?s1, ?s2, ?s3, ?s4, ?s5, ?s6, ?s7, trivial⟩) ?_
          case m5 =>
            exact ⟨fun u w1 w' h ⟨b, h1, hb, hb'⟩ => ⟨b, h1, hb, ext_block h hb'⟩, fun _ u w1 w' h ⟨b, h1, hb, hb'⟩ => ⟨b, h1, hb, extB_block h hb hb'⟩⟩
          case m6 =>
            exact ⟨fun u w1 w' h hu => own_below hu h, fun hn => absurd rfl hn⟩
          case s0 =>
            refine step_val (v := (.pointer (some ⟨tb, o, none⟩))) (fun av wv hE hS hO hD => ?_) (fun _ => rfl)
            have h3 : av.eval (.tmp 3) = (.pointer (some ⟨bx, 0, none⟩)) := hO.2.2 3 rfl
            have f3 := (ev_form av 3).symm.trans h3
            have cl := extB_cell hE hne1 cl
            have ct := extB_cell hE hne2 ct
            have cx1 := extB_cell hE hne3 cx1
            refine ⟨rfl, ?_⟩
            simp [go_sem, f3, cl, ct, cx1]
          case s1 =>
            refine step_val (v := (.pointer (some ⟨tb, o, none⟩))) (fun av wv hE hS hO hD => ?_) (fun _ => rfl)
            have h3 : av.eval (.tmp 3) = (.pointer (some ⟨bx, 0, none⟩)) := hO.2.2 3 rfl
            have f3 := (ev_form av 3).symm.trans h3
            have cl := extB_cell hE hne1 cl
            have ct := extB_cell hE hne2 ct
            have cx1 := extB_cell hE hne3 cx1
            refine ⟨rfl, ?_⟩
            simp [go_sem, f3, cl, ct, cx1]
          case s2 =>
            refine step_val (v := (.pointer (some ⟨tb, o, none⟩))) (fun av wv hE hS hO hD => ?_) (fun _ => rfl)
            have d15 : av.eval (.tmp 15) = (.pointer (some ⟨tb, o, none⟩)) := hD.1 rfl _ rfl
            have f15 := (ev_form av 15).symm.trans d15
            refine ⟨rfl, ?_⟩
            simp [go_sem, f15]
          case s3 =>
            refine step_val (v := (v)) (fun av wv hE hS hO hD => ?_) (fun _ => rfl)
            have d16 : av.eval (.tmp 16) = (.pointer (some ⟨tb, o, none⟩)) := hD.1 rfl _ rfl
            have f16 := (ev_form av 16).symm.trans d16
            have cl := extB_cell hE hne1 cl
            have ct := extB_cell hE hne2 ct
            have cx1 := extB_cell hE hne3 cx1
            refine ⟨rfl, ?_⟩
            simp [go_sem, f16, cl, ct, cx1]
          case s4 =>
            refine step_val (v := (.string y.1)) (fun av wv hE hS hO hD => ?_) (fun _ => rfl)
            have h5 : av.eval (.tmp 5) = (.pointer (some ⟨xb, 0, none⟩)) := hO.2.2 5 rfl
            have f5 := (ev_form av 5).symm.trans h5
            have cl := extB_cell hE hne1 cl
            have ct := extB_cell hE hne2 ct
            have cx1 := extB_cell hE hne3 cx1
            refine ⟨rfl, ?_⟩
            simp [go_sem, f5, cl, ct, cx1]
          case s5 =>
            refine step_wp (fun av wv hE hS hO hD => ?_)
            have d18 : av.eval (.tmp 18) = (.string y.1) := hD.1 rfl _ rfl
            have f18 := (ev_form av 18).symm.trans d18
            refine ⟨rfl, ?_⟩
            refine wp_of_run (v := .slice (some ⟨wv.heap.size, 0, none⟩) 1 1) (w' := wv.alloc (.cells #[.string y.1] 9)) (by simp [go_sem, f18]) ⟨_, rfl, es_of_ext (balloc (Ext_refl _) _), wv.heap.size, rfl, ?_, heap_alloc_new _ _⟩
            exact own_apart_ge HO3.out (by have := hE.size; simp at this; omega)
          case s6 =>
            refine step_wp (fun av wv hE hS hO hD => ?_)
            have d17 : av.eval (.tmp 17) = (v) := hD.1 rfl _ rfl
            have f17 := (ev_form av 17).symm.trans d17
            have d19 : (fun u w' => ∃ b, u = .slice (some ⟨b, 0, none⟩) 1 1 ∧ some b ≠ v.ownBlock ∧ w'.heap[b]? = some (.cells #[.string y.1] 9 (0, 0))) (av.eval (.tmp 19)) wv := hD.2.1 rfl _ rfl
            refine ⟨rfl, ?_⟩
            obtain ⟨b19, h19, hb19, hc19⟩ := d19
            have hown1 : wv.ownsRow w.heap.size 9 1 v m (acc.map Value.string) := own_below (w := w3.drew) HO3.out (hS rfl)
            refine wp_append_lies wv _ _ _ rfl w.heap.size 9 i0 (.string ⟨#[]⟩) 1 16 Tryz.underlying26 hi hz0 hz1 hz2 rfl (by decide) v m _ d17 hown1 ⟨b19, 0, none⟩ 1 1 [.string y.1] (by exact h19) rfl (World.news_of_block hc19) (by intro u hu; simp at hu; rcases hu with rfl <;> rfl) (by decide) (by unfold maxLen; omega) (by omega) (by have := hE.size; simp at this; omega) _ rfl ?_
            intro g2 cap2 w2 hown2 hgrow hat hlt2
            exact ⟨_, rfl, es_sp hgrow, hown2⟩
          case s7 =>
            refine step_val (v := (.pointer (some ⟨tb, o, none⟩))) (fun av wv hE hS hO hD => ?_) (fun _ => rfl)
            have d14 : av.eval (.tmp 14) = (.pointer (some ⟨tb, o, none⟩)) := hD.1 rfl _ rfl
            have f14 := (ev_form av 14).symm.trans d14
            refine ⟨rfl, ?_⟩
            simp [go_sem, f14]
          intro a' w' hE hO hall
          have hA := act_of_outer (ds := [14, 15, 16, 17, 18, 19, 20, 21]) rfl hO (by kernel_rfl)
          have e14 : (fun u _ => u = (.pointer (some ⟨tb, o, none⟩))) (a'.eval (.tmp 14)) w' := hall.1 _ rfl
          have e15 : (fun u _ => u = (.pointer (some ⟨tb, o, none⟩))) (a'.eval (.tmp 15)) w' := hall.2.1 _ rfl
          have e16 : (fun u _ => u = (.pointer (some ⟨tb, o, none⟩))) (a'.eval (.tmp 16)) w' := hall.2.2.1 _ rfl
          have e17 : (fun u _ => u = (v)) (a'.eval (.tmp 17)) w' := hall.2.2.2.1 _ rfl
          have e18 : (fun u _ => u = (.string y.1)) (a'.eval (.tmp 18)) w' := hall.2.2.2.2.1 _ rfl
          have e19 : (fun u w' => ∃ b, u = .slice (some ⟨b, 0, none⟩) 1 1 ∧ some b ≠ v.ownBlock ∧ w'.heap[b]? = some (.cells #[.string y.1] 9 (0, 0))) (a'.eval (.tmp 19)) w' := hall.2.2.2.2.2.1 _ rfl
          have e20 : (fun u w' => w'.ownsRow w.heap.size 9 1 u (m + 1) ((acc.map Value.string) ++ [.string y.1])) (a'.eval (.tmp 20)) w' := hall.2.2.2.2.2.2.1 _ rfl
          have e21 : (fun u _ => u = (.pointer (some ⟨tb, o, none⟩))) (a'.eval (.tmp 21)) w' := hall.2.2.2.2.2.2.2.1 _ rfl
          obtain ⟨v19, hv19⟩ : ∃ v, a'.eval (.tmp 19) = v := ⟨_, rfl⟩
          rw [hv19] at e19
          obtain ⟨v20, hv20⟩ : ∃ v, a'.eval (.tmp 20) = v := ⟨_, rfl⟩
          rw [hv20] at e20
          simp only [List.foldl_cons, List.foldl_nil, Act.put, List.setIfInBounds_toArray, List.set_cons_succ, List.set_cons_zero, e14, e15, e16, e17, e18, hv19, hv20, e21] at hA
          clear hO hall e14 e15 e16 e17 e18 hv19 hv20 e21
          subst hA
          obtain ⟨g2, cap2, rfl, hg1, hg2⟩ := e20.form (by omega)
          have hB4 : w'.heap[tb]? = some (.cells (cs.setIfInBounds o v) T (0, 0)) := extB_block (of_drewE hE) hne2 HB3.out
          have hf4 : w'.frozen? ⟨tb, o, none⟩ = false := block_free hB4 o
          have q4 : w'.cell? ⟨tb, o, none⟩ = some v := by rw [block_cell hB4, Array.getElem?_setIfInBounds_self_of_lt ho']
          have HO4 := Lib.hid e20
          have HB4 := Lib.hid hB4
          have HC4 : Hid (Chg rb tb w w') := Lib.hid ⟨(of_drewE hE).os.trans HC3.out.os, (of_drewE hE).tape.trans HC3.out.tape, (of_drewE hE).output.trans HC3.out.output, Nat.le_trans HC3.out.size (of_drewE hE).size, fun i hi h1 h2 => ((of_drewE hE).block i (Nat.lt_of_lt_of_le hi HC3.out.size) (own_apart_lt HO3.out hi)).trans (HC3.out.block i hi h1 h2)⟩
          have HRD4 : Hid (RdB w' rb s y.2 10240) := Lib.hid (extB_block (of_drewE hE) hrn HRD3.out)
          clear e20 hB4 hE e19 cl ct hi hz0 hz1 hz2 hne1 hne2 hne3 hrn
          go_wp2
          have hsz : ∀ u, (cs.setIfInBounds o v).setIfInBounds o u = cs.setIfInBounds o u := fun u => Array.setIfInBounds_setIfInBounds ..
          go_roundg g'
          case rel =>
            exact ⟨m + 1, acc ++ [y.1], y.2, _, by omega, by go_num, HRM3.out, Lib.hid (by have := HLA.out; simp only [len, List.length_append, List.length_singleton] at this ⊢; omega), HLE3.out, block_setCell_ne HRD4.out (by exact fun e => htr e.symm) _, HC4.out.set o _, Lib.hid (by rw [← hsz]; exact block_setCell HB4.out _), own_set HO4.out hts (by simp), fun h0 => by omega⟩
          case measure => omega
      · obtain rfl : m = k := by omega
        have i1 : ¬ ((m : Nat) : Int) < m := by omega
        obtain rfl : gk = 0 := by omega
        go_wp2
        go_end0
        refine ⟨HC.out, ?_⟩
        rw [gmany_ok HR.out (HRM.out.trans (rmany.eq_1 ..))]
        exact ⟨rfl, HRD.out, HLE.out, RecAt.put HCS.out HX.out ho HC.out HB.out (own_tx HO.out hrs hts H0.out)⟩
end Go.Proofs.YtihiaopilnjonaaGreatDoor
namespace Go.Proofs.YtihiaopilnjonaaGreatDoor
set_option linter.unusedSimpArgs false
set_option linter.unusedVariables false
open Go.RowKit Go.ChangeMaps
theorem ba_beq (a b : ByteArray) : (a == b) = decide (a = b) := by
  show ByteArray.instBEq.beq a b = _
  obtain ⟨x⟩ := a
  obtain ⟨y⟩ := b
  have h : ByteArray.instBEq.beq (⟨x⟩ : ByteArray) ⟨y⟩ = (x == y) := rfl
  rw [h]
  by_cases e : x = y
  · subst e; simp
  · have : (x == y) = false := by simpa using e
    rw [this]; symm; rw [decide_eq_false_iff_not]; intro h2; cases h2; exact e rfl
instance : LawfulBEq ByteArray where
  rfl := by intro a; rw [ba_beq]; exact decide_eq_true rfl
  eq_of_beq := by intro a b h; rw [ba_beq] at h; exact of_decide_eq_true h
def sents : Nat → List (ByteArray × Value) → List MapEntry
  | _, [] => []
  | n, p :: r => ⟨.string p.1, p.2, n⟩ :: sents (n + 1) r
def smObj (l : List (ByteArray × Value)) : Obj := .map (sents 0 l).toArray l.length
def smGet (l : List (ByteArray × Value)) (k : ByteArray) : Option Value := (l.find? (fun p => p.1 == k)).map (·.2)
def smPut : List (ByteArray × Value) → ByteArray → Value → List (ByteArray × Value)
  | [], k, v => [(k, v)]
  | p :: r, k, v => if p.1 = k then (k, v) :: r else p :: smPut r k v
theorem sents_get : ∀ (n : Nat) (l : List (ByteArray × Value)) (i : Nat) (h : i < l.length), (sents n l)[i]? = some ⟨.string l[i].1, l[i].2, n + i⟩
  | n, p :: r, 0, _ => rfl
  | n, p :: r, i + 1, h => by
    simp only [sents, List.getElem?_cons_succ, List.getElem_cons_succ]
    rw [sents_get (n + 1) r i (by simpa using h)]
    congr 2; omega
theorem sents_snoc (k : ByteArray) (v : Value) : ∀ (n : Nat) (l : List (ByteArray × Value)), sents n (l ++ [(k, v)]) = sents n l ++ [⟨.string k, v, n + l.length⟩]
  | n, [] => rfl
  | n, p :: r => by
    simp only [List.cons_append, sents, sents_snoc k v (n + 1) r, List.length_cons]
    congr 4; omega
theorem sfindNow_ents (k : ByteArray) : ∀ (n m : Nat) (l : List (ByteArray × Value)),
    Instr.findNow .string (.string k) (sents n l) m = some (((l.zipIdx m).find? (fun p => p.1.1 == k)).map (fun p => (p.2, p.1.2)))
  | _, _, [] => rfl
  | n, m, p :: r => by
    simp only [sents, Instr.findNow, Instr.sameNow, if_true, List.zipIdx_cons, List.find?_cons]
    by_cases h : p.1 = k
    · subst h; simp
    · have h1 : (k == p.1) = false := by simpa using fun e => h e.symm
      have h2 : (p.1 == k) = false := by simpa using h
      simp only [h1, h2, sfindNow_ents k (n + 1) (m + 1) r]
theorem szip_find_val (k : ByteArray) : ∀ (m : Nat) (l : List (ByteArray × Value)), (((l.zipIdx m).find? (fun p => p.1.1 == k)).map (fun p => p.1.2)) = smGet l k
  | _, [] => rfl
  | m, p :: r => by
    simp only [smGet, List.zipIdx_cons, List.find?_cons]
    by_cases h : (p.1 == k) = true
    · simp [h]
    · simp only [Bool.not_eq_true] at h
      simp only [h]
      exact szip_find_val k (m + 1) r
theorem szip_find_none (k : ByteArray) (v : Value) : ∀ (m : Nat) (l : List (ByteArray × Value)), (l.zipIdx m).find? (fun p => p.1.1 == k) = none → smPut l k v = l ++ [(k, v)]
  | _, [], _ => rfl
  | m, p :: r, h => by
    simp only [List.zipIdx_cons, List.find?_cons] at h
    by_cases h1 : (p.1 == k) = true
    · simp [h1] at h
    · simp only [Bool.not_eq_true] at h1
      simp only [h1] at h
      have h2 : ¬ p.1 = k := by simpa using h1
      simp only [smPut, h2, if_false, List.cons_append, szip_find_none k v (m + 1) r h]
theorem szip_find_some (k : ByteArray) (v : Value) : ∀ (n m : Nat) (l : List (ByteArray × Value)) (i : Nat) (x : Value),
    ((l.zipIdx m).find? (fun p => p.1.1 == k)).map (fun p => (p.2, p.1.2)) = some (i, x) →
    m ≤ i ∧ ∃ h : i - m < l.length, l[i - m].1 = k ∧ (sents n l).modify (i - m) (fun e => { e with key := .string k, val := v }) = sents n (smPut l k v) ∧ (smPut l k v).length = l.length
  | n, m, p :: r, i, x, h => by
    simp only [List.zipIdx_cons, List.find?_cons] at h
    by_cases h1 : (p.1 == k) = true
    · simp only [h1] at h
      simp at h
      obtain ⟨rfl, rfl⟩ := h
      have h2 : p.1 = k := by simpa using h1
      refine ⟨Nat.le_refl _, by simp, by simpa using h2, ?_, ?_⟩
      · simp [sents, smPut, h2]
      · simp [smPut, h2]
    · simp only [Bool.not_eq_true] at h1
      simp only [h1] at h
      have h2 : ¬ p.1 = k := by simpa using h1
      obtain ⟨a, b, c, d, e⟩ := szip_find_some k v (n + 1) (m + 1) r i x h
      have e1 : i - m = (i - (m + 1)) + 1 := by omega
      refine ⟨by omega, by simp; omega, ?_, ?_, ?_⟩
      · simp only [e1, List.getElem_cons_succ]; exact c
      · simp only [e1, sents, smPut, h2, if_false, List.modify_succ_cons, d]
      · simp only [smPut, h2, if_false, List.length_cons, e]
section
open Go.MapKept
variable {P : Program} {K E t : TypeId} {w : World} {b : Nat} {l : List (ByteArray × Value)}
theorem sisKey_int (k : ByteArray) : IsKey .string (.string k) := by simp [IsKey]
theorem srun_lookup_m (ht : P.underlying t = some (.map K E)) (hK : P.underlying K = some .string) {z : Value} (hz : (zeroValue E).run P w = .ok z w) (hb : w.heap[b]? = some (smObj l)) (k : ByteArray) :
    (Instr.lookup t (.map (some b)) (.string k) false).run P w = .ok ((smGet l k).getD z) w := by
  unfold smObj at hb
  rw [← szip_find_val k 0 l]
  simp only [Instr.lookup, run_underlying ht, MapKept.run_getObj_map hb, MapKept.run_checkKey hK (sisKey_int k), MapKept.run_findKey hK (sfindNow_ents k 0 0 l), Result.andThen, Sem.run_bind, Sem.run_pure]
  cases h : (l.zipIdx 0).find? (fun p => p.1.1 == k) <;> simp [hz, Result.andThen]
theorem srun_mapUpdate_m (ht : P.underlying t = some (.map K E)) (hK : P.underlying K = some .string) (hb : w.heap[b]? = some (smObj l)) (k : ByteArray) (v : Value) :
    (Instr.mapUpdate t (.map (some b)) (.string k) v).run P w = .ok () (setBlock w b (smObj (smPut l k v))) := by
  have hb0 := hb
  unfold smObj at hb
  cases h : (l.zipIdx 0).find? (fun p => p.1.1 == k) with
  | none =>
    simp only [Instr.mapUpdate, run_underlying ht, MapKept.run_getObj_map hb, MapKept.run_checkKey hK (sisKey_int k), MapKept.run_findKey hK (sfindNow_ents k 0 0 l), h, Result.andThen, Sem.run_bind, Sem.run_pure, Option.map_none, MapKept.run_setObj_map _ hb]
    rw [szip_find_none k v 0 l h]
    unfold smObj setBlock
    rw [sents_snoc, Nat.zero_add]
    simp
  | some p =>
    obtain ⟨_, h1, h2, h3, h4⟩ := szip_find_some k v 0 0 l p.2 p.1.2 (by rw [h]; rfl)
    have h5 : (((sents 0 l).toArray[p.2]?).map (·.key)).getD (.string k) = .string k := by
      have := sents_get 0 l p.2 (by simpa using h1)
      simp only [List.getElem?_toArray, this, Option.map_some, Option.getD_some]
      have h2' : l[p.2].1 = k := h2
      rw [h2']
    simp only [Instr.mapUpdate, run_underlying ht, MapKept.run_getObj_map hb, MapKept.run_checkKey hK (sisKey_int k), MapKept.run_findKey hK (sfindNow_ents k 0 0 l), h, Result.andThen, Sem.run_bind, Sem.run_pure, Option.map_some, MapKept.run_setObj_map _ hb, h5, MapKept.run_keyThatStays (sisKey_int k)]
    unfold smObj setBlock
    rw [h4, ← h3]
    simp
section
variable {ops : Array Oper} {rest : List Oper} {o : Oper} {a : Act} {Q : Exit → Act → World → Prop}
theorem swpList_mapUpdate_m (hg : o.guard = none) (m x v : Operand) (t K E : TypeId) (hop : o.op = Op.mapUpdate t m x v) (ht : P.underlying t = some (.map K E)) (hK : P.underlying K = some .string)
    (b : Nat) (l : List (ByteArray × Value)) (hm : a.eval m = .map (some b)) (hb : w.heap[b]? = some (smObj l)) (k : ByteArray) (val : Value) (hx : a.eval x = .string k) (hv : a.eval v = val)
    (hN : wpList P ops Q rest (a.put o.dst undef) (setBlock w b (smObj (smPut l k val)))) : wpList P ops Q (o :: rest) a w := by
  refine wpList_plain hg fun K' hK' => ?_
  unfold Oper.wp
  simp [execOp, hop, hm, hx, hv, srun_mapUpdate_m ht hK hb, Result.andThen]
  exact hK' _ _ hN
end
end
end Go.Proofs.YtihiaopilnjonaaGreatDoor
namespace Go.Proofs.YtihiaopilnjonaaGreatDoor
open Go.RowKit Go.ChangeMaps Go.MapKept
set_option linter.unusedSimpArgs false
set_option linter.unusedVariables false
theorem smGet_cons (p : ByteArray × Value) (l : List (ByteArray × Value)) (k : ByteArray) : smGet (p :: l) k = if p.1 = k then some p.2 else smGet l k := by
  unfold smGet
  rw [List.find?_cons]
  by_cases h : p.1 = k
  · simp [h]
  · have : (p.1 == k) = false := by simpa using h
    simp [h, this]
theorem smGet_smPut (l : List (ByteArray × Value)) (k j : ByteArray) (v : Value) : smGet (smPut l k v) j = if k = j then some v else smGet l j := by
  induction l with
  | nil => rw [smPut, smGet_cons]
  | cons p r ih =>
    unfold smPut
    by_cases h : p.1 = k
    · rw [if_pos h, smGet_cons, smGet_cons]
      by_cases h2 : k = j
      · simp [h2]
      · have : ¬ p.1 = j := fun e => h2 (h.symm.trans e)
        simp [h2, this]
    · rw [if_neg h, smGet_cons, smGet_cons, ih]
      by_cases h2 : k = j
      · have : ¬ p.1 = j := fun e => h (e.trans h2.symm)
        simp [h2, this]
      · simp [h2]
def KeysOk (gs : List GSpec) : Prop := ∀ i j, i < gs.length → j < gs.length → (gth gs i).key = (gth gs j).key → i = j
def Disj (gs : List GSpec) : Prop := ∀ i j, i < gs.length → j < gs.length → i ≠ j → ∀ o, o ∈ (gth gs i).offs → o ∉ (gth gs j).offs
def SeenIs (gs : List GSpec) (L : List (ByteArray × Value)) (seen : List Nat) : Prop := ∀ i, i < gs.length → smGet L (gth gs i).key = if i ∈ seen then some (.int .i64 1) else none
theorem SeenIs.put {gs : List GSpec} {L : List (ByteArray × Value)} {seen : List Nat} (h : SeenIs gs L seen) (hk : KeysOk gs) {j : Nat} (hj : j < gs.length) : SeenIs gs (smPut L (gth gs j).key (.int .i64 1)) (j :: seen) := fun i hi => by
  rw [smGet_smPut]
  by_cases e : (gth gs j).key = (gth gs i).key
  · have := hk j i hj hi e
    subst this
    rw [if_pos rfl, if_pos (List.mem_cons_self ..)]
  · rw [if_neg e, h i hi]
    have : i ≠ j := fun e2 => e (by rw [e2])
    by_cases hm : i ∈ seen
    · rw [if_pos hm, if_pos (List.mem_cons_of_mem _ hm)]
    · rw [if_neg hm, if_neg (by simp [this, hm])]
theorem Flds.chg {rb tb : Nat} {w w' : World} {b off : Nat} {l : List FVal} (h : Flds w (some ⟨b, off, none⟩) l) (hc : Chg rb tb w w') (h1 : b ≠ rb) (h2 : b ≠ tb) : Flds w' (some ⟨b, off, none⟩) l := fun i hi => by
  obtain ⟨b', off', e, h3⟩ := h i hi
  cases e
  have hb := hc.block b (lt_of_cell h3.c0) h1 h2
  have e : ∀ q, w'.cell? ⟨b, q, none⟩ = w.cell? ⟨b, q, none⟩ := fun q => World.cell?_of_block (w := w) hb
  obtain ⟨c0, c1, c2, c3, c4, c5⟩ := h3
  exact ⟨b, off, rfl, by constructor <;> (rw [e]; assumption)⟩
theorem Chg.setBlock {rb tb : Nat} {a b : World} (h : Chg rb tb a b) {k : Nat} (hk : a.heap.size ≤ k) (x : Obj) : Chg rb tb a (setBlock b k x) :=
  ⟨h.os, h.tape, h.output, by show a.heap.size ≤ (b.heap.setIfInBounds k x).size; rw [Array.size_setIfInBounds]; exact h.size, fun i hi h1 h2 => by
    show (b.heap.setIfInBounds k x)[i]? = _
    rw [Array.getElem?_setIfInBounds_ne (by omega)]; exact h.block i hi h1 h2⟩
set_option maxRecDepth 100000 in
theorem says_key (kb : Nat) (k : ByteArray) (w : World) (l : List FVal) (h : w.heap[kb]? = some (.cells #[.string k] 9 (0, 0))) : SaysF w l 203 #[.pointer (some ⟨kb, 0, none⟩)] (fun i => (fth l i).key.toList == k.toList) := by
  refine ⟨enters_of Tryz.func203 (by kernel_rfl) rfl, fun i hi w' hb => ?_⟩
  have c0 : w'.cell? ⟨kb, 0, none⟩ = some (.string k) := block_cell ((hb.block _ (lt_of_block h)).trans h) 0
  clear h
  show Calls Tryz.prog _ _ _ (fun e w'' => e = .returned (.bool ((fth l i).key.toList == k.toList)) ∧ Below w'.heap.size w' w'')
  generalize fth l i = v
  show Calls Tryz.prog 203 #[v.val, .pointer (some ⟨kb, 0, none⟩)] w' (fun e w'' => e = .returned (.bool (v.key.toList == k.toList)) ∧ Below w'.heap.size w' w'')
  unfold FVal.val
  have hz : kb < w'.heap.size := lt_of_cell c0
  go_enter Tryz.func203, Tryz.ntmps203
  go_upto_region 1 with fail
  obtain ⟨vb, hvb⟩ : ∃ vb, w'.heap.size = vb := ⟨_, rfl⟩
  obtain ⟨V, hV⟩ : ∃ V, w'.alloc (.cells #[.string v.key, .bool v.must, .func (.func v.ef) #[] v.ec, .func (.func v.mf) #[] v.mc, .func (.func v.pf) #[] v.pc, .func (.func v.gf) #[] v.gc] 172) = V := ⟨_, rfl⟩
  have HBV : Hid (Below w'.heap.size w' V) := Lib.hid (by rw [← hV]; exact balloc (Below.refl _ _) _)
  have hbk : V.heap[vb]? = some (.cells #[.string v.key, .bool v.must, .func (.func v.ef) #[] v.ec, .func (.func v.mf) #[] v.mc, .func (.func v.pf) #[] v.pc, .func (.func v.gf) #[] v.gc] 172 (0, 0)) := by rw [← hV, ← hvb]; exact heap_alloc_new _ _
  have d0 : V.cell? ⟨kb, 0, none⟩ = some (.string k) := by rw [World.cell?_of_block (w := w') (HBV.out.block kb hz)]; exact c0
  have d1 : V.cell? ⟨vb, 0, none⟩ = some (.string v.key) := block_cell hbk 0
  try rw [hV]
  try simp only [hvb]
  clear hV c0 hbk hb
  go_wp2
  go_ret
  exact ⟨rfl, HBV.out⟩
set_option maxRecDepth 100000 in
theorem says_seen (sb mb : Nat) (L : List (ByteArray × Value)) (w : World) (l : List FVal) (hL : ∀ i, i < len l → smGet L (fth l i).key = none ∨ smGet L (fth l i).key = some (.int .i64 1)) (h1 : w.heap[sb]? = some (.cells #[.map (some mb)] 276 (0, 0))) (h2 : w.heap[mb]? = some (smObj L)) : SaysF w l 205 #[.pointer (some ⟨sb, 0, none⟩)] (fun i => (fth l i).must && (smGet L (fth l i).key).isNone) := by
  refine ⟨enters_of Tryz.func205 (by kernel_rfl) rfl, fun i hi w' hb => ?_⟩
  have c0 : w'.cell? ⟨sb, 0, none⟩ = some (.map (some mb)) := block_cell ((hb.block _ (lt_of_block h1)).trans h1) 0
  have c1 := (hb.block _ (lt_of_block h2)).trans h2
  clear h1 h2
  have hLi := hL i hi
  show Calls Tryz.prog _ _ _ (fun e w'' => e = .returned (.bool ((fth l i).must && (smGet L (fth l i).key).isNone)) ∧ Below w'.heap.size w' w'')
  generalize fth l i = v at hLi
  show Calls Tryz.prog 205 #[v.val, .pointer (some ⟨sb, 0, none⟩)] w' (fun e w'' => e = .returned (.bool (v.must && (smGet L v.key).isNone)) ∧ Below w'.heap.size w' w'')
  unfold FVal.val
  have hrun := fun (W : World) (hW : W.heap[mb]? = some (smObj L)) => srun_lookup_m (P := Tryz.prog) (t := 276) (K := 9) (E := 3) Tryz.underlying276 Tryz.underlying9 (Tryz.zeroValue3 W) hW v.key
  have hz : sb < w'.heap.size := lt_of_cell c0
  have hz2 : mb < w'.heap.size := lt_of_block c1
  go_enter Tryz.func205, Tryz.ntmps205
  go_upto_region 1 with fail
  obtain ⟨vb, hvb⟩ : ∃ vb, w'.heap.size = vb := ⟨_, rfl⟩
  obtain ⟨V, hV⟩ : ∃ V, w'.alloc (.cells #[.string v.key, .bool v.must, .func (.func v.ef) #[] v.ec, .func (.func v.mf) #[] v.mc, .func (.func v.pf) #[] v.pc, .func (.func v.gf) #[] v.gc] 172) = V := ⟨_, rfl⟩
  have HBV : Hid (Below w'.heap.size w' V) := Lib.hid (by rw [← hV]; exact balloc (Below.refl _ _) _)
  have hbk : V.heap[vb]? = some (.cells #[.string v.key, .bool v.must, .func (.func v.ef) #[] v.ec, .func (.func v.mf) #[] v.mc, .func (.func v.pf) #[] v.pc, .func (.func v.gf) #[] v.gc] 172 (0, 0)) := by rw [← hV, ← hvb]; exact heap_alloc_new _ _
  have d0 : V.cell? ⟨sb, 0, none⟩ = some (.map (some mb)) := by rw [World.cell?_of_block (w := w') (HBV.out.block sb hz)]; exact c0
  have d1 : V.cell? ⟨vb, 0, none⟩ = some (.string v.key) := block_cell hbk 0
  have d2 : V.cell? ⟨vb, 1, none⟩ = some (.bool v.must) := block_cell hbk 1
  have hr := hrun V ((HBV.out.block mb hz2).trans c1)
  try rw [hV]
  try simp only [hvb]
  clear hV hrun c0 c1 hbk hb
  cases hm : v.must with
  | false =>
    rw [hm] at d2
    go_wp2
    go_ret
    exact ⟨ret_bool (by simp [hm]), HBV.out⟩
  | true =>
    rw [hm] at d2
    rcases hLi with hLi | hLi
    · rw [hLi] at hr
      have hr' : Sem.run Tryz.prog (Instr.lookup 276 (.map (some mb)) (.string v.key) false) V = .ok (.int .i64 0) V := hr
      have HL2 := Lib.hid hLi
      clear hr hLi hL
      go_wp2
      go_ret
      exact ⟨ret_bool (by rw [HL2.out]; simp [hm]), HBV.out⟩
    · rw [hLi] at hr
      have hr' : Sem.run Tryz.prog (Instr.lookup 276 (.map (some mb)) (.string v.key) false) V = .ok (.int .i64 1) V := hr
      have HL2 := Lib.hid hLi
      clear hr hLi hL
      go_wp2
      go_ret
      exact ⟨ret_bool (by rw [HL2.out]; simp [hm]), HBV.out⟩
end Go.Proofs.YtihiaopilnjonaaGreatDoor
namespace Go.Proofs.YtihiaopilnjonaaGreatDoor
open Go.RowKit Go.ChangeMaps Go.MapKept
set_option linter.unusedSimpArgs false
set_option linter.unusedVariables false
theorem objR_err4 {s : ByteArray} {gs : List GSpec} {x : Rcd} {a : Nat} {f : Flt} (h : tkR 4 s a = .error f) : objR s gs x a = .error f := by unfold objR; rw [h]
theorem objR_errL {s : ByteArray} {gs : List GSpec} {x : Rcd} {a : Nat} {f : Flt} {y : Int × ByteArray × Nat} (h : tkR 4 s a = .ok y) (h2 : objLoop s gs y.1.toNat 0 x [] y.2.2 = .error f) : objR s gs x a = .error f := by unfold objR; rw [h]; simp only [h2]
theorem objR_miss {s : ByteArray} {gs : List GSpec} {x : Rcd} {a : Nat} {y : Int × ByteArray × Nat} {z : Rcd × List Nat × Nat} (h : tkR 4 s a = .ok y) (h2 : objLoop s gs y.1.toNat 0 x [] y.2.2 = .ok z) (h3 : missing gs z.2.1 = true) : objR s gs x a = .error (5, 0) := by unfold objR; rw [h]; simp only [h2, h3, if_true]
theorem objR_ok {s : ByteArray} {gs : List GSpec} {x : Rcd} {a : Nat} {y : Int × ByteArray × Nat} {z : Rcd × List Nat × Nat} (h : tkR 4 s a = .ok y) (h2 : objLoop s gs y.1.toNat 0 x [] y.2.2 = .ok z) (h3 : missing gs z.2.1 = false) : objR s gs x a = .ok (z.1, z.2.2) := by unfold objR; rw [h]; simp only [h2, h3]; rfl
theorem missing_iff (gs : List GSpec) (seen : List Nat) : missing gs seen = true ↔ ∃ i, i < gs.length ∧ ((gth gs i).must && !seen.contains i) = true := by
  unfold missing
  rw [List.any_eq_true]
  simp only [List.mem_range]
def CKeep (w w' : World) : Prop := ∀ (b : Nat) (cs : Array Value) (T : TypeId) (fz : Nat × Nat), w.heap[b]? = some (.cells cs T fz) → w'.heap[b]? = w.heap[b]?
theorem cells_of_cell {w : World} {b o : Nat} {v : Value} (h : w.cell? ⟨b, o, none⟩ = some v) : ∃ (cs : Array Value) (T : TypeId) (fz : Nat × Nat), w.heap[b]? = some (.cells cs T fz) := by
  unfold World.cell? at h
  split at h
  · next cs T fz he => exact ⟨_, _, _, he⟩
  · cases h
theorem CKeep.cell {w w' : World} (hk : CKeep w w') {b o : Nat} {v : Value} (h : w.cell? ⟨b, o, none⟩ = some v) : w'.cell? ⟨b, o, none⟩ = some v := by
  obtain ⟨cs, T, fz, h2⟩ := cells_of_cell h
  rw [World.cell?_of_block (w := w) (hk _ _ _ _ h2)]; exact h
theorem CKeep.tx {w w' : World} (hk : CKeep w w') {a : Option Addr} {l : List ByteArray} (h : Tx w a l) : Tx w' a l := h.keep fun b off cs e h2 => hk _ _ _ _ h2
theorem CKeep.ux {w w' : World} (hk : CKeep w w') {a : Option Addr} {l : List Int} (h : Ux w a l) : Ux w' a l := h.keep fun b off cs e h2 => hk _ _ _ _ h2
theorem CKeep.rev {w w' : World} (hk : CKeep w w') {rb tb : Nat} {r : Rev} {d : RevD} (h : RevIs rb tb w r d) : RevIs rb tb w' r d :=
  ⟨h.pos, h.L, h.signed, h.idx, h.wn, hk.tx h.ws, h.wo, h.pn, hk.tx h.ps, h.po, h.root, h.wt, h.first, h.life, h.keys⟩
theorem CKeep.holds {w w' : World} (hk : CKeep w w') {rb tb : Nat} {v : Value} {d : DV} (h : HoldsD rb tb w v d) : HoldsD rb tb w' v d := by
  cases d with
  | num n => exact h
  | flag q => exact h
  | str s => exact h
  | strs l => obtain ⟨a, c, h1, h2, h3, h4⟩ := h; exact ⟨a, c, h1, h2, h3, hk.tx h4⟩
  | nums l => obtain ⟨a, c, h1, h2, h3, h4⟩ := h; exact ⟨a, c, h1, h2, h3, hk.ux h4⟩
  | revs l =>
    obtain ⟨a, c, h1, h2, h3, rs, h4, h5, h6⟩ := h
    refine ⟨a, c, h1, h2, h3, rs, h4, fun i hi => ?_, fun i hi => hk.rev (h6 i hi)⟩
    obtain ⟨b, off, e, ⟨c0, c1, c2, c3, c4, c5, c6, c7, c8, c9, c10⟩⟩ := h5 i hi
    exact ⟨b, off, e, ⟨hk.cell c0, hk.cell c1, hk.cell c2, hk.cell c3, hk.cell c4, hk.cell c5, hk.cell c6, hk.cell c7, hk.cell c8, hk.cell c9, hk.cell c10⟩⟩
theorem CKeep.rec {w w' : World} (hk : CKeep w w') {rb tb : Nat} {T : TypeId} {n : Nat} {x : Rcd} (h : RecAt rb tb T n w x) : RecAt rb tb T n w' x := by
  obtain ⟨cs, h1, h2, h3⟩ := h
  refine ⟨cs, (hk _ _ _ _ h1).trans h1, h2, fun i hi => ?_⟩
  obtain ⟨v, h4, h5⟩ := h3 i hi
  exact ⟨v, h4, hk.holds h5⟩
theorem toList_same {a b : ByteArray} (h : (a.toList == b.toList) = true) : a = b := by
  rw [ByteArray.toList_eq, ByteArray.toList_eq] at h
  exact ba_ext (by simpa using h)
theorem keyIdx_key {gs : List GSpec} {fn j : Nat} {k : ByteArray} (h : keyIdx gs fn k = some j) : (gth gs (fn + j)).key = k := by
  unfold keyIdx at h
  exact toList_same (List.find?_some (p := fun i => (gth gs (fn + i)).key.toList == k.toList) h)
theorem fth_drop (l : List FVal) (fn i : Nat) (h : fn + i < l.length) : fth (l.drop fn) i = fth l (fn + i) := by
  rw [fth_eq _ i (by simp; omega), fth_eq _ _ h, List.getElem_drop]
theorem gsems_key {B qb rb tb : Nat} {x0 : Rcd} {T : TypeId} {n : Nat} {s : ByteArray} {W0 : World} {l : List FVal} {gs : List GSpec} (h : GSems B qb rb tb x0 T n s W0 l gs) (fn i : Nat) (hi : fn + i < len l) : (fth (l.drop fn) i).key = (gth gs (fn + i)).key := by
  rw [fth_drop l fn i hi]; exact (h.2 _ hi).key
theorem keyIdx_no {B qb rb tb : Nat} {x0 : Rcd} {T : TypeId} {n : Nat} {s : ByteArray} {W0 : World} {l : List FVal} {gs : List GSpec} (h : GSems B qb rb tb x0 T n s W0 l gs) (fn : Nat) (k : ByteArray) (hh : ∀ i, i < len (l.drop fn) → ((fth (l.drop fn) i).key.toList == k.toList) = false) : keyIdx gs fn k = none := by
  have hl : gs.length = l.length := h.1
  have hd : len (l.drop fn) = l.length - fn := by simp [len]
  refine keyIdx_none fun i hi => ?_
  have := hh i (by omega)
  rw [gsems_key h fn i (show fn + i < l.length by omega)] at this
  exact this
theorem keyIdx_yes {B qb rb tb : Nat} {x0 : Rcd} {T : TypeId} {n : Nat} {s : ByteArray} {W0 : World} {l : List FVal} {gs : List GSpec} (h : GSems B qb rb tb x0 T n s W0 l gs) (fn j : Nat) (k : ByteArray) (hj : j < len (l.drop fn)) (hp : ((fth (l.drop fn) j).key.toList == k.toList) = true) (hh : ∀ i, i < j → ((fth (l.drop fn) i).key.toList == k.toList) = false) : keyIdx gs fn k = some j := by
  have hl : gs.length = l.length := h.1
  have hd : len (l.drop fn) = l.length - fn := by simp [len]
  refine keyIdx_some (by omega) ?_ fun i hi => ?_
  · rw [gsems_key h fn j (show fn + j < l.length by omega)] at hp; exact hp
  · have := hh i hi
    rw [gsems_key h fn i (show fn + i < l.length by omega)] at this
    exact this
theorem objLoop_no {s : ByteArray} {gs : List GSpec} {g fn a : Nat} {x : Rcd} {seen : List Nat} {z : Int × ByteArray × Nat} (h1 : tkR 2 s a = .ok z) (h2 : keyIdx gs fn z.2.1 = none) : objLoop s gs (g + 1) fn x seen a = .error (5, 0) := by
  rw [objLoop, h1]; simp only [h2]
theorem objLoop_err {s : ByteArray} {gs : List GSpec} {g fn a j : Nat} {x : Rcd} {seen : List Nat} {z : Int × ByteArray × Nat} {f : Flt} (h1 : tkR 2 s a = .ok z) (h2 : keyIdx gs fn z.2.1 = some j) (h3 : (gth gs (fn + j)).read x z.2.2 = .error f) : objLoop s gs (g + 1) fn x seen a = .error f := by
  rw [objLoop, h1]; simp only [h2, h3]
theorem objLoop_empty {s : ByteArray} {gs : List GSpec} {g fn a j : Nat} {x : Rcd} {seen : List Nat} {z : Int × ByteArray × Nat} {y : Rcd × Nat} (h1 : tkR 2 s a = .ok z) (h2 : keyIdx gs fn z.2.1 = some j) (h3 : (gth gs (fn + j)).read x z.2.2 = .ok y) (h4 : (gth gs (fn + j)).empty y.1 = true) : objLoop s gs (g + 1) fn x seen a = .error (5, 0) := by
  rw [objLoop, h1]; simp only [h2, h3, h4, if_true]
theorem objLoop_next {s : ByteArray} {gs : List GSpec} {g fn a j : Nat} {x : Rcd} {seen : List Nat} {z : Int × ByteArray × Nat} {y : Rcd × Nat} (h1 : tkR 2 s a = .ok z) (h2 : keyIdx gs fn z.2.1 = some j) (h3 : (gth gs (fn + j)).read x z.2.2 = .ok y) (h4 : (gth gs (fn + j)).empty y.1 = false) : objLoop s gs (g + 1) fn x seen a = objLoop s gs g (fn + j + 1) y.1 ((fn + j) :: seen) y.2 := by
  rw [objLoop, h1]; simp only [h2, h3, h4]; rfl
set_option maxRecDepth 100000 in
set_option maxHeartbeats 8000000 in
theorem robject_any (B qb rb tb b1 off c : Nat) (x0 : Rcd) (T : TypeId) (n : Nat) (s : ByteArray) (W0 w : World) (l : List FVal) (gs : List GSpec) (a : Nat) (x : Rcd)
    (hl : Flds w (some ⟨b1, off, none⟩) l) (hc : len l ≤ c) (hn : len l ≤ 1000) (hS : GSems B qb rb tb x0 T n s W0 l gs) (hk : Chg rb tb W0 w) (hb1 : b1 ≠ rb ∧ b1 ≠ tb) (hqt : qb ≠ tb) (hBt : B ≤ tb) (htr : tb ≠ rb)
    (hKeys : KeysOk gs) (hDis : Disj gs) (hFr : ∀ g ∈ gs, g.Frames) (hKi : ∀ g ∈ gs, g.Kinds x0) (hkd : Kd x0 x) (hx : RecAt rb tb T n w x) (h : RdEnv B w qb rb s a) (hfresh : ∀ i, i < gs.length → fresh x0 (gth gs i) x) :
    Calls Tryz.prog 123 #[.pointer (some ⟨qb, 0, none⟩), .slice (some ⟨b1, off, none⟩) (len l) c] w (GetIs (objR s gs x a) rb tb T n s w) := by
  have H := Lib.hid h
  have HX := Lib.hid hx
  have HL := Lib.hid hl
  have HS := Lib.hid hS
  have HK := Lib.hid hk
  have HKE := Lib.hid hKeys
  have HDI := Lib.hid hDis
  have HFR := Lib.hid hFr
  have HKI := Lib.hid hKi
  have HKX := Lib.hid hkd
  have HFS := Lib.hid hfresh
  have hqr := h.ne
  have c0 : w.cell? ⟨qb, 0, none⟩ = some (.pointer (some ⟨rb, 0, none⟩)) := block_cell h.q 0
  have hqs : qb < w.heap.size := lt_of_block h.q
  have hrs : rb < w.heap.size := lt_of_block h.r
  have hts : tb < w.heap.size := hx.lt
  clear hl hS hk hKeys hDis hFr hKi hkd hx h hfresh
  have hmm := @run_makeMap Tryz.prog
  go_enter Tryz.func123, Tryz.ntmps123
  go_upto_region 2 with fail
  obtain ⟨mb, hmb⟩ : ∃ mb, w.heap.size = mb := ⟨_, rfl⟩
  obtain ⟨V, hV⟩ : ∃ V, (w.alloc (.map #[] 0)).alloc (.cells #[.map (some mb)] 276) = V := ⟨_, rfl⟩
  have HV : Hid (Below w.heap.size w V) := Lib.hid (by rw [← hV]; exact balloc (balloc (Below.refl _ _) _) _)
  have HM : Hid (V.heap[mb]? = some (smObj [])) := Lib.hid (by rw [← hV, ← hmb]; exact block_alloc (heap_alloc_new _ _) _)
  have HSB : Hid (V.heap[mb + 1]? = some (.cells #[.map (some mb)] 276 (0, 0))) := Lib.hid (by rw [← hV]; exact alloc_new_at _ (by simp [hmb]))
  have d0 : V.cell? ⟨qb, 0, none⟩ = some (.pointer (some ⟨rb, 0, none⟩)) := by rw [World.cell?_of_block (w := w) (HV.out.block qb hqs)]; exact c0
  try simp only [hmb]
  try rw [hV]
  clear hV c0
  go_wp2_with fail
  refine (Map_tk V B qb rb s a (H.out.below HV.out)).mono ?_
  intro e w1 hh
  cases hr : tkR 4 s a with
  | error f =>
    rw [hr] at hh
    obtain ⟨fb, rfl, hf, hE, -⟩ := tkIs_err hh
    have HF := Lib.hid hf
    have HE := Lib.hid hE
    have HR : Hid (objR s gs x a = .error f) := Lib.hid (objR_err4 hr)
    clear hh hf hE hr
    go_wp2_with fail
    refine (wholei_no _ fb w1).mono ?_
    rintro e w2 ⟨rfl, rfl⟩
    go_wp2
    refine ⟨rfl, ?_⟩
    rw [HR.out]
    exact ⟨(Chg.of_below HV.out).ext HE.out, fb, rfl, HF.out, ((HX.out.below HV.out).ext HE.out htr).thAt⟩
  | ok y =>
    rw [hr] at hh
    obtain ⟨rfl, hrd, hE⟩ := tkIs_ok hh
    have HR := Lib.hid hr
    have hbd := tkR_bd (by decide) hr
    have hy : y.1 = ((y.1.toNat : Nat) : Int) := by omega
    obtain ⟨N, hN⟩ : ∃ N, y.1.toNat = N := ⟨_, rfl⟩
    have hN2 : N ≤ 10240 := by have := hbd.2.2.1 (by decide); omega
    have HNN := Lib.hid hN
    obtain ⟨a0, ha0⟩ : ∃ a0, y.2.2 = a0 := ⟨_, rfl⟩
    have HA0 := Lib.hid ha0
    rw [ha0] at hrd hbd
    have hle := hbd.1
    rw [hN] at hy
    have hmr : rb < mb := by omega
    have hmt : tb < mb := by omega
    have HC1 : Hid (Chg rb tb w w1) := Lib.hid ((Chg.of_below HV.out).ext hE)
    have HM1 : Hid (w1.heap[mb]? = some (smObj [])) := Lib.hid ((hE.block _ (lt_of_block HM.out) (by simp; omega)).trans HM.out)
    have HSB1 : Hid (w1.heap[mb + 1]? = some (.cells #[.map (some mb)] 276 (0, 0))) := Lib.hid ((hE.block _ (lt_of_block HSB.out) (by simp; omega)).trans HSB.out)
    have HRD1 := Lib.hid hrd
    have HLE1 := Lib.hid hle
    have HX1 : Hid (RecAt rb tb T n w1 x) := Lib.hid ((HX.out.below HV.out).ext hE htr)
    clear hh hrd hE hr hbd hN ha0 hle HM HSB d0
    rw [hy]
    clear hy
    go_wp2_with fail
    refine (wholei_ok _ w1).mono ?_
    rintro e w2 ⟨rfl, rfl⟩
    go_wp2
    clear HV V
    go_loopg [4, 6, 7, 8, 18] N (fun g fr t6 t7 t8 i wr => ∃ (m fn a' : Nat) (xx : Rcd) (seen : List Nat) (L : List (ByteArray × Value)), g + m = N ∧ i = .int .i64 m ∧ fr = .int .i64 fn ∧ fn ≤ len l ∧ Hid (objLoop s gs N 0 x [] a0 = objLoop s gs g fn xx seen a') ∧ Hid (a' ≤ s.size) ∧ Hid (RdB wr rb s a' 10240) ∧ Hid (Chg rb tb w wr) ∧
      Hid (RecAt rb tb T n wr xx) ∧ Hid (wr.heap[mb]? = some (smObj L)) ∧ Hid (wr.heap[mb + 1]? = some (.cells #[.map (some mb)] 276 (0, 0))) ∧ Hid (SeenIs gs L seen) ∧ Hid (∀ i, fn ≤ i → i < gs.length → fresh x0 (gth gs i) xx) ∧ Hid (Kd x0 xx))
    case atStart => exact ⟨0, 0, a0, x, [], [], rfl, rfl, rfl, Nat.zero_le _, rfl, HLE1.out, HRD1.out, HC1.out, HX1.out, HM1.out, HSB1.out, fun i _ => by simp [smGet], fun i _ hi => HFS.out i hi, HKX.out⟩
    case round =>
      clear HRD1 HLE1 HC1 HX1 HM1 HSB1
      obtain ⟨m, fn, a', xx, seen, L, hgm, rfl, rfl, hfn, HLO, HLE, HRD, HC, HX2, HM, HSB, HSN, HFF, HKD⟩ := hrel
      have HEV : Hid (RdEnv B wr qb rb s a') := Lib.hid (H.out.chg HC.out hqt hBt HRD.out HLE.out)
      have HFL : Hid (Flds wr (some ⟨b1, off, none⟩) l) := Lib.hid (HL.out.chg HC.out hb1.1 hb1.2)
      by_cases hlt : m < N
      · have i1 : (m : Int) < N := by omega
        obtain ⟨g', rfl⟩ : ∃ g', gk = g' + 1 := ⟨gk - 1, by omega⟩
        have d0 : wr.cell? ⟨qb, 0, none⟩ = some (.pointer (some ⟨rb, 0, none⟩)) := block_cell HEV.out.q 0
        go_wp2_with fail
        refine (Str_tk wr B qb rb s a' HEV.out).mono ?_
        intro e w2 hh
        cases hr2 : tkR 2 s a' with
        | error f =>
          rw [hr2] at hh
          obtain ⟨fb, rfl, hf, hE, -⟩ := tkIs_err hh
          have HF := Lib.hid hf
          have HE := Lib.hid hE
          have HE2 : Hid (objLoop s gs N 0 x [] a0 = .error f) := Lib.hid (by rw [HLO.out, objLoop, hr2])
          clear hh hf hE hr2 d0
          go_wp2_with fail
          refine (wholes_no _ fb w2).mono ?_
          rintro e w3 ⟨rfl, rfl⟩
          go_wp2
          refine ⟨rfl, ?_⟩
          rw [objR_errL HR.out (by rw [HNN.out, HA0.out]; exact HE2.out)]
          exact ⟨HC.out.ext HE.out, fb, rfl, HF.out, (HX2.out.ext HE.out htr).thAt⟩
        | ok z =>
          rw [hr2] at hh
          obtain ⟨rfl, hrd, hE⟩ := tkIs_ok hh
          have HR2 := Lib.hid hr2
          have HE := Lib.hid hE
          have HRD2 := Lib.hid hrd
          have HLE2 : Hid (z.2.2 ≤ s.size) := Lib.hid (tkR_bd (by decide) hr2).1
          obtain ⟨k, hk⟩ : ∃ k, z.2.1 = k := ⟨_, rfl⟩
          have HKK := Lib.hid hk
          rw [hk]
          clear hh hrd hE hr2 hk d0
          go_wp2_with fail
          refine (wholes_ok _ w2).mono ?_
          rintro e w3 ⟨rfl, rfl⟩
          go_upto_region 5 with fail
          obtain ⟨kb, hkb⟩ : ∃ kb, w3.heap.size = kb := ⟨_, rfl⟩
          obtain ⟨V, hV⟩ : ∃ V, w3.alloc (.cells #[.string k] 9) = V := ⟨_, rfl⟩
          have HV : Hid (Below w3.heap.size w3 V) := Lib.hid (by rw [← hV]; exact balloc (Below.refl _ _) _)
          have HKB : Hid (V.heap[kb]? = some (.cells #[.string k] 9 (0, 0))) := Lib.hid (by rw [← hV, ← hkb]; exact heap_alloc_new _ _)
          try rw [hV]
          try simp only [hkb]
          clear hV
          have hkw : w.heap.size ≤ kb := by rw [← hkb]; exact Nat.le_trans HC.out.size HE.out.size
          have HCV : Hid (Chg rb tb w V) := Lib.hid ((HC.out.ext HE.out).next HV.out)
          have HFV : Hid (Flds V (some ⟨b1, off + fn * 6, none⟩) (l.drop fn)) := Lib.hid (Flds.drop (HL.out.chg HCV.out hb1.1 hb1.2) fn)
          have i2 : (0 : Int) ≤ fn := by omega
          have i3 : (fn : Int) ≤ len l := by omega
          have i4 : (len l : Int) ≤ c := by omega
          have hld : len (l.drop fn) = len l - fn := by simp [len]
          go_wp2_with fail
          · have hd0 : l.drop fn = [] := by apply List.eq_nil_of_length_eq_zero; have : len (l.drop fn) = 0 := by omega
                                            exact this
            have HK1 : Hid (∀ i, i < len (l.drop fn) → ((fth (l.drop fn) i).key.toList == k.toList) = false) := Lib.hid (fun i hi => by rw [hd0] at hi; simp [len] at hi)
            rw [← hld]
            refine (idxf_any (some ⟨b1, off, none⟩) 0 (l.drop fn) 203 #[.pointer (some ⟨kb, 0, none⟩)] _ V (by rw [hd0]; exact Flds.nil _ _) (by omega) (says_key kb k V _ HKB.out)).mono ?_
            rintro e w4 ⟨r, rfl, hr, hb⟩
            obtain rfl : r = -1 := by
              rcases hr with ⟨h1, -⟩ | ⟨j, hj, -⟩
              · exact h1
              · exfalso; omega
            have HB4 := Lib.hid hb
            have HE2 : Hid (objLoop s gs N 0 x [] a0 = .error (5, 0)) := Lib.hid (HLO.out.trans (objLoop_no HR2.out (by rw [HKK.out]; exact keyIdx_no HS.out fn k HK1.out)))
            clear hr hb hd0 hld
            go_wp2_with fail
            refine (must_no 5 w4).mono ?_
            rintro e w5 ⟨rfl, rfl⟩
            go_wp2
            refine ⟨rfl, ?_⟩
            rw [objR_errL HR.out (by rw [HNN.out, HA0.out]; exact HE2.out)]
            exact ⟨(HCV.out.next HB4.out).next (balloc (Below.refl _ _) _), _, rfl, heap_alloc_new _ _, ((((HX2.out.ext HE.out htr).below HV.out).below HB4.out).below (balloc (Below.refl _ _) _)).thAt⟩
          · rw [← hld]
            refine (idxf_any (some ⟨b1, off + fn * 6, none⟩) _ (l.drop fn) 203 #[.pointer (some ⟨kb, 0, none⟩)] _ V HFV.out (by omega) (says_key kb k V _ HKB.out)).mono ?_
            rintro e w4 ⟨r, rfl, hr, hb⟩
            have HB4 := Lib.hid hb
            rcases hr with ⟨rfl, hno⟩ | ⟨j, hj, rfl, hp, hno⟩
            · have HE2 : Hid (objLoop s gs N 0 x [] a0 = .error (5, 0)) := Lib.hid (HLO.out.trans (objLoop_no HR2.out (by rw [HKK.out]; exact keyIdx_no HS.out fn k hno)))
              clear hno hb hld
              go_wp2_with fail
              refine (must_no 5 w4).mono ?_
              rintro e w5 ⟨rfl, rfl⟩
              go_wp2
              refine ⟨rfl, ?_⟩
              rw [objR_errL HR.out (by rw [HNN.out, HA0.out]; exact HE2.out)]
              exact ⟨(HCV.out.next HB4.out).next (balloc (Below.refl _ _) _), _, rfl, heap_alloc_new _ _, ((((HX2.out.ext HE.out htr).below HV.out).below HB4.out).below (balloc (Below.refl _ _) _)).thAt⟩
            · have HKJ : Hid (keyIdx gs fn z.2.1 = some j) := Lib.hid (by rw [HKK.out]; exact keyIdx_yes HS.out fn j k hj hp hno)
              have hjl : fn + j < len l := by omega
              have t1 : decide ((0 : Int) ≤ (j : Int)) = true := decide_eq_true (by omega)
              clear hp hno hb hj hld
              go_wp2_with fail
              refine (must_ok 5 w4).mono ?_
              rintro e w5 ⟨rfl, rfl⟩
              obtain ⟨b', off', hbe, d0, d1, d2, d3, d4, d5⟩ := (HL.out.chg (HCV.out.next HB4.out) hb1.1 hb1.2) (fn + j) hjl
              cases hbe
              have i5 : IntKind.i64.wrap ((fn : Int) + (j : Int)) = (fn : Int) + (j : Int) := IntWalk.i64_in _ (by omega)
              have i6 : (0 : Int) ≤ (fn : Int) + (j : Int) := by omega
              have i7 : (fn : Int) + (j : Int) < len l := by omega
              have i8 : ((fn : Int) + (j : Int)).toNat = fn + j := by omega
              have hgs := HS.out.2 (fn + j) hjl
              obtain ⟨v, hv⟩ : ∃ v, fth l (fn + j) = v := ⟨_, rfl⟩
              rw [hv] at d0 d1 d2 d3 d4 d5 hgs
              have HGS := Lib.hid hgs
              clear hv hgs
              go_upto_region 8 with fail
              obtain ⟨vb, hvb⟩ : ∃ vb, w5.heap.size = vb := ⟨_, rfl⟩
              obtain ⟨U, hU⟩ : ∃ U, w5.alloc (.cells #[.string v.key, .bool v.must, .func (.func v.ef) #[] v.ec, .func (.func v.mf) #[] v.mc, .func (.func v.pf) #[] v.pc, .func (.func v.gf) #[] v.gc] 172) = U := ⟨_, rfl⟩
              have HU : Hid (Below w5.heap.size w5 U) := Lib.hid (by rw [← hU]; exact balloc (Below.refl _ _) _)
              have HVB : Hid (U.heap[vb]? = some (.cells #[.string v.key, .bool v.must, .func (.func v.ef) #[] v.ec, .func (.func v.mf) #[] v.mc, .func (.func v.pf) #[] v.pc, .func (.func v.gf) #[] v.gc] 172 (0, 0))) := Lib.hid (by rw [← hU, ← hvb]; exact heap_alloc_new _ _)
              try rw [hU]
              try simp only [hvb]
              clear hU d0 d1 d2 d3 d4 d5 i5 i6 i7 i8
              have hvw : w.heap.size ≤ vb := by rw [← hvb]; exact (HCV.out.next HB4.out).size
              have HCU : Hid (Chg rb tb w U) := Lib.hid ((HCV.out.next HB4.out).next HU.out)
              have HB3U : Hid (Below w3.heap.size w3 U) := Lib.hid (bnext (bnext HV.out HB4.out) HU.out)
              have HRU : Hid (RdEnv B U qb rb s z.2.2) := Lib.hid (H.out.chg HCU.out hqt hBt (HRD2.out.below HB3U.out) HLE2.out)
              have HXU : Hid (RecAt rb tb T n U xx) := Lib.hid ((HX2.out.ext HE.out htr).below HB3U.out)
              have HMU : Hid (U.heap[mb]? = some (smObj L)) := Lib.hid ((HB3U.out.block _ (by have := HE.out.size; have := lt_of_block HM.out; omega)).trans ((HE.out.block _ (lt_of_block HM.out) (by simp; omega)).trans HM.out))
              have HSU : Hid (U.heap[mb + 1]? = some (.cells #[.map (some mb)] 276 (0, 0))) := Lib.hid ((HB3U.out.block _ (by have := HE.out.size; have := lt_of_block HSB.out; omega)).trans ((HE.out.block _ (lt_of_block HSB.out) (by simp; omega)).trans HSB.out))
              have HKU : Hid (U.heap[kb]? = some (.cells #[.string k] 9 (0, 0))) := Lib.hid (((bnext HB4.out HU.out).block _ (lt_of_block HKB.out)).trans HKB.out)
              have c5 : U.cell? ⟨vb, 5, none⟩ = some (.func (.func v.gf) #[] v.gc) := block_cell HVB.out 5
              have eg := HGS.out.eg
              have hgl : fn + j < gs.length := by have : gs.length = l.length := HS.out.1; have : fn + j < l.length := hjl; omega
              go_wp2_with fail
              refine (HGS.out.read U xx z.2.2 (HK.out.trans HCU.out) HXU.out HRU.out (HFF.out (fn + j) (by omega) hgl) HKD.out).mono ?_
              intro e w6 hh
              clear c5 eg
              cases hr6 : (gth gs (fn + j)).read xx z.2.2 with
              | error f =>
                rw [hr6] at hh
                have HTH := Lib.hid (getIs_th hh)
                obtain ⟨fb, rfl, hf, hc6⟩ := getIs_err hh
                have HF := Lib.hid hf
                have HC6 : Hid (Chg rb tb w w6) := Lib.hid (HCU.out.trans hc6)
                have HE2 : Hid (objLoop s gs N 0 x [] a0 = .error f) := Lib.hid (HLO.out.trans (objLoop_err HR2.out HKJ.out hr6))
                clear hh hf hc6 hr6
                go_wp2
                refine ⟨rfl, ?_⟩
                rw [objR_errL HR.out (by rw [HNN.out, HA0.out]; exact HE2.out)]
                exact ⟨HC6.out, fb, rfl, HF.out, HTH.out⟩
              | ok q =>
                rw [hr6] at hh
                obtain ⟨rfl, hrd6, hle6, hx6, hc6⟩ := getIs_ok hh
                have HRD6 := Lib.hid hrd6
                have HLE6 := Lib.hid hle6
                have HX6 := Lib.hid hx6
                have HC6 : Hid (Chg rb tb w w6) := Lib.hid (HCU.out.trans hc6)
                have HR6 := Lib.hid hr6
                have HKD6 : Hid (Kd x0 q.1) := Lib.hid (HKI.out _ (by rw [gth_eq gs _ hgl]; exact List.getElem_mem _) _ _ _ hr6 HKD.out)
                have hch : ∀ b y, w.heap.size ≤ b → U.heap[b]? = some y → w6.heap[b]? = some y := fun b y hb hy => (hc6.block b (lt_of_block hy) (by omega) (by omega)).trans hy
                have HV6 := Lib.hid (hch vb _ hvw HVB.out)
                have HM6 := Lib.hid (hch mb _ (by omega) HMU.out)
                have HS6 := Lib.hid (hch (mb + 1) _ (by omega) HSU.out)
                have HK6 := Lib.hid (hch kb _ hkw HKU.out)
                have c2 : w6.cell? ⟨vb, 2, none⟩ = some (.func (.func v.ef) #[] v.ec) := block_cell HV6.out 2
                have ee := HGS.out.ee
                clear hh hrd6 hle6 hx6 hc6 hr6 hch HVB HMU HSU HKU
                go_wp2_with fail
                refine (HGS.out.empty w6 q.1 (HK.out.trans HC6.out) HX6.out HKD6.out).mono ?_
                rintro e w7 ⟨rfl, hb⟩
                have HB7 := Lib.hid hb
                clear hb c2 ee
                cases hem : (gth gs (fn + j)).empty q.1 with
                | true =>
                  have HE2 : Hid (objLoop s gs N 0 x [] a0 = .error (5, 0)) := Lib.hid (HLO.out.trans (objLoop_empty HR2.out HKJ.out HR6.out hem))
                  clear hem
                  go_wp2_with fail
                  refine (must_no 5 w7).mono ?_
                  rintro e w8 ⟨rfl, rfl⟩
                  go_wp2
                  refine ⟨rfl, ?_⟩
                  rw [objR_errL HR.out (by rw [HNN.out, HA0.out]; exact HE2.out)]
                  exact ⟨(HC6.out.next HB7.out).next (balloc (Below.refl _ _) _), _, rfl, heap_alloc_new _ _, ((HX6.out.below HB7.out).below (balloc (Below.refl _ _) _)).thAt⟩
                | false =>
                  have HE2 : Hid (objLoop s gs N 0 x [] a0 = objLoop s gs g' (fn + j + 1) q.1 ((fn + j) :: seen) q.2) := Lib.hid (HLO.out.trans (objLoop_next HR2.out HKJ.out HR6.out hem))
                  clear hem
                  go_wp2_with fail
                  refine (must_ok 5 w7).mono ?_
                  rintro e w8 ⟨rfl, rfl⟩
                  have i5 : IntKind.i64.wrap ((j : Int) + 1) = (j : Int) + 1 := IntWalk.i64_in _ (by omega)
                  have i6 : IntKind.i64.wrap ((fn : Int) + ((j : Int) + 1)) = (fn : Int) + ((j : Int) + 1) := IntWalk.i64_in _ (by omega)
                  have HM8 : Hid (w8.heap[mb]? = some (smObj L)) := Lib.hid ((HB7.out.block _ (lt_of_block HM6.out)).trans HM6.out)
                  have HS8 : Hid (w8.heap[mb + 1]? = some (.cells #[.map (some mb)] 276 (0, 0))) := Lib.hid ((HB7.out.block _ (lt_of_block HS6.out)).trans HS6.out)
                  have d5 : w8.cell? ⟨mb + 1, 0, none⟩ = some (.map (some mb)) := block_cell HS8.out 0
                  have d6 : w8.cell? ⟨kb, 0, none⟩ = some (.string k) := block_cell ((HB7.out.block _ (lt_of_block HK6.out)).trans HK6.out) 0
                  go_wp2_with (at_mapUpdate; refine swpList_mapUpdate_m rfl _ _ _ 276 9 3 rfl Tryz.underlying276 Tryz.underlying9 mb _ rfl HM8.out _ _ rfl rfl ?_)
                  have HKY : Hid ((gth gs (fn + j)).key = k) := Lib.hid ((keyIdx_key HKJ.out).trans HKK.out)
                  have hms : mb < w8.heap.size := lt_of_block HM8.out
                  have sbo : ∀ i, i ≠ mb → (setBlock w8 mb (smObj (smPut L k (.int .i64 1)))).heap[i]? = w8.heap[i]? := fun i hi => by
                    show (w8.heap.setIfInBounds mb _)[i]? = _
                    rw [Array.getElem?_setIfInBounds_ne (Ne.symm hi)]
                  go_roundg g'
                  case rel =>
                    refine ⟨m + 1, fn + j + 1, q.2, q.1, (fn + j) :: seen, smPut L k (.int .i64 1), by omega, by go_num, by go_num, by omega, HE2.out, HLE6.out, ?_, ?_, ?_, ?_, ?_, ?_, ?_, HKD6.out⟩
                    · exact Lib.hid ((sbo rb (by omega)).trans (HRD6.out.below HB7.out))
                    · exact Lib.hid ((HC6.out.next HB7.out).setBlock (by omega) _)
                    · exact Lib.hid (CKeep.rec (fun b cs T fz hb => sbo b (fun e => by subst e; have h9 := hb.symm.trans HM8.out; cases h9)) (HX6.out.below HB7.out))
                    · exact Lib.hid (by show (w8.heap.setIfInBounds mb _)[mb]? = _; rw [Array.getElem?_setIfInBounds_self_of_lt hms])
                    · exact Lib.hid ((sbo _ (by omega)).trans HS8.out)
                    · exact Lib.hid (by have h := HSN.out.put HKE.out hgl; rw [HKY.out] at h; exact h)
                    · exact Lib.hid (fun i h1 h2 o ho => by
                        have hfr := HFR.out _ (by rw [gth_eq gs _ hgl]; exact List.getElem_mem _) xx z.2.2 q HR6.out
                        rw [hfr o (fun hin => HDI.out i (fn + j) h2 hgl (by omega) o ho hin)]
                        exact HFF.out i (by omega) h2 o ho)
                  case measure => omega
      · obtain rfl : m = N := by omega
        have i1 : ¬ ((m : Nat) : Int) < m := by omega
        obtain rfl : gk = 0 := by omega
        have hgl : gs.length = l.length := HS.out.1
        have HLK : Hid (∀ i, i < len l → (fth l i).key = (gth gs i).key) := Lib.hid (fun i hi => (HS.out.2 i hi).key)
        have HLM : Hid (∀ i, i < len l → (fth l i).must = (gth gs i).must) := Lib.hid (fun i hi => (HS.out.2 i hi).must)
        have HOK : Hid (objLoop s gs m 0 x [] a0 = .ok (xx, seen, a')) := Lib.hid HLO.out
        go_wp2_with fail
        refine (containsf_any (some ⟨b1, off, none⟩) c l 205 #[.pointer (some ⟨mb + 1, 0, none⟩)] _ wr HFL.out hn (says_seen (mb + 1) mb L wr l (fun i hi => by
          rw [HLK.out i hi, HSN.out i (by have : i < l.length := hi; omega)]
          by_cases h : i ∈ seen
          · rw [if_pos h]; exact .inr rfl
          · rw [if_neg h]; exact .inl rfl) HSB.out HM.out)).mono ?_
        rintro e w2 ⟨q, rfl, hq, hb⟩
        have HB := Lib.hid hb
        have hqm : q = missing gs seen := by
          rw [Bool.eq_iff_iff, hq, missing_iff]
          constructor
          · rintro ⟨i, hi, h⟩
            have hi' : i < gs.length := by have : i < l.length := hi; omega
            refine ⟨i, hi', ?_⟩
            simp only [Bool.and_eq_true] at h ⊢
            refine ⟨by rw [← HLM.out i hi]; exact h.1, ?_⟩
            have h2 := h.2
            rw [HLK.out i hi, HSN.out i hi'] at h2
            by_cases hm : i ∈ seen
            · rw [if_pos hm] at h2; cases h2
            · simpa using hm
          · rintro ⟨i, hi, h⟩
            have hi' : i < len l := by show i < l.length; omega
            refine ⟨i, hi', ?_⟩
            simp only [Bool.and_eq_true] at h ⊢
            refine ⟨by rw [HLM.out i hi']; exact h.1, ?_⟩
            have h2 := h.2
            have hm : i ∉ seen := by simpa using h2
            rw [HLK.out i hi', HSN.out i hi, if_neg hm]; rfl
        have HQ := Lib.hid hqm
        clear hq hb hqm
        cases q with
        | true =>
          go_wp2_with fail
          refine (must_no 5 w2).mono ?_
          rintro e w3 ⟨rfl, rfl⟩
          go_wp2
          refine ⟨rfl, ?_⟩
          rw [objR_miss HR.out (by rw [HNN.out, HA0.out]; exact HOK.out) HQ.out.symm]
          exact ⟨(HC.out.next HB.out).next (balloc (Below.refl _ _) _), _, rfl, heap_alloc_new _ _, ((HX2.out.below HB.out).below (balloc (Below.refl _ _) _)).thAt⟩
        | false =>
          go_wp2_with fail
          refine (must_ok 5 w2).mono ?_
          rintro e w3 ⟨rfl, rfl⟩
          go_wp2
          go_end0
          refine ⟨HC.out.next HB.out, ?_⟩
          rw [objR_ok HR.out (by rw [HNN.out, HA0.out]; exact HOK.out) HQ.out.symm]
          exact ⟨rfl, HRD.out.below HB.out, HLE.out, HX2.out.below HB.out⟩
end Go.Proofs.YtihiaopilnjonaaGreatDoor
namespace Go.Proofs.YtihiaopilnjonaaGreatDoor
open Go.RowKit
set_option linter.unusedSimpArgs false
set_option linter.unusedVariables false
set_option maxRecDepth 100000 in
theorem says_all {B : Nat} {W0 w : World} {l : List FVal} {fs : List FSpec} (h : FSems B W0 l fs) (hk : Keep8 B W0 w) : SaysF w l 171 #[] (fun i => !(spth fs i).may) := by
  refine ⟨enters_of Tryz.func171 (by kernel_rfl) rfl, fun i hi w' hb => ?_⟩
  show Calls Tryz.prog 171 (#[(fth l i).val] ++ #[]) w' (fun e w'' => e = .returned (.bool (!(spth fs i).may)) ∧ Below w'.heap.size w' w'')
  have hs := h.2 i hi
  generalize fth l i = v at hs
  generalize spth fs i = f at hs
  have em := hs.em
  have HM : Hid (∀ x, Below w'.heap.size w' x → Calls Tryz.prog v.mf v.mc x fun e w' => e = .returned (.bool f.may) ∧ Below x.heap.size x w') := Lib.hid (fun x hx => hs.may x ((hk.next hb).next hx))
  clear hs
  show Calls Tryz.prog 171 #[v.val] w' _
  unfold FVal.val
  go_enter Tryz.func171, Tryz.ntmps171
  go_wp2_with fail
  refine (HM.out _ (balloc (Below.refl _ _) _)).mono ?_
  rintro e w1 ⟨rfl, hb1⟩
  have HB1 : Hid (Below w'.heap.size w' w1) := Lib.hid (bnext (balloc (Below.refl _ _) _) hb1)
  clear hb1
  go_wp2
  go_ret
  exact ⟨rfl, HB1.out⟩
set_option maxRecDepth 100000 in
theorem says_lay {B : Nat} {W0 w : World} {l : List FVal} {fs : List FSpec} (h : FSems B W0 l fs) (hk : Keep8 B W0 w) : SaysF w l 174 #[] (fun i => (spth fs i).empty) := by
  refine ⟨enters_of Tryz.func174 (by kernel_rfl) rfl, fun i hi w' hb => ?_⟩
  show Calls Tryz.prog 174 (#[(fth l i).val] ++ #[]) w' (fun e w'' => e = .returned (.bool ((spth fs i).empty)) ∧ Below w'.heap.size w' w'')
  have hs := h.2 i hi
  generalize fth l i = v at hs
  generalize spth fs i = f at hs
  have ee := hs.ee
  have HM : Hid (∀ x, Below w'.heap.size w' x → Calls Tryz.prog v.ef v.ec x fun e w' => e = .returned (.bool f.empty) ∧ Below x.heap.size x w') := Lib.hid (fun x hx => hs.empty x ((hk.next hb).next hx))
  clear hs
  show Calls Tryz.prog 174 #[v.val] w' _
  unfold FVal.val
  go_enter Tryz.func174, Tryz.ntmps174
  go_wp2_with fail
  refine (HM.out _ (balloc (Below.refl _ _) _)).mono ?_
  rintro e w1 ⟨rfl, hb1⟩
  have HB1 : Hid (Below w'.heap.size w' w1) := Lib.hid (bnext (balloc (Below.refl _ _) _) hb1)
  clear hb1
  go_wp2
  go_ret
  exact ⟨rfl, HB1.out⟩
set_option maxRecDepth 100000 in
theorem says_full {B : Nat} {W0 w : World} {l : List FVal} {fs : List FSpec} (h : FSems B W0 l fs) (hk : Keep8 B W0 w) : SaysF w l 179 #[] (fun i => !(spth fs i).empty) := by
  refine ⟨enters_of Tryz.func179 (by kernel_rfl) rfl, fun i hi w' hb => ?_⟩
  show Calls Tryz.prog 179 (#[(fth l i).val] ++ #[]) w' (fun e w'' => e = .returned (.bool (!(spth fs i).empty)) ∧ Below w'.heap.size w' w'')
  have hs := h.2 i hi
  generalize fth l i = v at hs
  generalize spth fs i = f at hs
  have ee := hs.ee
  have HM : Hid (∀ x, Below w'.heap.size w' x → Calls Tryz.prog v.ef v.ec x fun e w' => e = .returned (.bool f.empty) ∧ Below x.heap.size x w') := Lib.hid (fun x hx => hs.empty x ((hk.next hb).next hx))
  clear hs
  show Calls Tryz.prog 179 #[v.val] w' _
  unfold FVal.val
  go_enter Tryz.func179, Tryz.ntmps179
  go_wp2_with fail
  refine (HM.out _ (balloc (Below.refl _ _) _)).mono ?_
  rintro e w1 ⟨rfl, hb1⟩
  have HB1 : Hid (Below w'.heap.size w' w1) := Lib.hid (bnext (balloc (Below.refl _ _) _) hb1)
  clear hb1
  go_wp2
  go_ret
  exact ⟨rfl, HB1.out⟩
set_option maxRecDepth 100000 in
theorem says_must {B : Nat} {W0 w : World} {l : List FVal} {fs : List FSpec} (h : FSems B W0 l fs) : SaysF w l 177 #[] (fun i => (spth fs i).must) := by
  refine ⟨enters_of Tryz.func177 (by kernel_rfl) rfl, fun i hi w' hb => ?_⟩
  show Calls Tryz.prog 177 (#[(fth l i).val] ++ #[]) w' (fun e w'' => e = .returned (.bool ((spth fs i).must)) ∧ Below w'.heap.size w' w'')
  have hs := (h.2 i hi).must
  generalize fth l i = v at hs
  generalize spth fs i = f at hs
  show Calls Tryz.prog 177 #[v.val] w' _
  have HS := Lib.hid hs
  clear hs
  unfold FVal.val
  go_enter Tryz.func177, Tryz.ntmps177
  go_wp2
  go_ret
  exact ⟨ret_bool HS.out, by (repeat (first | exact Below.refl _ _ | assumption | (refine bdrew ?_) | (refine bdrewN ?_ _) | (refine balloc ?_ _) | (refine bset ?_ (by first | omega | (simp; done) | (simp; omega)) _) | (refine bnext ?_ (by assumption))))⟩
theorem allMay_iff (fs : List FSpec) (n : Nat) (h : len fs = n) : (allMay fs = false ↔ ∃ i, i < n ∧ (!(spth fs i).may) = true) := by
  unfold allMay
  subst h
  rw [List.all_eq_false]
  constructor
  · rintro ⟨x, hx, hm⟩
    obtain ⟨i, hi, rfl⟩ := List.getElem_of_mem hx
    exact ⟨i, hi, by rw [spth_eq fs i hi]; simpa using hm⟩
  · rintro ⟨i, hi, hm⟩
    have hi' : i < fs.length := hi
    exact ⟨fs[i], List.getElem_mem _, by rw [spth_eq fs i hi'] at hm; simpa using hm⟩
theorem all_any (B : Nat) (W0 : World) (a : Option Addr) (c : Nat) (l : List FVal) (fs : List FSpec) (w : World) (hl : Flds w a l) (hn : len l ≤ 1000) (hS : FSems B W0 l fs) (hk : Keep8 B W0 w) :
    Calls Tryz.prog 103 #[.slice a (len l) c] w fun e w' => e = .returned (.bool (allMay fs)) ∧ Below w.heap.size w w' := by
  have H := Lib.hid (containsf_any a c l 171 #[] _ w hl hn (says_all hS hk))
  have HI := Lib.hid (allMay_iff fs (len l) hS.1)
  clear hl hS hk
  go_enter Tryz.func103, Tryz.ntmps103
  go_wp2_with fail
  refine H.out.mono ?_
  rintro e w1 ⟨b, rfl, hb1, hb⟩
  have HB := Lib.hid hb
  have HE : Hid ((!b) = allMay fs) := Lib.hid (by
    have h := HI.out
    cases b with
    | true => rw [h.2 (hb1.1 rfl)]; rfl
    | false =>
      cases hm : allMay fs with
      | true => rfl
      | false => exact absurd (hb1.2 (h.1 hm)) (by decide))
  clear hb hb1
  go_wp2
  go_ret
  exact ⟨ret_bool HE.out, HB.out⟩
end Go.Proofs.YtihiaopilnjonaaGreatDoor

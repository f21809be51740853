/- Parts of the proof, one behind the other. -/
import Derived.Test.YtihiaopilnjonaaGreatDoorWknP1
import Derived.LaidMore
import Derived.LaidHandle
import Derived.Stop.Joined
import Derived.ChangeVars
import Derived.JoinedOf
import Derived.RowKitTokens
import Derived.Laws.BytesArg
namespace Go.Proofs.YtihiaopilnjonaaGreatDoor
open Go.RowKit
set_option linter.unusedSimpArgs false
set_option linter.unusedVariables false
structure PRow.Ok (r : PRow) (n : Int) : Prop where
  b0 : 0 ≤ r.below
  b1 : r.below ≤ 18446744073709551615
  f0 : 0 ≤ r.first
  f1 : r.first ≤ 255
  s0 : 0 ≤ r.size
  s1 : r.size ≤ 8
  fit : r.size = 0 → (n < r.below ∨ r.below = 0) → r.first + n ≤ 255
def Head1Is (r : PRow) (n : Int) (s : ByteArray) (b base : Nat) (w : World) (e : Ending) (w' : World) : Prop :=
  e = .returned (.bool (decide (n < r.below ∨ r.below = 0))) ∧ WrB w' b base (if n < r.below ∨ r.below = 0 then s ++ baL (rowB r n) else s) ∧ WK base b w w'
theorem hi_next (n : Int) (k i : Nat) (h : i < k) : (hiL n k).take (k - i) = (hiL n k).take (k - (i + 1)) ++ [n / 256 ^ i % 256] := by
  have hl := hiL_len n k
  have key : ∀ k, i < k → (hiL n k)[k - (i + 1)]? = some (n / 256 ^ i % 256) := by
    intro k
    induction k with
    | zero => intro h; omega
    | succ k ih =>
      intro h
      rw [hiL]
      by_cases e : i = k
      · subst e; simp
      · have h2 := ih (by omega)
        rw [show k + 1 - (i + 1) = (k - (i + 1)) + 1 by omega, List.getElem?_cons_succ]; exact h2
  have h3 := key k h
  rw [show k - i = k - (i + 1) + 1 by omega, List.take_add_one, h3]; rfl
set_option maxRecDepth 100000 in
set_option maxHeartbeats 4000000 in
theorem head1_any (r : PRow) (bn bw b base : Nat) (n : Int) (s : ByteArray) (w : World) (hn : w.heap[bn]? = some (.cells #[.int .u64 n] 23 (0, 0))) (hw : w.heap[bw]? = some (.cells #[.pointer (some ⟨b, 0, none⟩)] 166 (0, 0)))
    (hW : WrB w b base s) (h0 : 0 ≤ n) (h1 : n ≤ 18446744073709551615) (hr : r.Ok n) (hs : s.size ≤ 70000000000000) :
    Calls Tryz.prog 255 #[r.val, .pointer (some ⟨bn, 0, none⟩), .pointer (some ⟨bw, 0, none⟩)] w (Head1Is r n s b base w) := by
  have HR := Lib.hid hr
  have HN := Lib.hid hn
  have HW2 := Lib.hid hw
  have HWR := Lib.hid hW
  have cn := block_cell hn 0
  have cw := block_cell hw 0
  simp only [List.getElem?_toArray, List.getElem?_cons_zero] at cn cw
  have lbn := lt_of_block hn
  have lbw := lt_of_block hw
  clear hr hn hw hW
  unfold PRow.val
  by_cases hx : n < r.below ∨ r.below = 0
  · have HX : Hid (decide (n < r.below ∨ r.below = 0) = true) := Lib.hid (decide_eq_true hx)
    have hcase : decide (r.below ≤ n) = false ∨ (decide (r.below ≤ n) = true ∧ decide (0 < r.below) = false) := by
      rcases hx with h | h
      · exact .inl (decide_eq_false (by omega))
      · exact .inr ⟨decide_eq_true (by omega), decide_eq_false (by omega)⟩
    have HCS := Lib.hid hcase
    have hfit := fun h => HR.out.fit h hx
    have HFIT := Lib.hid hfit
    have HIF : Hid ((if n < r.below ∨ r.below = 0 then s ++ baL (rowB r n) else s) = s ++ baL (rowB r n)) := Lib.hid (if_pos hx)
    have f0 := HR.out.f0
    have f1 := HR.out.f1
    have s0 := HR.out.s0
    have s1 := HR.out.s1
    clear hx hfit hcase
    obtain ⟨hbase, v, hv, hown⟩ := HWR.out
    have n8w : Not8 (.cells #[v] 265 (0, 0)) := not8_cells (by decide)
    have n8n : Not8 (.cells #[.int .u64 n] 23 (0, 0)) := not8_cells (by decide)
    have n8b : Not8 (.cells #[.pointer (some ⟨b, 0, none⟩)] 166 (0, 0)) := not8_cells (by decide)
    have n8r : Not8 (.cells #[.int .u64 r.below, .int .u8 r.first, .int .i64 r.size] 332 (0, 0)) := not8_cells (by decide)
    obtain ⟨i0, hi, hz0, hz1, hz2⟩ := info_parts info_u8
    have cb := block_cell hv 0
    simp only [List.getElem?_toArray, List.getElem?_cons_zero] at cb
    have HV := Lib.hid hv
    have HOWN0 := Lib.hid hown
    have hltb := HWR.out.lt
    have HBS : Hid (base ≤ w.heap.size) := Lib.hid (by omega)
    clear hv hown
    have hcs := HCS.out
    clear HCS
    rcases hcs with g1 | ⟨g1, g2⟩
    · skip
      go_enter Tryz.func255, Tryz.ntmps255
      by_cases hsz : r.size = 0
      · have e0 : (r.size == 0) = true := by simpa using hsz
        have HSZ := Lib.hid hsz
        clear hsz
        go_upto_region 4 with fail
        obtain ⟨br, hbr⟩ : ∃ br, w.heap.size = br := ⟨_, rfl⟩
        obtain ⟨V, hV⟩ : ∃ V, w.alloc (.cells #[.int .u64 r.below, .int .u8 r.first, .int .i64 r.size] 332) = V := ⟨_, rfl⟩
        have VB : Hid (Below w.heap.size w V) := Lib.hid (by rw [← hV]; exact balloc (Below.refl _ _) _)
        have VR : Hid (V.heap[br]? = some (.cells #[.int .u64 r.below, .int .u8 r.first, .int .i64 r.size] 332 (0, 0))) := Lib.hid (by rw [← hV, ← hbr]; exact heap_alloc_new _ _)
        have VN : Hid (V.heap[bn]? = some (.cells #[.int .u64 n] 23 (0, 0))) := Lib.hid ((VB.out.block _ (lt_of_block HN.out)).trans HN.out)
        have VW : Hid (V.heap[bw]? = some (.cells #[.pointer (some ⟨b, 0, none⟩)] 166 (0, 0))) := Lib.hid ((VB.out.block _ (lt_of_block HW2.out)).trans HW2.out)
        have VV : Hid (V.heap[b]? = some (.cells #[v] 265 (0, 0))) := Lib.hid ((VB.out.block _ hltb).trans HV.out)
        have HOWN := Lib.hid (own_below HOWN0.out VB.out)
        have HQ : Hid (∀ g, v.ownBlock = some g → base ≤ g ∧ g < V.heap.size) := Lib.hid (fun g hg => HOWN.out.lt g hg)
        have n1 := own_not8 HOWN.out VN.out n8n
        have n2 := own_not8 HOWN.out VW.out n8b
        have n3 := own_not8 HOWN.out VR.out n8r
        have n4 := own_not8 HOWN.out VV.out n8w
        have c1 : V.cell? ⟨bn, 0, none⟩ = some (.int .u64 n) := block_cell VN.out 0
        have c2 : V.cell? ⟨bw, 0, none⟩ = some (.pointer (some ⟨b, 0, none⟩)) := block_cell VW.out 0
        have c3 : V.cell? ⟨br, 1, none⟩ = some (.int .u8 r.first) := block_cell VR.out 1
        have c4 : V.cell? ⟨b, 0, none⟩ = some v := block_cell VV.out 0
        have hbV : base ≤ V.heap.size := Nat.le_trans hbase (Nat.le_of_lt (lt_of_block VV.out))
        obtain ⟨y, hy⟩ : ∃ y, r.first + n = y := ⟨_, rfl⟩
        have hy1 : y ≤ 255 := by rw [← hy]; exact HFIT.out HSZ.out
        have y0 : IntKind.u8.wrap n = n := IntWalk.u8_in _ (by omega)
        have y1 : IntKind.u8.wrap (r.first + n) = y := by rw [hy]; exact IntWalk.u8_in _ (by omega)
        have hy0 : 0 ≤ y := by omega
        have HY := Lib.hid hy
        rw [hbr]
        try rw [hV]
        clear hV hbr hy cn cw cb
        refine wp_region_tail 14 11 (v.ownBlock) (phis [fun u _ => u = (.pointer (some ⟨b, 0, none⟩)), fun u _ => u = (.pointer (some ⟨b, 0, none⟩)), fun u _ => u = (.pointer (some ⟨b, 0, none⟩)), fun u _ => u = (.pointer (some ⟨b, 0, none⟩)), fun u _ => u = (v), fun u _ => u = (.pointer (some ⟨br, 1, none⟩)), fun u _ => u = (.int .u8 r.first), fun u _ => u = (.int .u64 n), fun u _ => u = (.int .u8 n), fun u _ => u = (.int .u8 y), fun u w' => ∃ b, u = .slice (some ⟨b, 0, none⟩) 1 1 ∧ some b ≠ v.ownBlock ∧ w'.heap[b]? = some (.cells ([.int .u8 y]).toArray 5 (0, 0)), fun u w' => w'.ownsRow (base) 5 1 u (s.size + 1) (Lib.strCells s ++ [.int .u8 y]), fun u _ => u = (.pointer (some ⟨b, 0, none⟩)), fun u _ => u = (.pointer (some ⟨b, 0, none⟩))]) rfl (by kernel_rfl) (by kernel_rfl) (mono_of ⟨mono_eq, mono_eq, mono_eq, mono_eq, mono_eq, mono_eq, mono_eq, mono_eq, mono_eq, mono_eq, ?m10, ?m11, mono_eq, mono_eq, trivial⟩) (steps_of 14 ⟨?s0, ?s1, ?s2, ?s3, ?s4, ?s5, ?s6, ?s7, ?s8, ?s9, ?s10, ?s11, ?s12, ?s13, trivial⟩) ?_
        case m10 =>
          exact ⟨fun u w1 w' h ⟨b, h1, hb, hb'⟩ => ⟨b, h1, hb, ext_block h hb'⟩, fun _ u w1 w' h ⟨b, h1, hb, hb'⟩ => ⟨b, h1, hb, extB_block h hb hb'⟩⟩
        case m11 =>
          exact ⟨fun u w1 w' h hu => own_below hu h, fun hn => absurd rfl hn⟩
        case s0 =>
          refine step_val (v := (.pointer (some ⟨b, 0, none⟩))) (fun av wv hE hS hO hD => ?_) (fun _ => rfl)
          have h2 : av.eval (.tmp 2) = (.pointer (some ⟨bw, 0, none⟩)) := hO.2.2 2 rfl
          have f2 := (ev_form av 2).symm.trans h2
          have c1 := extB_cell hE n1 c1
          have c2 := extB_cell hE n2 c2
          have c3 := extB_cell hE n3 c3
          have c4 := extB_cell hE n4 c4
          refine ⟨rfl, ?_⟩
          simp [go_sem, f2, c1, c2, c3, c4, y0, y1]
        case s1 =>
          refine step_val (v := (.pointer (some ⟨b, 0, none⟩))) (fun av wv hE hS hO hD => ?_) (fun _ => rfl)
          have h2 : av.eval (.tmp 2) = (.pointer (some ⟨bw, 0, none⟩)) := hO.2.2 2 rfl
          have f2 := (ev_form av 2).symm.trans h2
          have c1 := extB_cell hE n1 c1
          have c2 := extB_cell hE n2 c2
          have c3 := extB_cell hE n3 c3
          have c4 := extB_cell hE n4 c4
          refine ⟨rfl, ?_⟩
          simp [go_sem, f2, c1, c2, c3, c4, y0, y1]
        case s2 =>
          refine step_val (v := (.pointer (some ⟨b, 0, none⟩))) (fun av wv hE hS hO hD => ?_) (fun _ => rfl)
          have d19 : av.eval (.tmp 19) = (.pointer (some ⟨b, 0, none⟩)) := hD.1 rfl _ rfl
          have f19 := (ev_form av 19).symm.trans d19
          refine ⟨rfl, ?_⟩
          simp [go_sem, f19, y0, y1]
        case s3 =>
          refine step_val (v := (.pointer (some ⟨b, 0, none⟩))) (fun av wv hE hS hO hD => ?_) (fun _ => rfl)
          have d20 : av.eval (.tmp 20) = (.pointer (some ⟨b, 0, none⟩)) := hD.1 rfl _ rfl
          have f20 := (ev_form av 20).symm.trans d20
          refine ⟨rfl, ?_⟩
          simp [go_sem, f20, y0, y1]
        case s4 =>
          refine step_val (v := (v)) (fun av wv hE hS hO hD => ?_) (fun _ => rfl)
          have d21 : av.eval (.tmp 21) = (.pointer (some ⟨b, 0, none⟩)) := hD.1 rfl _ rfl
          have f21 := (ev_form av 21).symm.trans d21
          have c1 := extB_cell hE n1 c1
          have c2 := extB_cell hE n2 c2
          have c3 := extB_cell hE n3 c3
          have c4 := extB_cell hE n4 c4
          refine ⟨rfl, ?_⟩
          simp [go_sem, f21, c1, c2, c3, c4, y0, y1]
        case s5 =>
          refine step_val (v := (.pointer (some ⟨br, 1, none⟩))) (fun av wv hE hS hO hD => ?_) (fun _ => rfl)
          have h3 : av.eval (.tmp 3) = (.pointer (some ⟨br, 0, none⟩)) := hO.2.2 3 rfl
          have f3 := (ev_form av 3).symm.trans h3
          refine ⟨rfl, ?_⟩
          simp [go_sem, f3, y0, y1]
        case s6 =>
          refine step_val (v := (.int .u8 r.first)) (fun av wv hE hS hO hD => ?_) (fun _ => rfl)
          have d23 : av.eval (.tmp 23) = (.pointer (some ⟨br, 1, none⟩)) := hD.1 rfl _ rfl
          have f23 := (ev_form av 23).symm.trans d23
          have c1 := extB_cell hE n1 c1
          have c2 := extB_cell hE n2 c2
          have c3 := extB_cell hE n3 c3
          have c4 := extB_cell hE n4 c4
          refine ⟨rfl, ?_⟩
          simp [go_sem, f23, c1, c2, c3, c4, y0, y1]
        case s7 =>
          refine step_val (v := (.int .u64 n)) (fun av wv hE hS hO hD => ?_) (fun _ => rfl)
          have h1 : av.eval (.tmp 1) = (.pointer (some ⟨bn, 0, none⟩)) := hO.2.2 1 rfl
          have f1 := (ev_form av 1).symm.trans h1
          have c1 := extB_cell hE n1 c1
          have c2 := extB_cell hE n2 c2
          have c3 := extB_cell hE n3 c3
          have c4 := extB_cell hE n4 c4
          refine ⟨rfl, ?_⟩
          simp [go_sem, f1, c1, c2, c3, c4, y0, y1]
        case s8 =>
          refine step_val (v := (.int .u8 n)) (fun av wv hE hS hO hD => ?_) (fun _ => rfl)
          have d25 : av.eval (.tmp 25) = (.int .u64 n) := hD.1 rfl _ rfl
          have f25 := (ev_form av 25).symm.trans d25
          refine ⟨rfl, ?_⟩
          simp [go_sem, f25, y0, y1]
        case s9 =>
          refine step_val (v := (.int .u8 y)) (fun av wv hE hS hO hD => ?_) (fun _ => rfl)
          have d24 : av.eval (.tmp 24) = (.int .u8 r.first) := hD.1 rfl _ rfl
          have f24 := (ev_form av 24).symm.trans d24
          have d26 : av.eval (.tmp 26) = (.int .u8 n) := hD.2.1 rfl _ rfl
          have f26 := (ev_form av 26).symm.trans d26
          refine ⟨rfl, ?_⟩
          simp [go_sem, f24, f26, y0, y1]
        case s10 =>
          refine step_wp (fun av wv hE hS hO hD => ?_)
          have d27 : av.eval (.tmp 27) = (.int .u8 y) := hD.1 rfl _ rfl
          have f27 := (ev_form av 27).symm.trans d27
          refine ⟨rfl, ?_⟩
          refine wp_of_run (v := .slice (some ⟨wv.heap.size, 0, none⟩) 1 1) (w' := wv.alloc (.cells ([.int .u8 y]).toArray 5)) (by first | (simp [go_sem, f27, y0, y1]; done) | (simp [go_sem, f27, y0, y1]; rfl)) ⟨_, rfl, es_of_ext (balloc (Ext_refl _) _), wv.heap.size, rfl, ?_, heap_alloc_new _ _⟩
          exact fun e => absurd (HQ.out _ e.symm).2 (by have := hE.size; simp at this; omega)
        case s11 =>
          refine step_wp (fun av wv hE hS hO hD => ?_)
          have d22 : av.eval (.tmp 22) = (v) := hD.1 rfl _ rfl
          have f22 := (ev_form av 22).symm.trans d22
          have d28 : (fun u w' => ∃ b, u = .slice (some ⟨b, 0, none⟩) 1 1 ∧ some b ≠ v.ownBlock ∧ w'.heap[b]? = some (.cells ([.int .u8 y]).toArray 5 (0, 0))) (av.eval (.tmp 28)) wv := hD.2.1 rfl _ rfl
          refine ⟨rfl, ?_⟩
          obtain ⟨bS, hS1, hbS, hcS⟩ := d28
          have hown1 : wv.ownsRow (base) 5 1 (v) (s.size) (Lib.strCells s) := own_below (w := World.drew _) (HOWN.out) (hS rfl)
          refine wp_append_lies wv _ _ _ rfl (base) 5 i0 (.int .u8 0) 1 1 Tryz.underlying106 hi hz0 hz1 hz2 rfl (by decide) (v) (s.size) _ d22 hown1 ⟨bS, 0, none⟩ 1 1 ([.int .u8 y]) (by exact hS1) rfl (World.news_of_block hcS) (one_u8 _) (by decide) (by unfold maxLen; omega) (by omega) (by have := hE.size; simp at this; omega) _ rfl ?_
          intro g cap1 w2 hown2 hgrow hat hlt2
          exact ⟨_, rfl, es_sp hgrow, hown2⟩
        case s12 =>
          refine step_val (v := (.pointer (some ⟨b, 0, none⟩))) (fun av wv hE hS hO hD => ?_) (fun _ => rfl)
          have d18 : av.eval (.tmp 18) = (.pointer (some ⟨b, 0, none⟩)) := hD.1 rfl _ rfl
          have f18 := (ev_form av 18).symm.trans d18
          refine ⟨rfl, ?_⟩
          simp [go_sem, f18, y0, y1]
        case s13 =>
          refine step_val (v := (.pointer (some ⟨b, 0, none⟩))) (fun av wv hE hS hO hD => ?_) (fun _ => rfl)
          have d30 : av.eval (.tmp 30) = (.pointer (some ⟨b, 0, none⟩)) := hD.1 rfl _ rfl
          have f30 := (ev_form av 30).symm.trans d30
          refine ⟨rfl, ?_⟩
          simp [go_sem, f30, y0, y1]
        intro a' w' hE hO hall
        have hA := act_of_outer (ds := [18, 19, 20, 21, 22, 23, 24, 25, 26, 27, 28, 29, 30, 31]) rfl hO (by kernel_rfl)
        have e18 : (fun u _ => u = (.pointer (some ⟨b, 0, none⟩))) (a'.eval (.tmp 18)) w' := hall.1 _ rfl
        have e19 : (fun u _ => u = (.pointer (some ⟨b, 0, none⟩))) (a'.eval (.tmp 19)) w' := hall.2.1 _ rfl
        have e20 : (fun u _ => u = (.pointer (some ⟨b, 0, none⟩))) (a'.eval (.tmp 20)) w' := hall.2.2.1 _ rfl
        have e21 : (fun u _ => u = (.pointer (some ⟨b, 0, none⟩))) (a'.eval (.tmp 21)) w' := hall.2.2.2.1 _ rfl
        have e22 : (fun u _ => u = (v)) (a'.eval (.tmp 22)) w' := hall.2.2.2.2.1 _ rfl
        have e23 : (fun u _ => u = (.pointer (some ⟨br, 1, none⟩))) (a'.eval (.tmp 23)) w' := hall.2.2.2.2.2.1 _ rfl
        have e24 : (fun u _ => u = (.int .u8 r.first)) (a'.eval (.tmp 24)) w' := hall.2.2.2.2.2.2.1 _ rfl
        have e25 : (fun u _ => u = (.int .u64 n)) (a'.eval (.tmp 25)) w' := hall.2.2.2.2.2.2.2.1 _ rfl
        have e26 : (fun u _ => u = (.int .u8 n)) (a'.eval (.tmp 26)) w' := hall.2.2.2.2.2.2.2.2.1 _ rfl
        have e27 : (fun u _ => u = (.int .u8 y)) (a'.eval (.tmp 27)) w' := hall.2.2.2.2.2.2.2.2.2.1 _ rfl
        have e28 : (fun u w' => ∃ b, u = .slice (some ⟨b, 0, none⟩) 1 1 ∧ some b ≠ v.ownBlock ∧ w'.heap[b]? = some (.cells ([.int .u8 y]).toArray 5 (0, 0))) (a'.eval (.tmp 28)) w' := hall.2.2.2.2.2.2.2.2.2.2.1 _ rfl
        have e29 : (fun u w' => w'.ownsRow (base) 5 1 u (s.size + 1) (Lib.strCells s ++ [.int .u8 y])) (a'.eval (.tmp 29)) w' := hall.2.2.2.2.2.2.2.2.2.2.2.1 _ rfl
        have e30 : (fun u _ => u = (.pointer (some ⟨b, 0, none⟩))) (a'.eval (.tmp 30)) w' := hall.2.2.2.2.2.2.2.2.2.2.2.2.1 _ rfl
        have e31 : (fun u _ => u = (.pointer (some ⟨b, 0, none⟩))) (a'.eval (.tmp 31)) w' := hall.2.2.2.2.2.2.2.2.2.2.2.2.2.1 _ rfl
        obtain ⟨v28, hv28⟩ : ∃ v, a'.eval (.tmp 28) = v := ⟨_, rfl⟩
        rw [hv28] at e28
        obtain ⟨v29, hv29⟩ : ∃ v, a'.eval (.tmp 29) = v := ⟨_, rfl⟩
        rw [hv29] at e29
        simp only [List.foldl_cons, List.foldl_nil, Act.put, List.setIfInBounds_toArray, List.set_cons_succ, List.set_cons_zero, e18, e19, e20, e21, e22, e23, e24, e25, e26, e27, hv28, hv29, e30, e31] at hA
        clear hO hall e18 e19 e20 e21 e22 e23 e24 e25 e26 e27 hv28 hv29 e30 e31
        subst hA
        obtain ⟨ga, gc, rfl⟩ := own_slice e29
        have hst := wr_step (s' := s ++ baL [toB y]) hbase VV.out HOWN.out hE (by rw [baL_one]; exact e29) (by rw [strCells_app, strCells_one hy0 hy1])
        have HST := Lib.hid hst
        have hc4 := hst.1
        have hf4 := hst.2.1
        clear hst hE e29
        go_wp2
        go_ret
        refine ⟨ret_bool HX.out.symm, ?_, (WK.of_below VB.out HBS.out).trans HST.out.2.2.2⟩
        rw [HIF.out]
        have e4 : rowB r n = [toB y] := by unfold rowB; rw [if_pos HSZ.out, HY.out]
        rw [e4]; exact HST.out.2.2.1
      · have e0 : (r.size == 0) = false := by simpa using hsz
        have HSZ := Lib.hid hsz
        clear hsz
        go_upto_region 6 with fail
        obtain ⟨br, hbr⟩ : ∃ br, w.heap.size = br := ⟨_, rfl⟩
        obtain ⟨V, hV⟩ : ∃ V, w.alloc (.cells #[.int .u64 r.below, .int .u8 r.first, .int .i64 r.size] 332) = V := ⟨_, rfl⟩
        have VB : Hid (Below w.heap.size w V) := Lib.hid (by rw [← hV]; exact balloc (Below.refl _ _) _)
        have VR : Hid (V.heap[br]? = some (.cells #[.int .u64 r.below, .int .u8 r.first, .int .i64 r.size] 332 (0, 0))) := Lib.hid (by rw [← hV, ← hbr]; exact heap_alloc_new _ _)
        have VN : Hid (V.heap[bn]? = some (.cells #[.int .u64 n] 23 (0, 0))) := Lib.hid ((VB.out.block _ (lt_of_block HN.out)).trans HN.out)
        have VW : Hid (V.heap[bw]? = some (.cells #[.pointer (some ⟨b, 0, none⟩)] 166 (0, 0))) := Lib.hid ((VB.out.block _ (lt_of_block HW2.out)).trans HW2.out)
        have VV : Hid (V.heap[b]? = some (.cells #[v] 265 (0, 0))) := Lib.hid ((VB.out.block _ hltb).trans HV.out)
        have HOWN := Lib.hid (own_below HOWN0.out VB.out)
        have HQ : Hid (∀ g, v.ownBlock = some g → base ≤ g ∧ g < V.heap.size) := Lib.hid (fun g hg => HOWN.out.lt g hg)
        have n1 := own_not8 HOWN.out VN.out n8n
        have n2 := own_not8 HOWN.out VW.out n8b
        have n3 := own_not8 HOWN.out VR.out n8r
        have n4 := own_not8 HOWN.out VV.out n8w
        have c1 : V.cell? ⟨bn, 0, none⟩ = some (.int .u64 n) := block_cell VN.out 0
        have c2 : V.cell? ⟨bw, 0, none⟩ = some (.pointer (some ⟨b, 0, none⟩)) := block_cell VW.out 0
        have c3 : V.cell? ⟨br, 1, none⟩ = some (.int .u8 r.first) := block_cell VR.out 1
        have c4 : V.cell? ⟨b, 0, none⟩ = some v := block_cell VV.out 0
        have hbV : base ≤ V.heap.size := Nat.le_trans hbase (Nat.le_of_lt (lt_of_block VV.out))
        rw [hbr]
        try rw [hV]
        clear hV hbr cn cw cb
        refine wp_region_tail 11 8 (v.ownBlock) (phis [fun u _ => u = (.pointer (some ⟨b, 0, none⟩)), fun u _ => u = (.pointer (some ⟨b, 0, none⟩)), fun u _ => u = (.pointer (some ⟨b, 0, none⟩)), fun u _ => u = (.pointer (some ⟨b, 0, none⟩)), fun u _ => u = (v), fun u _ => u = (.pointer (some ⟨br, 1, none⟩)), fun u _ => u = (.int .u8 r.first), fun u w' => ∃ b, u = .slice (some ⟨b, 0, none⟩) 1 1 ∧ some b ≠ v.ownBlock ∧ w'.heap[b]? = some (.cells ([.int .u8 r.first]).toArray 5 (0, 0)), fun u w' => w'.ownsRow (base) 5 1 u (s.size + 1) (Lib.strCells s ++ [.int .u8 r.first]), fun u _ => u = (.pointer (some ⟨b, 0, none⟩)), fun u _ => u = (.pointer (some ⟨b, 0, none⟩))]) rfl (by kernel_rfl) (by kernel_rfl) (mono_of ⟨mono_eq, mono_eq, mono_eq, mono_eq, mono_eq, mono_eq, mono_eq, ?m7, ?m8, mono_eq, mono_eq, trivial⟩) (steps_of 11 ⟨?s0, ?s1, ?s2, ?s3, ?s4, ?s5, ?s6, ?s7, ?s8, ?s9, ?s10, trivial⟩) ?_
        case m7 =>
          exact ⟨fun u w1 w' h ⟨b, h1, hb, hb'⟩ => ⟨b, h1, hb, ext_block h hb'⟩, fun _ u w1 w' h ⟨b, h1, hb, hb'⟩ => ⟨b, h1, hb, extB_block h hb hb'⟩⟩
        case m8 =>
          exact ⟨fun u w1 w' h hu => own_below hu h, fun hn => absurd rfl hn⟩
        case s0 =>
          refine step_val (v := (.pointer (some ⟨b, 0, none⟩))) (fun av wv hE hS hO hD => ?_) (fun _ => rfl)
          have h2 : av.eval (.tmp 2) = (.pointer (some ⟨bw, 0, none⟩)) := hO.2.2 2 rfl
          have f2 := (ev_form av 2).symm.trans h2
          have c1 := extB_cell hE n1 c1
          have c2 := extB_cell hE n2 c2
          have c3 := extB_cell hE n3 c3
          have c4 := extB_cell hE n4 c4
          refine ⟨rfl, ?_⟩
          simp [go_sem, f2, c1, c2, c3, c4]
        case s1 =>
          refine step_val (v := (.pointer (some ⟨b, 0, none⟩))) (fun av wv hE hS hO hD => ?_) (fun _ => rfl)
          have h2 : av.eval (.tmp 2) = (.pointer (some ⟨bw, 0, none⟩)) := hO.2.2 2 rfl
          have f2 := (ev_form av 2).symm.trans h2
          have c1 := extB_cell hE n1 c1
          have c2 := extB_cell hE n2 c2
          have c3 := extB_cell hE n3 c3
          have c4 := extB_cell hE n4 c4
          refine ⟨rfl, ?_⟩
          simp [go_sem, f2, c1, c2, c3, c4]
        case s2 =>
          refine step_val (v := (.pointer (some ⟨b, 0, none⟩))) (fun av wv hE hS hO hD => ?_) (fun _ => rfl)
          have d33 : av.eval (.tmp 33) = (.pointer (some ⟨b, 0, none⟩)) := hD.1 rfl _ rfl
          have f33 := (ev_form av 33).symm.trans d33
          refine ⟨rfl, ?_⟩
          simp [go_sem, f33]
        case s3 =>
          refine step_val (v := (.pointer (some ⟨b, 0, none⟩))) (fun av wv hE hS hO hD => ?_) (fun _ => rfl)
          have d34 : av.eval (.tmp 34) = (.pointer (some ⟨b, 0, none⟩)) := hD.1 rfl _ rfl
          have f34 := (ev_form av 34).symm.trans d34
          refine ⟨rfl, ?_⟩
          simp [go_sem, f34]
        case s4 =>
          refine step_val (v := (v)) (fun av wv hE hS hO hD => ?_) (fun _ => rfl)
          have d35 : av.eval (.tmp 35) = (.pointer (some ⟨b, 0, none⟩)) := hD.1 rfl _ rfl
          have f35 := (ev_form av 35).symm.trans d35
          have c1 := extB_cell hE n1 c1
          have c2 := extB_cell hE n2 c2
          have c3 := extB_cell hE n3 c3
          have c4 := extB_cell hE n4 c4
          refine ⟨rfl, ?_⟩
          simp [go_sem, f35, c1, c2, c3, c4]
        case s5 =>
          refine step_val (v := (.pointer (some ⟨br, 1, none⟩))) (fun av wv hE hS hO hD => ?_) (fun _ => rfl)
          have h3 : av.eval (.tmp 3) = (.pointer (some ⟨br, 0, none⟩)) := hO.2.2 3 rfl
          have f3 := (ev_form av 3).symm.trans h3
          refine ⟨rfl, ?_⟩
          simp [go_sem, f3]
        case s6 =>
          refine step_val (v := (.int .u8 r.first)) (fun av wv hE hS hO hD => ?_) (fun _ => rfl)
          have d37 : av.eval (.tmp 37) = (.pointer (some ⟨br, 1, none⟩)) := hD.1 rfl _ rfl
          have f37 := (ev_form av 37).symm.trans d37
          have c1 := extB_cell hE n1 c1
          have c2 := extB_cell hE n2 c2
          have c3 := extB_cell hE n3 c3
          have c4 := extB_cell hE n4 c4
          refine ⟨rfl, ?_⟩
          simp [go_sem, f37, c1, c2, c3, c4]
        case s7 =>
          refine step_wp (fun av wv hE hS hO hD => ?_)
          have d38 : av.eval (.tmp 38) = (.int .u8 r.first) := hD.1 rfl _ rfl
          have f38 := (ev_form av 38).symm.trans d38
          refine ⟨rfl, ?_⟩
          refine wp_of_run (v := .slice (some ⟨wv.heap.size, 0, none⟩) 1 1) (w' := wv.alloc (.cells ([.int .u8 r.first]).toArray 5)) (by first | (simp [go_sem, f38]; done) | (simp [go_sem, f38]; rfl)) ⟨_, rfl, es_of_ext (balloc (Ext_refl _) _), wv.heap.size, rfl, ?_, heap_alloc_new _ _⟩
          exact fun e => absurd (HQ.out _ e.symm).2 (by have := hE.size; simp at this; omega)
        case s8 =>
          refine step_wp (fun av wv hE hS hO hD => ?_)
          have d36 : av.eval (.tmp 36) = (v) := hD.1 rfl _ rfl
          have f36 := (ev_form av 36).symm.trans d36
          have d39 : (fun u w' => ∃ b, u = .slice (some ⟨b, 0, none⟩) 1 1 ∧ some b ≠ v.ownBlock ∧ w'.heap[b]? = some (.cells ([.int .u8 r.first]).toArray 5 (0, 0))) (av.eval (.tmp 39)) wv := hD.2.1 rfl _ rfl
          refine ⟨rfl, ?_⟩
          obtain ⟨bS, hS1, hbS, hcS⟩ := d39
          have hown1 : wv.ownsRow (base) 5 1 (v) (s.size) (Lib.strCells s) := own_below (w := World.drew _) (HOWN.out) (hS rfl)
          refine wp_append_lies wv _ _ _ rfl (base) 5 i0 (.int .u8 0) 1 1 Tryz.underlying106 hi hz0 hz1 hz2 rfl (by decide) (v) (s.size) _ d36 hown1 ⟨bS, 0, none⟩ 1 1 ([.int .u8 r.first]) (by exact hS1) rfl (World.news_of_block hcS) (one_u8 _) (by decide) (by unfold maxLen; omega) (by omega) (by have := hE.size; simp at this; omega) _ rfl ?_
          intro g cap1 w2 hown2 hgrow hat hlt2
          exact ⟨_, rfl, es_sp hgrow, hown2⟩
        case s9 =>
          refine step_val (v := (.pointer (some ⟨b, 0, none⟩))) (fun av wv hE hS hO hD => ?_) (fun _ => rfl)
          have d32 : av.eval (.tmp 32) = (.pointer (some ⟨b, 0, none⟩)) := hD.1 rfl _ rfl
          have f32 := (ev_form av 32).symm.trans d32
          refine ⟨rfl, ?_⟩
          simp [go_sem, f32]
        case s10 =>
          refine step_val (v := (.pointer (some ⟨b, 0, none⟩))) (fun av wv hE hS hO hD => ?_) (fun _ => rfl)
          have d41 : av.eval (.tmp 41) = (.pointer (some ⟨b, 0, none⟩)) := hD.1 rfl _ rfl
          have f41 := (ev_form av 41).symm.trans d41
          refine ⟨rfl, ?_⟩
          simp [go_sem, f41]
        intro a' w' hE hO hall
        have hA := act_of_outer (ds := [32, 33, 34, 35, 36, 37, 38, 39, 40, 41, 42]) rfl hO (by kernel_rfl)
        have e32 : (fun u _ => u = (.pointer (some ⟨b, 0, none⟩))) (a'.eval (.tmp 32)) w' := hall.1 _ rfl
        have e33 : (fun u _ => u = (.pointer (some ⟨b, 0, none⟩))) (a'.eval (.tmp 33)) w' := hall.2.1 _ rfl
        have e34 : (fun u _ => u = (.pointer (some ⟨b, 0, none⟩))) (a'.eval (.tmp 34)) w' := hall.2.2.1 _ rfl
        have e35 : (fun u _ => u = (.pointer (some ⟨b, 0, none⟩))) (a'.eval (.tmp 35)) w' := hall.2.2.2.1 _ rfl
        have e36 : (fun u _ => u = (v)) (a'.eval (.tmp 36)) w' := hall.2.2.2.2.1 _ rfl
        have e37 : (fun u _ => u = (.pointer (some ⟨br, 1, none⟩))) (a'.eval (.tmp 37)) w' := hall.2.2.2.2.2.1 _ rfl
        have e38 : (fun u _ => u = (.int .u8 r.first)) (a'.eval (.tmp 38)) w' := hall.2.2.2.2.2.2.1 _ rfl
        have e39 : (fun u w' => ∃ b, u = .slice (some ⟨b, 0, none⟩) 1 1 ∧ some b ≠ v.ownBlock ∧ w'.heap[b]? = some (.cells ([.int .u8 r.first]).toArray 5 (0, 0))) (a'.eval (.tmp 39)) w' := hall.2.2.2.2.2.2.2.1 _ rfl
        have e40 : (fun u w' => w'.ownsRow (base) 5 1 u (s.size + 1) (Lib.strCells s ++ [.int .u8 r.first])) (a'.eval (.tmp 40)) w' := hall.2.2.2.2.2.2.2.2.1 _ rfl
        have e41 : (fun u _ => u = (.pointer (some ⟨b, 0, none⟩))) (a'.eval (.tmp 41)) w' := hall.2.2.2.2.2.2.2.2.2.1 _ rfl
        have e42 : (fun u _ => u = (.pointer (some ⟨b, 0, none⟩))) (a'.eval (.tmp 42)) w' := hall.2.2.2.2.2.2.2.2.2.2.1 _ rfl
        obtain ⟨v39, hv39⟩ : ∃ v, a'.eval (.tmp 39) = v := ⟨_, rfl⟩
        rw [hv39] at e39
        obtain ⟨v40, hv40⟩ : ∃ v, a'.eval (.tmp 40) = v := ⟨_, rfl⟩
        rw [hv40] at e40
        simp only [List.foldl_cons, List.foldl_nil, Act.put, List.setIfInBounds_toArray, List.set_cons_succ, List.set_cons_zero, e32, e33, e34, e35, e36, e37, e38, hv39, hv40, e41, e42] at hA
        clear hO hall e32 e33 e34 e35 e36 e37 e38 hv39 hv40 e41 e42
        subst hA
        obtain ⟨ga, gc, rfl⟩ := own_slice e40
        have hst := wr_step (s' := s ++ baL [toB r.first]) hbase VV.out HOWN.out hE (by rw [baL_one]; exact e40) (by rw [strCells_app, strCells_one f0 f1])
        have HST := Lib.hid hst
        have hc4 := hst.1
        have hf4 := hst.2.1
        have HBR : Hid (w'.cell? ⟨br, 2, none⟩ = some (.int .i64 r.size)) := Lib.hid (extB_cell hE n3 (block_cell VR.out 2))
        clear hst hE e40 c1 c2 c3 c4
        have hne : br ≠ b := fun e => by have h1 := VR.out; rw [e, VV.out] at h1; cases h1
        have c5 : (w'.setCell ⟨b, 0, none⟩ (.slice (some ⟨ga, 0, none⟩) (s.size + 1) gc)).cell? ⟨br, 2, none⟩ = some (.int .i64 r.size) := by
          have h := (HST.out.2.2.2).keep br _ VR.out hne n8r
          exact block_cell h 2
        obtain ⟨k, hk⟩ := Int.eq_ofNat_of_zero_le s0
        have HKK := Lib.hid hk
        have k8 : k ≤ 8 := by omega
        rw [hk] at c5
        have hw1 : IntKind.i64.wrap ((k : Int) - 1) = (k : Int) - 1 := IntWalk.i64_in _ (by omega)
        clear hk HBR
        go_wp2
        obtain ⟨V2, hV2⟩ : ∃ V2, w'.setCell ⟨b, 0, none⟩ (.slice (some ⟨ga, 0, none⟩) (s.size + 1) gc) = V2 := ⟨_, rfl⟩
        have HWR2 : Hid (WrB V2 b base (s ++ baL (toB r.first :: ((hiL n k).take (k - k)).map toB))) := Lib.hid (by rw [← hV2, Nat.sub_self]; exact HST.out.2.2.1)
        have HWK2 : Hid (WK base b V V2) := Lib.hid (by rw [← hV2]; exact HST.out.2.2.2)
        try rw [hV2]
        clear hV2 HST hc4 hf4 c5 hw1 HWR
        have nbn : bn ≠ b := fun e => by have h1 := VN.out; rw [e, VV.out] at h1; cases h1
        have nbw : bw ≠ b := fun e => by have h1 := VW.out; rw [e, VV.out] at h1; cases h1
        have hbVS : base ≤ V.heap.size := hbV
        clear n1 n2 n3 n4 hbV hltb HQ
        go_loopg [5] k (fun g i wr => g ≤ k ∧ i = .int .i64 ((g : Int) - 1) ∧ Hid (WrB wr b base (s ++ baL (toB r.first :: ((hiL n k).take (k - g)).map toB))) ∧ Hid (WK base b V wr))
        case atStart => exact ⟨Nat.le_refl _, rfl, HWR2.out, HWK2.out⟩
        case round =>
          clear HWR2 HWK2
          obtain ⟨hgk, rfl, HWR, HWK⟩ := hrel
          obtain ⟨G, hG⟩ : ∃ G, G = gk := ⟨_, rfl⟩
          subst hG
          cases G with
          | zero =>
            have e2 : ((0 : Nat) : Int) - 1 = -1 := rfl
            rw [e2]
            clear e2
            go_wp2
            go_ret
            refine ⟨ret_bool HX.out.symm, ?_, (WK.of_below VB.out HBS.out).trans HWK.out⟩
            rw [HIF.out]
            have e4 : rowB r n = toB r.first :: ((hiL n k).take (k - 0)).map toB := by
              unfold rowB
              rw [if_neg HSZ.out, HKK.out, Nat.sub_zero, List.take_of_length_le (by rw [hiL_len]; exact Nat.le_refl _)]; rfl
            rw [e4]; exact HWR.out
          | succ i =>
            have e2 : ((i + 1 : Nat) : Int) - 1 = (i : Int) := by omega
            rw [e2]
            obtain ⟨t, ht⟩ : ∃ t, s ++ baL (toB r.first :: ((hiL n k).take (k - (i + 1))).map toB) = t := ⟨_, rfl⟩
            have hts : t.size ≤ 70000000000009 := by
              rw [← ht, ByteArray.size_append, baL_size, List.length_cons, List.length_map, List.length_take, hiL_len]; omega
            obtain ⟨x, hx⟩ : ∃ x, n / 2 ^ (8 * i) % 256 = x := ⟨_, rfl⟩
            have hx0 : 0 ≤ x ∧ x ≤ 255 := by rw [← hx]; omega
            have HT : Hid (s ++ baL (toB r.first :: ((hiL n k).take (k - i)).map toB) = t ++ baL [toB x]) := Lib.hid (by
              rw [← ht, hi_next n k i (by omega), show (256 : Int) ^ i = 2 ^ (8 * i) by rw [Int.pow_mul]; rfl, hx, List.map_append, ← List.cons_append, baL_app, ByteArray.append_assoc]; rfl)
            rw [ht] at HWR
            have y0 : IntKind.u8.wrap (n / 2 ^ (8 * i)) = x := by rw [IntKind.wrap_u8]; exact hx
            have y1 : IntKind.i64.wrap (8 * (i : Int)) = 8 * (i : Int) := IntWalk.i64_in _ (by omega)
            have y2 : 0 ≤ 8 * (i : Int) := by omega
            have y3 : (8 * (i : Int)).toNat = 8 * i := by omega
            clear ht e2 hx
            obtain ⟨-, v, hv, hown⟩ := HWR.out
            have VV2 := Lib.hid hv
            have HOWN := Lib.hid hown
            have VN2 := Lib.hid (HWK.out.keep _ _ VN.out nbn n8n)
            have VW2 := Lib.hid (HWK.out.keep _ _ VW.out nbw n8b)
            have n8w : Not8 (.cells #[v] 265 (0, 0)) := not8_cells (by decide)
            have HQ : Hid (∀ g, v.ownBlock = some g → base ≤ g ∧ g < wr.heap.size) := Lib.hid (fun g hg => HOWN.out.lt g hg)
            have n1 := own_not8 HOWN.out VN2.out n8n
            have n2 := own_not8 HOWN.out VW2.out n8b
            have n4 := own_not8 HOWN.out VV2.out n8w
            have c1 : wr.cell? ⟨bn, 0, none⟩ = some (.int .u64 n) := block_cell VN2.out 0
            have c2 : wr.cell? ⟨bw, 0, none⟩ = some (.pointer (some ⟨b, 0, none⟩)) := block_cell VW2.out 0
            have c4 : wr.cell? ⟨b, 0, none⟩ = some v := block_cell VV2.out 0
            have hbV : base ≤ wr.heap.size := Nat.le_trans hbase (Nat.le_of_lt (lt_of_block VV2.out))
            clear hv hown
            go_upto_region 10 with fail
            refine wp_region_tail 14 11 (v.ownBlock) (phis [fun u _ => u = (.pointer (some ⟨b, 0, none⟩)), fun u _ => u = (.pointer (some ⟨b, 0, none⟩)), fun u _ => u = (.pointer (some ⟨b, 0, none⟩)), fun u _ => u = (.pointer (some ⟨b, 0, none⟩)), fun u _ => u = (v), fun u _ => u = (.int .u64 n), fun u _ => u = (.int .i64 i), fun u _ => u = (.int .i64 (8 * (i : Int))), fun u _ => u = (.int .u64 (n / 2 ^ (8 * i))), fun u _ => u = (.int .u8 x), fun u w' => ∃ b, u = .slice (some ⟨b, 0, none⟩) 1 1 ∧ some b ≠ v.ownBlock ∧ w'.heap[b]? = some (.cells ([.int .u8 x]).toArray 5 (0, 0)), fun u w' => w'.ownsRow (base) 5 1 u (t.size + 1) (Lib.strCells t ++ [.int .u8 x]), fun u _ => u = (.pointer (some ⟨b, 0, none⟩)), fun u _ => u = (.pointer (some ⟨b, 0, none⟩))]) rfl (by kernel_rfl) (by kernel_rfl) (mono_of ⟨mono_eq, mono_eq, mono_eq, mono_eq, mono_eq, mono_eq, mono_eq, mono_eq, mono_eq, mono_eq, ?m10, ?m11, mono_eq, mono_eq, trivial⟩) (steps_of 14 ⟨?s0, ?s1, ?s2, ?s3, ?s4, ?s5, ?s6, ?s7, ?s8, ?s9, ?s10, ?s11, ?s12, ?s13, trivial⟩) ?_
            case m10 =>
              exact ⟨fun u w1 w' h ⟨b, h1, hb, hb'⟩ => ⟨b, h1, hb, ext_block h hb'⟩, fun _ u w1 w' h ⟨b, h1, hb, hb'⟩ => ⟨b, h1, hb, extB_block h hb hb'⟩⟩
            case m11 =>
              exact ⟨fun u w1 w' h hu => own_below hu h, fun hn => absurd rfl hn⟩
            case s0 =>
              refine step_val (v := (.pointer (some ⟨b, 0, none⟩))) (fun av wv hE hS hO hD => ?_) (fun _ => rfl)
              have h2 : av.eval (.tmp 2) = (.pointer (some ⟨bw, 0, none⟩)) := hO.2.2 2 rfl
              have f2 := (ev_form av 2).symm.trans h2
              have c1 := extB_cell hE n1 c1
              have c2 := extB_cell hE n2 c2
              have c4 := extB_cell hE n4 c4
              refine ⟨rfl, ?_⟩
              simp [go_sem, f2, c1, c2, c4, y0, y1, y2, y3]
            case s1 =>
              refine step_val (v := (.pointer (some ⟨b, 0, none⟩))) (fun av wv hE hS hO hD => ?_) (fun _ => rfl)
              have h2 : av.eval (.tmp 2) = (.pointer (some ⟨bw, 0, none⟩)) := hO.2.2 2 rfl
              have f2 := (ev_form av 2).symm.trans h2
              have c1 := extB_cell hE n1 c1
              have c2 := extB_cell hE n2 c2
              have c4 := extB_cell hE n4 c4
              refine ⟨rfl, ?_⟩
              simp [go_sem, f2, c1, c2, c4, y0, y1, y2, y3]
            case s2 =>
              refine step_val (v := (.pointer (some ⟨b, 0, none⟩))) (fun av wv hE hS hO hD => ?_) (fun _ => rfl)
              have d51 : av.eval (.tmp 51) = (.pointer (some ⟨b, 0, none⟩)) := hD.1 rfl _ rfl
              have f51 := (ev_form av 51).symm.trans d51
              refine ⟨rfl, ?_⟩
              simp [go_sem, f51, y0, y1, y2, y3]
            case s3 =>
              refine step_val (v := (.pointer (some ⟨b, 0, none⟩))) (fun av wv hE hS hO hD => ?_) (fun _ => rfl)
              have d52 : av.eval (.tmp 52) = (.pointer (some ⟨b, 0, none⟩)) := hD.1 rfl _ rfl
              have f52 := (ev_form av 52).symm.trans d52
              refine ⟨rfl, ?_⟩
              simp [go_sem, f52, y0, y1, y2, y3]
            case s4 =>
              refine step_val (v := (v)) (fun av wv hE hS hO hD => ?_) (fun _ => rfl)
              have d53 : av.eval (.tmp 53) = (.pointer (some ⟨b, 0, none⟩)) := hD.1 rfl _ rfl
              have f53 := (ev_form av 53).symm.trans d53
              have c1 := extB_cell hE n1 c1
              have c2 := extB_cell hE n2 c2
              have c4 := extB_cell hE n4 c4
              refine ⟨rfl, ?_⟩
              simp [go_sem, f53, c1, c2, c4, y0, y1, y2, y3]
            case s5 =>
              refine step_val (v := (.int .u64 n)) (fun av wv hE hS hO hD => ?_) (fun _ => rfl)
              have h1 : av.eval (.tmp 1) = (.pointer (some ⟨bn, 0, none⟩)) := hO.2.2 1 rfl
              have f1 := (ev_form av 1).symm.trans h1
              have c1 := extB_cell hE n1 c1
              have c2 := extB_cell hE n2 c2
              have c4 := extB_cell hE n4 c4
              refine ⟨rfl, ?_⟩
              simp [go_sem, f1, c1, c2, c4, y0, y1, y2, y3]
            case s6 =>
              refine step_val (v := (.int .i64 i)) (fun av wv hE hS hO hD => ?_) (fun _ => rfl)
              have h5 : av.eval (.tmp 5) = (.int .i64 i) := hO.2.2 5 rfl
              have f5 := (ev_form av 5).symm.trans h5
              refine ⟨rfl, ?_⟩
              simp [go_sem, f5, y0, y1, y2, y3]
            case s7 =>
              refine step_val (v := (.int .i64 (8 * (i : Int)))) (fun av wv hE hS hO hD => ?_) (fun _ => rfl)
              have d56 : av.eval (.tmp 56) = (.int .i64 i) := hD.1 rfl _ rfl
              have f56 := (ev_form av 56).symm.trans d56
              refine ⟨rfl, ?_⟩
              simp [go_sem, f56, y0, y1, y2, y3]
            case s8 =>
              refine step_val (v := (.int .u64 (n / 2 ^ (8 * i)))) (fun av wv hE hS hO hD => ?_) (fun _ => rfl)
              have d55 : av.eval (.tmp 55) = (.int .u64 n) := hD.1 rfl _ rfl
              have f55 := (ev_form av 55).symm.trans d55
              have d57 : av.eval (.tmp 57) = (.int .i64 (8 * (i : Int))) := hD.2.1 rfl _ rfl
              have f57 := (ev_form av 57).symm.trans d57
              refine ⟨rfl, ?_⟩
              simp [go_sem, f55, f57, y0, y1, y2, y3]
            case s9 =>
              refine step_val (v := (.int .u8 x)) (fun av wv hE hS hO hD => ?_) (fun _ => rfl)
              have d58 : av.eval (.tmp 58) = (.int .u64 (n / 2 ^ (8 * i))) := hD.1 rfl _ rfl
              have f58 := (ev_form av 58).symm.trans d58
              refine ⟨rfl, ?_⟩
              simp [go_sem, f58, y0, y1, y2, y3]
            case s10 =>
              refine step_wp (fun av wv hE hS hO hD => ?_)
              have d59 : av.eval (.tmp 59) = (.int .u8 x) := hD.1 rfl _ rfl
              have f59 := (ev_form av 59).symm.trans d59
              refine ⟨rfl, ?_⟩
              refine wp_of_run (v := .slice (some ⟨wv.heap.size, 0, none⟩) 1 1) (w' := wv.alloc (.cells ([.int .u8 x]).toArray 5)) (by first | (simp [go_sem, f59, y0, y1, y2, y3]; done) | (simp [go_sem, f59, y0, y1, y2, y3]; rfl)) ⟨_, rfl, es_of_ext (balloc (Ext_refl _) _), wv.heap.size, rfl, ?_, heap_alloc_new _ _⟩
              exact fun e => absurd (HQ.out _ e.symm).2 (by have := hE.size; simp at this; omega)
            case s11 =>
              refine step_wp (fun av wv hE hS hO hD => ?_)
              have d54 : av.eval (.tmp 54) = (v) := hD.1 rfl _ rfl
              have f54 := (ev_form av 54).symm.trans d54
              have d60 : (fun u w' => ∃ b, u = .slice (some ⟨b, 0, none⟩) 1 1 ∧ some b ≠ v.ownBlock ∧ w'.heap[b]? = some (.cells ([.int .u8 x]).toArray 5 (0, 0))) (av.eval (.tmp 60)) wv := hD.2.1 rfl _ rfl
              refine ⟨rfl, ?_⟩
              obtain ⟨bS, hS1, hbS, hcS⟩ := d60
              have hown1 : wv.ownsRow (base) 5 1 (v) (t.size) (Lib.strCells t) := own_below (w := World.drew _) (HOWN.out) (hS rfl)
              refine wp_append_lies wv _ _ _ rfl (base) 5 i0 (.int .u8 0) 1 1 Tryz.underlying106 hi hz0 hz1 hz2 rfl (by decide) (v) (t.size) _ d54 hown1 ⟨bS, 0, none⟩ 1 1 ([.int .u8 x]) (by exact hS1) rfl (World.news_of_block hcS) (one_u8 _) (by decide) (by unfold maxLen; omega) (by omega) (by have := hE.size; simp at this; omega) _ rfl ?_
              intro g cap1 w2 hown2 hgrow hat hlt2
              exact ⟨_, rfl, es_sp hgrow, hown2⟩
            case s12 =>
              refine step_val (v := (.pointer (some ⟨b, 0, none⟩))) (fun av wv hE hS hO hD => ?_) (fun _ => rfl)
              have d50 : av.eval (.tmp 50) = (.pointer (some ⟨b, 0, none⟩)) := hD.1 rfl _ rfl
              have f50 := (ev_form av 50).symm.trans d50
              refine ⟨rfl, ?_⟩
              simp [go_sem, f50, y0, y1, y2, y3]
            case s13 =>
              refine step_val (v := (.pointer (some ⟨b, 0, none⟩))) (fun av wv hE hS hO hD => ?_) (fun _ => rfl)
              have d62 : av.eval (.tmp 62) = (.pointer (some ⟨b, 0, none⟩)) := hD.1 rfl _ rfl
              have f62 := (ev_form av 62).symm.trans d62
              refine ⟨rfl, ?_⟩
              simp [go_sem, f62, y0, y1, y2, y3]
            intro a' w' hE hO hall
            have hA := act_of_outer (ds := [50, 51, 52, 53, 54, 55, 56, 57, 58, 59, 60, 61, 62, 63]) rfl hO (by kernel_rfl)
            have e50 : (fun u _ => u = (.pointer (some ⟨b, 0, none⟩))) (a'.eval (.tmp 50)) w' := hall.1 _ rfl
            have e51 : (fun u _ => u = (.pointer (some ⟨b, 0, none⟩))) (a'.eval (.tmp 51)) w' := hall.2.1 _ rfl
            have e52 : (fun u _ => u = (.pointer (some ⟨b, 0, none⟩))) (a'.eval (.tmp 52)) w' := hall.2.2.1 _ rfl
            have e53 : (fun u _ => u = (.pointer (some ⟨b, 0, none⟩))) (a'.eval (.tmp 53)) w' := hall.2.2.2.1 _ rfl
            have e54 : (fun u _ => u = (v)) (a'.eval (.tmp 54)) w' := hall.2.2.2.2.1 _ rfl
            have e55 : (fun u _ => u = (.int .u64 n)) (a'.eval (.tmp 55)) w' := hall.2.2.2.2.2.1 _ rfl
            have e56 : (fun u _ => u = (.int .i64 i)) (a'.eval (.tmp 56)) w' := hall.2.2.2.2.2.2.1 _ rfl
            have e57 : (fun u _ => u = (.int .i64 (8 * (i : Int)))) (a'.eval (.tmp 57)) w' := hall.2.2.2.2.2.2.2.1 _ rfl
            have e58 : (fun u _ => u = (.int .u64 (n / 2 ^ (8 * i)))) (a'.eval (.tmp 58)) w' := hall.2.2.2.2.2.2.2.2.1 _ rfl
            have e59 : (fun u _ => u = (.int .u8 x)) (a'.eval (.tmp 59)) w' := hall.2.2.2.2.2.2.2.2.2.1 _ rfl
            have e60 : (fun u w' => ∃ b, u = .slice (some ⟨b, 0, none⟩) 1 1 ∧ some b ≠ v.ownBlock ∧ w'.heap[b]? = some (.cells ([.int .u8 x]).toArray 5 (0, 0))) (a'.eval (.tmp 60)) w' := hall.2.2.2.2.2.2.2.2.2.2.1 _ rfl
            have e61 : (fun u w' => w'.ownsRow (base) 5 1 u (t.size + 1) (Lib.strCells t ++ [.int .u8 x])) (a'.eval (.tmp 61)) w' := hall.2.2.2.2.2.2.2.2.2.2.2.1 _ rfl
            have e62 : (fun u _ => u = (.pointer (some ⟨b, 0, none⟩))) (a'.eval (.tmp 62)) w' := hall.2.2.2.2.2.2.2.2.2.2.2.2.1 _ rfl
            have e63 : (fun u _ => u = (.pointer (some ⟨b, 0, none⟩))) (a'.eval (.tmp 63)) w' := hall.2.2.2.2.2.2.2.2.2.2.2.2.2.1 _ rfl
            obtain ⟨v60, hv60⟩ : ∃ v, a'.eval (.tmp 60) = v := ⟨_, rfl⟩
            rw [hv60] at e60
            obtain ⟨v61, hv61⟩ : ∃ v, a'.eval (.tmp 61) = v := ⟨_, rfl⟩
            rw [hv61] at e61
            simp only [List.foldl_cons, List.foldl_nil, Act.put, List.setIfInBounds_toArray, List.set_cons_succ, List.set_cons_zero, e50, e51, e52, e53, e54, e55, e56, e57, e58, e59, hv60, hv61, e62, e63] at hA
            clear hO hall e50 e51 e52 e53 e54 e55 e56 e57 e58 e59 hv60 hv61 e62 e63
            subst hA
            obtain ⟨ga, gc, rfl⟩ := own_slice e61
            have hst := wr_step (s' := t ++ baL [toB x]) hbase VV2.out HOWN.out hE (by rw [baL_one]; exact e61) (by rw [strCells_app, strCells_one hx0.1 hx0.2])
            have HST := Lib.hid hst
            have hc4 := hst.1
            have hf4 := hst.2.1
            clear hst hE e61 c1 c2 c4 n1 n2 n4
            go_wp2
            go_roundg i
            case rel => exact ⟨by omega, by go_num, by rw [HT.out]; exact HST.out.2.2.1, HWK.out.trans HST.out.2.2.2⟩
            case measure => omega
    · skip
      go_enter Tryz.func255, Tryz.ntmps255
      by_cases hsz : r.size = 0
      · have e0 : (r.size == 0) = true := by simpa using hsz
        have HSZ := Lib.hid hsz
        clear hsz
        go_upto_region 4 with fail
        obtain ⟨br, hbr⟩ : ∃ br, w.heap.size = br := ⟨_, rfl⟩
        obtain ⟨V, hV⟩ : ∃ V, w.alloc (.cells #[.int .u64 r.below, .int .u8 r.first, .int .i64 r.size] 332) = V := ⟨_, rfl⟩
        have VB : Hid (Below w.heap.size w V) := Lib.hid (by rw [← hV]; exact balloc (Below.refl _ _) _)
        have VR : Hid (V.heap[br]? = some (.cells #[.int .u64 r.below, .int .u8 r.first, .int .i64 r.size] 332 (0, 0))) := Lib.hid (by rw [← hV, ← hbr]; exact heap_alloc_new _ _)
        have VN : Hid (V.heap[bn]? = some (.cells #[.int .u64 n] 23 (0, 0))) := Lib.hid ((VB.out.block _ (lt_of_block HN.out)).trans HN.out)
        have VW : Hid (V.heap[bw]? = some (.cells #[.pointer (some ⟨b, 0, none⟩)] 166 (0, 0))) := Lib.hid ((VB.out.block _ (lt_of_block HW2.out)).trans HW2.out)
        have VV : Hid (V.heap[b]? = some (.cells #[v] 265 (0, 0))) := Lib.hid ((VB.out.block _ hltb).trans HV.out)
        have HOWN := Lib.hid (own_below HOWN0.out VB.out)
        have HQ : Hid (∀ g, v.ownBlock = some g → base ≤ g ∧ g < V.heap.size) := Lib.hid (fun g hg => HOWN.out.lt g hg)
        have n1 := own_not8 HOWN.out VN.out n8n
        have n2 := own_not8 HOWN.out VW.out n8b
        have n3 := own_not8 HOWN.out VR.out n8r
        have n4 := own_not8 HOWN.out VV.out n8w
        have c1 : V.cell? ⟨bn, 0, none⟩ = some (.int .u64 n) := block_cell VN.out 0
        have c2 : V.cell? ⟨bw, 0, none⟩ = some (.pointer (some ⟨b, 0, none⟩)) := block_cell VW.out 0
        have c3 : V.cell? ⟨br, 1, none⟩ = some (.int .u8 r.first) := block_cell VR.out 1
        have c4 : V.cell? ⟨b, 0, none⟩ = some v := block_cell VV.out 0
        have hbV : base ≤ V.heap.size := Nat.le_trans hbase (Nat.le_of_lt (lt_of_block VV.out))
        obtain ⟨y, hy⟩ : ∃ y, r.first + n = y := ⟨_, rfl⟩
        have hy1 : y ≤ 255 := by rw [← hy]; exact HFIT.out HSZ.out
        have y0 : IntKind.u8.wrap n = n := IntWalk.u8_in _ (by omega)
        have y1 : IntKind.u8.wrap (r.first + n) = y := by rw [hy]; exact IntWalk.u8_in _ (by omega)
        have hy0 : 0 ≤ y := by omega
        have HY := Lib.hid hy
        rw [hbr]
        try rw [hV]
        clear hV hbr hy cn cw cb
        refine wp_region_tail 14 11 (v.ownBlock) (phis [fun u _ => u = (.pointer (some ⟨b, 0, none⟩)), fun u _ => u = (.pointer (some ⟨b, 0, none⟩)), fun u _ => u = (.pointer (some ⟨b, 0, none⟩)), fun u _ => u = (.pointer (some ⟨b, 0, none⟩)), fun u _ => u = (v), fun u _ => u = (.pointer (some ⟨br, 1, none⟩)), fun u _ => u = (.int .u8 r.first), fun u _ => u = (.int .u64 n), fun u _ => u = (.int .u8 n), fun u _ => u = (.int .u8 y), fun u w' => ∃ b, u = .slice (some ⟨b, 0, none⟩) 1 1 ∧ some b ≠ v.ownBlock ∧ w'.heap[b]? = some (.cells ([.int .u8 y]).toArray 5 (0, 0)), fun u w' => w'.ownsRow (base) 5 1 u (s.size + 1) (Lib.strCells s ++ [.int .u8 y]), fun u _ => u = (.pointer (some ⟨b, 0, none⟩)), fun u _ => u = (.pointer (some ⟨b, 0, none⟩))]) rfl (by kernel_rfl) (by kernel_rfl) (mono_of ⟨mono_eq, mono_eq, mono_eq, mono_eq, mono_eq, mono_eq, mono_eq, mono_eq, mono_eq, mono_eq, ?m10, ?m11, mono_eq, mono_eq, trivial⟩) (steps_of 14 ⟨?s0, ?s1, ?s2, ?s3, ?s4, ?s5, ?s6, ?s7, ?s8, ?s9, ?s10, ?s11, ?s12, ?s13, trivial⟩) ?_
        case m10 =>
          exact ⟨fun u w1 w' h ⟨b, h1, hb, hb'⟩ => ⟨b, h1, hb, ext_block h hb'⟩, fun _ u w1 w' h ⟨b, h1, hb, hb'⟩ => ⟨b, h1, hb, extB_block h hb hb'⟩⟩
        case m11 =>
          exact ⟨fun u w1 w' h hu => own_below hu h, fun hn => absurd rfl hn⟩
        case s0 =>
          refine step_val (v := (.pointer (some ⟨b, 0, none⟩))) (fun av wv hE hS hO hD => ?_) (fun _ => rfl)
          have h2 : av.eval (.tmp 2) = (.pointer (some ⟨bw, 0, none⟩)) := hO.2.2 2 rfl
          have f2 := (ev_form av 2).symm.trans h2
          have c1 := extB_cell hE n1 c1
          have c2 := extB_cell hE n2 c2
          have c3 := extB_cell hE n3 c3
          have c4 := extB_cell hE n4 c4
          refine ⟨rfl, ?_⟩
          simp [go_sem, f2, c1, c2, c3, c4, y0, y1]
        case s1 =>
          refine step_val (v := (.pointer (some ⟨b, 0, none⟩))) (fun av wv hE hS hO hD => ?_) (fun _ => rfl)
          have h2 : av.eval (.tmp 2) = (.pointer (some ⟨bw, 0, none⟩)) := hO.2.2 2 rfl
          have f2 := (ev_form av 2).symm.trans h2
          have c1 := extB_cell hE n1 c1
          have c2 := extB_cell hE n2 c2
          have c3 := extB_cell hE n3 c3
          have c4 := extB_cell hE n4 c4
          refine ⟨rfl, ?_⟩
          simp [go_sem, f2, c1, c2, c3, c4, y0, y1]
        case s2 =>
          refine step_val (v := (.pointer (some ⟨b, 0, none⟩))) (fun av wv hE hS hO hD => ?_) (fun _ => rfl)
          have d19 : av.eval (.tmp 19) = (.pointer (some ⟨b, 0, none⟩)) := hD.1 rfl _ rfl
          have f19 := (ev_form av 19).symm.trans d19
          refine ⟨rfl, ?_⟩
          simp [go_sem, f19, y0, y1]
        case s3 =>
          refine step_val (v := (.pointer (some ⟨b, 0, none⟩))) (fun av wv hE hS hO hD => ?_) (fun _ => rfl)
          have d20 : av.eval (.tmp 20) = (.pointer (some ⟨b, 0, none⟩)) := hD.1 rfl _ rfl
          have f20 := (ev_form av 20).symm.trans d20
          refine ⟨rfl, ?_⟩
          simp [go_sem, f20, y0, y1]
        case s4 =>
          refine step_val (v := (v)) (fun av wv hE hS hO hD => ?_) (fun _ => rfl)
          have d21 : av.eval (.tmp 21) = (.pointer (some ⟨b, 0, none⟩)) := hD.1 rfl _ rfl
          have f21 := (ev_form av 21).symm.trans d21
          have c1 := extB_cell hE n1 c1
          have c2 := extB_cell hE n2 c2
          have c3 := extB_cell hE n3 c3
          have c4 := extB_cell hE n4 c4
          refine ⟨rfl, ?_⟩
          simp [go_sem, f21, c1, c2, c3, c4, y0, y1]
        case s5 =>
          refine step_val (v := (.pointer (some ⟨br, 1, none⟩))) (fun av wv hE hS hO hD => ?_) (fun _ => rfl)
          have h3 : av.eval (.tmp 3) = (.pointer (some ⟨br, 0, none⟩)) := hO.2.2 3 rfl
          have f3 := (ev_form av 3).symm.trans h3
          refine ⟨rfl, ?_⟩
          simp [go_sem, f3, y0, y1]
        case s6 =>
          refine step_val (v := (.int .u8 r.first)) (fun av wv hE hS hO hD => ?_) (fun _ => rfl)
          have d23 : av.eval (.tmp 23) = (.pointer (some ⟨br, 1, none⟩)) := hD.1 rfl _ rfl
          have f23 := (ev_form av 23).symm.trans d23
          have c1 := extB_cell hE n1 c1
          have c2 := extB_cell hE n2 c2
          have c3 := extB_cell hE n3 c3
          have c4 := extB_cell hE n4 c4
          refine ⟨rfl, ?_⟩
          simp [go_sem, f23, c1, c2, c3, c4, y0, y1]
        case s7 =>
          refine step_val (v := (.int .u64 n)) (fun av wv hE hS hO hD => ?_) (fun _ => rfl)
          have h1 : av.eval (.tmp 1) = (.pointer (some ⟨bn, 0, none⟩)) := hO.2.2 1 rfl
          have f1 := (ev_form av 1).symm.trans h1
          have c1 := extB_cell hE n1 c1
          have c2 := extB_cell hE n2 c2
          have c3 := extB_cell hE n3 c3
          have c4 := extB_cell hE n4 c4
          refine ⟨rfl, ?_⟩
          simp [go_sem, f1, c1, c2, c3, c4, y0, y1]
        case s8 =>
          refine step_val (v := (.int .u8 n)) (fun av wv hE hS hO hD => ?_) (fun _ => rfl)
          have d25 : av.eval (.tmp 25) = (.int .u64 n) := hD.1 rfl _ rfl
          have f25 := (ev_form av 25).symm.trans d25
          refine ⟨rfl, ?_⟩
          simp [go_sem, f25, y0, y1]
        case s9 =>
          refine step_val (v := (.int .u8 y)) (fun av wv hE hS hO hD => ?_) (fun _ => rfl)
          have d24 : av.eval (.tmp 24) = (.int .u8 r.first) := hD.1 rfl _ rfl
          have f24 := (ev_form av 24).symm.trans d24
          have d26 : av.eval (.tmp 26) = (.int .u8 n) := hD.2.1 rfl _ rfl
          have f26 := (ev_form av 26).symm.trans d26
          refine ⟨rfl, ?_⟩
          simp [go_sem, f24, f26, y0, y1]
        case s10 =>
          refine step_wp (fun av wv hE hS hO hD => ?_)
          have d27 : av.eval (.tmp 27) = (.int .u8 y) := hD.1 rfl _ rfl
          have f27 := (ev_form av 27).symm.trans d27
          refine ⟨rfl, ?_⟩
          refine wp_of_run (v := .slice (some ⟨wv.heap.size, 0, none⟩) 1 1) (w' := wv.alloc (.cells ([.int .u8 y]).toArray 5)) (by first | (simp [go_sem, f27, y0, y1]; done) | (simp [go_sem, f27, y0, y1]; rfl)) ⟨_, rfl, es_of_ext (balloc (Ext_refl _) _), wv.heap.size, rfl, ?_, heap_alloc_new _ _⟩
          exact fun e => absurd (HQ.out _ e.symm).2 (by have := hE.size; simp at this; omega)
        case s11 =>
          refine step_wp (fun av wv hE hS hO hD => ?_)
          have d22 : av.eval (.tmp 22) = (v) := hD.1 rfl _ rfl
          have f22 := (ev_form av 22).symm.trans d22
          have d28 : (fun u w' => ∃ b, u = .slice (some ⟨b, 0, none⟩) 1 1 ∧ some b ≠ v.ownBlock ∧ w'.heap[b]? = some (.cells ([.int .u8 y]).toArray 5 (0, 0))) (av.eval (.tmp 28)) wv := hD.2.1 rfl _ rfl
          refine ⟨rfl, ?_⟩
          obtain ⟨bS, hS1, hbS, hcS⟩ := d28
          have hown1 : wv.ownsRow (base) 5 1 (v) (s.size) (Lib.strCells s) := own_below (w := World.drew _) (HOWN.out) (hS rfl)
          refine wp_append_lies wv _ _ _ rfl (base) 5 i0 (.int .u8 0) 1 1 Tryz.underlying106 hi hz0 hz1 hz2 rfl (by decide) (v) (s.size) _ d22 hown1 ⟨bS, 0, none⟩ 1 1 ([.int .u8 y]) (by exact hS1) rfl (World.news_of_block hcS) (one_u8 _) (by decide) (by unfold maxLen; omega) (by omega) (by have := hE.size; simp at this; omega) _ rfl ?_
          intro g cap1 w2 hown2 hgrow hat hlt2
          exact ⟨_, rfl, es_sp hgrow, hown2⟩
        case s12 =>
          refine step_val (v := (.pointer (some ⟨b, 0, none⟩))) (fun av wv hE hS hO hD => ?_) (fun _ => rfl)
          have d18 : av.eval (.tmp 18) = (.pointer (some ⟨b, 0, none⟩)) := hD.1 rfl _ rfl
          have f18 := (ev_form av 18).symm.trans d18
          refine ⟨rfl, ?_⟩
          simp [go_sem, f18, y0, y1]
        case s13 =>
          refine step_val (v := (.pointer (some ⟨b, 0, none⟩))) (fun av wv hE hS hO hD => ?_) (fun _ => rfl)
          have d30 : av.eval (.tmp 30) = (.pointer (some ⟨b, 0, none⟩)) := hD.1 rfl _ rfl
          have f30 := (ev_form av 30).symm.trans d30
          refine ⟨rfl, ?_⟩
          simp [go_sem, f30, y0, y1]
        intro a' w' hE hO hall
        have hA := act_of_outer (ds := [18, 19, 20, 21, 22, 23, 24, 25, 26, 27, 28, 29, 30, 31]) rfl hO (by kernel_rfl)
        have e18 : (fun u _ => u = (.pointer (some ⟨b, 0, none⟩))) (a'.eval (.tmp 18)) w' := hall.1 _ rfl
        have e19 : (fun u _ => u = (.pointer (some ⟨b, 0, none⟩))) (a'.eval (.tmp 19)) w' := hall.2.1 _ rfl
        have e20 : (fun u _ => u = (.pointer (some ⟨b, 0, none⟩))) (a'.eval (.tmp 20)) w' := hall.2.2.1 _ rfl
        have e21 : (fun u _ => u = (.pointer (some ⟨b, 0, none⟩))) (a'.eval (.tmp 21)) w' := hall.2.2.2.1 _ rfl
        have e22 : (fun u _ => u = (v)) (a'.eval (.tmp 22)) w' := hall.2.2.2.2.1 _ rfl
        have e23 : (fun u _ => u = (.pointer (some ⟨br, 1, none⟩))) (a'.eval (.tmp 23)) w' := hall.2.2.2.2.2.1 _ rfl
        have e24 : (fun u _ => u = (.int .u8 r.first)) (a'.eval (.tmp 24)) w' := hall.2.2.2.2.2.2.1 _ rfl
        have e25 : (fun u _ => u = (.int .u64 n)) (a'.eval (.tmp 25)) w' := hall.2.2.2.2.2.2.2.1 _ rfl
        have e26 : (fun u _ => u = (.int .u8 n)) (a'.eval (.tmp 26)) w' := hall.2.2.2.2.2.2.2.2.1 _ rfl
        have e27 : (fun u _ => u = (.int .u8 y)) (a'.eval (.tmp 27)) w' := hall.2.2.2.2.2.2.2.2.2.1 _ rfl
        have e28 : (fun u w' => ∃ b, u = .slice (some ⟨b, 0, none⟩) 1 1 ∧ some b ≠ v.ownBlock ∧ w'.heap[b]? = some (.cells ([.int .u8 y]).toArray 5 (0, 0))) (a'.eval (.tmp 28)) w' := hall.2.2.2.2.2.2.2.2.2.2.1 _ rfl
        have e29 : (fun u w' => w'.ownsRow (base) 5 1 u (s.size + 1) (Lib.strCells s ++ [.int .u8 y])) (a'.eval (.tmp 29)) w' := hall.2.2.2.2.2.2.2.2.2.2.2.1 _ rfl
        have e30 : (fun u _ => u = (.pointer (some ⟨b, 0, none⟩))) (a'.eval (.tmp 30)) w' := hall.2.2.2.2.2.2.2.2.2.2.2.2.1 _ rfl
        have e31 : (fun u _ => u = (.pointer (some ⟨b, 0, none⟩))) (a'.eval (.tmp 31)) w' := hall.2.2.2.2.2.2.2.2.2.2.2.2.2.1 _ rfl
        obtain ⟨v28, hv28⟩ : ∃ v, a'.eval (.tmp 28) = v := ⟨_, rfl⟩
        rw [hv28] at e28
        obtain ⟨v29, hv29⟩ : ∃ v, a'.eval (.tmp 29) = v := ⟨_, rfl⟩
        rw [hv29] at e29
        simp only [List.foldl_cons, List.foldl_nil, Act.put, List.setIfInBounds_toArray, List.set_cons_succ, List.set_cons_zero, e18, e19, e20, e21, e22, e23, e24, e25, e26, e27, hv28, hv29, e30, e31] at hA
        clear hO hall e18 e19 e20 e21 e22 e23 e24 e25 e26 e27 hv28 hv29 e30 e31
        subst hA
        obtain ⟨ga, gc, rfl⟩ := own_slice e29
        have hst := wr_step (s' := s ++ baL [toB y]) hbase VV.out HOWN.out hE (by rw [baL_one]; exact e29) (by rw [strCells_app, strCells_one hy0 hy1])
        have HST := Lib.hid hst
        have hc4 := hst.1
        have hf4 := hst.2.1
        clear hst hE e29
        go_wp2
        go_ret
        refine ⟨ret_bool HX.out.symm, ?_, (WK.of_below VB.out HBS.out).trans HST.out.2.2.2⟩
        rw [HIF.out]
        have e4 : rowB r n = [toB y] := by unfold rowB; rw [if_pos HSZ.out, HY.out]
        rw [e4]; exact HST.out.2.2.1
      · have e0 : (r.size == 0) = false := by simpa using hsz
        have HSZ := Lib.hid hsz
        clear hsz
        go_upto_region 6 with fail
        obtain ⟨br, hbr⟩ : ∃ br, w.heap.size = br := ⟨_, rfl⟩
        obtain ⟨V, hV⟩ : ∃ V, w.alloc (.cells #[.int .u64 r.below, .int .u8 r.first, .int .i64 r.size] 332) = V := ⟨_, rfl⟩
        have VB : Hid (Below w.heap.size w V) := Lib.hid (by rw [← hV]; exact balloc (Below.refl _ _) _)
        have VR : Hid (V.heap[br]? = some (.cells #[.int .u64 r.below, .int .u8 r.first, .int .i64 r.size] 332 (0, 0))) := Lib.hid (by rw [← hV, ← hbr]; exact heap_alloc_new _ _)
        have VN : Hid (V.heap[bn]? = some (.cells #[.int .u64 n] 23 (0, 0))) := Lib.hid ((VB.out.block _ (lt_of_block HN.out)).trans HN.out)
        have VW : Hid (V.heap[bw]? = some (.cells #[.pointer (some ⟨b, 0, none⟩)] 166 (0, 0))) := Lib.hid ((VB.out.block _ (lt_of_block HW2.out)).trans HW2.out)
        have VV : Hid (V.heap[b]? = some (.cells #[v] 265 (0, 0))) := Lib.hid ((VB.out.block _ hltb).trans HV.out)
        have HOWN := Lib.hid (own_below HOWN0.out VB.out)
        have HQ : Hid (∀ g, v.ownBlock = some g → base ≤ g ∧ g < V.heap.size) := Lib.hid (fun g hg => HOWN.out.lt g hg)
        have n1 := own_not8 HOWN.out VN.out n8n
        have n2 := own_not8 HOWN.out VW.out n8b
        have n3 := own_not8 HOWN.out VR.out n8r
        have n4 := own_not8 HOWN.out VV.out n8w
        have c1 : V.cell? ⟨bn, 0, none⟩ = some (.int .u64 n) := block_cell VN.out 0
        have c2 : V.cell? ⟨bw, 0, none⟩ = some (.pointer (some ⟨b, 0, none⟩)) := block_cell VW.out 0
        have c3 : V.cell? ⟨br, 1, none⟩ = some (.int .u8 r.first) := block_cell VR.out 1
        have c4 : V.cell? ⟨b, 0, none⟩ = some v := block_cell VV.out 0
        have hbV : base ≤ V.heap.size := Nat.le_trans hbase (Nat.le_of_lt (lt_of_block VV.out))
        rw [hbr]
        try rw [hV]
        clear hV hbr cn cw cb
        refine wp_region_tail 11 8 (v.ownBlock) (phis [fun u _ => u = (.pointer (some ⟨b, 0, none⟩)), fun u _ => u = (.pointer (some ⟨b, 0, none⟩)), fun u _ => u = (.pointer (some ⟨b, 0, none⟩)), fun u _ => u = (.pointer (some ⟨b, 0, none⟩)), fun u _ => u = (v), fun u _ => u = (.pointer (some ⟨br, 1, none⟩)), fun u _ => u = (.int .u8 r.first), fun u w' => ∃ b, u = .slice (some ⟨b, 0, none⟩) 1 1 ∧ some b ≠ v.ownBlock ∧ w'.heap[b]? = some (.cells ([.int .u8 r.first]).toArray 5 (0, 0)), fun u w' => w'.ownsRow (base) 5 1 u (s.size + 1) (Lib.strCells s ++ [.int .u8 r.first]), fun u _ => u = (.pointer (some ⟨b, 0, none⟩)), fun u _ => u = (.pointer (some ⟨b, 0, none⟩))]) rfl (by kernel_rfl) (by kernel_rfl) (mono_of ⟨mono_eq, mono_eq, mono_eq, mono_eq, mono_eq, mono_eq, mono_eq, ?m7, ?m8, mono_eq, mono_eq, trivial⟩) (steps_of 11 ⟨?s0, ?s1, ?s2, ?s3, ?s4, ?s5, ?s6, ?s7, ?s8, ?s9, ?s10, trivial⟩) ?_
        case m7 =>
          exact ⟨fun u w1 w' h ⟨b, h1, hb, hb'⟩ => ⟨b, h1, hb, ext_block h hb'⟩, fun _ u w1 w' h ⟨b, h1, hb, hb'⟩ => ⟨b, h1, hb, extB_block h hb hb'⟩⟩
        case m8 =>
          exact ⟨fun u w1 w' h hu => own_below hu h, fun hn => absurd rfl hn⟩
        case s0 =>
          refine step_val (v := (.pointer (some ⟨b, 0, none⟩))) (fun av wv hE hS hO hD => ?_) (fun _ => rfl)
          have h2 : av.eval (.tmp 2) = (.pointer (some ⟨bw, 0, none⟩)) := hO.2.2 2 rfl
          have f2 := (ev_form av 2).symm.trans h2
          have c1 := extB_cell hE n1 c1
          have c2 := extB_cell hE n2 c2
          have c3 := extB_cell hE n3 c3
          have c4 := extB_cell hE n4 c4
          refine ⟨rfl, ?_⟩
          simp [go_sem, f2, c1, c2, c3, c4]
        case s1 =>
          refine step_val (v := (.pointer (some ⟨b, 0, none⟩))) (fun av wv hE hS hO hD => ?_) (fun _ => rfl)
          have h2 : av.eval (.tmp 2) = (.pointer (some ⟨bw, 0, none⟩)) := hO.2.2 2 rfl
          have f2 := (ev_form av 2).symm.trans h2
          have c1 := extB_cell hE n1 c1
          have c2 := extB_cell hE n2 c2
          have c3 := extB_cell hE n3 c3
          have c4 := extB_cell hE n4 c4
          refine ⟨rfl, ?_⟩
          simp [go_sem, f2, c1, c2, c3, c4]
        case s2 =>
          refine step_val (v := (.pointer (some ⟨b, 0, none⟩))) (fun av wv hE hS hO hD => ?_) (fun _ => rfl)
          have d33 : av.eval (.tmp 33) = (.pointer (some ⟨b, 0, none⟩)) := hD.1 rfl _ rfl
          have f33 := (ev_form av 33).symm.trans d33
          refine ⟨rfl, ?_⟩
          simp [go_sem, f33]
        case s3 =>
          refine step_val (v := (.pointer (some ⟨b, 0, none⟩))) (fun av wv hE hS hO hD => ?_) (fun _ => rfl)
          have d34 : av.eval (.tmp 34) = (.pointer (some ⟨b, 0, none⟩)) := hD.1 rfl _ rfl
          have f34 := (ev_form av 34).symm.trans d34
          refine ⟨rfl, ?_⟩
          simp [go_sem, f34]
        case s4 =>
          refine step_val (v := (v)) (fun av wv hE hS hO hD => ?_) (fun _ => rfl)
          have d35 : av.eval (.tmp 35) = (.pointer (some ⟨b, 0, none⟩)) := hD.1 rfl _ rfl
          have f35 := (ev_form av 35).symm.trans d35
          have c1 := extB_cell hE n1 c1
          have c2 := extB_cell hE n2 c2
          have c3 := extB_cell hE n3 c3
          have c4 := extB_cell hE n4 c4
          refine ⟨rfl, ?_⟩
          simp [go_sem, f35, c1, c2, c3, c4]
        case s5 =>
          refine step_val (v := (.pointer (some ⟨br, 1, none⟩))) (fun av wv hE hS hO hD => ?_) (fun _ => rfl)
          have h3 : av.eval (.tmp 3) = (.pointer (some ⟨br, 0, none⟩)) := hO.2.2 3 rfl
          have f3 := (ev_form av 3).symm.trans h3
          refine ⟨rfl, ?_⟩
          simp [go_sem, f3]
        case s6 =>
          refine step_val (v := (.int .u8 r.first)) (fun av wv hE hS hO hD => ?_) (fun _ => rfl)
          have d37 : av.eval (.tmp 37) = (.pointer (some ⟨br, 1, none⟩)) := hD.1 rfl _ rfl
          have f37 := (ev_form av 37).symm.trans d37
          have c1 := extB_cell hE n1 c1
          have c2 := extB_cell hE n2 c2
          have c3 := extB_cell hE n3 c3
          have c4 := extB_cell hE n4 c4
          refine ⟨rfl, ?_⟩
          simp [go_sem, f37, c1, c2, c3, c4]
        case s7 =>
          refine step_wp (fun av wv hE hS hO hD => ?_)
          have d38 : av.eval (.tmp 38) = (.int .u8 r.first) := hD.1 rfl _ rfl
          have f38 := (ev_form av 38).symm.trans d38
          refine ⟨rfl, ?_⟩
          refine wp_of_run (v := .slice (some ⟨wv.heap.size, 0, none⟩) 1 1) (w' := wv.alloc (.cells ([.int .u8 r.first]).toArray 5)) (by first | (simp [go_sem, f38]; done) | (simp [go_sem, f38]; rfl)) ⟨_, rfl, es_of_ext (balloc (Ext_refl _) _), wv.heap.size, rfl, ?_, heap_alloc_new _ _⟩
          exact fun e => absurd (HQ.out _ e.symm).2 (by have := hE.size; simp at this; omega)
        case s8 =>
          refine step_wp (fun av wv hE hS hO hD => ?_)
          have d36 : av.eval (.tmp 36) = (v) := hD.1 rfl _ rfl
          have f36 := (ev_form av 36).symm.trans d36
          have d39 : (fun u w' => ∃ b, u = .slice (some ⟨b, 0, none⟩) 1 1 ∧ some b ≠ v.ownBlock ∧ w'.heap[b]? = some (.cells ([.int .u8 r.first]).toArray 5 (0, 0))) (av.eval (.tmp 39)) wv := hD.2.1 rfl _ rfl
          refine ⟨rfl, ?_⟩
          obtain ⟨bS, hS1, hbS, hcS⟩ := d39
          have hown1 : wv.ownsRow (base) 5 1 (v) (s.size) (Lib.strCells s) := own_below (w := World.drew _) (HOWN.out) (hS rfl)
          refine wp_append_lies wv _ _ _ rfl (base) 5 i0 (.int .u8 0) 1 1 Tryz.underlying106 hi hz0 hz1 hz2 rfl (by decide) (v) (s.size) _ d36 hown1 ⟨bS, 0, none⟩ 1 1 ([.int .u8 r.first]) (by exact hS1) rfl (World.news_of_block hcS) (one_u8 _) (by decide) (by unfold maxLen; omega) (by omega) (by have := hE.size; simp at this; omega) _ rfl ?_
          intro g cap1 w2 hown2 hgrow hat hlt2
          exact ⟨_, rfl, es_sp hgrow, hown2⟩
        case s9 =>
          refine step_val (v := (.pointer (some ⟨b, 0, none⟩))) (fun av wv hE hS hO hD => ?_) (fun _ => rfl)
          have d32 : av.eval (.tmp 32) = (.pointer (some ⟨b, 0, none⟩)) := hD.1 rfl _ rfl
          have f32 := (ev_form av 32).symm.trans d32
          refine ⟨rfl, ?_⟩
          simp [go_sem, f32]
        case s10 =>
          refine step_val (v := (.pointer (some ⟨b, 0, none⟩))) (fun av wv hE hS hO hD => ?_) (fun _ => rfl)
          have d41 : av.eval (.tmp 41) = (.pointer (some ⟨b, 0, none⟩)) := hD.1 rfl _ rfl
          have f41 := (ev_form av 41).symm.trans d41
          refine ⟨rfl, ?_⟩
          simp [go_sem, f41]
        intro a' w' hE hO hall
        have hA := act_of_outer (ds := [32, 33, 34, 35, 36, 37, 38, 39, 40, 41, 42]) rfl hO (by kernel_rfl)
        have e32 : (fun u _ => u = (.pointer (some ⟨b, 0, none⟩))) (a'.eval (.tmp 32)) w' := hall.1 _ rfl
        have e33 : (fun u _ => u = (.pointer (some ⟨b, 0, none⟩))) (a'.eval (.tmp 33)) w' := hall.2.1 _ rfl
        have e34 : (fun u _ => u = (.pointer (some ⟨b, 0, none⟩))) (a'.eval (.tmp 34)) w' := hall.2.2.1 _ rfl
        have e35 : (fun u _ => u = (.pointer (some ⟨b, 0, none⟩))) (a'.eval (.tmp 35)) w' := hall.2.2.2.1 _ rfl
        have e36 : (fun u _ => u = (v)) (a'.eval (.tmp 36)) w' := hall.2.2.2.2.1 _ rfl
        have e37 : (fun u _ => u = (.pointer (some ⟨br, 1, none⟩))) (a'.eval (.tmp 37)) w' := hall.2.2.2.2.2.1 _ rfl
        have e38 : (fun u _ => u = (.int .u8 r.first)) (a'.eval (.tmp 38)) w' := hall.2.2.2.2.2.2.1 _ rfl
        have e39 : (fun u w' => ∃ b, u = .slice (some ⟨b, 0, none⟩) 1 1 ∧ some b ≠ v.ownBlock ∧ w'.heap[b]? = some (.cells ([.int .u8 r.first]).toArray 5 (0, 0))) (a'.eval (.tmp 39)) w' := hall.2.2.2.2.2.2.2.1 _ rfl
        have e40 : (fun u w' => w'.ownsRow (base) 5 1 u (s.size + 1) (Lib.strCells s ++ [.int .u8 r.first])) (a'.eval (.tmp 40)) w' := hall.2.2.2.2.2.2.2.2.1 _ rfl
        have e41 : (fun u _ => u = (.pointer (some ⟨b, 0, none⟩))) (a'.eval (.tmp 41)) w' := hall.2.2.2.2.2.2.2.2.2.1 _ rfl
        have e42 : (fun u _ => u = (.pointer (some ⟨b, 0, none⟩))) (a'.eval (.tmp 42)) w' := hall.2.2.2.2.2.2.2.2.2.2.1 _ rfl
        obtain ⟨v39, hv39⟩ : ∃ v, a'.eval (.tmp 39) = v := ⟨_, rfl⟩
        rw [hv39] at e39
        obtain ⟨v40, hv40⟩ : ∃ v, a'.eval (.tmp 40) = v := ⟨_, rfl⟩
        rw [hv40] at e40
        simp only [List.foldl_cons, List.foldl_nil, Act.put, List.setIfInBounds_toArray, List.set_cons_succ, List.set_cons_zero, e32, e33, e34, e35, e36, e37, e38, hv39, hv40, e41, e42] at hA
        clear hO hall e32 e33 e34 e35 e36 e37 e38 hv39 hv40 e41 e42
        subst hA
        obtain ⟨ga, gc, rfl⟩ := own_slice e40
        have hst := wr_step (s' := s ++ baL [toB r.first]) hbase VV.out HOWN.out hE (by rw [baL_one]; exact e40) (by rw [strCells_app, strCells_one f0 f1])
        have HST := Lib.hid hst
        have hc4 := hst.1
        have hf4 := hst.2.1
        have HBR : Hid (w'.cell? ⟨br, 2, none⟩ = some (.int .i64 r.size)) := Lib.hid (extB_cell hE n3 (block_cell VR.out 2))
        clear hst hE e40 c1 c2 c3 c4
        have hne : br ≠ b := fun e => by have h1 := VR.out; rw [e, VV.out] at h1; cases h1
        have c5 : (w'.setCell ⟨b, 0, none⟩ (.slice (some ⟨ga, 0, none⟩) (s.size + 1) gc)).cell? ⟨br, 2, none⟩ = some (.int .i64 r.size) := by
          have h := (HST.out.2.2.2).keep br _ VR.out hne n8r
          exact block_cell h 2
        obtain ⟨k, hk⟩ := Int.eq_ofNat_of_zero_le s0
        have HKK := Lib.hid hk
        have k8 : k ≤ 8 := by omega
        rw [hk] at c5
        have hw1 : IntKind.i64.wrap ((k : Int) - 1) = (k : Int) - 1 := IntWalk.i64_in _ (by omega)
        clear hk HBR
        go_wp2
        obtain ⟨V2, hV2⟩ : ∃ V2, w'.setCell ⟨b, 0, none⟩ (.slice (some ⟨ga, 0, none⟩) (s.size + 1) gc) = V2 := ⟨_, rfl⟩
        have HWR2 : Hid (WrB V2 b base (s ++ baL (toB r.first :: ((hiL n k).take (k - k)).map toB))) := Lib.hid (by rw [← hV2, Nat.sub_self]; exact HST.out.2.2.1)
        have HWK2 : Hid (WK base b V V2) := Lib.hid (by rw [← hV2]; exact HST.out.2.2.2)
        try rw [hV2]
        clear hV2 HST hc4 hf4 c5 hw1 HWR
        have nbn : bn ≠ b := fun e => by have h1 := VN.out; rw [e, VV.out] at h1; cases h1
        have nbw : bw ≠ b := fun e => by have h1 := VW.out; rw [e, VV.out] at h1; cases h1
        have hbVS : base ≤ V.heap.size := hbV
        clear n1 n2 n3 n4 hbV hltb HQ
        go_loopg [5] k (fun g i wr => g ≤ k ∧ i = .int .i64 ((g : Int) - 1) ∧ Hid (WrB wr b base (s ++ baL (toB r.first :: ((hiL n k).take (k - g)).map toB))) ∧ Hid (WK base b V wr))
        case atStart => exact ⟨Nat.le_refl _, rfl, HWR2.out, HWK2.out⟩
        case round =>
          clear HWR2 HWK2
          obtain ⟨hgk, rfl, HWR, HWK⟩ := hrel
          obtain ⟨G, hG⟩ : ∃ G, G = gk := ⟨_, rfl⟩
          subst hG
          cases G with
          | zero =>
            have e2 : ((0 : Nat) : Int) - 1 = -1 := rfl
            rw [e2]
            clear e2
            go_wp2
            go_ret
            refine ⟨ret_bool HX.out.symm, ?_, (WK.of_below VB.out HBS.out).trans HWK.out⟩
            rw [HIF.out]
            have e4 : rowB r n = toB r.first :: ((hiL n k).take (k - 0)).map toB := by
              unfold rowB
              rw [if_neg HSZ.out, HKK.out, Nat.sub_zero, List.take_of_length_le (by rw [hiL_len]; exact Nat.le_refl _)]; rfl
            rw [e4]; exact HWR.out
          | succ i =>
            have e2 : ((i + 1 : Nat) : Int) - 1 = (i : Int) := by omega
            rw [e2]
            obtain ⟨t, ht⟩ : ∃ t, s ++ baL (toB r.first :: ((hiL n k).take (k - (i + 1))).map toB) = t := ⟨_, rfl⟩
            have hts : t.size ≤ 70000000000009 := by
              rw [← ht, ByteArray.size_append, baL_size, List.length_cons, List.length_map, List.length_take, hiL_len]; omega
            obtain ⟨x, hx⟩ : ∃ x, n / 2 ^ (8 * i) % 256 = x := ⟨_, rfl⟩
            have hx0 : 0 ≤ x ∧ x ≤ 255 := by rw [← hx]; omega
            have HT : Hid (s ++ baL (toB r.first :: ((hiL n k).take (k - i)).map toB) = t ++ baL [toB x]) := Lib.hid (by
              rw [← ht, hi_next n k i (by omega), show (256 : Int) ^ i = 2 ^ (8 * i) by rw [Int.pow_mul]; rfl, hx, List.map_append, ← List.cons_append, baL_app, ByteArray.append_assoc]; rfl)
            rw [ht] at HWR
            have y0 : IntKind.u8.wrap (n / 2 ^ (8 * i)) = x := by rw [IntKind.wrap_u8]; exact hx
            have y1 : IntKind.i64.wrap (8 * (i : Int)) = 8 * (i : Int) := IntWalk.i64_in _ (by omega)
            have y2 : 0 ≤ 8 * (i : Int) := by omega
            have y3 : (8 * (i : Int)).toNat = 8 * i := by omega
            clear ht e2 hx
            obtain ⟨-, v, hv, hown⟩ := HWR.out
            have VV2 := Lib.hid hv
            have HOWN := Lib.hid hown
            have VN2 := Lib.hid (HWK.out.keep _ _ VN.out nbn n8n)
            have VW2 := Lib.hid (HWK.out.keep _ _ VW.out nbw n8b)
            have n8w : Not8 (.cells #[v] 265 (0, 0)) := not8_cells (by decide)
            have HQ : Hid (∀ g, v.ownBlock = some g → base ≤ g ∧ g < wr.heap.size) := Lib.hid (fun g hg => HOWN.out.lt g hg)
            have n1 := own_not8 HOWN.out VN2.out n8n
            have n2 := own_not8 HOWN.out VW2.out n8b
            have n4 := own_not8 HOWN.out VV2.out n8w
            have c1 : wr.cell? ⟨bn, 0, none⟩ = some (.int .u64 n) := block_cell VN2.out 0
            have c2 : wr.cell? ⟨bw, 0, none⟩ = some (.pointer (some ⟨b, 0, none⟩)) := block_cell VW2.out 0
            have c4 : wr.cell? ⟨b, 0, none⟩ = some v := block_cell VV2.out 0
            have hbV : base ≤ wr.heap.size := Nat.le_trans hbase (Nat.le_of_lt (lt_of_block VV2.out))
            clear hv hown
            go_upto_region 10 with fail
            refine wp_region_tail 14 11 (v.ownBlock) (phis [fun u _ => u = (.pointer (some ⟨b, 0, none⟩)), fun u _ => u = (.pointer (some ⟨b, 0, none⟩)), fun u _ => u = (.pointer (some ⟨b, 0, none⟩)), fun u _ => u = (.pointer (some ⟨b, 0, none⟩)), fun u _ => u = (v), fun u _ => u = (.int .u64 n), fun u _ => u = (.int .i64 i), fun u _ => u = (.int .i64 (8 * (i : Int))), fun u _ => u = (.int .u64 (n / 2 ^ (8 * i))), fun u _ => u = (.int .u8 x), fun u w' => ∃ b, u = .slice (some ⟨b, 0, none⟩) 1 1 ∧ some b ≠ v.ownBlock ∧ w'.heap[b]? = some (.cells ([.int .u8 x]).toArray 5 (0, 0)), fun u w' => w'.ownsRow (base) 5 1 u (t.size + 1) (Lib.strCells t ++ [.int .u8 x]), fun u _ => u = (.pointer (some ⟨b, 0, none⟩)), fun u _ => u = (.pointer (some ⟨b, 0, none⟩))]) rfl (by kernel_rfl) (by kernel_rfl) (mono_of ⟨mono_eq, mono_eq, mono_eq, mono_eq, mono_eq, mono_eq, mono_eq, mono_eq, mono_eq, mono_eq, ?m10, ?m11, mono_eq, mono_eq, trivial⟩) (steps_of 14 ⟨?s0, ?s1, ?s2, ?s3, ?s4, ?s5, ?s6, ?s7, ?s8, ?s9, ?s10, ?s11, ?s12, ?s13, trivial⟩) ?_
            case m10 =>
              exact ⟨fun u w1 w' h ⟨b, h1, hb, hb'⟩ => ⟨b, h1, hb, ext_block h hb'⟩, fun _ u w1 w' h ⟨b, h1, hb, hb'⟩ => ⟨b, h1, hb, extB_block h hb hb'⟩⟩
            case m11 =>
              exact ⟨fun u w1 w' h hu => own_below hu h, fun hn => absurd rfl hn⟩
            case s0 =>
              refine step_val (v := (.pointer (some ⟨b, 0, none⟩))) (fun av wv hE hS hO hD => ?_) (fun _ => rfl)
              have h2 : av.eval (.tmp 2) = (.pointer (some ⟨bw, 0, none⟩)) := hO.2.2 2 rfl
              have f2 := (ev_form av 2).symm.trans h2
              have c1 := extB_cell hE n1 c1
              have c2 := extB_cell hE n2 c2
              have c4 := extB_cell hE n4 c4
              refine ⟨rfl, ?_⟩
              simp [go_sem, f2, c1, c2, c4, y0, y1, y2, y3]
            case s1 =>
              refine step_val (v := (.pointer (some ⟨b, 0, none⟩))) (fun av wv hE hS hO hD => ?_) (fun _ => rfl)
              have h2 : av.eval (.tmp 2) = (.pointer (some ⟨bw, 0, none⟩)) := hO.2.2 2 rfl
              have f2 := (ev_form av 2).symm.trans h2
              have c1 := extB_cell hE n1 c1
              have c2 := extB_cell hE n2 c2
              have c4 := extB_cell hE n4 c4
              refine ⟨rfl, ?_⟩
              simp [go_sem, f2, c1, c2, c4, y0, y1, y2, y3]
            case s2 =>
              refine step_val (v := (.pointer (some ⟨b, 0, none⟩))) (fun av wv hE hS hO hD => ?_) (fun _ => rfl)
              have d51 : av.eval (.tmp 51) = (.pointer (some ⟨b, 0, none⟩)) := hD.1 rfl _ rfl
              have f51 := (ev_form av 51).symm.trans d51
              refine ⟨rfl, ?_⟩
              simp [go_sem, f51, y0, y1, y2, y3]
            case s3 =>
              refine step_val (v := (.pointer (some ⟨b, 0, none⟩))) (fun av wv hE hS hO hD => ?_) (fun _ => rfl)
              have d52 : av.eval (.tmp 52) = (.pointer (some ⟨b, 0, none⟩)) := hD.1 rfl _ rfl
              have f52 := (ev_form av 52).symm.trans d52
              refine ⟨rfl, ?_⟩
              simp [go_sem, f52, y0, y1, y2, y3]
            case s4 =>
              refine step_val (v := (v)) (fun av wv hE hS hO hD => ?_) (fun _ => rfl)
              have d53 : av.eval (.tmp 53) = (.pointer (some ⟨b, 0, none⟩)) := hD.1 rfl _ rfl
              have f53 := (ev_form av 53).symm.trans d53
              have c1 := extB_cell hE n1 c1
              have c2 := extB_cell hE n2 c2
              have c4 := extB_cell hE n4 c4
              refine ⟨rfl, ?_⟩
              simp [go_sem, f53, c1, c2, c4, y0, y1, y2, y3]
            case s5 =>
              refine step_val (v := (.int .u64 n)) (fun av wv hE hS hO hD => ?_) (fun _ => rfl)
              have h1 : av.eval (.tmp 1) = (.pointer (some ⟨bn, 0, none⟩)) := hO.2.2 1 rfl
              have f1 := (ev_form av 1).symm.trans h1
              have c1 := extB_cell hE n1 c1
              have c2 := extB_cell hE n2 c2
              have c4 := extB_cell hE n4 c4
              refine ⟨rfl, ?_⟩
              simp [go_sem, f1, c1, c2, c4, y0, y1, y2, y3]
            case s6 =>
              refine step_val (v := (.int .i64 i)) (fun av wv hE hS hO hD => ?_) (fun _ => rfl)
              have h5 : av.eval (.tmp 5) = (.int .i64 i) := hO.2.2 5 rfl
              have f5 := (ev_form av 5).symm.trans h5
              refine ⟨rfl, ?_⟩
              simp [go_sem, f5, y0, y1, y2, y3]
            case s7 =>
              refine step_val (v := (.int .i64 (8 * (i : Int)))) (fun av wv hE hS hO hD => ?_) (fun _ => rfl)
              have d56 : av.eval (.tmp 56) = (.int .i64 i) := hD.1 rfl _ rfl
              have f56 := (ev_form av 56).symm.trans d56
              refine ⟨rfl, ?_⟩
              simp [go_sem, f56, y0, y1, y2, y3]
            case s8 =>
              refine step_val (v := (.int .u64 (n / 2 ^ (8 * i)))) (fun av wv hE hS hO hD => ?_) (fun _ => rfl)
              have d55 : av.eval (.tmp 55) = (.int .u64 n) := hD.1 rfl _ rfl
              have f55 := (ev_form av 55).symm.trans d55
              have d57 : av.eval (.tmp 57) = (.int .i64 (8 * (i : Int))) := hD.2.1 rfl _ rfl
              have f57 := (ev_form av 57).symm.trans d57
              refine ⟨rfl, ?_⟩
              simp [go_sem, f55, f57, y0, y1, y2, y3]
            case s9 =>
              refine step_val (v := (.int .u8 x)) (fun av wv hE hS hO hD => ?_) (fun _ => rfl)
              have d58 : av.eval (.tmp 58) = (.int .u64 (n / 2 ^ (8 * i))) := hD.1 rfl _ rfl
              have f58 := (ev_form av 58).symm.trans d58
              refine ⟨rfl, ?_⟩
              simp [go_sem, f58, y0, y1, y2, y3]
            case s10 =>
              refine step_wp (fun av wv hE hS hO hD => ?_)
              have d59 : av.eval (.tmp 59) = (.int .u8 x) := hD.1 rfl _ rfl
              have f59 := (ev_form av 59).symm.trans d59
              refine ⟨rfl, ?_⟩
              refine wp_of_run (v := .slice (some ⟨wv.heap.size, 0, none⟩) 1 1) (w' := wv.alloc (.cells ([.int .u8 x]).toArray 5)) (by first | (simp [go_sem, f59, y0, y1, y2, y3]; done) | (simp [go_sem, f59, y0, y1, y2, y3]; rfl)) ⟨_, rfl, es_of_ext (balloc (Ext_refl _) _), wv.heap.size, rfl, ?_, heap_alloc_new _ _⟩
              exact fun e => absurd (HQ.out _ e.symm).2 (by have := hE.size; simp at this; omega)
            case s11 =>
              refine step_wp (fun av wv hE hS hO hD => ?_)
              have d54 : av.eval (.tmp 54) = (v) := hD.1 rfl _ rfl
              have f54 := (ev_form av 54).symm.trans d54
              have d60 : (fun u w' => ∃ b, u = .slice (some ⟨b, 0, none⟩) 1 1 ∧ some b ≠ v.ownBlock ∧ w'.heap[b]? = some (.cells ([.int .u8 x]).toArray 5 (0, 0))) (av.eval (.tmp 60)) wv := hD.2.1 rfl _ rfl
              refine ⟨rfl, ?_⟩
              obtain ⟨bS, hS1, hbS, hcS⟩ := d60
              have hown1 : wv.ownsRow (base) 5 1 (v) (t.size) (Lib.strCells t) := own_below (w := World.drew _) (HOWN.out) (hS rfl)
              refine wp_append_lies wv _ _ _ rfl (base) 5 i0 (.int .u8 0) 1 1 Tryz.underlying106 hi hz0 hz1 hz2 rfl (by decide) (v) (t.size) _ d54 hown1 ⟨bS, 0, none⟩ 1 1 ([.int .u8 x]) (by exact hS1) rfl (World.news_of_block hcS) (one_u8 _) (by decide) (by unfold maxLen; omega) (by omega) (by have := hE.size; simp at this; omega) _ rfl ?_
              intro g cap1 w2 hown2 hgrow hat hlt2
              exact ⟨_, rfl, es_sp hgrow, hown2⟩
            case s12 =>
              refine step_val (v := (.pointer (some ⟨b, 0, none⟩))) (fun av wv hE hS hO hD => ?_) (fun _ => rfl)
              have d50 : av.eval (.tmp 50) = (.pointer (some ⟨b, 0, none⟩)) := hD.1 rfl _ rfl
              have f50 := (ev_form av 50).symm.trans d50
              refine ⟨rfl, ?_⟩
              simp [go_sem, f50, y0, y1, y2, y3]
            case s13 =>
              refine step_val (v := (.pointer (some ⟨b, 0, none⟩))) (fun av wv hE hS hO hD => ?_) (fun _ => rfl)
              have d62 : av.eval (.tmp 62) = (.pointer (some ⟨b, 0, none⟩)) := hD.1 rfl _ rfl
              have f62 := (ev_form av 62).symm.trans d62
              refine ⟨rfl, ?_⟩
              simp [go_sem, f62, y0, y1, y2, y3]
            intro a' w' hE hO hall
            have hA := act_of_outer (ds := [50, 51, 52, 53, 54, 55, 56, 57, 58, 59, 60, 61, 62, 63]) rfl hO (by kernel_rfl)
            have e50 : (fun u _ => u = (.pointer (some ⟨b, 0, none⟩))) (a'.eval (.tmp 50)) w' := hall.1 _ rfl
            have e51 : (fun u _ => u = (.pointer (some ⟨b, 0, none⟩))) (a'.eval (.tmp 51)) w' := hall.2.1 _ rfl
            have e52 : (fun u _ => u = (.pointer (some ⟨b, 0, none⟩))) (a'.eval (.tmp 52)) w' := hall.2.2.1 _ rfl
            have e53 : (fun u _ => u = (.pointer (some ⟨b, 0, none⟩))) (a'.eval (.tmp 53)) w' := hall.2.2.2.1 _ rfl
            have e54 : (fun u _ => u = (v)) (a'.eval (.tmp 54)) w' := hall.2.2.2.2.1 _ rfl
            have e55 : (fun u _ => u = (.int .u64 n)) (a'.eval (.tmp 55)) w' := hall.2.2.2.2.2.1 _ rfl
            have e56 : (fun u _ => u = (.int .i64 i)) (a'.eval (.tmp 56)) w' := hall.2.2.2.2.2.2.1 _ rfl
            have e57 : (fun u _ => u = (.int .i64 (8 * (i : Int)))) (a'.eval (.tmp 57)) w' := hall.2.2.2.2.2.2.2.1 _ rfl
            have e58 : (fun u _ => u = (.int .u64 (n / 2 ^ (8 * i)))) (a'.eval (.tmp 58)) w' := hall.2.2.2.2.2.2.2.2.1 _ rfl
            have e59 : (fun u _ => u = (.int .u8 x)) (a'.eval (.tmp 59)) w' := hall.2.2.2.2.2.2.2.2.2.1 _ rfl
            have e60 : (fun u w' => ∃ b, u = .slice (some ⟨b, 0, none⟩) 1 1 ∧ some b ≠ v.ownBlock ∧ w'.heap[b]? = some (.cells ([.int .u8 x]).toArray 5 (0, 0))) (a'.eval (.tmp 60)) w' := hall.2.2.2.2.2.2.2.2.2.2.1 _ rfl
            have e61 : (fun u w' => w'.ownsRow (base) 5 1 u (t.size + 1) (Lib.strCells t ++ [.int .u8 x])) (a'.eval (.tmp 61)) w' := hall.2.2.2.2.2.2.2.2.2.2.2.1 _ rfl
            have e62 : (fun u _ => u = (.pointer (some ⟨b, 0, none⟩))) (a'.eval (.tmp 62)) w' := hall.2.2.2.2.2.2.2.2.2.2.2.2.1 _ rfl
            have e63 : (fun u _ => u = (.pointer (some ⟨b, 0, none⟩))) (a'.eval (.tmp 63)) w' := hall.2.2.2.2.2.2.2.2.2.2.2.2.2.1 _ rfl
            obtain ⟨v60, hv60⟩ : ∃ v, a'.eval (.tmp 60) = v := ⟨_, rfl⟩
            rw [hv60] at e60
            obtain ⟨v61, hv61⟩ : ∃ v, a'.eval (.tmp 61) = v := ⟨_, rfl⟩
            rw [hv61] at e61
            simp only [List.foldl_cons, List.foldl_nil, Act.put, List.setIfInBounds_toArray, List.set_cons_succ, List.set_cons_zero, e50, e51, e52, e53, e54, e55, e56, e57, e58, e59, hv60, hv61, e62, e63] at hA
            clear hO hall e50 e51 e52 e53 e54 e55 e56 e57 e58 e59 hv60 hv61 e62 e63
            subst hA
            obtain ⟨ga, gc, rfl⟩ := own_slice e61
            have hst := wr_step (s' := t ++ baL [toB x]) hbase VV2.out HOWN.out hE (by rw [baL_one]; exact e61) (by rw [strCells_app, strCells_one hx0.1 hx0.2])
            have HST := Lib.hid hst
            have hc4 := hst.1
            have hf4 := hst.2.1
            clear hst hE e61 c1 c2 c4 n1 n2 n4
            go_wp2
            go_roundg i
            case rel => exact ⟨by omega, by go_num, by rw [HT.out]; exact HST.out.2.2.1, HWK.out.trans HST.out.2.2.2⟩
            case measure => omega
  · have HX : Hid (decide (n < r.below ∨ r.below = 0) = false) := Lib.hid (decide_eq_false hx)
    have g1 : decide (r.below ≤ n) = true := by simp; omega
    have g2 : decide (0 < r.below) = true := by have := HR.out.b0; simp; omega
    have HNX := Lib.hid hx
    clear hx
    go_enter Tryz.func255, Tryz.ntmps255
    go_wp2
    go_ret
    exact ⟨ret_bool HX.out.symm, by rw [if_neg HNX.out]; exact HWR.out.below (by (repeat (first | exact Below.refl _ _ | assumption | (refine bdrew ?_) | (refine bdrewN ?_ _) | (refine balloc ?_ _) | (refine bset ?_ (by first | omega | (simp; done) | (simp; omega)) _) | (refine bnext ?_ (by assumption))))), WK.of_below (by (repeat (first | exact Below.refl _ _ | assumption | (refine bdrew ?_) | (refine bdrewN ?_ _) | (refine balloc ?_ _) | (refine bset ?_ (by first | omega | (simp; done) | (simp; omega)) _) | (refine bnext ?_ (by assumption))))) (by have := HWR.out.1; have := HWR.out.lt; omega)⟩
end Go.Proofs.YtihiaopilnjonaaGreatDoor
namespace Go.Proofs.YtihiaopilnjonaaGreatDoor
open Go.RowKit
set_option linter.unusedSimpArgs false
set_option linter.unusedVariables false
structure PTab (B : Nat) (w : World) : Prop where
  glob : 4 < B
  size : B ≤ w.heap.size
  tab : ∀ k, k < 5 → ∃ tb tq rc, tb < B ∧ w.cell? ⟨4, k, none⟩ = some (.slice (some ⟨tb, tq, none⟩) (len (rowsP k)) rc) ∧ PRows w (some ⟨tb, tq, none⟩) (rowsP k)
theorem PTab.keep {B B' : Nat} {w w' : World} (h : PTab B w) (hb : Below B' w w') (hB : B ≤ B') : PTab B w' := by
  refine ⟨h.glob, Nat.le_trans h.size hb.size, fun k hk => ?_⟩
  obtain ⟨tb, tq, rc, h1, h2, h3⟩ := h.tab k hk
  have e : ∀ b o, b < B → w'.cell? ⟨b, o, none⟩ = w.cell? ⟨b, o, none⟩ := fun b o hb2 => hb.cell (p := ⟨b, o, none⟩) (Nat.lt_of_lt_of_le hb2 hB)
  refine ⟨tb, tq, rc, h1, (e _ _ h.glob).trans h2, fun i hi => ?_⟩
  obtain ⟨b, off, e2, c0, c1, c2⟩ := h3 i hi
  cases e2
  exact ⟨tb, tq, rfl, (e _ _ h1).trans c0, (e _ _ h1).trans c1, (e _ _ h1).trans c2⟩
theorem rowsP_pos (k : Nat) : 0 < len (rowsP k) := by
  unfold rowsP; split <;> simp [len]
theorem rowsP_ok {sort : Nat} {n : Int} (h0 : 0 ≤ n) (i : Nat) (hi : i < len (rowsP sort)) : (prth (rowsP sort) i).Ok n := by
  have hi' : i < (rowsP sort).length := hi
  rw [prth_eq _ i hi']
  have hm : (rowsP sort)[i] ∈ rowsP sort := List.getElem_mem _
  generalize (rowsP sort)[i] = r at hm
  unfold rowsP at hm
  split at hm <;> simp at hm
  · rcases hm with rfl | rfl <;> exact ⟨by decide, by decide, by decide, by decide, by decide, by decide, fun h => by simp at h⟩
  · rcases hm with rfl | rfl | rfl
    · exact ⟨by decide, by decide, by decide, by decide, by decide, by decide, fun _ h => by simp at h; simp; omega⟩
    · exact ⟨by decide, by decide, by decide, by decide, by decide, by decide, fun h => by simp at h⟩
    · exact ⟨by decide, by decide, by decide, by decide, by decide, by decide, fun h => by simp at h⟩
  · rcases hm with rfl | rfl
    · exact ⟨by decide, by decide, by decide, by decide, by decide, by decide, fun _ h => by simp at h; simp; omega⟩
    · exact ⟨by decide, by decide, by decide, by decide, by decide, by decide, fun h => by simp at h⟩
  · rcases hm with rfl | rfl
    · exact ⟨by decide, by decide, by decide, by decide, by decide, by decide, fun _ h => by simp at h; simp; omega⟩
    · exact ⟨by decide, by decide, by decide, by decide, by decide, by decide, fun h => by simp at h⟩
  · rcases hm with rfl | rfl | rfl | rfl | rfl
    · exact ⟨by decide, by decide, by decide, by decide, by decide, by decide, fun _ h => by simp at h; simp; omega⟩
    all_goals exact ⟨by decide, by decide, by decide, by decide, by decide, by decide, fun h => by simp at h⟩
theorem headP_at {sort i : Nat} {n : Int} (hi : i < len (rowsP sort)) (hn : ∀ j, j < i → ¬ (n < (prth (rowsP sort) j).below ∨ (prth (rowsP sort) j).below = 0)) (hy : n < (prth (rowsP sort) i).below ∨ (prth (rowsP sort) i).below = 0) : headP sort n = rowB (prth (rowsP sort) i) n := by
  have hi' : i < (rowsP sort).length := hi
  have hf : (rowsP sort).find? (fun r => decide (n < r.below ∨ r.below = 0)) = some (prth (rowsP sort) i) := by
    rw [prth_eq _ i hi'] at hy ⊢
    rw [List.find?_eq_some_iff_getElem]
    refine ⟨by simpa using hy, i, hi', rfl, fun j hj => ?_⟩
    have := hn j hj
    rw [prth_eq _ j (by omega)] at this
    simpa using this
  unfold headP
  rw [hf]
theorem headP_end {sort : Nat} {n : Int} (hn : ∀ j, j < len (rowsP sort) → ¬ (n < (prth (rowsP sort) j).below ∨ (prth (rowsP sort) j).below = 0)) : headP sort n = [] := by
  have hf : (rowsP sort).find? (fun r => decide (n < r.below ∨ r.below = 0)) = none := by
    rw [List.find?_eq_none]
    intro x hx
    obtain ⟨j, hj, rfl⟩ := List.getElem_of_mem hx
    have := hn j hj
    rw [prth_eq _ j hj] at this
    simpa using this
  unfold headP
  rw [hf]
theorem prows_keep {w w' : World} {tb tq B B' : Nat} {l : List PRow} (h : PRows w (some ⟨tb, tq, none⟩) l) (htb : tb < B) (hb : Below B' w w') (hB : B ≤ B') : PRows w' (some ⟨tb, tq, none⟩) l := fun i hi => by
  have e : ∀ o, w'.cell? ⟨tb, o, none⟩ = w.cell? ⟨tb, o, none⟩ := fun o => hb.cell (p := ⟨tb, o, none⟩) (Nat.lt_of_lt_of_le htb hB)
  obtain ⟨b, off, e2, c0, c1, c2⟩ := h i hi
  cases e2
  exact ⟨tb, tq, rfl, (e _).trans c0, (e _).trans c1, (e _).trans c2⟩
def HeadOut (s' : ByteArray) (b base : Nat) (w : World) (e : Ending) (w' : World) : Prop := e = .returned (.tuple #[]) ∧ WrB w' b base s' ∧ WK base b w w'
set_option maxRecDepth 100000 in
set_option maxHeartbeats 4000000 in
theorem phead_any (B b base sort : Nat) (n : Int) (s : ByteArray) (w : World) (ht : PTab B w) (hB : B ≤ base) (hW : WrB w b base s) (h5 : sort < 5) (h0 : 0 ≤ n) (h1 : n ≤ 18446744073709551615) (hs : s.size ≤ 70000000000000) :
    Calls Tryz.prog 222 #[.pointer (some ⟨b, 0, none⟩), .int .i64 sort, .int .u64 n] w (HeadOut (s ++ baL (headP sort n)) b base w) := by
  have HT := Lib.hid ht
  have HWR := Lib.hid hW
  obtain ⟨tb, tq, rc, htb, hg, hrows⟩ := ht.tab sort h5
  have HROWS := Lib.hid hrows
  have HBS : Hid (base ≤ w.heap.size) := Lib.hid (by have := hW.1; have := hW.lt; omega)
  have hgl : 4 < w.heap.size := lt_of_cell hg
  have i5 : (sort : Int) < 5 := by omega
  have eg := enters_of Tryz.func255 (by kernel_rfl) rfl
  clear hrows ht hW
  obtain ⟨nr, hnr⟩ : ∃ nr, len (rowsP sort) = nr := ⟨_, rfl⟩
  have HNR := Lib.hid hnr
  have nr5 : nr ≤ 5 := by rw [← hnr]; unfold rowsP; split <;> simp [len]
  rw [hnr] at hg
  clear hnr
  go_enter Tryz.func222, Tryz.ntmps222
  go_wp2
  obtain ⟨bw, hbw⟩ : ∃ bw, w.heap.size = bw := ⟨_, rfl⟩
  obtain ⟨V, hV⟩ : ∃ V, (w.alloc (.cells #[.pointer (some ⟨b, 0, none⟩)] 166)).alloc (.cells #[.int .u64 n] 23) = V := ⟨_, rfl⟩
  have VW : Hid (V.heap[bw]? = some (.cells #[.pointer (some ⟨b, 0, none⟩)] 166 (0, 0))) := Lib.hid (by rw [← hV, ← hbw]; exact block_alloc (heap_alloc_new _ _) _)
  have VN : Hid (V.heap[bw + 1]? = some (.cells #[.int .u64 n] 23 (0, 0))) := Lib.hid (by rw [← hV, ← hbw]; exact alloc_new_at _ (by simp))
  have VB : Hid (Below w.heap.size w V) := Lib.hid (by rw [← hV]; (repeat (first | exact Below.refl _ _ | assumption | (refine bdrew ?_) | (refine bdrewN ?_ _) | (refine balloc ?_ _) | (refine bset ?_ (by first | omega | (simp; done) | (simp; omega)) _) | (refine bnext ?_ (by assumption)))))
  have HWV : Hid (WrB V b base s) := Lib.hid (HWR.out.below VB.out)
  have hbb : Hid (b < bw) := Lib.hid (by rw [← hbw]; exact HWR.out.lt)
  have HBV : Hid (base ≤ V.heap.size) := Lib.hid (by have := VB.out.size; have := HBS.out; omega)
  rw [hbw]
  try rw [hV]
  clear hV hbw hgl
  go_loopg [14] nr (fun g i wr => ∃ m : Nat, g + m = nr ∧ i = .int .i64 m ∧ Hid (∀ j, j < m → ¬ (n < (prth (rowsP sort) j).below ∨ (prth (rowsP sort) j).below = 0)) ∧ Hid (WrB wr b base s) ∧ Hid (WK base b V wr))
  case atStart => exact ⟨0, rfl, rfl, fun j hj => by omega, HWV.out, WK.refl _ _ _⟩
  case round =>
    clear HWV
    obtain ⟨m, hm, rfl, HN, HWW, HWK⟩ := hrel
    by_cases hlt : m < nr
    · have i1 : (m : Int) < nr := by omega
      obtain ⟨rb, ro, hre, c0, c1, c2⟩ := prows_keep (prows_keep HROWS.out htb VB.out (Nat.le_trans hB HBS.out)) htb HWK.out.bel hB m (by rw [HNR.out]; exact hlt)
      cases hre
      obtain ⟨r, hr⟩ : ∃ r, prth (rowsP sort) m = r := ⟨_, rfl⟩
      have HRE := Lib.hid hr
      rw [hr] at c0 c1 c2
      clear hr
      have n8n : Not8 (.cells #[.int .u64 n] 23 (0, 0)) := not8_cells (by decide)
      have n8b : Not8 (.cells #[.pointer (some ⟨b, 0, none⟩)] 166 (0, 0)) := not8_cells (by decide)
      go_wp2_with fail
      refine (head1_any r (bw + 1) bw b base n s _ (block_alloc (HWK.out.keep _ _ VN.out (by have := hbb.out; omega) n8n) _) (block_alloc (HWK.out.keep _ _ VW.out (by have := hbb.out; omega) n8b) _) (HWW.out.below (balloc (Below.refl _ _) _)) h0 h1 (by rw [← HRE.out]; exact rowsP_ok h0 m (by rw [HNR.out]; exact hlt)) hs).mono ?_
      rintro e w6 ⟨rfl, hw6, hk6⟩
      have HK6 : Hid (WK base b V w6) := Lib.hid ((HWK.out.next (balloc (Below.refl _ _) _) HBV.out).trans hk6)
      have HW6 := Lib.hid hw6
      clear hw6 hk6 HWK HWW c0 c1 c2 n8n n8b
      by_cases hx : n < r.below ∨ r.below = 0
      · rw [decide_eq_true hx]
        rw [if_pos hx] at HW6
        have HP : Hid (headP sort n = rowB r n) := Lib.hid (by rw [← HRE.out]; exact headP_at (by rw [HNR.out]; exact hlt) HN.out (by rw [HRE.out]; exact hx))
        clear hx
        go_wp2
        refine bodyPost_ret (results_none rfl _ _ _) rfl ?_
        refine ⟨rfl, ?_, (WK.of_below VB.out HBS.out).trans HK6.out⟩
        rw [HP.out]; exact HW6.out
      · rw [decide_eq_false hx]
        rw [if_neg hx] at HW6
        have HN2 : Hid (∀ j, j < m + 1 → ¬ (n < (prth (rowsP sort) j).below ∨ (prth (rowsP sort) j).below = 0)) := Lib.hid (fun j hj => by
          by_cases e : j = m
          · subst e; rw [HRE.out]; exact hx
          · exact HN.out j (by omega))
        clear hx
        go_wp2
        go_roundg (nr - (m + 1))
        case rel => exact ⟨m + 1, by omega, by go_num, HN2.out, HW6.out, HK6.out⟩
        case measure => omega
    · obtain rfl : m = nr := by omega
      have i1 : ¬ (m : Int) < m := by omega
      go_wp2
      go_end0
      refine ⟨rfl, ?_, (WK.of_below VB.out HBS.out).trans HWK.out⟩
      rw [headP_end (fun j hj => HN.out j (by rw [HNR.out] at hj; exact hj))]
      have e : s ++ baL [] = s := ba_ext (by simp [baL])
      rw [e]; exact HWW.out
end Go.Proofs.YtihiaopilnjonaaGreatDoor
namespace Go.Proofs.YtihiaopilnjonaaGreatDoor
set_option linter.unusedSimpArgs false
set_option linter.unusedVariables false
open Go.RowKit Go.ChangeShapes Go.WideShapes Go.ChangeAt
def rowD5 (r : PRow) : DataW Unit := .agg [.lit (.int .u64 r.below), .lit (.int .u8 r.first), .lit (.int .i64 r.size)]
set_option maxRecDepth 100000 in
theorem laid_prow {w : World} {fuel : Nat} {cs' : List Value} {r : PRow} {q : List MemPlace} (hl : cs'.length = 3) (h : DataW.trod (fun _ => ()) Tryz.prog w 0 (fun _ => true) false fuel 332 cs' = some (rowD5 r, q)) : cs' = r.cells := by
  match cs', hl with
  | [v0, v1, v2], _ =>
    obtain ⟨xs, m, _, e, _, hxl, hx⟩ := DataW.trod_struct Tryz.underlying332 h
    have cu : Tryz.prog.cellsOf 5 = 1 := by kernel_rfl
    have ci : Tryz.prog.cellsOf 3 = 1 := by kernel_rfl
    have cq : Tryz.prog.cellsOf 23 = 1 := by kernel_rfl
    have hxl' : xs.length = 3 := hxl
    have h0 : DataW.trod (fun _ => ()) Tryz.prog w 0 (fun _ => true) false m 23 (([v0, v1, v2].drop 0).take (Tryz.prog.cellsOf 23)) = xs[0]? := hx 0 _ rfl
    have h1 : DataW.trod (fun _ => ()) Tryz.prog w 0 (fun _ => true) false m 5 (([v0, v1, v2].drop 1).take (Tryz.prog.cellsOf 5)) = xs[1]? := hx 1 _ rfl
    have h2 : DataW.trod (fun _ => ()) Tryz.prog w 0 (fun _ => true) false m 3 (([v0, v1, v2].drop 2).take (Tryz.prog.cellsOf 3)) = xs[2]? := hx 2 _ rfl
    rw [cq] at h0
    rw [cu] at h1
    rw [ci] at h2
    match xs, hxl' with
    | [x0, x1, x2], _ =>
      obtain ⟨n0, e0, y0, _⟩ := DataW.trod_int Tryz.underlying23 (show DataW.trod (fun _ => ()) Tryz.prog w 0 (fun _ => true) false m 23 [v0] = some x0 from h0)
      obtain ⟨n1, e1, y1, _⟩ := DataW.trod_int Tryz.underlying5 (show DataW.trod (fun _ => ()) Tryz.prog w 0 (fun _ => true) false m 5 [v1] = some x1 from h1)
      obtain ⟨n2, e2, y2, _⟩ := DataW.trod_int Tryz.underlying3 (show DataW.trod (fun _ => ()) Tryz.prog w 0 (fun _ => true) false m 3 [v2] = some x2 from h2)
      subst y0 y1 y2
      simp [rowD5] at e e0 e1 e2
      obtain ⟨⟨a0, a1, a2⟩, _⟩ := e
      subst e0 e1 e2
      unfold PRow.cells
      rw [a0, a1, a2]
set_option maxRecDepth 100000 in
theorem laid_prows {w : World} {fuel : Nat} {cs : List Value} {l : List PRow} {p : List MemPlace} (h : DataW.trod (fun _ => ()) Tryz.prog w 0 (fun _ => true) false fuel 334 cs = some (.slice (l.map rowD5) [], p)) (hl : 0 < len l) :
    ∃ tb tq rc, cs = [.slice (some ⟨tb, tq, none⟩) (len l) rc] ∧ PRows w (some ⟨tb, tq, none⟩) l := by
  have hC : Tryz.prog.cellsOf 332 = 3 := by kernel_rfl
  rcases Go.Deep.open_slice Tryz.underlying334 h with ⟨_, hx⟩ | ⟨a, n, c, m, q, D, Pl, hcs, _, hln, hm, hmm, hx, hi⟩
  · simp at hx
  · simp only [Prod.mk.injEq, DataW.slice.injEq] at hx
    obtain ⟨⟨hD, _⟩, _⟩ := hx
    have hn : len l = n := by have := congrArg List.length hD; simpa [len] using this
    have hnm : n ≤ m := by rw [hmm]; simp; exact hln
    have each : ∀ i, i < len l → ∃ b off, a = ⟨b, off, none⟩ ∧ PRowAt w b (off + i * 3) (prth l i) := fun i hil => by
      obtain ⟨cs', hc, htr⟩ := hi i (by omega)
      rw [hC] at hc
      obtain ⟨_, hcl, hat⟩ := World.cells?_some hc
      have hDi : D i = rowD5 (prth l i) := by
        have h1 : (l.map rowD5)[i]? = ((List.range n).map D)[i]? := by rw [hD]
        have hil' : i < l.length := hil
        rw [List.getElem?_map, List.getElem?_map, List.getElem?_eq_getElem hil', List.getElem?_range (by omega)] at h1
        rw [prth_eq l i hil]
        exact (Option.some.inj h1).symm
      rw [hDi] at htr
      have hcs' := laid_prow hcl htr
      obtain ⟨b, off, spot⟩ := a
      have hat0 := hat 0 (by decide)
      rw [hcs'] at hat
      have hspot : spot = none := by
        obtain ⟨cs0, hc0, htr0⟩ := hi 0 (by omega)
        rw [hC] at hc0
        obtain ⟨_, hcl0, hat0⟩ := World.cells?_some hc0
        have h1 := hat0 0 (by decide)
        have h2 : cs0[0]? = some (cs0[0]'(by omega)) := List.getElem?_eq_getElem (by omega)
        rw [h2] at h1
        simpa [Addr.add] using World.cell?_spot h1
      subst hspot
      have key : ∀ j, j < 3 → w.cell? ⟨b, off + i * 3 + j, none⟩ = (prth l i).cells[j]? := fun j hj => by
        have h1 := hat j hj
        rw [Go.Deep.add_add] at h1
        have e : (⟨b, off, none⟩ : Addr).add (i * 3 + j) = ⟨b, off + i * 3 + j, none⟩ := by
          unfold Addr.add; split
          · rename_i h0; simp <;> omega
          · simp [Nat.add_assoc]
        rw [e] at h1; exact h1
      exact ⟨b, off, rfl, key 0 (by decide), key 1 (by decide), key 2 (by decide)⟩
    obtain ⟨b, off, rfl, _⟩ := each 0 hl
    refine ⟨b, off, c, by rw [hn]; exact hcs, fun i hil => ?_⟩
    obtain ⟨b', off', e, hR⟩ := each i hil
    cases e
    exact ⟨b, off, rfl, hR⟩
def tabD5 : DataW Unit := .agg ([0, 1, 2, 3, 4].map fun k => .slice ((rowsP k).map rowD5) [])
set_option maxRecDepth 100000 in
theorem ptab_of {W : World} {g : Nat} {cs : Array Value} {fuel : Nat} {p : List MemPlace} (hgg : g = 4) (hg : Tryz.prog.globalNamed "sextant/pack.rows" = some g) (hv : W.var? Tryz.prog "sextant/pack.rows" = some cs)
    (h : DataW.trod (fun _ => ()) Tryz.prog W 0 (fun _ => true) false fuel 335 cs.toList = some (tabD5, p)) : PTab W.heap.size W := by
  obtain ⟨xs, m, _, e, hcl, hxl, hx⟩ := DataW.trod_array Tryz.underlying335 h
  have hC : Tryz.prog.cellsOf 334 = 1 := by kernel_rfl
  have hC5 : Tryz.prog.cellsOf 335 = 5 := by kernel_rfl
  rw [hC5] at hcl
  rw [hC] at hx
  have hd : tabD5 = .agg (xs.map (·.1)) := congrArg Prod.fst e
  unfold tabD5 at hd
  have hd2 : ([0, 1, 2, 3, 4].map fun k => (DataW.slice ((rowsP k).map rowD5) [] : DataW Unit)) = xs.map (·.1) := by injection hd
  subst hgg
  have key : ∀ k, k < 5 → ∃ tb tq rc, cs[k]? = some (.slice (some ⟨tb, tq, none⟩) (len (rowsP k)) rc) ∧ PRows W (some ⟨tb, tq, none⟩) (rowsP k) := fun k hk => by
    have hxk : k < xs.length := by omega
    have h1 := hx k hk
    rw [List.getElem?_eq_getElem hxk] at h1
    have h2 : (xs[k]'hxk).1 = .slice ((rowsP k).map rowD5) [] := by
      have h3 : (xs.map (·.1))[k]? = some (xs[k]'hxk).1 := by rw [List.getElem?_map, List.getElem?_eq_getElem hxk]; rfl
      rw [← hd2, List.getElem?_map] at h3
      have h4 : [0, 1, 2, 3, 4][k]? = some k := by
        have : k = 0 ∨ k = 1 ∨ k = 2 ∨ k = 3 ∨ k = 4 := by omega
        rcases this with rfl | rfl | rfl | rfl | rfl <;> rfl
      rw [h4] at h3
      exact (Option.some.inj h3).symm
    have h5 : DataW.trod (fun _ => ()) Tryz.prog W 0 (fun _ => true) false m 334 ((cs.toList.drop (k * 1)).take 1) = some (.slice ((rowsP k).map rowD5) [], (xs[k]'hxk).2) := by rw [h1, ← h2]
    obtain ⟨tb, tq, rc, hcs, hr⟩ := laid_prows h5 (rowsP_pos k)
    refine ⟨tb, tq, rc, ?_, hr⟩
    have h6 : ((cs.toList.drop (k * 1)).take 1)[0]? = some (.slice (some ⟨tb, tq, none⟩) (len (rowsP k)) rc) := by rw [hcs]; rfl
    rw [List.getElem?_take, if_pos (by decide), List.getElem?_drop] at h6
    simpa using h6
  have hlt : 4 < W.heap.size := by
    obtain ⟨tb, tq, rc, h1, h2⟩ := key 0 (by decide)
    have := World.var?_cell hg hv 0
    exact lt_of_cell (this.trans h1)
  refine ⟨hlt, Nat.le_refl _, fun k hk => ?_⟩
  obtain ⟨tb, tq, rc, h1, h2⟩ := key k hk
  refine ⟨tb, tq, rc, ?_, (World.var?_cell hg hv k).trans h1, h2⟩
  obtain ⟨b, off, e, hR⟩ := h2 0 (rowsP_pos k)
  cases e
  exact lt_of_cell hR.c0
end Go.Proofs.YtihiaopilnjonaaGreatDoor
namespace Go.Proofs.YtihiaopilnjonaaGreatDoor
set_option linter.unusedSimpArgs false
set_option linter.unusedVariables false
open Go.RowKit
def FltB (w : World) (f : Nat) (k : Int) (a : Nat) : Prop := w.heap[f]? = some (.cells #[.int .i64 k, .int .i64 a] 63 (0, 0))
theorem FltB.below {w w' : World} {f : Nat} {k : Int} {a : Nat} (h : FltB w f k a) (hb : Below w.heap.size w w') : FltB w' f k a := (hb.block _ (lt_of_block h)).trans h
theorem ErrType.below {w w' : World} (h : ErrType w) (hb : Below w.heap.size w w') : ErrType w' := by
  unfold ErrType at *
  rw [hb.cell (p := ⟨_, 0, none⟩) (lt_of_cell h)]; exact h
def LeftIs (k : Option Int) (b : Nat) (s : ByteArray) (most : Int) (a : Nat) (w : World) (e : Ending) (w' : World) : Prop :=
  Below w.heap.size w w' ∧ match k with
    | none => e = .returned .nilIface
    | some k => ∃ f, e = .returned (.iface 127 (.pointer (some ⟨f, 0, none⟩))) ∧ w.heap.size ≤ f ∧ FltB w' f k a
def leftOf (s : ByteArray) (a : Nat) : Option Int := if a < s.size then some 5 else none
theorem empty_of {t : ByteArray} (h : t.size = 0) : t.toList.isEmpty = true := by
  rw [ByteArray.toList_eq]; cases t with | mk d => simp_all [ByteArray.size]
theorem full_of {t : ByteArray} (h : t.size ≠ 0) : t.toList.isEmpty = false := by
  rw [ByteArray.toList_eq]; cases t with | mk d => simp_all [ByteArray.size]
theorem ext_empty (s : ByteArray) (a : Nat) (h : ¬ a < s.size) : (s.extract a s.size).toList.isEmpty = true := empty_of (by rw [ByteArray.size_extract]; omega)
theorem ext_some (s : ByteArray) (a : Nat) (h : a < s.size) : (s.extract a s.size).toList.isEmpty = false := full_of (by rw [ByteArray.size_extract]; omega)
theorem door_left {fn : Func} {tmps : Array Value} {R : Ending → World → Prop} (k : Int) (b : Nat) (s : ByteArray) (a : Nat) (most : Int) (w1 : World) (eb : Nat) (h : RdB w1 b s a most)
    (he : w1.heap[eb]? = some (.cells #[.nilIface] 59 (0, 0)))
    (hr : ∀ w : World, w.cell? ⟨eb, 0, none⟩ = some (.iface 127 (.pointer (some ⟨w1.heap.size, 0, none⟩))) → (results fn tmps).run Tryz.prog w = .ok (.iface 127 (.pointer (some ⟨w1.heap.size, 0, none⟩))) w)
    (hR : ∀ w' : World, ExtB (some eb) w1 w' → w'.heap[w1.heap.size]? = some (.cells #[.int .i64 k, .int .i64 a] 63 (0, 0)) → R (.returned (.iface 127 (.pointer (some ⟨w1.heap.size, 0, none⟩)))) w') :
    Leaves Tryz.prog fn tmps R [{ target := .fn (.func 223) #[], args := #[.pointer (some ⟨b, 0, none⟩), .pointer (some ⟨eb, 0, none⟩)] }] (.panicking (chainOf k)) w1 := by
  refine leaves_cons (f := 223) (args := #[.pointer (some ⟨b, 0, none⟩), .pointer (some ⟨eb, 0, none⟩)]) (by simp) (by simp [go_sem]) ?_
  refine (fault_some k [] (.pointer (some ⟨b, 0, none⟩)) a eb .nilIface w1 (place_any w1 b s a most h) (block_cell he 0) rfl (block_free he 0)).mono ?_
  rintro e u' w'' ⟨rfl, rfl, rfl⟩
  have hl := lt_of_block he
  have hs : (w1.setCell ⟨eb, 0, none⟩ (.iface 127 (.pointer (some ⟨w1.heap.size, 0, none⟩)))).heap.size = w1.heap.size := by simp
  have hb0 : (w1.setCell ⟨eb, 0, none⟩ (.iface 127 (.pointer (some ⟨w1.heap.size, 0, none⟩)))).heap[eb]? = _ := block_setCell he _
  have hb := block_alloc hb0 (.cells #[.int .i64 k, .int .i64 a] 63)
  refine ⟨_, hr _ (block_cell hb 0), hR _ ?_ ?_⟩
  · refine ⟨rfl, rfl, rfl, by simp, fun i hi hn => ?_⟩
    rw [Below.heap_alloc _ _ _ (by rw [hs]; exact hi), Below.heap_setCell _ _ _ _ (by intro e; subst e; exact hn rfl)]
  · exact alloc_new_at _ hs
set_option maxRecDepth 100000 in
set_option maxHeartbeats 1000000 in
theorem left_any (w : World) (b : Nat) (s : ByteArray) (a : Nat) (most : Int) (h : RdB w b s a most) (ha : a ≤ s.size) (hs : s.size ≤ 9223372036854775807) :
    Calls Tryz.prog 206 #[.pointer (some ⟨b, 0, none⟩)] w (LeftIs (leftOf s a) b s most a w) := by
  have H := Lib.hid h
  have hbl := lt_of_block h
  clear h
  go_enter_defers Tryz.func206, Tryz.ntmps206
  go_wp2_with fail
  obtain ⟨W, hW⟩ : ∃ W, w.alloc (.cells #[.nilIface] 59) = W := ⟨_, rfl⟩
  have WB : Hid (Below w.heap.size w W) := Lib.hid (by rw [← hW]; (repeat (first | exact Below.refl _ _ | assumption | (refine bdrew ?_) | (refine bdrewN ?_ _) | (refine balloc ?_ _) | (refine bset ?_ (by first | omega | (simp; done) | (simp; omega)) _) | (refine bnext ?_ (by assumption)))))
  have W0 : Hid (W.heap[w.heap.size]? = some (.cells #[.nilIface] 59 (0, 0))) := Lib.hid (by rw [← hW]; (repeat (first | exact alloc_new_at _ (by repeat (first | rfl | refine alloc_size _ ?_)) | refine block_alloc ?_ _)))
  rw [hW]
  clear hW
  refine (here_any W b s a most (H.out.below WB.out) ha hs).mono ?_
  rintro e w1 ⟨rfl, hb1⟩
  have B1 := Lib.hid hb1
  clear hb1
  by_cases hlt : a < s.size
  · have he := ext_some s a hlt
    have he2 : (!(s.extract a s.size).toList.isEmpty) = true := by rw [he]; rfl
    have T : Hid (leftOf s a = some 5) := Lib.hid (by unfold leftOf; rw [if_pos hlt])
    go_wp2_with fail
    refine (stop_any 5 _).mono ?_
    rintro e w2 ⟨rfl, rfl⟩
    go_wp2
    rw [T.out]
    refine door_left 5 b s a most w2 w.heap.size (H.out.below (bnext WB.out B1.out)) ((B1.out.block _ (lt_of_block W0.out)).trans W0.out) (fun w hc => by simp [results, Tryz.results206, go_sem, hc]) (fun w' hE hf => ?_)
    have hz := (bnext WB.out B1.out).size
    exact ⟨grownBy_below (bnext WB.out B1.out) hE (fun k hk => by cases hk; exact Nat.le_refl _), _, rfl, hz, hf⟩
  · have he := ext_empty s a hlt
    have he2 : (!(s.extract a s.size).toList.isEmpty) = false := by rw [he]; rfl
    have T : Hid (leftOf s a = none) := Lib.hid (by unfold leftOf; rw [if_neg hlt])
    have E1 := (B1.out.block _ (lt_of_block W0.out)).trans W0.out
    have a2 : w1.cell? ⟨w.heap.size, 0, none⟩ = some .nilIface := block_cell E1 0
    have a3 : w1.frozen? ⟨w.heap.size, 0, none⟩ = false := block_free E1 0
    have hz1 := lt_of_block E1
    clear E1
    go_wp2
    rw [T.out]
    refine leaves_cons (f := 223) (args := #[.pointer (some ⟨b, 0, none⟩), .pointer (some ⟨w.heap.size, 0, none⟩)]) (by simp) (by simp [go_sem]) ?_
    refine (fault_idle (.pointer (some ⟨b, 0, none⟩)) (.pointer (some ⟨w.heap.size, 0, none⟩)) _).mono ?_
    rintro e u' w'' ⟨rfl, rfl, rfl⟩
    refine ⟨_, by simp [results, Tryz.results206, go_sem, a2]; rfl, ?_⟩
    exact ⟨bset (bnext WB.out B1.out) (by show w.heap.size ≤ w.heap.size; exact Nat.le_refl _) _, rfl⟩
set_option maxRecDepth 100000 in
set_option maxHeartbeats 1000000 in
theorem End_any (w : World) (b : Nat) (s : ByteArray) (a : Nat) (most : Int) (het : ErrType w) (h : RdB w b s a most) (ha : a ≤ s.size) (hs : s.size ≤ 9223372036854775807) :
    Calls Tryz.prog 124 #[.pointer (some ⟨b, 0, none⟩)] w (LeftIs (leftOf s a) b s most a w) := by
  have H := Lib.hid h
  have HET := Lib.hid het
  clear h het
  go_enter Tryz.func124, Tryz.ntmps124
  go_wp2_with fail
  refine (left_any w b s a most H.out ha hs).mono ?_
  rintro e w1 ⟨hb1, hm⟩
  have B1 := Lib.hid hb1
  clear hb1
  cases hl : leftOf s a with
  | none =>
    rw [hl] at hm
    subst hm
    have T := Lib.hid hl
    clear hl
    go_wp2_with fail
    refine (is_none 1 _).mono ?_
    rintro e w2 ⟨rfl, rfl⟩
    go_wp2_with fail
    refine (as_none _ _).mono ?_
    rintro e w2 ⟨rfl, rfl⟩
    go_wp2
    go_ret
    rw [T.out]
    exact ⟨(by have := B1.out; (repeat (first | exact Below.refl _ _ | assumption | (refine bdrew ?_) | (refine bdrewN ?_ _) | (refine balloc ?_ _) | (refine bset ?_ (by first | omega | (simp; done) | (simp; omega)) _) | (refine bnext ?_ (by assumption))))), rfl⟩
  | some k =>
    have hk : k = 5 := by unfold leftOf at hl; split at hl <;> simp_all
    subst hk
    rw [hl] at hm
    obtain ⟨f, rfl, hf, hfb⟩ := hm
    have T := Lib.hid hl
    have F1 := Lib.hid hfb
    clear hl hfb
    go_wp2_with fail
    refine (is_fault f 5 1 _ (block_cell (block_alloc F1.out _) 0)).mono ?_
    rintro e w2 ⟨rfl, hw2⟩
    have hb51 : ((5 : Int) == 1) = false := by decide
    have B2 : Hid (Below w1.heap.size w1 w2) := Lib.hid (by rw [hw2]; exact balloc (Below.refl _ _) _)
    have T2 : Hid (w2.heap[w1.heap.size]? = some (.cells #[.pointer none] 127 (0, 0))) := Lib.hid (by rw [hw2]; exact heap_alloc_new _ _)
    clear hw2
    go_wp2_with fail
    refine (as_fault f w1.heap.size none w2 (HET.out.below (bnext B1.out B2.out)) T2.out).mono ?_
    rintro e w3 ⟨rfl, hE3, hb3⟩
    have X3 : Hid (Below w.heap.size w w3) := Lib.hid (grownBy_below (bnext B1.out B2.out) hE3 (fun k hk => by cases hk; exact B1.out.size))
    have F3 : Hid (FltB w3 f 5 a) := Lib.hid (extB_block hE3 (by
      have := lt_of_block F1.out
      intro e; cases e; omega) (F1.out.below B2.out))
    clear hE3 hb3
    go_wp2
    go_ret
    rw [T.out]
    exact ⟨X3.out, f, rfl, hf, F3.out⟩
end Go.Proofs.YtihiaopilnjonaaGreatDoor
namespace Go.Proofs.YtihiaopilnjonaaGreatDoor
set_option linter.unusedSimpArgs false
open Go.RowKit
set_option linter.unusedVariables false
def EsV (VO : Nat → Option Nat) (X : Nat → World → World → Prop) (j : Nat) (w w' : World) : Prop := w.grownBy w' (VO j) ∧ X j w w'
theorem esV_refl {VO : Nat → Option Nat} {X : Nat → World → World → Prop} {j : Nat} (hX : ∀ j w, X j w w) (w : World) : EsV VO X j w w := ⟨⟨rfl, rfl, rfl, Nat.le_refl _, fun _ _ _ => rfl⟩, hX j w⟩
theorem esV_of_ext {VO : Nat → Option Nat} {X : Nat → World → World → Prop} {j : Nat} {w w' : World} (h : Ext w w') (hx : X j w w') : EsV VO X j w w' := ⟨⟨h.os, h.tape, h.output, h.size, fun i hi _ => h.block i hi⟩, hx⟩
structure ExtS (VO : Nat → Option Nat) (w w' : World) : Prop where
  os : w'.os = w.os
  tape : w'.tape = w.tape
  output : w'.output = w.output
  size : w.heap.size ≤ w'.heap.size
  block : ∀ k, k < w.heap.size → (∀ j, VO j ≠ some k) → w'.heap[k]? = w.heap[k]?
theorem ExtS.refl (VO : Nat → Option Nat) (w : World) : ExtS VO w w := ⟨rfl, rfl, rfl, Nat.le_refl _, fun _ _ _ => rfl⟩
theorem ExtS.step {VO : Nat → Option Nat} {X : Nat → World → World → Prop} {j : Nat} {a b c : World} (h : ExtS VO a b) (k' : EsV VO X j b c) : ExtS VO a c :=
  have k := k'.1
  ⟨k.os.trans h.os, k.tape.trans h.tape, k.output.trans h.output, Nat.le_trans h.size k.size, fun i hi hn => (k.block i (Nat.lt_of_lt_of_le hi h.size) (fun e => hn j e.symm)).trans (h.block i hi hn)⟩
structure Here (VO : Nat → Option Nat) (I : World → Prop) (ops : List Oper) (w0 w : World) (D : Nat → Prop) (i : Nat) : Prop where
  ext : ExtS VO w0 w
  inv : I w
  late : ∀ j, ¬ D j → ∀ b, VO j = some b → b < w0.heap.size → w.heap[b]? = w0.heap[b]?
  notyet : ∀ (j : Nat) oj, ops[j]? = some oj → ∀ e ∈ oj.after, Region.binds .any e = true → ¬ D e.on → ¬ D j
  me : ¬ D i
theorem Here.own {VO : Nat → Option Nat} {I : World → Prop} {ops : List Oper} {w0 w : World} {D : Nat → Prop} {i : Nat} (h : Here VO I ops w0 w D i) : ∀ b, VO i = some b → b < w0.heap.size → w.heap[b]? = w0.heap[b]? := h.late i h.me
section
variable (P : Program) (ops : List Oper) (a0 : Act) (w0 : World) (VO : Nat → Option Nat) (X : Nat → World → World → Prop) (I : World → Prop) (PR : Nat → Nat → Value → Value → World → Prop) (Φ : Nat → Value → World → Prop) (Q : Exit → Act → World → Prop)
def PairAt (D : Nat → Prop) (a : Act) (i : Nat) (v : Value) (w' : World) : Prop := ∀ j oj, ops[j]? = some oj → D j → j ≠ i → PR i j v (slotOf oj a) w' ∧ PR j i (slotOf oj a) v w'
def StepAtV (hd : Nat) (i : Nat) (o : Oper) : Prop := ∀ (D : Nat → Prop) a w, (∀ j oj, ops[j]? = some oj → D j → Φ j (slotOf oj a) w) → Here VO I ops w0 w D i → Outer ops a0 hd a → Deps ops Φ a w o.after.toList →
  if Region.wanted o (yielded ops.toArray a.tmps) then o.wp P a w (fun a' w' => ∃ v, a' = a.put o.dst v ∧ EsV VO X i w w' ∧ Φ i (valOf o v) w' ∧ PairAt ops PR D a i (valOf o v) w') Q else Φ i undef w ∧ ∀ j vi vj w, PR i j vi vj w ∧ PR j i vi vj w
structure RInvV (n : Nat) (listed : Array Bool) (a : Act) (w : World) : Prop where
  head : HeadInv .any ops.toArray n listed
  ext : ExtS VO w0 w
  inv : I w
  ext0 : ∀ i, listed.getD i true = false → ∀ b, VO i = some b → b < w0.heap.size → w.heap[b]? = w0.heap[b]?
  outer : Outer ops a0 n a
  done : ∀ (i : Nat) o, ops[i]? = some o → listed.getD i true = true → Φ i (slotOf o a) w
  pair : ∀ i j oi oj, ops[i]? = some oi → ops[j]? = some oj → listed.getD i true = true → listed.getD j true = true → i ≠ j → PR i j (slotOf oi a) (slotOf oj a) w
variable {P ops a0 w0 VO X I PR Φ Q}
theorem slotv_same {o : Oper} {i : Nat} {a : Act} {v : Value} (hB : regOk ops a0.tmps.size = true) (hs : a.tmps.size = a0.tmps.size) (ho : ops[i]? = some o) : slotOf o (a.put o.dst v) = valOf o v := by
  unfold slotOf valOf
  cases hd : o.dst with
  | none => rfl
  | some d =>
    have hdl : ∀ d ∈ dstsOf ops, d < a0.tmps.size := by
      unfold regOk at hB; simp only [Bool.and_eq_true] at hB
      intro d hd; simpa using List.all_eq_true.1 hB.2 d hd
    have hmem : d ∈ dstsOf ops := List.mem_filterMap.2 ⟨o, List.mem_of_getElem? ho, hd⟩
    exact eval_put_same (by rw [hs]; exact hdl d hmem)
theorem slot_other {o oj : Oper} {i j : Nat} {a : Act} {v : Value} (hB : regOk ops a0.tmps.size = true) (hij : i ≠ j) (ho : ops[i]? = some o) (hoj : ops[j]? = some oj) : slotOf oj (a.put o.dst v) = slotOf oj a := by
  have hnd : (dstsOf ops).Nodup := by unfold regOk at hB; simp only [Bool.and_eq_true, decide_eq_true_eq] at hB; exact hB.1.2
  unfold slotOf
  cases hdj : oj.dst with
  | none => rfl
  | some d =>
    cases hdo : o.dst with
    | none => rfl
    | some d' =>
      have hne : d ≠ d' := by
        rintro rfl
        exact dst_two hnd hij ho hoj hdo hdj
      exact eval_put_ne hne
theorem RInvV.next {n : Nat} (hB : regOk ops a0.tmps.size = true) (hVO : ∀ i j b, VO i = some b → VO j = some b → i = j)
    (hmono : ∀ i j v w w', i ≠ j → EsV VO X j w w' → Φ i v w → Φ i v w') (hI : ∀ j w w', EsV VO X j w w' → I w → I w') (hmonoP : ∀ i j k vi vj w w', k ≠ i → k ≠ j → EsV VO X k w w' → PR i j vi vj w → PR i j vi vj w') {listed : Array Bool} {a : Act} {w : World} (inv : RInvV ops a0 w0 VO I PR Φ n listed a w)
    {i : Nat} {o : Oper} (hi : i ∈ Region.ready .any ops.toArray listed) (hin : i < n) (ho' : ops[i]? = some o) {v : Value} {w' : World} (he : EsV VO X i w w') (hv : Φ i (valOf o v) w') (hpr : PairAt ops PR (fun j => listed.getD j true = true) a i (valOf o v) w') :
    RInvV ops a0 w0 VO I PR Φ n (listed.setIfInBounds i true) (a.put o.dst v) w' := by
  have hnd : (dstsOf ops).Nodup := by unfold regOk at hB; simp only [Bool.and_eq_true, decide_eq_true_eq] at hB; exact hB.1.2
  have hdl : ∀ d ∈ dstsOf ops, d < a0.tmps.size := by
    unfold regOk at hB; simp only [Bool.and_eq_true] at hB
    intro d hd; simpa using List.all_eq_true.1 hB.2 d hd
  refine ⟨inv.head.set hi hin, inv.ext.step he, hI _ _ _ he inv.inv, fun k hl b hb hlt => ?_, ?_, ?_, fun i1 j1 oi oj hoi hoj l1 l2 hne => ?_⟩
  · by_cases his : k = i
    · exfalso
      subst his
      obtain ⟨hun, o', ho, _⟩ := mem_ready.1 hi
      have hil : k < listed.size := by rw [inv.head.size]; exact (Array.getElem?_eq_some_iff.1 ho).1
      simp [hil] at hl
    · rw [getD_set_ne true (Ne.symm his)] at hl
      have h1 := inv.ext0 k hl b hb hlt
      rw [← h1]
      exact he.1.block b (Nat.lt_of_lt_of_le hlt inv.ext.size) (fun e => his (hVO k i b hb e.symm))
  · obtain ⟨h1, h2, h3⟩ := inv.outer
    cases hd : o.dst with
    | none => exact ⟨h1, h2, h3⟩
    | some d =>
      refine ⟨h1, by simp [Act.put, h2], fun t ht => ?_⟩
      have hmem : d ∈ dstsOf (ops.take n) := List.mem_filterMap.2 ⟨o, List.mem_of_getElem? (i := i) (by rw [List.getElem?_take, if_pos hin]; exact ho'), hd⟩
      rw [eval_put_ne (by rintro rfl; simp at ht; exact ht hmem)]; exact h3 t ht
  · intro j oj hoj hl
    by_cases hij : j = i
    · subst hij
      have : oj = o := Option.some.inj (hoj.symm.trans ho')
      subst this
      unfold slotOf
      unfold valOf at hv
      cases hd : oj.dst with
      | none => simpa [hd] using hv
      | some d =>
        simp only [hd] at hv
        have hmem : d ∈ dstsOf ops := List.mem_filterMap.2 ⟨oj, List.mem_of_getElem? ho', hd⟩
        simp only
        rw [eval_put_same (by rw [inv.outer.2.1]; exact hdl d hmem)]; exact hv
    · rw [getD_set_ne true (Ne.symm hij)] at hl
      have h1 := hmono j i _ w w' hij he (inv.done j oj hoj hl)
      unfold slotOf at h1 ⊢
      cases hdj : oj.dst with
      | none => first | exact h1 | simpa [hdj] using h1
      | some d =>
        try simp only [hdj] at h1 ⊢
        cases hdo : o.dst with
        | none => exact h1
        | some d' =>
          have hne : d ≠ d' := by
            rintro rfl
            exact dst_two hnd (Ne.symm hij) ho' hoj hdo hdj
          rw [eval_put_ne hne]; exact h1
  · by_cases h1 : i1 = i
    · subst h1
      have e : oi = o := Option.some.inj (hoi.symm.trans ho')
      subst e
      rw [slotv_same hB inv.outer.2.1 ho', slot_other hB hne ho' hoj]
      exact (hpr j1 oj hoj (by rwa [getD_set_ne true hne] at l2) (Ne.symm hne)).1
    · by_cases h2 : j1 = i
      · subst h2
        have e : oj = o := Option.some.inj (hoj.symm.trans ho')
        subst e
        rw [slotv_same hB inv.outer.2.1 ho', slot_other hB (Ne.symm hne) ho' hoi]
        exact (hpr i1 oi hoi (by rwa [getD_set_ne true (Ne.symm hne)] at l1) hne).2
      · rw [slot_other hB (Ne.symm h1) ho' hoi, slot_other hB (Ne.symm h2) ho' hoj]
        exact hmonoP i1 j1 i _ _ w w' (Ne.symm h1) (Ne.symm h2) he (inv.pair i1 j1 oi oj hoi hoj (by rwa [getD_set_ne true (Ne.symm h1)] at l1) (by rwa [getD_set_ne true (Ne.symm h2)] at l2) hne)
theorem wpAnyV_head {n g : Nat} (hB : regOk ops a0.tmps.size = true) (hVO : ∀ i j b, VO i = some b → VO j = some b → i = j)
    (hmono : ∀ i j v w w', i ≠ j → EsV VO X j w w' → Φ i v w → Φ i v w') (hI : ∀ j w w', EsV VO X j w w' → I w → I w') (hmonoP : ∀ i j k vi vj w w', k ≠ i → k ≠ j → EsV VO X k w w' → PR i j vi vj w → PR i j vi vj w') (hX : ∀ j w, X j w w) (hnN : n ≤ ops.length)
    (hstep : ∀ (i : Nat) o, i < n → ops[i]? = some o → StepAtV P ops a0 w0 VO X I PR Φ Q n i o)
    (hlate : ∀ listed, HeadInv .any ops.toArray n listed → (∃ i, i < n ∧ listed.getD i true = false) → Region.ready .any ops.toArray listed ≠ [] ∧ ∀ t ∈ Region.ready .any ops.toArray listed, t < n)
    (hend : ∀ listed a w, RInvV ops a0 w0 VO I PR Φ n listed a w → (∀ i, i < n → listed.getD i true = true) → wpAny P .any ops.toArray Q g listed a w) :
    ∀ (fuel : Nat) (listed : Array Bool) (a : Act) (w : World), ((List.range n).filter (fun i => !listed.getD i true)).length = fuel → RInvV ops a0 w0 VO I PR Φ n listed a w →
      wpAny P .any ops.toArray Q (fuel + g) listed a w := by
  intro fuel
  induction fuel with
  | zero =>
    intro listed a w hf inv
    rw [Nat.zero_add]
    refine hend listed a w inv fun i hi => ?_
    cases h : listed.getD i true with
    | true => rfl
    | false =>
      have : i ∈ (List.range n).filter (fun i => !listed.getD i true) := List.mem_filter.2 ⟨List.mem_range.2 hi, by rw [h]; rfl⟩
      rw [List.eq_nil_of_length_eq_zero hf] at this; cases this
  | succ fuel ih =>
    intro listed a w hf inv
    rw [show fuel + 1 + g = (fuel + g) + 1 by omega]
    have hex : ∃ i, i < n ∧ listed.getD i true = false := by
      cases hl : (List.range n).filter (fun i => !listed.getD i true) with
      | nil => rw [hl] at hf; cases hf
      | cons x L =>
        have : x ∈ (List.range n).filter (fun i => !listed.getD i true) := by rw [hl]; exact List.mem_cons_self ..
        obtain ⟨h1, h2⟩ := List.mem_filter.1 this
        exact ⟨x, List.mem_range.1 h1, by simpa using h2⟩
    obtain ⟨hne, hlt⟩ := hlate listed inv.head hex
    refine ⟨fun hr => absurd hr hne, fun i hi => ?_⟩
    have hin := hlt i hi
    obtain ⟨hun, o, ho, hall⟩ := mem_ready.1 hi
    have ho' : ops[i]? = some o := by simpa using ho
    have hls : listed.size = ops.length := by rw [inv.head.size]; simp
    have hdep : Deps ops Φ a w o.after.toList := deps_of fun e he hb oj hoj => by
      have h1 := hall e (by simpa using he) hb
      refine inv.done e.on oj hoj ?_
      have h2 : e.on < listed.size := by
        rcases Nat.lt_or_ge e.on listed.size with h | h
        · exact h
        · simp [Array.getElem?_eq_none h] at h1
      simp [h2] at h1 ⊢; exact h1
    have hst := hstep i o hin ho' (fun j => listed.getD j true = true) a w (fun j oj hoj hl => inv.done j oj hoj hl)
      ⟨inv.ext, inv.inv, fun j hj => inv.ext0 j (by simpa using hj), fun j oj hoj e he hb hne hD => (by
        have hjl : j < listed.size := by rw [hls]; exact (List.getElem?_eq_some_iff.1 hoj).1
        have h1 := inv.head.closed j oj (by simpa using hoj) (by simp [hjl] at hD ⊢; exact hD) e he hb
        rcases Nat.lt_or_ge e.on listed.size with h | h
        · simp [h] at h1 hne; rw [h1] at hne; cases hne
        · simp [Array.getElem?_eq_none h] at h1), (by rw [hun]; exact Bool.false_ne_true)⟩ inv.outer hdep
    have next : ∀ v w', EsV VO X i w w' → Φ i (valOf o v) w' → PairAt ops PR (fun j => listed.getD j true = true) a i (valOf o v) w' → wpAny P .any ops.toArray Q (fuel + g) (listed.setIfInBounds i true) (a.put o.dst v) w' := by
      intro v w' he hv hpr
      refine ih _ _ _ ?_ (inv.next hB hVO hmono hI hmonoP hi hin ho' he hv hpr)
      have := head_count (listed := listed) (i := i) (by omega) hun _ List.nodup_range (List.mem_range.2 hin)
      omega
    unfold wpOp
    rw [ho]
    dsimp only
    by_cases hw : Region.wanted o (yielded ops.toArray a.tmps) = true
    · rw [if_pos hw] at hst ⊢
      left
      refine Oper.wp_mono (fun a' w' h => ?_) hst
      obtain ⟨v, rfl, he, hv, hpr⟩ := h
      exact next v w' he hv hpr
    · rw [if_neg hw] at hst ⊢
      have e : valOf o undef = undef := by unfold valOf; cases o.dst <;> rfl
      exact next undef w (esV_refl hX w) (by rw [e]; exact hst.1) (fun j oj _ _ _ => ⟨(hst.2 j _ _ w).1, (hst.2 j _ _ w).2⟩)
end
section
variable {P : Program} {Q : Exit → Act → World → Prop} {a : Act} {w : World} {l : List Oper} {VO : Nat → Option Nat} {X : Nat → World → World → Prop} {I : World → Prop} {PR : Nat → Nat → Value → Value → World → Prop} {Φ : Nat → Value → World → Prop}
theorem rinvV_start {n : Nat} (hI0 : I w.drew) (hn : n ≤ l.length) : RInvV l a w.drew VO I PR Φ n (Array.replicate l.length false) a w.drew :=
  ⟨⟨by simp, fun j oj _ hl => (by rw [getD_replicate_false] at hl; cases hl), fun t _ ht => getD_in (by simpa using ht) (getD_replicate_false _ _)⟩, ExtS.refl _ _, hI0, fun _ _ _ _ _ => rfl, ⟨rfl, rfl, fun _ _ => rfl⟩,
    fun i o ho hl => (by
      have hi := (List.getElem?_eq_some_iff.1 ho).1
      rw [getD_in (by simpa using hi) (getD_replicate_false _ _)] at hl; cases hl), fun i1 _ oi _ hoi _ l1 _ _ => (by
      have hi := (List.getElem?_eq_some_iff.1 hoi).1
      rw [getD_in (by simpa using hi) (getD_replicate_false _ _)] at l1; cases l1)⟩
theorem wp_region_tailV {id : Nat} (n : Nat) (VO : Nat → Option Nat) (hVO : ∀ i j b, VO i = some b → VO j = some b → i = j) (X : Nat → World → World → Prop) (I : World → Prop) (PR : Nat → Nat → Value → Value → World → Prop) (hX : ∀ j w, X j w w) (hI0 : I w.drew) (Φ : Nat → Value → World → Prop) (hm : P.follows .mixedOrders = true) (hB : regOk l a.tmps.size = true) (hT : regTail l n = true)
    (hmono : ∀ i j v w1 w', i ≠ j → EsV VO X j w1 w' → Φ i v w1 → Φ i v w') (hI : ∀ j w w', EsV VO X j w w' → I w → I w') (hmonoP : ∀ i j k vi vj w w', k ≠ i → k ≠ j → EsV VO X k w w' → PR i j vi vj w → PR i j vi vj w')
    (hstep : ∀ (i : Nat) o, i < n → l[i]? = some o → StepAtV P l a w.drew VO X I PR Φ Q n i o)
    (hend : ∀ a' w', ExtS VO w.drew w' → I w' → Outer l a n a' → AllDone l Φ a' w' 0 n → (∀ i j oi oj, l[i]? = some oi → l[j]? = some oj → i < n → j < n → i ≠ j → PR i j (slotOf oi a') (slotOf oj a') w') → wpList P l.toArray Q (l.drop n) a' w') : (Code.region id l.toArray true).wp P Q a w := by
  unfold regTail at hT
  simp only [Bool.and_eq_true, decide_eq_true_eq] at hT
  obtain ⟨⟨⟨hn, hs⟩, hc⟩, hseq⟩ := hT
  refine wp_region_any hm ?_
  have H := wpAnyV_head (P := P) (ops := l) (a0 := a) (w0 := w.drew) (VO := VO) (X := X) (I := I) (PR := PR) (Φ := Φ) (Q := Q) (n := n) (g := l.length - n) hB hVO hmono hI hmonoP hX (by omega) hstep
    (fun listed inv ⟨i, hi, hun⟩ => ⟨fun hr => (by
        have := all_of_ready_nil (a0 := a) hB (by rw [inv.size]; simp) hr i (by omega)
        rw [hun] at this; cases this), fun t ht => (by
        rcases Nat.lt_or_ge t n with h | h
        · exact h
        · exact absurd ht (tail_waits hs hc (by simpa using hn) inv (n - i) i rfl hi hun t h))⟩)
    (fun listed a' w' inv hall => (by
        have e := headDone_of (n := n) (N := l.length) (by rw [inv.head.size]; simp) hall (fun i h1 h2 => inv.head.tail i h1 (by simpa using h2)) (by omega)
        have h := wpAny_of_seq (P := P) (md := .any) (Q' := Q) (ops := l.toArray) (l.drop n) n listed a' w' (fun j => by simp [List.getElem?_drop]) (by rw [List.length_drop, e]; exact hseq)
          (hend a' w' inv.ext inv.inv inv.outer (allDone_of _ _ fun j _ h2 o ho => inv.done j o ho (hall j (by omega))) (fun i j oi oj hoi hoj h1 h2 hne => inv.pair i j oi oj hoi hoj (hall i h1) (hall j h2) hne))
        rwa [List.length_drop] at h))
    n (Array.replicate l.length false) a w.drew (start_count _ _ (by omega)) (rinvV_start hI0 (by omega))
  rw [show n + (l.length - n) = l.length by omega] at H
  simpa using H
end
def MonoAllV (VO : Nat → Option Nat) (X : Nat → World → World → Prop) : Nat → List (Value → World → Prop) → Prop
  | _, [] => True
  | i, φ :: r => (∀ j, j ≠ i → ∀ v w1 w', EsV VO X j w1 w' → φ v w1 → φ v w') ∧ MonoAllV VO X (i + 1) r
theorem monoV_at {VO : Nat → Option Nat} {X : Nat → World → World → Prop} : ∀ {L : List (Value → World → Prop)} {k : Nat}, MonoAllV VO X k L → ∀ i j v w1 w', j ≠ k + i → EsV VO X j w1 w' → L.getD i (fun _ _ => True) v w1 → L.getD i (fun _ _ => True) v w'
  | [], _, _, _, _, _, _, _, _, _, _ => by simp
  | φ :: r, k, h, 0, j, v, w1, w', hj, he, hp => h.1 j hj v w1 w' he hp
  | φ :: r, k, h, i + 1, j, v, w1, w', hj, he, hp => monoV_at (L := r) h.2 i j v w1 w' (by omega) he hp
theorem monoV_of {VO : Nat → Option Nat} {X : Nat → World → World → Prop} {L : List (Value → World → Prop)} (h : MonoAllV VO X 0 L) : ∀ i j v w1 w', i ≠ j → EsV VO X j w1 w' → phis L i v w1 → phis L i v w' := fun i j v w1 w' hij he hp =>
  monoV_at h i j v w1 w' (by omega) he hp
theorem monoV_eq {VO : Nat → Option Nat} {X : Nat → World → World → Prop} {i : Nat} {f : Value → Prop} : ∀ j, j ≠ i → ∀ v w1 w', EsV VO X j w1 w' → (fun v (_ : World) => f v) v w1 → (fun v (_ : World) => f v) v w' := fun _ _ _ _ _ _ h => h
def StepsFromV (P : Program) (ops : List Oper) (a0 : Act) (w0 : World) (VO : Nat → Option Nat) (X : Nat → World → World → Prop) (I : World → Prop) (PR : Nat → Nat → Value → Value → World → Prop) (Φ : Nat → Value → World → Prop) (Q : Exit → Act → World → Prop) (hd : Nat) : Nat → Nat → List Oper → Prop
  | _, 0, _ => True
  | _, _ + 1, [] => True
  | i, n + 1, o :: r => StepAtV P ops a0 w0 VO X I PR Φ Q hd i o ∧ StepsFromV P ops a0 w0 VO X I PR Φ Q hd (i + 1) n r
theorem stepsV_from {P : Program} {ops : List Oper} {a0 : Act} {w0 : World} {VO : Nat → Option Nat} {X : Nat → World → World → Prop} {I : World → Prop} {PR : Nat → Nat → Value → Value → World → Prop} {Φ : Nat → Value → World → Prop} {Q : Exit → Act → World → Prop} {hd : Nat} :
    ∀ (n k : Nat) (r : List Oper), StepsFromV P ops a0 w0 VO X I PR Φ Q hd k n r → ∀ (i : Nat) o, i < n → r[i]? = some o → StepAtV P ops a0 w0 VO X I PR Φ Q hd (k + i) o
  | 0, _, _, _, _, _, h, _ => by omega
  | _ + 1, _, [], _, _, _, _, h => by simp at h
  | n + 1, k, x :: r, h, 0, o, _, ho => by simp at ho; subst ho; exact h.1
  | n + 1, k, x :: r, h, i + 1, o, hi, ho => by
    have := stepsV_from n (k + 1) r h.2 i o (by omega) (by simpa using ho)
    rwa [Nat.add_assoc, Nat.add_comm 1 i] at this
theorem stepsV_of {P : Program} {ops : List Oper} {a0 : Act} {w0 : World} {VO : Nat → Option Nat} {X : Nat → World → World → Prop} {I : World → Prop} {PR : Nat → Nat → Value → Value → World → Prop} {Φ : Nat → Value → World → Prop} {Q : Exit → Act → World → Prop} {hd : Nat} (n : Nat)
    (h : StepsFromV P ops a0 w0 VO X I PR Φ Q hd 0 n ops) : ∀ (i : Nat) o, i < n → ops[i]? = some o → StepAtV P ops a0 w0 VO X I PR Φ Q hd i o := fun i o hi ho => by
  have := stepsV_from n 0 ops h i o hi ho
  rwa [Nat.zero_add] at this
section
variable {P : Program} {ops : List Oper} {a0 : Act} {w0 : World} {VO : Nat → Option Nat} {X : Nat → World → World → Prop} {I : World → Prop} {PR : Nat → Nat → Value → Value → World → Prop} {Φ : Nat → Value → World → Prop} {Q : Exit → Act → World → Prop} {hd : Nat} {i : Nat} {o : Oper}
theorem stepV_wp (h : ∀ (D : Nat → Prop) a w1, (∀ j oj, ops[j]? = some oj → D j → Φ j (slotOf oj a) w1) → Here VO I ops w0 w1 D i → Outer ops a0 hd a → Deps ops Φ a w1 o.after.toList →
    Region.wanted o (yielded ops.toArray a.tmps) = true ∧ o.wp P a w1 (fun a' w' => ∃ v, a' = a.put o.dst v ∧ EsV VO X i w1 w' ∧ Φ i (valOf o v) w' ∧ PairAt ops PR D a i (valOf o v) w') Q) : StepAtV P ops a0 w0 VO X I PR Φ Q hd i o := fun D a w1 hP hE hO hD => by
  obtain ⟨h1, h2⟩ := h D a w1 hP hE hO hD
  rw [if_pos h1]; exact h2
theorem stepV_val {v : Value} (hX : ∀ j w, X j w w) (hp : ∀ j vi vj w, PR i j vi vj w ∧ PR j i vi vj w) (h : ∀ (D : Nat → Prop) a w1, Here VO I ops w0 w1 D i → Outer ops a0 hd a → Deps ops Φ a w1 o.after.toList →
    Region.wanted o (yielded ops.toArray a.tmps) = true ∧ (execOp a.eval o).run P w1 = .ok (.value v) w1) (hφ : ∀ w1, Φ i (valOf o v) w1) : StepAtV P ops a0 w0 VO X I PR Φ Q hd i o := fun D a w1 hP hE hO hD => by
  obtain ⟨h1, h2⟩ := h D a w1 hE hO hD
  rw [if_pos h1]
  unfold Oper.wp
  rw [h2]
  exact ⟨v, rfl, esV_refl hX w1, hφ w1, fun j oj _ _ _ => ⟨(hp j _ _ w1).1, (hp j _ _ w1).2⟩⟩
end
end Go.Proofs.YtihiaopilnjonaaGreatDoor
namespace Go.Proofs.YtihiaopilnjonaaGreatDoor
set_option linter.unusedSimpArgs false
set_option linter.unusedVariables false
open Go.RowKit
def rowsOf (sort : Nat) : List URow := match sort with | 1 => binsL | 2 => strsL | 3 => listsL | 4 => pairsL | _ => numsL
def takeOf (sort : Nat) (s : ByteArray) (a : Nat) (most : Int) : Except Int (Int × ByteArray × Nat) :=
  match headOf (s.extract a s.size) (rowsOf sort) with
  | .error k => .error k
  | .ok (n, rest) =>
    if sort ≠ 0 ∧ most < n then .error 3
    else if sort = 1 ∨ sort = 2 then (if (rest.size : Int) < n then .error 4 else .ok (n, rest.extract 0 n.toNat, s.size - (rest.size - n.toNat)))
    else .ok (n, ⟨#[]⟩, s.size - rest.size)
theorem textOf_is {s : ByteArray} {a : Nat} {most : Int} {sort : Nat} (h : sort = 1 ∨ sort = 2) :
    (∃ k, textOf s a most (rowsOf sort) = .error k ∧ takeOf sort s a most = .error k) ∨
    (∃ (n : Nat) (t : ByteArray) (a' : Nat), textOf s a most (rowsOf sort) = .ok (.string t, a') ∧ takeOf sort s a most = .ok ((n : Int), t, a') ∧ t.size = n ∧ (n : Int) ≤ most) := by
  have h0 : sort ≠ 0 := by omega
  unfold textOf takeOf
  cases hh : headOf (s.extract a s.size) (rowsOf sort) with
  | error k => exact .inl ⟨k, rfl, rfl⟩
  | ok x =>
    obtain ⟨n, rest⟩ := x
    have hb := head_bd (by rcases h with rfl | rfl; exact binsL_ok; exact strsL_ok) hh
    by_cases h1 : most < n
    · exact .inl ⟨3, by simp only [if_pos h1], by simp only [if_pos (And.intro h0 h1)]⟩
    · by_cases h2 : (rest.size : Int) < n
      · exact .inl ⟨4, by simp only [if_neg h1, if_pos h2], by simp only [if_neg (fun e : sort ≠ 0 ∧ most < n => h1 e.2), if_pos h, if_pos h2]⟩
      · refine .inr ⟨n.toNat, rest.extract 0 n.toNat, s.size - (rest.size - n.toNat), by simp only [if_neg h1, if_neg h2], ?_, by rw [ByteArray.size_extract]; omega, by omega⟩
        simp only [if_neg (fun e : sort ≠ 0 ∧ most < n => h1 e.2), if_pos h, if_neg h2]
        rw [show ((n.toNat : Nat) : Int) = n by omega]
theorem countOf_is {s : ByteArray} {a : Nat} {most : Int} {sort : Nat} (h : sort = 3 ∨ sort = 4) :
    (∃ k, countOf s a most (rowsOf sort) = .error k ∧ takeOf sort s a most = .error k) ∨
    (∃ (n : Nat) (a' : Nat), countOf s a most (rowsOf sort) = .ok (.int .i64 n, a') ∧ takeOf sort s a most = .ok ((n : Int), ⟨#[]⟩, a') ∧ (n : Int) ≤ most) := by
  have h0 : sort ≠ 0 := by omega
  have h3 : ¬ (sort = 1 ∨ sort = 2) := by omega
  unfold countOf takeOf
  cases hh : headOf (s.extract a s.size) (rowsOf sort) with
  | error k => exact .inl ⟨k, rfl, rfl⟩
  | ok x =>
    obtain ⟨n, rest⟩ := x
    have hb := head_bd (by rcases h with rfl | rfl; exact listsL_ok; exact pairsL_ok) hh
    by_cases h1 : most < n
    · exact .inl ⟨3, by simp only [if_pos h1], by simp only [if_pos (And.intro h0 h1)]⟩
    · refine .inr ⟨n.toNat, s.size - rest.size, ?_, ?_, by omega⟩
      · simp only [if_neg h1]; rw [show ((n.toNat : Nat) : Int) = n by omega]
      · simp only [if_neg (fun e : sort ≠ 0 ∧ most < n => h1 e.2), if_neg h3]; rw [show ((n.toNat : Nat) : Int) = n by omega]
theorem numOf_is {s : ByteArray} {a : Nat} {most : Int} :
    (∃ k, numOf s a numsL = .error k ∧ takeOf 0 s a most = .error k) ∨
    (∃ (n : Int) (a' : Nat), numOf s a numsL = .ok (.int .u64 n, a') ∧ takeOf 0 s a most = .ok (n, ⟨#[]⟩, a')) := by
  unfold numOf takeOf
  have e : rowsOf 0 = numsL := rfl
  rw [e]
  cases hh : headOf (s.extract a s.size) numsL with
  | error k => exact .inl ⟨k, rfl, rfl⟩
  | ok x =>
    obtain ⟨n, rest⟩ := x
    exact .inr ⟨n, s.size - rest.size, rfl, by simp⟩
theorem takeOf_le {sort : Nat} {s : ByteArray} {a : Nat} {most : Int} {x : Int × ByteArray × Nat} (h : takeOf sort s a most = .ok x) : x.2.2 ≤ s.size := by
  unfold takeOf at h
  cases hh : headOf (s.extract a s.size) (rowsOf sort) with
  | error k2 => rw [hh] at h; cases h
  | ok y =>
    obtain ⟨n, rest⟩ := y
    rw [hh] at h
    simp only at h
    split at h
    · cases h
    · split at h
      · split at h
        · cases h
        · cases h; exact Nat.sub_le _ _
      · cases h; exact Nat.sub_le _ _
theorem New_any (w : World) (s : ByteArray) (m : Int) : Calls Tryz.prog 122 #[.string s, .int .i64 m] w fun e w' => e = .returned (.pointer (some ⟨w.heap.size, 0, none⟩)) ∧ w' = w.alloc (.cells #[.string s, .int .i64 0, .int .i64 (max m 0)] 275) := by
  by_cases h : m < 0
  · rw [show max m 0 = 0 by omega]
    go_enter Tryz.func122, Tryz.ntmps122
    go_wp2
    go_ret
    exact ⟨rfl, rfl⟩
  · rw [show max m 0 = m by omega]
    go_enter Tryz.func122, Tryz.ntmps122
    go_wp2
    go_ret
    exact ⟨rfl, rfl⟩
end Go.Proofs.YtihiaopilnjonaaGreatDoor
namespace Go.Proofs.YtihiaopilnjonaaGreatDoor
open Go.RowKit
set_option linter.unusedSimpArgs false
set_option linter.unusedVariables false
structure RevD where
  pos : Int
  L : Int
  signed : Bool
  idx : Int
  ws : List ByteArray
  ps : List ByteArray
  root : ByteArray
  wt : Int
  first : Int
  life : Int
  keys : Int
inductive DV where
  | num (n : Int)
  | flag (q : Bool)
  | str (s : ByteArray)
  | strs (l : List ByteArray)
  | nums (l : List Int)
  | revs (l : List RevD)
def zeroD : DV → Bool
  | .num n => n == 0
  | .flag q => !q
  | .str s => s.size == 0
  | .strs l => l.length == 0
  | .nums l => l.length == 0
  | .revs l => l.length == 0
abbrev Rcd := Nat → DV
def upd (x : Rcd) (o : Nat) (d : DV) : Rcd := fun i => if i = o then d else x i
theorem upd_at (x : Rcd) (o : Nat) (d : DV) : upd x o d o = d := if_pos rfl
theorem upd_ne {x : Rcd} {o i : Nat} {d : DV} (h : i ≠ o) : upd x o d i = x i := if_neg h
abbrev Flt := Int × Nat
def tkR (sort : Nat) (s : ByteArray) (a : Nat) : Except Flt (Int × ByteArray × Nat) :=
  match takeOf sort s a 10240 with
  | .error k => .error (k, a)
  | .ok x => .ok x
def rnum (s : ByteArray) (a : Nat) : Except Flt (Int × Nat) :=
  match tkR 0 s a with
  | .error f => .error f
  | .ok x => .ok (x.1, x.2.2)
def rdig (s : ByteArray) (a : Nat) : Except Flt (ByteArray × Nat) :=
  match tkR 1 s a with
  | .error f => .error f
  | .ok x => if x.2.1.size = 32 then .ok (x.2.1, x.2.2) else .error (5, 0)
def rlist (s : ByteArray) (most : Nat) (a : Nat) : Except Flt (Nat × Nat) :=
  match tkR 3 s a with
  | .error f => .error f
  | .ok x => if x.1 ≤ most then .ok (x.1.toNat, x.2.2) else .error (3, 0)
def rmany {α : Type} (rd : Nat → Except Flt (α × Nat)) : Nat → Nat → List α → Except Flt (List α × Nat)
  | 0, a, l => .ok (l, a)
  | n + 1, a, l =>
    match rd a with
    | .error f => .error f
    | .ok x => rmany rd n x.2 (l ++ [x.1])
structure GSpec where
  key : ByteArray
  must : Bool
  offs : List Nat
  empty : Rcd → Bool
  read : Rcd → Nat → Except Flt (Rcd × Nat)
def GSpec.zero : GSpec := ⟨ByteArray.empty, false, [], fun _ => true, fun x a => .ok (x, a)⟩
def gth (l : List GSpec) (i : Nat) : GSpec := l.getD i GSpec.zero
theorem gth_eq (l : List GSpec) (i : Nat) (h : i < l.length) : gth l i = l[i] := by unfold gth; rw [List.getD_eq_getElem?_getD, List.getElem?_eq_getElem h]; rfl
def keyIdx (fs : List GSpec) (fr : Nat) (k : ByteArray) : Option Nat := (List.range (fs.length - fr)).find? (fun i => (gth fs (fr + i)).key.toList == k.toList)
theorem keyIdx_none {fs : List GSpec} {fr : Nat} {k : ByteArray} (h : ∀ i, i < fs.length - fr → ((gth fs (fr + i)).key.toList == k.toList) = false) : keyIdx fs fr k = none := by
  unfold keyIdx
  rw [List.find?_eq_none]
  intro i hi
  rw [h i (List.mem_range.1 hi)]; decide
theorem find_range {p : Nat → Bool} {n j : Nat} (hj : j < n) (hp : p j = true) (hn : ∀ i, i < j → p i = false) : (List.range n).find? p = some j := by
  rw [List.find?_range_eq_some]
  refine ⟨hp, by simpa using hj, fun i hi => by rw [hn i hi]; rfl⟩
theorem keyIdx_some {fs : List GSpec} {fr j : Nat} {k : ByteArray} (hj : j < fs.length - fr) (hp : ((gth fs (fr + j)).key.toList == k.toList) = true) (hn : ∀ i, i < j → ((gth fs (fr + i)).key.toList == k.toList) = false) : keyIdx fs fr k = some j :=
  find_range hj hp hn
def missing (fs : List GSpec) (seen : List Nat) : Bool := (List.range fs.length).any fun i => (gth fs i).must && !seen.contains i
def objLoop (s : ByteArray) (fs : List GSpec) : Nat → Nat → Rcd → List Nat → Nat → Except Flt (Rcd × List Nat × Nat)
  | 0, _, x, seen, a => .ok (x, seen, a)
  | n + 1, fr, x, seen, a =>
    match tkR 2 s a with
    | .error f => .error f
    | .ok k =>
      match keyIdx fs fr k.2.1 with
      | none => .error (5, 0)
      | some j =>
        match (gth fs (fr + j)).read x k.2.2 with
        | .error f => .error f
        | .ok y => if (gth fs (fr + j)).empty y.1 then .error (5, 0) else objLoop s fs n (fr + j + 1) y.1 ((fr + j) :: seen) y.2
def objR (s : ByteArray) (fs : List GSpec) (x : Rcd) (a : Nat) : Except Flt (Rcd × Nat) :=
  match tkR 4 s a with
  | .error f => .error f
  | .ok n =>
    match objLoop s fs n.1.toNat 0 x [] n.2.2 with
    | .error f => .error f
    | .ok y => if missing fs y.2.1 then .error (5, 0) else .ok (y.1, y.2.2)
def readR (s : ByteArray) (fs : List GSpec) (x : Rcd) : Except Flt Rcd :=
  match objR s fs x 0 with
  | .error f => .error f
  | .ok y => if y.2 < s.size then .error (5, y.2) else .ok y.1
def gnum (s key : ByteArray) (o : Nat) : GSpec := ⟨key, false, [o], fun x => zeroD (x o), fun x a => match rnum s a with | .error f => .error f | .ok y => .ok (upd x o (.num y.1), y.2)⟩
def gflag (s key : ByteArray) (o : Nat) : GSpec := ⟨key, false, [o], fun x => zeroD (x o), fun x a => match rnum s a with | .error f => .error f | .ok y => .ok (upd x o (.flag (y.1 == 1)), y.2)⟩
def gdig (s key : ByteArray) (o : Nat) : GSpec := ⟨key, true, [o], fun _ => false, fun x a => match rdig s a with | .error f => .error f | .ok y => .ok (upd x o (.str y.1), y.2)⟩
def gmany {α : Type} (s key : ByteArray) (o most : Nat) (toD : List α → DV) (rd : Nat → Except Flt (α × Nat)) : GSpec :=
  ⟨key, false, [o], fun x => zeroD (x o), fun x a => match rlist s most a with | .error f => .error f | .ok k => match rmany rd k.1 k.2 [] with | .error f => .error f | .ok y => .ok (upd x o (toD y.1), y.2)⟩
def gdigs (s key : ByteArray) (o most : Nat) : GSpec := gmany s key o most .strs (rdig s)
def gobj (s key : ByteArray) (fs : List GSpec) : GSpec := ⟨key, fs.any fun g => g.must, fs.flatMap fun g => g.offs, fun x => fs.all fun g => g.empty x, objR s fs⟩
def partGs (s : ByteArray) (o : Nat) : List GSpec := [gnum s ⟨#[102]⟩ (o + 2), gnum s ⟨#[107]⟩ (o + 4), gnum s ⟨#[108]⟩ (o + 3), gdig s ⟨#[114]⟩ o, gnum s ⟨#[119]⟩ (o + 1)]
def sigGs (s : ByteArray) (o : Nat) : List GSpec := [gnum s ⟨#[105]⟩ o, gdigs s ⟨#[112]⟩ (o + 2) 16, gdigs s ⟨#[118]⟩ (o + 1) 67]
def slotGs (s : ByteArray) (o : Nat) : List GSpec := [gobj s ⟨#[103]⟩ (sigGs s (o + 2)), gnum s ⟨#[108]⟩ o, gflag s ⟨#[115]⟩ (o + 1)]
def revGs (s : ByteArray) : List GSpec := [gnum s ⟨#[112]⟩ 0, gobj s ⟨#[113]⟩ (partGs s 6), gobj s ⟨#[115]⟩ (slotGs s 1)]
def DV.n : DV → Int | .num n => n | _ => 0
def DV.q : DV → Bool | .flag q => q | _ => false
def DV.s : DV → ByteArray | .str s => s | _ => ByteArray.empty
def DV.l : DV → List ByteArray | .strs l => l | _ => []
def DV.ns : DV → List Int | .nums l => l | _ => []
def DV.rs : DV → List RevD | .revs l => l | _ => []
def revD (x : Rcd) : RevD := ⟨(x 0).n, (x 1).n, (x 2).q, (x 3).n, (x 4).l, (x 5).l, (x 6).s, (x 7).n, (x 8).n, (x 9).n, (x 10).n⟩
def revC (r : RevD) : Rcd := fun i => match i with
  | 0 => .num r.pos | 1 => .num r.L | 2 => .flag r.signed | 3 => .num r.idx | 4 => .strs r.ws | 5 => .strs r.ps | 6 => .str r.root | 7 => .num r.wt | 8 => .num r.first | 9 => .num r.life | _ => .num r.keys
def part0 : Rcd := fun i => match i with | 0 => .str ⟨#[]⟩ | _ => .num 0
def slot0 : Rcd := fun i => match i with | 1 => .flag false | 3 => .strs [] | 4 => .strs [] | _ => .num 0
def rev0 : Rcd := fun i => match i with | 2 => .flag false | 4 => .strs [] | 5 => .strs [] | 6 => .str ⟨#[]⟩ | _ => .num 0
def cert0 : Rcd := fun i => match i with | 0 => .str ⟨#[]⟩ | 2 => .revs [] | 3 => .nums [] | 4 => .strs [] | 5 => .strs [] | _ => .num 0
def rrev (s : ByteArray) (a : Nat) : Except Flt (RevD × Nat) :=
  match objR s (revGs s) rev0 a with
  | .error f => .error f
  | .ok y => .ok (revD y.1, y.2)
def certGs (s : ByteArray) : List GSpec := [gdigs s ⟨#[80]⟩ 5 10240, gdigs s ⟨#[83]⟩ 4 10240, gdig s ⟨#[99]⟩ 0, gmany s ⟨#[112]⟩ 3 640 .nums (rnum s), gmany s ⟨#[114]⟩ 2 640 .revs (rrev s), gnum s ⟨#[119]⟩ 1]
def GSpec.Frames (g : GSpec) : Prop := ∀ x a y, g.read x a = .ok y → ∀ i, i ∉ g.offs → y.1 i = x i
theorem gnum_frames (s key : ByteArray) (o : Nat) : (gnum s key o).Frames := fun x a y h i hi => by
  simp only [gnum] at h hi
  split at h
  · cases h
  · cases h; exact upd_ne (by simpa using hi)
theorem gflag_frames (s key : ByteArray) (o : Nat) : (gflag s key o).Frames := fun x a y h i hi => by
  simp only [gflag] at h hi
  split at h
  · cases h
  · cases h; exact upd_ne (by simpa using hi)
theorem gdig_frames (s key : ByteArray) (o : Nat) : (gdig s key o).Frames := fun x a y h i hi => by
  simp only [gdig] at h hi
  split at h
  · cases h
  · cases h; exact upd_ne (by simpa using hi)
theorem gmany_frames {α : Type} (s key : ByteArray) (o most : Nat) (toD : List α → DV) (rd : Nat → Except Flt (α × Nat)) : (gmany s key o most toD rd).Frames := fun x a y h i hi => by
  simp only [gmany] at h hi
  split at h
  · cases h
  · split at h
    · cases h
    · cases h; exact upd_ne (by simpa using hi)
theorem keyIdx_lt {fs : List GSpec} {fr j : Nat} {k : ByteArray} (h : keyIdx fs fr k = some j) : fr + j < fs.length := by
  unfold keyIdx at h
  have := List.mem_of_find?_eq_some h
  rw [List.mem_range] at this
  omega
theorem objLoop_frames {s : ByteArray} {fs : List GSpec} (hf : ∀ g ∈ fs, g.Frames) : ∀ (n fr : Nat) (x : Rcd) (seen : List Nat) (a : Nat) (y : Rcd × List Nat × Nat), objLoop s fs n fr x seen a = .ok y → ∀ i, i ∉ fs.flatMap (fun g => g.offs) → y.1 i = x i
  | 0, fr, x, seen, a, y, h, i, hi => by simp only [objLoop] at h; cases h; rfl
  | n + 1, fr, x, seen, a, y, h, i, hi => by
    simp only [objLoop] at h
    split at h
    · cases h
    · split at h
      · cases h
      · next j hj =>
        have hl := keyIdx_lt hj
        have hm : gth fs (fr + j) ∈ fs := by rw [gth_eq fs _ hl]; exact List.getElem_mem _
        split at h
        · cases h
        · next z hz =>
          split at h
          · cases h
          · rw [objLoop_frames hf n _ _ _ _ y h i hi]
            exact hf _ hm _ _ _ hz i (fun hin => hi (List.mem_flatMap.2 ⟨_, hm, hin⟩))
theorem gobj_frames {s key : ByteArray} {fs : List GSpec} (hf : ∀ g ∈ fs, g.Frames) : (gobj s key fs).Frames := fun x a y h i hi => by
  simp only [gobj, objR] at h hi
  split at h
  · cases h
  · split at h
    · cases h
    · next z hz =>
      split at h
      · cases h
      · cases h; exact objLoop_frames hf _ _ _ _ _ z hz i hi
def kindD : DV → Nat
  | .num _ => 0 | .flag _ => 1 | .str _ => 2 | .strs _ => 3 | .nums _ => 4 | .revs _ => 5
def Kd (x0 x : Rcd) : Prop := ∀ i, kindD (x i) = kindD (x0 i)
def GSpec.Kinds (x0 : Rcd) (g : GSpec) : Prop := ∀ x a y, g.read x a = .ok y → Kd x0 x → Kd x0 y.1
theorem Kd.upd {x0 x : Rcd} (h : Kd x0 x) {o : Nat} {d : DV} (hd : kindD d = kindD (x0 o)) : Kd x0 (upd x o d) := fun i => by
  by_cases e : i = o
  · subst e; rw [upd_at]; exact hd
  · rw [upd_ne e]; exact h i
theorem Kd.num {x0 x : Rcd} (h : Kd x0 x) {o : Nat} (h0 : kindD (x0 o) = 0) : ∃ n, x o = .num n := by
  have := (h o).trans h0
  cases hx : x o <;> rw [hx] at this <;> first | exact ⟨_, rfl⟩ | cases this
theorem Kd.flag {x0 x : Rcd} (h : Kd x0 x) {o : Nat} (h0 : kindD (x0 o) = 1) : ∃ n, x o = .flag n := by
  have := (h o).trans h0
  cases hx : x o <;> rw [hx] at this <;> first | exact ⟨_, rfl⟩ | cases this
theorem gnum_kinds {x0 : Rcd} (s key : ByteArray) {o : Nat} (h0 : kindD (x0 o) = 0) : (gnum s key o).Kinds x0 := fun x a y h hk => by
  simp only [gnum] at h
  split at h
  · cases h
  · cases h; exact hk.upd h0.symm
theorem gflag_kinds {x0 : Rcd} (s key : ByteArray) {o : Nat} (h0 : kindD (x0 o) = 1) : (gflag s key o).Kinds x0 := fun x a y h hk => by
  simp only [gflag] at h
  split at h
  · cases h
  · cases h; exact hk.upd h0.symm
theorem gdig_kinds {x0 : Rcd} (s key : ByteArray) {o : Nat} (h0 : kindD (x0 o) = 2) : (gdig s key o).Kinds x0 := fun x a y h hk => by
  simp only [gdig] at h
  split at h
  · cases h
  · cases h; exact hk.upd h0.symm
theorem gmany_kinds {x0 : Rcd} {α : Type} (s key : ByteArray) {o most : Nat} {toD : List α → DV} {rd : Nat → Except Flt (α × Nat)} (h0 : ∀ l, kindD (toD l) = kindD (x0 o)) : (gmany s key o most toD rd).Kinds x0 := fun x a y h hk => by
  simp only [gmany] at h
  split at h
  · cases h
  · split at h
    · cases h
    · cases h; exact hk.upd (h0 _)
theorem objLoop_kinds {x0 : Rcd} {s : ByteArray} {fs : List GSpec} (hf : ∀ g ∈ fs, g.Kinds x0) : ∀ (n fr : Nat) (x : Rcd) (seen : List Nat) (a : Nat) (y : Rcd × List Nat × Nat), objLoop s fs n fr x seen a = .ok y → Kd x0 x → Kd x0 y.1
  | 0, fr, x, seen, a, y, h, hk => by simp only [objLoop] at h; cases h; exact hk
  | n + 1, fr, x, seen, a, y, h, hk => by
    simp only [objLoop] at h
    split at h
    · cases h
    · split at h
      · cases h
      · next j hj =>
        have hl := keyIdx_lt hj
        have hm : gth fs (fr + j) ∈ fs := by rw [gth_eq fs _ hl]; exact List.getElem_mem _
        split at h
        · cases h
        · next z hz =>
          split at h
          · cases h
          · exact objLoop_kinds hf n _ _ _ _ y h (hf _ hm _ _ _ hz hk)
theorem gobj_kinds {x0 : Rcd} {s key : ByteArray} {fs : List GSpec} (hf : ∀ g ∈ fs, g.Kinds x0) : (gobj s key fs).Kinds x0 := fun x a y h hk => by
  simp only [gobj, objR] at h
  split at h
  · cases h
  · split at h
    · cases h
    · next z hz =>
      split at h
      · cases h
      · cases h; exact objLoop_kinds hf _ _ _ _ _ z hz hk
end Go.Proofs.YtihiaopilnjonaaGreatDoor
namespace Go.Proofs.YtihiaopilnjonaaGreatDoor
open Go.RowKit
set_option linter.unusedSimpArgs false
set_option linter.unusedVariables false
def stopC (f : Nat) : List PanicEntry := [{ v := .iface 193 (.agg #[.iface 127 (.pointer (some ⟨f, 0, none⟩))]), recovered := false }]
theorem must_ok (k : Int) (w : World) : Calls Tryz.prog 204 #[.bool true, .int .i64 k] w fun e w' => e = .returned (.tuple #[]) ∧ w' = w := by
  go_enter Tryz.func204, Tryz.ntmps204
  go_wp2
  go_end0
  exact ⟨rfl, rfl⟩
theorem must_no (k : Int) (w : World) : Calls Tryz.prog 204 #[.bool false, .int .i64 k] w fun e w' => e = .panicked (stopC w.heap.size) ∧ w' = w.alloc (.cells #[.int .i64 k, .int .i64 0] 63) := by
  go_enter Tryz.func204, Tryz.ntmps204
  go_wp2
  exact ⟨rfl, rfl, rfl⟩
theorem wholeu_ok (n : Int) (w : World) : Calls Tryz.prog 151 #[.int .u64 n, .nilIface] w fun e w' => e = .returned (.int .u64 n) ∧ w' = w := by
  go_enter Tryz.func151, Tryz.ntmps151
  go_wp2
  go_ret
  exact ⟨rfl, rfl⟩
theorem wholeu_no (n : Int) (f : Nat) (w : World) : Calls Tryz.prog 151 #[.int .u64 n, .iface 127 (.pointer (some ⟨f, 0, none⟩))] w fun e w' => e = .panicked (stopC f) ∧ w' = w := by
  go_enter Tryz.func151, Tryz.ntmps151
  go_wp2
  exact ⟨rfl, rfl, rfl⟩
theorem wholei_ok (n : Int) (w : World) : Calls Tryz.prog 198 #[.int .i64 n, .nilIface] w fun e w' => e = .returned (.int .i64 n) ∧ w' = w := by
  go_enter Tryz.func198, Tryz.ntmps198
  go_wp2
  go_ret
  exact ⟨rfl, rfl⟩
theorem wholei_no (n : Int) (f : Nat) (w : World) : Calls Tryz.prog 198 #[.int .i64 n, .iface 127 (.pointer (some ⟨f, 0, none⟩))] w fun e w' => e = .panicked (stopC f) ∧ w' = w := by
  go_enter Tryz.func198, Tryz.ntmps198
  go_wp2
  exact ⟨rfl, rfl, rfl⟩
theorem wholes_ok (s : ByteArray) (w : World) : Calls Tryz.prog 200 #[.string s, .nilIface] w fun e w' => e = .returned (.string s) ∧ w' = w := by
  go_enter Tryz.func200, Tryz.ntmps200
  go_wp2
  go_ret
  exact ⟨rfl, rfl⟩
theorem wholes_no (s : ByteArray) (f : Nat) (w : World) : Calls Tryz.prog 200 #[.string s, .iface 127 (.pointer (some ⟨f, 0, none⟩))] w fun e w' => e = .panicked (stopC f) ∧ w' = w := by
  go_enter Tryz.func200, Tryz.ntmps200
  go_wp2
  exact ⟨rfl, rfl, rfl⟩
def TkIs (res : Except Flt (Int × ByteArray × Nat)) (val : Int × ByteArray × Nat → Value) (zero : Value) (rb : Nat) (s : ByteArray) (w : World) (e : Ending) (w' : World) : Prop :=
  ExtB (some rb) w w' ∧ match res with
    | .ok x => e = .returned (.tuple #[val x, .nilIface]) ∧ RdB w' rb s x.2.2 10240
    | .error f => ∃ fb, e = .returned (.tuple #[zero, .iface 127 (.pointer (some ⟨fb, 0, none⟩))]) ∧ FltB w' fb f.1 f.2 ∧ w.heap.size ≤ fb
theorem tkIs_ok {x : Int × ByteArray × Nat} {val : Int × ByteArray × Nat → Value} {zero : Value} {rb : Nat} {s : ByteArray} {w w' : World} {e : Ending} (h : TkIs (.ok x) val zero rb s w e w') : e = .returned (.tuple #[val x, .nilIface]) ∧ RdB w' rb s x.2.2 10240 ∧ ExtB (some rb) w w' := ⟨h.2.1, h.2.2, h.1⟩
theorem tkIs_err {f : Flt} {val : Int × ByteArray × Nat → Value} {zero : Value} {rb : Nat} {s : ByteArray} {w w' : World} {e : Ending} (h : TkIs (.error f) val zero rb s w e w') : ∃ fb, e = .returned (.tuple #[zero, .iface 127 (.pointer (some ⟨fb, 0, none⟩))]) ∧ FltB w' fb f.1 f.2 ∧ ExtB (some rb) w w' ∧ w.heap.size ≤ fb := by
  obtain ⟨h1, fb, h2, h3, h4⟩ := h; exact ⟨fb, h2, h3, h1, h4⟩
theorem tk_text {sort rb a : Nat} {s : ByteArray} {w w' : World} {e : Ending} (h12 : sort = 1 ∨ sort = 2) (h : ReadIs (textOf s a 10240 (rowsOf sort)) (.string ⟨#[]⟩) rb s 10240 a w e w') : TkIs (tkR sort s a) (fun x => .string x.2.1) (.string ⟨#[]⟩) rb s w e w' := by
  obtain ⟨h1, h2⟩ := h
  refine ⟨h1, ?_⟩
  unfold tkR
  rcases textOf_is (s := s) (a := a) (most := 10240) h12 with ⟨k, e1, e2⟩ | ⟨n, t, a', e1, e2, -, -⟩
  · rw [e1] at h2; rw [e2]
    obtain ⟨-, fb, h3, h5, h4⟩ := h2
    exact ⟨fb, h3, h4, h5⟩
  · rw [e1] at h2; rw [e2]
    exact h2
theorem tk_count {sort rb a : Nat} {s : ByteArray} {w w' : World} {e : Ending} (h34 : sort = 3 ∨ sort = 4) (h : ReadIs (countOf s a 10240 (rowsOf sort)) (.int .i64 0) rb s 10240 a w e w') : TkIs (tkR sort s a) (fun x => .int .i64 x.1) (.int .i64 0) rb s w e w' := by
  obtain ⟨h1, h2⟩ := h
  refine ⟨h1, ?_⟩
  unfold tkR
  rcases countOf_is (s := s) (a := a) (most := 10240) h34 with ⟨k, e1, e2⟩ | ⟨n, a', e1, e2, -⟩
  · rw [e1] at h2; rw [e2]
    obtain ⟨-, fb, h3, h5, h4⟩ := h2
    exact ⟨fb, h3, h4, h5⟩
  · rw [e1] at h2; rw [e2]
    exact h2
theorem tk_num {rb a : Nat} {s : ByteArray} {w w' : World} {e : Ending} (h : ReadIs (numOf s a numsL) (.int .u64 0) rb s 10240 a w e w') : TkIs (tkR 0 s a) (fun x => .int .u64 x.1) (.int .u64 0) rb s w e w' := by
  obtain ⟨h1, h2⟩ := h
  refine ⟨h1, ?_⟩
  unfold tkR
  rcases numOf_is (s := s) (a := a) (most := 10240) with ⟨k, e1, e2⟩ | ⟨n, a', e1, e2⟩
  · rw [e1] at h2; rw [e2]
    obtain ⟨-, fb, h3, h5, h4⟩ := h2
    exact ⟨fb, h3, h4, h5⟩
  · rw [e1] at h2; rw [e2]
    exact h2
theorem tkR_bd {sort : Nat} {s : ByteArray} {a : Nat} {x : Int × ByteArray × Nat} (h5 : sort < 5) (h : tkR sort s a = .ok x) : x.2.2 ≤ s.size ∧ 0 ≤ x.1 ∧ (sort ≠ 0 → x.1 ≤ 10240) ∧ x.1 ≤ 18446744073709551615 ∧ x.2.1.size ≤ s.size := by
  unfold tkR at h
  split at h
  · cases h
  · next y hy =>
    cases h
    refine ⟨takeOf_le hy, ?_⟩
    unfold takeOf at hy
    cases hh : headOf (s.extract a s.size) (rowsOf sort) with
    | error k => rw [hh] at hy; cases hy
    | ok z =>
      obtain ⟨n, rest⟩ := z
      rw [hh] at hy
      simp only at hy
      have hok : ∀ i, (unth (rowsOf sort) i).Ok := by
        have : sort = 0 ∨ sort = 1 ∨ sort = 2 ∨ sort = 3 ∨ sort = 4 := by omega
        rcases this with rfl | rfl | rfl | rfl | rfl
        · exact numsL_ok
        · exact binsL_ok
        · exact strsL_ok
        · exact listsL_ok
        · exact pairsL_ok
      obtain ⟨n0, n1, hr⟩ := head_bd hok hh
      rw [ByteArray.size_extract] at hr
      by_cases h1 : sort ≠ 0 ∧ (10240 : Int) < n
      · rw [if_pos h1] at hy; cases hy
      · rw [if_neg h1] at hy
        have n2 : sort ≠ 0 → n ≤ 10240 := fun h0 => by
          rcases Int.lt_or_le 10240 n with h2 | h2
          · exact absurd ⟨h0, h2⟩ h1
          · exact h2
        split at hy
        · split at hy
          · cases hy
          · cases hy; exact ⟨n0, n2, n1, by rw [ByteArray.size_extract]; omega⟩
        · cases hy; exact ⟨n0, n2, n1, Nat.zero_le _⟩
structure RdEnv (B : Nat) (w : World) (qb rb : Nat) (s : ByteArray) (a : Nat) : Prop where
  q : w.heap[qb]? = some (.cells #[.pointer (some ⟨rb, 0, none⟩)] 199 (0, 0))
  r : RdB w rb s a 10240
  tabs : Tabs B w
  bq : B ≤ qb
  br : B ≤ rb
  ne : qb ≠ rb
  at_le : a ≤ s.size
  sz : s.size ≤ 9223372036854775807
theorem RdEnv.below {B : Nat} {w w' : World} {qb rb : Nat} {s : ByteArray} {a : Nat} (h : RdEnv B w qb rb s a) (hb : Below w.heap.size w w') : RdEnv B w' qb rb s a :=
  ⟨(hb.block _ (lt_of_block h.q)).trans h.q, h.r.below hb, h.tabs.below hb, h.bq, h.br, h.ne, h.at_le, h.sz⟩
theorem RdEnv.step {B : Nat} {w w' : World} {qb rb : Nat} {s : ByteArray} {a a' : Nat} (h : RdEnv B w qb rb s a) (hE : ExtB (some rb) w w') (hr : RdB w' rb s a' 10240) (ha : a' ≤ s.size) : RdEnv B w' qb rb s a' :=
  ⟨(hE.block _ (lt_of_block h.q) (by simpa using h.ne)).trans h.q, hr, h.tabs.ext hE h.br, h.bq, h.br, h.ne, ha, h.sz⟩
theorem Num_tk (w : World) (B qb rb : Nat) (s : ByteArray) (a : Nat) (h : RdEnv B w qb rb s a) : Calls Tryz.prog 152 #[.pointer (some ⟨rb, 0, none⟩)] w (TkIs (tkR 0 s a) (fun x => .int .u64 x.1) (.int .u64 0) rb s w) :=
  (Num_any w B rb s a 10240 h.tabs h.r h.at_le h.sz).mono fun e w' hh => tk_num hh
theorem Bin_tk (w : World) (B qb rb : Nat) (s : ByteArray) (a : Nat) (h : RdEnv B w qb rb s a) : Calls Tryz.prog 241 #[.pointer (some ⟨rb, 0, none⟩)] w (TkIs (tkR 1 s a) (fun x => .string x.2.1) (.string ⟨#[]⟩) rb s w) :=
  (Bin_any w B rb s a 10240 h.tabs h.r h.at_le h.sz (by decide) (by decide)).mono fun e w' hh => tk_text (sort := 1) (.inl rfl) hh
theorem Str_tk (w : World) (B qb rb : Nat) (s : ByteArray) (a : Nat) (h : RdEnv B w qb rb s a) : Calls Tryz.prog 201 #[.pointer (some ⟨rb, 0, none⟩)] w (TkIs (tkR 2 s a) (fun x => .string x.2.1) (.string ⟨#[]⟩) rb s w) :=
  (Str_any w B rb s a 10240 h.tabs h.r h.at_le h.sz (by decide) (by decide)).mono fun e w' hh => tk_text (sort := 2) (.inr rfl) hh
theorem List_tk (w : World) (B qb rb : Nat) (s : ByteArray) (a : Nat) (h : RdEnv B w qb rb s a) : Calls Tryz.prog 254 #[.pointer (some ⟨rb, 0, none⟩)] w (TkIs (tkR 3 s a) (fun x => .int .i64 x.1) (.int .i64 0) rb s w) :=
  (List_any w B rb s a 10240 h.tabs h.r h.at_le h.sz (by decide) (by decide)).mono fun e w' hh => tk_count (sort := 3) (.inl rfl) hh
theorem Map_tk (w : World) (B qb rb : Nat) (s : ByteArray) (a : Nat) (h : RdEnv B w qb rb s a) : Calls Tryz.prog 199 #[.pointer (some ⟨rb, 0, none⟩)] w (TkIs (tkR 4 s a) (fun x => .int .i64 x.1) (.int .i64 0) rb s w) :=
  (Map_any w B rb s a 10240 h.tabs h.r h.at_le h.sz (by decide) (by decide)).mono fun e w' hh => tk_count (sort := 4) (.inr rfl) hh
def VIs {α : Type} (res : Except Flt (α × Nat)) (val : α → Value) (rb : Nat) (s : ByteArray) (w : World) (e : Ending) (w' : World) : Prop :=
  ExtB (some rb) w w' ∧ match res with
    | .ok x => e = .returned (val x.1) ∧ RdB w' rb s x.2 10240 ∧ x.2 ≤ s.size
    | .error f => ∃ fb, e = .panicked (stopC fb) ∧ FltB w' fb f.1 f.2
theorem vIs_ok {α : Type} {x : α × Nat} {val : α → Value} {rb : Nat} {s : ByteArray} {w w' : World} {e : Ending} (h : VIs (.ok x) val rb s w e w') : e = .returned (val x.1) ∧ RdB w' rb s x.2 10240 ∧ x.2 ≤ s.size ∧ ExtB (some rb) w w' := ⟨h.2.1, h.2.2.1, h.2.2.2, h.1⟩
theorem vIs_err {α : Type} {f : Flt} {val : α → Value} {rb : Nat} {s : ByteArray} {w w' : World} {e : Ending} (h : VIs (.error f : Except Flt (α × Nat)) val rb s w e w') : ∃ fb, e = .panicked (stopC fb) ∧ FltB w' fb f.1 f.2 ∧ ExtB (some rb) w w' := by
  obtain ⟨h1, fb, h2, h3⟩ := h; exact ⟨fb, h2, h3, h1⟩
theorem extB_next {rb : Nat} {a b c : World} (h : ExtB (some rb) a b) (k : Below b.heap.size b c) : ExtB (some rb) a c := ExtB_trans _ _ _ _ h (ext_extB k)
set_option maxRecDepth 100000 in
theorem dgRead_any (B qb rb : Nat) (s : ByteArray) (a : Nat) (w : World) (h : RdEnv B w qb rb s a) :
    Calls Tryz.prog 195 #[.pointer (some ⟨qb, 0, none⟩)] w (VIs (rdig s a) Value.string rb s w) := by
  have H := Lib.hid h
  have c0 : w.cell? ⟨qb, 0, none⟩ = some (.pointer (some ⟨rb, 0, none⟩)) := block_cell h.q 0
  clear h
  go_enter Tryz.func195, Tryz.ntmps195
  go_wp2_with fail
  refine (Bin_tk w B qb rb s a H.out).mono ?_
  intro e w1 hh
  cases hr : tkR 1 s a with
  | error f =>
    rw [hr] at hh
    obtain ⟨fb, rfl, hf, hE, -⟩ := tkIs_err hh
    have HF := Lib.hid hf
    have HE := Lib.hid hE
    have HR : Hid (rdig s a = .error f) := Lib.hid (by unfold rdig; rw [hr])
    clear hh hf hE hr
    go_wp2_with fail
    refine (wholes_no _ fb w1).mono ?_
    rintro e w2 ⟨rfl, rfl⟩
    go_wp2
    refine ⟨rfl, ?_⟩
    rw [HR.out]
    exact ⟨HE.out, fb, rfl, HF.out⟩
  | ok x =>
    rw [hr] at hh
    obtain ⟨rfl, hrd, hE⟩ := tkIs_ok hh
    have HRD := Lib.hid hrd
    have HE := Lib.hid hE
    have hbd := tkR_bd (by decide) hr
    have HR := Lib.hid hr
    have hs := H.out.sz
    clear hh hrd hE hr
    go_wp2_with fail
    refine (wholes_ok _ w1).mono ?_
    rintro e w2 ⟨rfl, rfl⟩
    by_cases h32 : x.2.1.size = 32
    · have HS := Lib.hid h32
      have t1 : ((x.2.1.size : Int) == 32) = true := by simp; omega
      clear h32
      go_wp2_with fail
      refine (must_ok 5 w2).mono ?_
      rintro e w3 ⟨rfl, rfl⟩
      go_wp2
      go_ret
      unfold rdig
      rw [HR.out]
      simp only [if_pos HS.out]
      exact ⟨HE.out, rfl, HRD.out, hbd.1⟩
    · have HS := Lib.hid h32
      have t1 : ((x.2.1.size : Int) == 32) = false := by simp; omega
      clear h32
      go_wp2_with fail
      refine (must_no 5 w2).mono ?_
      rintro e w3 ⟨rfl, rfl⟩
      go_wp2
      refine ⟨rfl, ?_⟩
      unfold rdig
      rw [HR.out]
      simp only [if_neg HS.out]
      exact ⟨extB_next HE.out (balloc (Below.refl _ _) _), _, rfl, heap_alloc_new _ _⟩
set_option maxRecDepth 100000 in
theorem lsRead_any (B qb rb : Nat) (s : ByteArray) (a most : Nat) (w : World) (h : RdEnv B w qb rb s a) :
    Calls Tryz.prog 221 #[.pointer (some ⟨qb, 0, none⟩), .int .i64 most] w (VIs (rlist s most a) (fun k => .int .i64 (k : Nat)) rb s w) := by
  have H := Lib.hid h
  have c0 : w.cell? ⟨qb, 0, none⟩ = some (.pointer (some ⟨rb, 0, none⟩)) := block_cell h.q 0
  clear h
  go_enter Tryz.func221, Tryz.ntmps221
  go_wp2_with fail
  refine (List_tk w B qb rb s a H.out).mono ?_
  intro e w1 hh
  cases hr : tkR 3 s a with
  | error f =>
    rw [hr] at hh
    obtain ⟨fb, rfl, hf, hE, -⟩ := tkIs_err hh
    have HF := Lib.hid hf
    have HE := Lib.hid hE
    have HR : Hid (rlist s most a = .error f) := Lib.hid (by unfold rlist; rw [hr])
    clear hh hf hE hr
    go_wp2_with fail
    refine (wholei_no _ fb w1).mono ?_
    rintro e w2 ⟨rfl, rfl⟩
    go_wp2
    refine ⟨rfl, ?_⟩
    rw [HR.out]
    exact ⟨HE.out, fb, rfl, HF.out⟩
  | ok x =>
    rw [hr] at hh
    obtain ⟨rfl, hrd, hE⟩ := tkIs_ok hh
    have HRD := Lib.hid hrd
    have HE := Lib.hid hE
    have hbd := tkR_bd (by decide) hr
    have HR := Lib.hid hr
    clear hh hrd hE hr
    go_wp2_with fail
    refine (wholei_ok _ w1).mono ?_
    rintro e w2 ⟨rfl, rfl⟩
    by_cases h32 : x.1 ≤ most
    · have HS := Lib.hid h32
      have t1 : decide (x.1 ≤ (most : Int)) = true := decide_eq_true h32
      go_wp2_with fail
      refine (must_ok 3 w2).mono ?_
      rintro e w3 ⟨rfl, rfl⟩
      go_wp2
      go_ret
      unfold rlist
      rw [HR.out]
      simp only [if_pos HS.out]
      exact ⟨HE.out, congrArg (fun n => Ending.returned (.int .i64 n)) (show x.1 = ((x.1.toNat : Nat) : Int) by omega), HRD.out, hbd.1⟩
    · have HS := Lib.hid h32
      have t1 : decide (x.1 ≤ (most : Int)) = false := decide_eq_false h32
      go_wp2_with fail
      refine (must_no 3 w2).mono ?_
      rintro e w3 ⟨rfl, rfl⟩
      go_wp2
      refine ⟨rfl, ?_⟩
      unfold rlist
      rw [HR.out]
      simp only [if_neg (show ¬ x.1 ≤ (most : Int) by have := HS.out; omega)]
      exact ⟨extB_next HE.out (balloc (Below.refl _ _) _), _, rfl, heap_alloc_new _ _⟩
end Go.Proofs.YtihiaopilnjonaaGreatDoor
namespace Go.Proofs.YtihiaopilnjonaaGreatDoor
open Go.RowKit
set_option linter.unusedSimpArgs false
set_option linter.unusedVariables false
structure Rev where
  pos : Int
  L : Int
  signed : Bool
  idx : Int
  wa : Option Addr
  wn : Nat
  wc : Nat
  pa : Option Addr
  pn : Nat
  pc : Nat
  root : ByteArray
  wt : Int
  first : Int
  life : Int
  keys : Int
abbrev Rev.val (r : Rev) : Value := .agg #[.int .u64 r.pos, .int .u64 r.L, .bool r.signed, .int .u64 r.idx, .slice r.wa r.wn r.wc, .slice r.pa r.pn r.pc, .string r.root, .int .u64 r.wt, .int .u64 r.first, .int .u64 r.life, .int .u64 r.keys]
def Rev.zero : Rev := ⟨0, 0, false, 0, none, 0, 0, none, 0, 0, ByteArray.empty, 0, 0, 0, 0⟩
def rnth (l : List Rev) (i : Nat) : Rev := l.getD i Rev.zero
theorem rnth_eq (l : List Rev) (i : Nat) (h : i < l.length) : rnth l i = l[i] := by
  unfold rnth; rw [List.getD_eq_getElem?_getD, List.getElem?_eq_getElem h]; rfl
structure RevAt (w : World) (b o : Nat) (r : Rev) : Prop where
  c0 : w.cell? ⟨b, o, none⟩ = some (.int .u64 r.pos)
  c1 : w.cell? ⟨b, o + 1, none⟩ = some (.int .u64 r.L)
  c2 : w.cell? ⟨b, o + 2, none⟩ = some (.bool r.signed)
  c3 : w.cell? ⟨b, o + 3, none⟩ = some (.int .u64 r.idx)
  c4 : w.cell? ⟨b, o + 4, none⟩ = some (.slice r.wa r.wn r.wc)
  c5 : w.cell? ⟨b, o + 5, none⟩ = some (.slice r.pa r.pn r.pc)
  c6 : w.cell? ⟨b, o + 6, none⟩ = some (.string r.root)
  c7 : w.cell? ⟨b, o + 7, none⟩ = some (.int .u64 r.wt)
  c8 : w.cell? ⟨b, o + 8, none⟩ = some (.int .u64 r.first)
  c9 : w.cell? ⟨b, o + 9, none⟩ = some (.int .u64 r.life)
  c10 : w.cell? ⟨b, o + 10, none⟩ = some (.int .u64 r.keys)
theorem RevAt.below {w w' : World} {b o : Nat} {r : Rev} (h : RevAt w b o r) (hb : Below w.heap.size w w') : RevAt w' b o r := by
  have hl := lt_of_cell h.c0
  have e : ∀ q, w'.cell? ⟨b, q, none⟩ = w.cell? ⟨b, q, none⟩ := fun q => hb.cell (p := ⟨b, q, none⟩) hl
  obtain ⟨c0, c1, c2, c3, c4, c5, c6, c7, c8, c9, c10⟩ := h
  constructor <;> (rw [e]; assumption)
def Revs (w : World) (a : Option Addr) (l : List Rev) : Prop :=
  ∀ i, i < len l → ∃ b off, a = some ⟨b, off, none⟩ ∧ RevAt w b (off + i * 11) (rnth l i)
theorem Revs.below {w w' : World} {a : Option Addr} {l : List Rev} (h : Revs w a l) (hb : Below w.heap.size w w') : Revs w' a l := fun i hi => by
  obtain ⟨b, off, rfl, hc⟩ := h i hi
  exact ⟨b, off, rfl, hc.below hb⟩
theorem Revs.drew {w w' : World} {a : Option Addr} {l : List Rev} (h : Revs w a l) (hb : Drew w w') : Revs w' a l := h.below (hb.below _)
def Rev.cells (r : Rev) : List Value := [.int .u64 r.pos, .int .u64 r.L, .bool r.signed, .int .u64 r.idx, .slice r.wa r.wn r.wc, .slice r.pa r.pn r.pc, .string r.root, .int .u64 r.wt, .int .u64 r.first, .int .u64 r.life, .int .u64 r.keys]
theorem info_rev : (Tryz.prog.info? 48).map (fun i => (i.zero, i.size, i.bytes)) = some (some (.agg Rev.zero.cells.toArray), 11, 128) := by kernel_rfl
theorem Rev.cells_length (r : Rev) : r.cells.length = 11 := rfl
theorem own_revs {w : World} {base e n : Nat} {v : Value} {l : List Rev} (h : w.ownsRow base e 11 v n (l.flatMap Rev.cells)) : ∃ a cap, v = .slice a (len l) cap ∧ Revs w a l ∧ len l ≤ cap := by
  have hn : len l = n := by
    have := h.1; rw [flat_length Rev.cells 11 Rev.cells_length] at this; rw [len_eq]; omega
  obtain ⟨h1, h2⟩ := h
  rcases h2 with ⟨rfl, h2⟩ | ⟨g, cap, cur, rfl, hg, hh, hc1, hc2, hc3, hc4⟩
  · obtain rfl : l = [] := List.eq_nil_of_length_eq_zero (by rw [← len_eq]; omega)
    exact ⟨none, 0, rfl, fun i hi => by simp [len] at hi, Nat.le_refl _⟩
  · refine ⟨some ⟨g, 0, none⟩, cap, by rw [hn], fun i hi => ⟨g, 0, rfl, ?_⟩, by omega⟩
    have hown : w.ownsRow base e 11 (.slice (some ⟨g, 0, none⟩) n cap) n (l.flatMap Rev.cells) := ⟨h1, .inr ⟨g, cap, cur, rfl, hg, hh, hc1, hc2, hc3, hc4⟩⟩
    have key : ∀ r, r < 11 → w.cell? ⟨g, 0 + i * 11 + r, none⟩ = (rnth l i).cells[r]? := fun r hr => by
      have := hown.cellAt (i * 11 + r) (by rw [← hn]; omega)
      rw [Nat.zero_add, this, flat_get Rev.cells 11 Rev.cells_length l i r hi hr, rnth_eq l i hi]
    exact ⟨key 0 (by decide), key 1 (by decide), key 2 (by decide), key 3 (by decide), key 4 (by decide), key 5 (by decide), key 6 (by decide), key 7 (by decide), key 8 (by decide), key 9 (by decide), key 10 (by decide)⟩
end Go.Proofs.YtihiaopilnjonaaGreatDoor
namespace Go.Proofs.YtihiaopilnjonaaGreatDoor
open Go.RowKit
set_option linter.unusedSimpArgs false
set_option linter.unusedVariables false
theorem info_str : (Tryz.prog.info? 9).map (fun i => (i.zero, i.size, i.bytes)) = some (some (.string ⟨#[]⟩), 1, 16) := by kernel_rfl
def sth (l : List ByteArray) (i : Nat) : ByteArray := l.getD i ByteArray.empty
theorem sth_eq (l : List ByteArray) (i : Nat) (h : i < l.length) : sth l i = l[i] := by unfold sth; rw [List.getD_eq_getElem?_getD, List.getElem?_eq_getElem h]; rfl
def Txs (w : World) (a : Option Addr) (l : List ByteArray) : Prop :=
  ∀ i, i < len l → ∃ b off, a = some ⟨b, off, none⟩ ∧ w.cell? ⟨b, off + i, none⟩ = some (.string (sth l i))
theorem Txs.below {w w' : World} {a : Option Addr} {l : List ByteArray} (h : Txs w a l) (hb : Below w.heap.size w w') : Txs w' a l := fun i hi => by
  obtain ⟨b, off, rfl, hc⟩ := h i hi
  exact ⟨b, off, rfl, by rw [hb.cell (p := ⟨b, off + i, none⟩) (lt_of_cell hc)]; exact hc⟩
theorem Txs.drew {w w' : World} {a : Option Addr} {l : List ByteArray} (h : Txs w a l) (hb : Drew w w') : Txs w' a l := h.below (hb.below _)
theorem own_txs {w : World} {base e n : Nat} {v : Value} {l : List ByteArray} (h : w.ownsRow base e 1 v n (l.map Value.string)) : ∃ a cap, v = .slice a (len l) cap ∧ Txs w a l := by
  have hn : len l = n := by have := h.1; rw [len_eq]; simpa using this
  obtain ⟨h1, h2⟩ := h
  rcases h2 with ⟨rfl, h2⟩ | ⟨g, cap, cur, rfl, hg, hh, hc1, hc2, hc3, hc4⟩
  · obtain rfl : l = [] := List.eq_nil_of_length_eq_zero (by rw [← len_eq]; omega)
    exact ⟨none, 0, rfl, fun i hi => by simp [len] at hi⟩
  · refine ⟨some ⟨g, 0, none⟩, cap, by rw [hn], fun i hi => ⟨g, 0, rfl, ?_⟩⟩
    have hown : w.ownsRow base e 1 (.slice (some ⟨g, 0, none⟩) n cap) n (l.map Value.string) := ⟨h1, .inr ⟨g, cap, cur, rfl, hg, hh, hc1, hc2, hc3, hc4⟩⟩
    have := hown.cellAt i (by omega)
    rw [Nat.zero_add, this, List.getElem?_map, List.getElem?_eq_getElem hi, sth_eq l i hi]; rfl
end Go.Proofs.YtihiaopilnjonaaGreatDoor
namespace Go.Proofs.YtihiaopilnjonaaGreatDoor
open Go.RowKit
set_option linter.unusedSimpArgs false
set_option linter.unusedVariables false
def catB : List ByteArray → ByteArray
  | [] => ByteArray.empty
  | x :: r => x ++ catB r
theorem catB_app : ∀ a b : List ByteArray, catB (a ++ b) = catB a ++ catB b
  | [], b => by simp [catB]
  | x :: r, b => by rw [List.cons_append, catB, catB_app r b, catB, ByteArray.append_assoc]
theorem catB_snoc (a : List ByteArray) (x : ByteArray) : catB (a ++ [x]) = catB a ++ x := by rw [catB_app]; simp [catB]
structure FSpec where
  key : ByteArray
  must : Bool
  empty : Bool
  may : Bool
  bytes : ByteArray
def strP (s : ByteArray) : ByteArray := laidP 2 s.size s
def binP (s : ByteArray) : ByteArray := laidP 1 s.size s
def numP (n : Int) : ByteArray := laidP 0 n ByteArray.empty
def listP (n : Nat) : ByteArray := laidP 3 n ByteArray.empty
def mapP (n : Nat) : ByteArray := laidP 4 n ByteArray.empty
def fieldP (f : FSpec) : ByteArray := strP f.key ++ f.bytes
def keptF (l : List FSpec) : List FSpec := l.filter fun f => !f.empty
def layP (l : List FSpec) : ByteArray := mapP (keptF l).length ++ catB ((keptF l).map fieldP)
def allMay (l : List FSpec) : Bool := l.all fun f => f.may
def rkept (l : List (ByteArray × ByteArray)) : List (ByteArray × ByteArray) := l.filter fun p => decide (p.2.size ≠ 0)
end Go.Proofs.YtihiaopilnjonaaGreatDoor
namespace Go.Proofs.YtihiaopilnjonaaGreatDoor
open Go.RowKit
set_option linter.unusedSimpArgs false
set_option linter.unusedVariables false
def LaidOut (s' : ByteArray) (b base : Nat) (w : World) (e : Ending) (w' : World) : Prop := e = .returned (.int .i64 0) ∧ WrB w' b base s' ∧ WK base b w w'
theorem many_any (B b base sort n : Nat) (s : ByteArray) (w : World) (ht : PTab B w) (hB : B ≤ base) (hW : WrB w b base s) (h5 : sort < 5) (hn : n < 65536) (hs : s.size ≤ 70000000000000) :
    Calls Tryz.prog 239 #[.pointer (some ⟨b, 0, none⟩), .int .i64 sort, .int .i64 n] w (LaidOut (s ++ baL (headP sort n)) b base w) := by
  have H := Lib.hid (phead_any B b base sort n s w ht hB hW h5 (by omega) (by omega) hs)
  have i1 : decide ((65536 : Int) ≤ (n : Int)) = false := decide_eq_false (by omega)
  have i2 : IntKind.u64.wrap (n : Int) = n := IntWalk.u64_in _ (by omega)
  clear ht hW
  go_enter Tryz.func239, Tryz.ntmps239
  go_wp2_with fail
  refine H.out.mono ?_
  rintro e w' ⟨rfl, h1, h2⟩
  have H1 := Lib.hid h1
  have H2 := Lib.hid h2
  clear h1 h2
  go_wp2
  go_ret
  exact ⟨rfl, H1.out, H2.out⟩
set_option maxRecDepth 100000 in
theorem whole_any (B b base sort : Nat) (t s : ByteArray) (w : World) (ht : PTab B w) (hB : B ≤ base) (hW : WrB w b base s) (h5 : sort < 5) (hn : t.size < 65536) (hs : s.size ≤ 70000000000000) :
    Calls Tryz.prog 240 #[.pointer (some ⟨b, 0, none⟩), .int .i64 sort, .string t] w (LaidOut (s ++ (baL (headP sort t.size) ++ t)) b base w) := by
  have H := Lib.hid (many_any B b base sort t.size s w ht hB hW h5 hn hs)
  have HBS : Hid (base ≤ w.heap.size) := Lib.hid (by have := hW.1; have := hW.lt; omega)
  obtain ⟨i0, hi, hz0, hz1, hz2⟩ := info_parts info_u8
  clear ht hW
  go_enter Tryz.func240, Tryz.ntmps240
  go_wp2_with fail
  refine H.out.mono ?_
  rintro e w1 ⟨rfl, h1, h2⟩
  obtain ⟨s1, hs1⟩ : ∃ s1, s ++ baL (headP sort t.size) = s1 := ⟨_, rfl⟩
  have hl2 : s1.size ≤ 70000000000009 := by have hl := headP_len sort t.size; rw [← hs1, ByteArray.size_append, baL_size]; omega
  have HS1 : Hid (s ++ (baL (headP sort t.size) ++ t) = s1 ++ t) := Lib.hid (by rw [← hs1, ByteArray.append_assoc])
  rw [hs1] at h1
  clear hs1
  obtain ⟨hb, v, hv, hown⟩ := h1
  have HV := Lib.hid hv
  have HOWN := Lib.hid hown
  have H2 := Lib.hid h2
  have cb := block_cell hv 0
  simp only [List.getElem?_toArray, List.getElem?_cons_zero] at cb
  clear hv hown h2
  go_wp2_with (at_builtin; refine Lib.wpList_append_own_string _ rfl _ _ 106 9 rfl base 5 i0 Tryz.underlying106 Tryz.underlying9 hi hz0 hz1 hz2 _ _ _ rfl HOWN.out t rfl (by unfold maxLen; omega) (by omega) (by have := HBS.out; have := H2.out.bel.size; omega) ?_)
  intro v' w2 hown' hgrow _
  have hst := wr_step (s' := s1 ++ t) hb HV.out HOWN.out (w1 := w2) ⟨hgrow.os, hgrow.tape, hgrow.output, hgrow.size, hgrow.block⟩ (v' := v') (ys := Lib.strCells s1 ++ Lib.strCells t) (by rw [ByteArray.size_append]; exact hown') (by rw [← strCells_app])
  have HST := Lib.hid hst
  have hc4 := hst.1
  have hf4 := hst.2.1
  have hsl : ∃ g cap, v' = .slice (some ⟨g, 0, none⟩) (s1.size + t.size) cap ∨ v' = .slice none 0 0 := by
    rcases hown'.2 with ⟨h, _⟩ | ⟨g, cap, cur, h, _⟩
    · exact ⟨0, 0, .inr h⟩
    · exact ⟨g, cap, .inl h⟩
  clear hst hown' hgrow
  obtain ⟨ga, gc, rfl | rfl⟩ := hsl
  · go_wp2
    go_ret
    exact ⟨rfl, by rw [HS1.out]; exact HST.out.2.2.1, H2.out.trans HST.out.2.2.2⟩
  · go_wp2
    go_ret
    exact ⟨rfl, by rw [HS1.out]; exact HST.out.2.2.1, H2.out.trans HST.out.2.2.2⟩
theorem Num_w (B b base : Nat) (n : Int) (s : ByteArray) (w : World) (ht : PTab B w) (hB : B ≤ base) (hW : WrB w b base s) (h0 : 0 ≤ n) (h1 : n ≤ 18446744073709551615) (hs : s.size ≤ 70000000000000) :
    Calls Tryz.prog 149 #[.pointer (some ⟨b, 0, none⟩), .int .u64 n] w (LaidOut (s ++ numP n) b base w) := by
  have H := Lib.hid (phead_any B b base 0 n s w ht hB hW (by decide) h0 h1 hs)
  clear ht hW
  go_enter Tryz.func149, Tryz.ntmps149
  go_wp2_with fail
  refine H.out.mono ?_
  rintro e w' ⟨rfl, h1, h2⟩
  have H1 := Lib.hid h1
  have H2 := Lib.hid h2
  clear h1 h2
  go_wp2
  go_ret
  have e : numP n = baL (headP 0 n) := by unfold numP laidP; exact ba_ext (by simp)
  exact ⟨rfl, by rw [e]; exact H1.out, H2.out⟩
theorem Str_w (B b base : Nat) (t s : ByteArray) (w : World) (ht : PTab B w) (hB : B ≤ base) (hW : WrB w b base s) (hn : t.size < 65536) (hs : s.size ≤ 70000000000000) :
    Calls Tryz.prog 176 #[.pointer (some ⟨b, 0, none⟩), .string t] w (LaidOut (s ++ strP t) b base w) := by
  have H := Lib.hid (whole_any B b base 2 t s w ht hB hW (by decide) hn hs)
  clear ht hW
  go_enter Tryz.func176, Tryz.ntmps176
  go_wp2_with fail
  refine H.out.mono ?_
  rintro e w' ⟨rfl, h1, h2⟩
  have H1 := Lib.hid h1
  have H2 := Lib.hid h2
  clear h1 h2
  go_wp2
  go_ret
  exact ⟨rfl, H1.out, H2.out⟩
theorem Bin_w (B b base : Nat) (t s : ByteArray) (w : World) (ht : PTab B w) (hB : B ≤ base) (hW : WrB w b base s) (hn : t.size < 65536) (hs : s.size ≤ 70000000000000) :
    Calls Tryz.prog 193 #[.pointer (some ⟨b, 0, none⟩), .string t] w (LaidOut (s ++ binP t) b base w) := by
  have H := Lib.hid (whole_any B b base 1 t s w ht hB hW (by decide) hn hs)
  clear ht hW
  go_enter Tryz.func193, Tryz.ntmps193
  go_wp2_with fail
  refine H.out.mono ?_
  rintro e w' ⟨rfl, h1, h2⟩
  have H1 := Lib.hid h1
  have H2 := Lib.hid h2
  clear h1 h2
  go_wp2
  go_ret
  exact ⟨rfl, H1.out, H2.out⟩
theorem List_w (B b base n : Nat) (s : ByteArray) (w : World) (ht : PTab B w) (hB : B ≤ base) (hW : WrB w b base s) (hn : n < 65536) (hs : s.size ≤ 70000000000000) :
    Calls Tryz.prog 219 #[.pointer (some ⟨b, 0, none⟩), .int .i64 n] w (LaidOut (s ++ listP n) b base w) := by
  have H := Lib.hid (many_any B b base 3 n s w ht hB hW (by decide) hn hs)
  clear ht hW
  go_enter Tryz.func219, Tryz.ntmps219
  go_wp2_with fail
  refine H.out.mono ?_
  rintro e w' ⟨rfl, h1, h2⟩
  have H1 := Lib.hid h1
  have H2 := Lib.hid h2
  clear h1 h2
  go_wp2
  go_ret
  have e : listP n = baL (headP 3 n) := by unfold listP laidP; exact ba_ext (by simp)
  exact ⟨rfl, by rw [e]; exact H1.out, H2.out⟩
theorem Map_w (B b base n : Nat) (s : ByteArray) (w : World) (ht : PTab B w) (hB : B ≤ base) (hW : WrB w b base s) (hn : n < 65536) (hs : s.size ≤ 70000000000000) :
    Calls Tryz.prog 175 #[.pointer (some ⟨b, 0, none⟩), .int .i64 n] w (LaidOut (s ++ mapP n) b base w) := by
  have H := Lib.hid (many_any B b base 4 n s w ht hB hW (by decide) hn hs)
  clear ht hW
  go_enter Tryz.func175, Tryz.ntmps175
  go_wp2_with fail
  refine H.out.mono ?_
  rintro e w' ⟨rfl, h1, h2⟩
  have H1 := Lib.hid h1
  have H2 := Lib.hid h2
  clear h1 h2
  go_wp2
  go_ret
  have e : mapP n = baL (headP 4 n) := by unfold mapP laidP; exact ba_ext (by simp)
  exact ⟨rfl, by rw [e]; exact H1.out, H2.out⟩
theorem strNums (s : ByteArray) : strOfNums (s.data.toList.map fun b => (b.toNat : Int)) = s := by
  refine ba_ext ?_
  rw [strOfNums_data, List.map_map]
  conv => rhs; rw [← List.map_id s.data.toList]
  refine List.map_congr_left fun x _ => ?_
  simp
set_option maxRecDepth 100000 in
theorem ptext_any (b base : Nat) (s : ByteArray) (w : World) (hW : WrB w b base s) : Calls Tryz.prog 106 #[.pointer (some ⟨b, 0, none⟩)] w fun e w' => e = .returned (.string s) ∧ w = w' := by
  obtain ⟨hb, v, hv, hown⟩ := hW
  have cb := block_cell hv 0
  simp only [List.getElem?_toArray, List.getElem?_cons_zero] at cb
  have hc : ∀ t, Tryz.prog.underlying t = some .string → (convert 106 t v).run Tryz.prog w = .ok (.string s) w := by
    intro t ht
    rcases hown.2 with ⟨rfl, h0⟩ | ⟨g, cap, cur, rfl, _, _, _, _, _, _⟩
    · have e : s = ByteArray.empty := ba_ext (by
        have : s.data.toList.length = 0 := by rw [ba_len]; exact h0
        rw [List.eq_nil_of_length_eq_zero this]; rfl)
      rw [e]
      exact run_convert_bytes_nil w 106 5 Tryz.underlying106 Tryz.underlying5 0 0 t ht
    · have h := run_convert_bytes_arg (P := Tryz.prog) w 106 5 Tryz.underlying106 Tryz.underlying5 g 0 s.size cap (s.data.toList.map fun b => (b.toNat : Int)) (by rw [List.length_map, ba_len]) (fun i hi => by
        have h1 := hown.cellAt i (by omega)
        rw [Nat.zero_add, h1]
        have hi2 : i < s.data.toList.length := by rw [ba_len]; exact hi
        unfold Lib.strCells
        rw [List.getElem?_map, List.getElem?_eq_getElem hi2, List.getD_eq_getElem?_getD, List.getElem?_map, List.getElem?_eq_getElem hi2]; rfl) t ht
      rw [strNums] at h; exact h
  have hcv := hc 9 Tryz.underlying9
  clear hc hown hv
  go_enter Tryz.func106, Tryz.ntmps106
  go_wp2
  go_ret
  exact ⟨rfl, rfl⟩
theorem pnew_any (w : World) : Calls Tryz.prog 104 #[] w fun e w' => e = .returned (.pointer (some ⟨w.heap.size, 0, none⟩)) ∧ WrB w' w.heap.size w.heap.size ByteArray.empty ∧ Below w.heap.size w w' := by
  go_enter Tryz.func104, Tryz.ntmps104
  go_wp2
  go_ret
  exact ⟨rfl, ⟨Nat.le_refl _, .slice none 0 0, heap_alloc_new _ _, World.ownsRow_nil _ _ _ _⟩, by (repeat (first | exact Below.refl _ _ | assumption | (refine bdrew ?_) | (refine bdrewN ?_ _) | (refine balloc ?_ _) | (refine bset ?_ (by first | omega | (simp; done) | (simp; omega)) _) | (refine bnext ?_ (by assumption))))⟩
end Go.Proofs.YtihiaopilnjonaaGreatDoor
namespace Go.Proofs.YtihiaopilnjonaaGreatDoor
open Go.RowKit
set_option linter.unusedSimpArgs false
set_option linter.unusedVariables false
structure FVal where
  key : ByteArray
  must : Bool
  ef : Nat
  ec : Array Value
  mf : Nat
  mc : Array Value
  pf : Nat
  pc : Array Value
  gf : Nat
  gc : Array Value
abbrev FVal.val (r : FVal) : Value := .agg #[.string r.key, .bool r.must, .func (.func r.ef) #[] r.ec, .func (.func r.mf) #[] r.mc, .func (.func r.pf) #[] r.pc, .func (.func r.gf) #[] r.gc]
def FVal.cells (r : FVal) : List Value := [.string r.key, .bool r.must, .func (.func r.ef) #[] r.ec, .func (.func r.mf) #[] r.mc, .func (.func r.pf) #[] r.pc, .func (.func r.gf) #[] r.gc]
theorem FVal.cells_len (r : FVal) : r.cells.length = 6 := rfl
theorem FVal.cells_one (r : FVal) : ∀ u ∈ r.cells, u.oneCell' = true := by intro u hu; simp only [FVal.cells, List.mem_cons, List.not_mem_nil, or_false] at hu; rcases hu with rfl | rfl | rfl | rfl | rfl | rfl <;> rfl
def FVal.zero : FVal := ⟨ByteArray.empty, false, 0, #[], 0, #[], 0, #[], 0, #[]⟩
def fth (l : List FVal) (i : Nat) : FVal := l.getD i FVal.zero
theorem fth_eq (l : List FVal) (i : Nat) (h : i < l.length) : fth l i = l[i] := by unfold fth; rw [List.getD_eq_getElem?_getD, List.getElem?_eq_getElem h]; rfl
structure FValAt (w : World) (b o : Nat) (r : FVal) : Prop where
  c0 : w.cell? ⟨b, o, none⟩ = some (.string r.key)
  c1 : w.cell? ⟨b, o + 1, none⟩ = some (.bool r.must)
  c2 : w.cell? ⟨b, o + 2, none⟩ = some (.func (.func r.ef) #[] r.ec)
  c3 : w.cell? ⟨b, o + 3, none⟩ = some (.func (.func r.mf) #[] r.mc)
  c4 : w.cell? ⟨b, o + 4, none⟩ = some (.func (.func r.pf) #[] r.pc)
  c5 : w.cell? ⟨b, o + 5, none⟩ = some (.func (.func r.gf) #[] r.gc)
theorem FValAt.below {w w' : World} {b o : Nat} {r : FVal} (h : FValAt w b o r) (hb : Below w.heap.size w w') : FValAt w' b o r := by
  have hl := lt_of_cell h.c0
  have e : ∀ q, w'.cell? ⟨b, q, none⟩ = w.cell? ⟨b, q, none⟩ := fun q => hb.cell (p := ⟨b, q, none⟩) hl
  obtain ⟨c0, c1, c2, c3, c4, c5⟩ := h
  constructor <;> (rw [e]; assumption)
def Flds (w : World) (a : Option Addr) (l : List FVal) : Prop := ∀ i, i < len l → ∃ b off, a = some ⟨b, off, none⟩ ∧ FValAt w b (off + i * 6) (fth l i)
theorem Flds.nil (w : World) (a : Option Addr) : Flds w a [] := fun i hi => absurd hi (by simp [len])
theorem Flds.below {w w' : World} {a : Option Addr} {l : List FVal} (h : Flds w a l) (hb : Below w.heap.size w w') : Flds w' a l := fun i hi => by
  obtain ⟨b, off, rfl, hc⟩ := h i hi
  exact ⟨b, off, rfl, hc.below hb⟩
theorem Flds.drew {w w' : World} {a : Option Addr} {l : List FVal} (h : Flds w a l) (hb : Drew w w') : Flds w' a l := h.below (hb.below _)
theorem Flds.take {w : World} {a : Option Addr} {l : List FVal} (h : Flds w a l) (k : Nat) : Flds w a (l.take k) := fun i hi => by
  have hi2 : i < l.length ∧ i < k := by simp only [len, List.length_take] at hi; omega
  have hi3 : i < (l.take k).length := hi
  have e : fth (l.take k) i = fth l i := by rw [fth_eq l i hi2.1, fth_eq _ i hi3, List.getElem_take]
  rw [e]; exact h i hi2.1
theorem Flds.drop {w : World} {b off : Nat} {l : List FVal} (h : Flds w (some ⟨b, off, none⟩) l) (k : Nat) : Flds w (some ⟨b, off + k * 6, none⟩) (l.drop k) := fun i hi => by
  have hi2 : k + i < l.length := by simp only [len, List.length_drop] at hi; omega
  have hi3 : i < (l.drop k).length := hi
  have e : fth (l.drop k) i = fth l (k + i) := by rw [fth_eq l _ hi2, fth_eq _ i hi3, List.getElem_drop]
  obtain ⟨b', off', e2, hc⟩ := h (k + i) hi2
  cases e2
  exact ⟨b, _, rfl, by rw [e, show off + k * 6 + i * 6 = off + (k + i) * 6 by omega]; exact hc⟩
theorem Flds.own {w : World} {base e n : Nat} {v : Value} {l : List FVal} (h : w.ownsRow base e 6 v n (l.flatMap FVal.cells)) : ∃ a cap, v = .slice a (len l) cap ∧ Flds w a l ∧ len l ≤ cap := by
  have hn : len l = n := by have := h.1; rw [flat_length FVal.cells 6 FVal.cells_len] at this; rw [len_eq]; omega
  obtain ⟨h1, h2⟩ := h
  rcases h2 with ⟨rfl, h2⟩ | ⟨g, cap, cur, rfl, hg, hh, hc1, hc2, hc3, hc4⟩
  · obtain rfl : l = [] := List.eq_nil_of_length_eq_zero (by rw [← len_eq]; omega)
    exact ⟨none, 0, rfl, Flds.nil _ _, Nat.le_refl _⟩
  · refine ⟨some ⟨g, 0, none⟩, cap, by rw [hn], fun i hi => ⟨g, 0, rfl, ?_⟩, by omega⟩
    have hown : w.ownsRow base e 6 (.slice (some ⟨g, 0, none⟩) n cap) n (l.flatMap FVal.cells) := ⟨h1, .inr ⟨g, cap, cur, rfl, hg, hh, hc1, hc2, hc3, hc4⟩⟩
    have key : ∀ r, r < 6 → w.cell? ⟨g, 0 + i * 6 + r, none⟩ = (fth l i).cells[r]? := fun r hr => by
      have := hown.cellAt (i * 6 + r) (by rw [← hn]; omega)
      rw [Nat.zero_add, this, flat_get FVal.cells 6 FVal.cells_len l i r hi hr, fth_eq l i hi]
    exact ⟨key 0 (by decide), key 1 (by decide), key 2 (by decide), key 3 (by decide), key 4 (by decide), key 5 (by decide)⟩
theorem Flds.block {w : World} {g : Nat} {l : List FVal} {t : TypeId} {fr : Nat × Nat} (h : w.heap[g]? = some (.cells (l.flatMap FVal.cells).toArray t fr)) : Flds w (some ⟨g, 0, none⟩) l := fun i hi => ⟨g, 0, rfl, by
  have key : ∀ r, r < 6 → w.cell? ⟨g, 0 + i * 6 + r, none⟩ = (fth l i).cells[r]? := fun r hr => by
    rw [Nat.zero_add, block_cell h, List.getElem?_toArray, flat_get FVal.cells 6 FVal.cells_len l i r hi hr, fth_eq l i hi]
  exact ⟨key 0 (by decide), key 1 (by decide), key 2 (by decide), key 3 (by decide), key 4 (by decide), key 5 (by decide)⟩⟩
structure Keep8 (B : Nat) (W0 w : World) : Prop where
  s0 : B ≤ W0.heap.size
  s1 : W0.heap.size ≤ w.heap.size
  low : ∀ k : Nat, k < B → w.heap[k]? = W0.heap[k]?
  keep : ∀ (k : Nat) (x : Obj), W0.heap[k]? = some x → Not8 x → w.heap[k]? = some x
theorem Keep8.refl {B : Nat} {w : World} (h : B ≤ w.heap.size) : Keep8 B w w := ⟨h, Nat.le_refl _, fun _ _ => rfl, fun _ _ h _ => h⟩
theorem Keep8.trans {B : Nat} {a b c : World} (h : Keep8 B a b) (k : Keep8 B b c) : Keep8 B a c := ⟨h.s0, Nat.le_trans h.s1 k.s1, fun i hi => (k.low i hi).trans (h.low i hi), fun i x hx hn => k.keep i x (h.keep i x hx hn) hn⟩
theorem Keep8.of_below {B : Nat} {w w' : World} (h : Below w.heap.size w w') (hB : B ≤ w.heap.size) : Keep8 B w w' := ⟨hB, h.size, fun k hk => h.block k (Nat.lt_of_lt_of_le hk hB), fun k x hx _ => (h.block k (lt_of_block hx)).trans hx⟩
theorem Keep8.next {B : Nat} {W0 w w' : World} (h : Keep8 B W0 w) (hb : Below w.heap.size w w') : Keep8 B W0 w' := h.trans (Keep8.of_below hb (Nat.le_trans h.s0 h.s1))
theorem Keep8.base {B B' : Nat} {W0 w w' : World} (h : Keep8 B W0 w) (hb : Below B' w w') (hB : W0.heap.size ≤ B') : Keep8 B W0 w' :=
  ⟨h.s0, Nat.le_trans h.s1 hb.size, fun k hk => (hb.block k (Nat.lt_of_lt_of_le hk (Nat.le_trans h.s0 hB))).trans (h.low k hk), fun k x hx hn => (hb.block k (Nat.lt_of_lt_of_le (lt_of_block hx) hB)).trans (h.keep k x hx hn)⟩
def Off8 (W0 : World) (b : Nat) : Prop := ∀ x, W0.heap[b]? = some x → ¬ Not8 x
theorem Off8.of_le {W0 : World} {b : Nat} (h : W0.heap.size ≤ b) : Off8 W0 b := fun x hx => by have := lt_of_block hx; omega
theorem Off8.ne {W0 : World} {b k : Nat} {x : Obj} (h : Off8 W0 b) (hk : W0.heap[k]? = some x) (hn : Not8 x) : k ≠ b := fun e => by subst e; exact h x hk hn
theorem Off8.early {B b : Nat} {W0 W1 : World} (h : Off8 W1 b) (hk : Keep8 B W0 W1) : Off8 W0 b := fun x hx hn => h x (hk.keep b x hx hn) hn
theorem Keep8.wk {B base b : Nat} {W0 w w' : World} (h : Keep8 B W0 w) (hk : WK base b w w') (hb : Off8 W0 b) (hB : B ≤ base) : Keep8 B W0 w' :=
  ⟨h.s0, Nat.le_trans h.s1 hk.bel.size, fun k hk2 => (hk.bel.block k (Nat.lt_of_lt_of_le hk2 hB)).trans (h.low k hk2), fun k x hx hn => hk.keep k x (h.keep k x hx hn) (hb.ne hx hn) hn⟩
structure FSem (B : Nat) (W0 : World) (v : FVal) (f : FSpec) : Prop where
  key : v.key = f.key
  must : v.must = f.must
  ksz : f.key.size < 65536
  ee : ∀ args w, (callFunc v.ef args).run Tryz.prog w = .ok (.enter v.ef args) w
  em : ∀ args w, (callFunc v.mf args).run Tryz.prog w = .ok (.enter v.mf args) w
  ep : ∀ args w, (callFunc v.pf args).run Tryz.prog w = .ok (.enter v.pf args) w
  empty : ∀ w, Keep8 B W0 w → Calls Tryz.prog v.ef v.ec w fun e w' => e = .returned (.bool f.empty) ∧ Below w.heap.size w w'
  may : ∀ w, Keep8 B W0 w → Calls Tryz.prog v.mf v.mc w fun e w' => e = .returned (.bool f.may) ∧ Below w.heap.size w w'
  put : f.may = true → f.empty = false → ∀ w b base s, Keep8 B W0 w → Off8 W0 b → PTab B w → B ≤ base → WrB w b base s → s.size + f.bytes.size ≤ 60000000000000 →
    Calls Tryz.prog v.pf (#[.pointer (some ⟨b, 0, none⟩)] ++ v.pc) w fun e w' => e = .returned (.tuple #[]) ∧ WrB w' b base (s ++ f.bytes) ∧ WK base b w w'
theorem FSem.later {B : Nat} {W0 W1 : World} {v : FVal} {f : FSpec} (h : FSem B W0 v f) (hk : Keep8 B W0 W1) : FSem B W1 v f :=
  ⟨h.key, h.must, h.ksz, h.ee, h.em, h.ep, fun w hw => h.empty w (hk.trans hw), fun w hw => h.may w (hk.trans hw), fun h1 h2 w b base s hw hb => h.put h1 h2 w b base s (hk.trans hw) (hb.early hk)⟩
def spth (l : List FSpec) (i : Nat) : FSpec := l.getD i ⟨ByteArray.empty, false, false, false, ByteArray.empty⟩
theorem spth_eq (l : List FSpec) (i : Nat) (h : i < l.length) : spth l i = l[i] := by unfold spth; rw [List.getD_eq_getElem?_getD, List.getElem?_eq_getElem h]; rfl
def FSems (B : Nat) (W0 : World) (l : List FVal) (fs : List FSpec) : Prop := len fs = len l ∧ ∀ i, i < len l → FSem B W0 (fth l i) (spth fs i)
theorem FSems.later {B : Nat} {W0 W1 : World} {l : List FVal} {fs : List FSpec} (h : FSems B W0 l fs) (hk : Keep8 B W0 W1) : FSems B W1 l fs := ⟨h.1, fun i hi => (h.2 i hi).later hk⟩
def SaysF (w : World) (l : List FVal) (g : Nat) (lb : Array Value) (p : Nat → Bool) : Prop :=
  (∀ args w', (callFunc g args).run Tryz.prog w' = .ok (.enter g args) w') ∧ ∀ i, i < len l → ∀ w', Below w.heap.size w w' → Calls Tryz.prog g (#[(fth l i).val] ++ lb) w' fun e w'' => e = .returned (.bool (p i)) ∧ Below w'.heap.size w' w''
def IdxOut (n : Nat) (p : Nat → Bool) (w : World) (e : Ending) (w' : World) : Prop :=
  ∃ r : Int, e = .returned (.int .i64 r) ∧ ((r = -1 ∧ ∀ i, i < n → p i = false) ∨ ∃ k : Nat, k < n ∧ r = k ∧ p k = true ∧ ∀ i, i < k → p i = false) ∧ Below w.heap.size w w'
set_option maxRecDepth 100000 in
set_option maxHeartbeats 4000000 in
theorem idxf_any (a : Option Addr) (c : Nat) (l : List FVal) (g : Nat) (lb : Array Value) (p : Nat → Bool) (w : World) (hl : Flds w a l) (hn : len l ≤ 1000) (hp : SaysF w l g lb p) :
    Calls Tryz.prog 202 #[.slice a (len l) c, .func (.func g) #[] lb] w (IdxOut (len l) p w) := by
  have HL := Lib.hid hl
  have HP := Lib.hid hp.2
  have eg := hp.1
  clear hl hp
  go_enter Tryz.func202, Tryz.ntmps202
  go_wp2
  go_loopg [8] (len l) (fun g i wr => ∃ m : Nat, g + m = len l ∧ i = .int .i64 m ∧ Hid (∀ i, i < m → p i = false) ∧ Hid (Below w.heap.size w wr))
  case atStart => exact ⟨0, rfl, rfl, fun i hi => by omega, Below.refl _ _⟩
  case round =>
    obtain ⟨m, hm, rfl, HN, HB⟩ := hrel
    by_cases hlt : m < len l
    · obtain ⟨b, off, rfl, c0, c1, c2, c3, c4, c5⟩ := (HL.out.below HB.out) m hlt
      have i1 : (m : Int) < len l := by omega
      have hcall := HP.out m hlt wr HB.out
      unfold FVal.val at hcall
      have HC := Lib.hid hcall
      clear hcall
      generalize fth l m = v at c0 c1 c2 c3 c4 c5 HC
      go_wp2_with fail
      refine HC.out.mono ?_
      rintro e w1 ⟨rfl, hb⟩
      have HB1 : Hid (Below w.heap.size w w1) := Lib.hid (bnext HB.out hb)
      clear hb c0 c1 c2 c3 c4 c5
      cases hpm : p m with
      | true =>
        go_wp2
        go_ret
        exact ⟨m, rfl, .inr ⟨m, hlt, rfl, hpm, HN.out⟩, HB1.out⟩
      | false =>
        have HN2 : Hid (∀ i, i < m + 1 → p i = false) := Lib.hid (fun i hi => by
          by_cases e : i = m
          · subst e; exact hpm
          · exact HN.out i (by omega))
        clear hpm
        go_wp2
        go_roundg (len l - (m + 1))
        case rel => exact ⟨m + 1, by omega, by go_num, HN2.out, HB1.out⟩
        case measure => omega
    · obtain rfl : m = len l := by omega
      have i1 : ¬ ((len l : Nat) : Int) < len l := by omega
      go_wp2
      go_ret
      exact ⟨-1, rfl, .inl ⟨rfl, HN.out⟩, HB.out⟩
theorem containsf_any (a : Option Addr) (c : Nat) (l : List FVal) (g : Nat) (lb : Array Value) (p : Nat → Bool) (w : World) (hl : Flds w a l) (hn : len l ≤ 1000) (hp : SaysF w l g lb p) :
    Calls Tryz.prog 170 #[.slice a (len l) c, .func (.func g) #[] lb] w fun e w' => ∃ b, e = .returned (.bool b) ∧ (b = true ↔ ∃ i, i < len l ∧ p i = true) ∧ Below w.heap.size w w' := by
  have H := Lib.hid (idxf_any a c l g lb p w hl hn hp)
  clear hl hp
  go_enter Tryz.func170, Tryz.ntmps170
  go_wp2_with fail
  refine H.out.mono ?_
  rintro e w1 ⟨r, rfl, hr, hb⟩
  have HB := Lib.hid hb
  clear hb
  rcases hr with ⟨rfl, hall⟩ | ⟨k, hk, rfl, hpk, -⟩
  · have HA := Lib.hid hall
    clear hall
    go_wp2
    go_ret
    exact ⟨false, rfl, ⟨fun h => (by cases h), fun ⟨i, hi, h⟩ => by rw [HA.out i hi] at h; cases h⟩, HB.out⟩
  · have HK := Lib.hid hpk
    clear hpk
    go_wp2
    go_ret
    exact ⟨true, rfl, ⟨fun _ => ⟨k, hk, HK.out⟩, fun _ => rfl⟩, HB.out⟩
end Go.Proofs.YtihiaopilnjonaaGreatDoor
namespace Go.Proofs.YtihiaopilnjonaaGreatDoor
open Go.RowKit
set_option linter.unusedSimpArgs false
set_option linter.unusedVariables false
structure Chg (rb tb : Nat) (w w' : World) : Prop where
  os : w'.os = w.os
  tape : w'.tape = w.tape
  output : w'.output = w.output
  size : w.heap.size ≤ w'.heap.size
  block : ∀ i, i < w.heap.size → i ≠ rb → i ≠ tb → w'.heap[i]? = w.heap[i]?
theorem Chg.refl (rb tb : Nat) (w : World) : Chg rb tb w w := ⟨rfl, rfl, rfl, Nat.le_refl _, fun _ _ _ _ => rfl⟩
theorem Chg.trans {rb tb : Nat} {a b c : World} (h : Chg rb tb a b) (k : Chg rb tb b c) : Chg rb tb a c :=
  ⟨k.os.trans h.os, k.tape.trans h.tape, k.output.trans h.output, Nat.le_trans h.size k.size, fun i hi h1 h2 => (k.block i (Nat.lt_of_lt_of_le hi h.size) h1 h2).trans (h.block i hi h1 h2)⟩
theorem Chg.of_below {rb tb : Nat} {w w' : World} (h : Below w.heap.size w w') : Chg rb tb w w' := ⟨h.os, h.tape, h.output, h.size, fun i hi _ _ => h.block i hi⟩
theorem Chg.of_ext {rb tb : Nat} {w w' : World} (h : ExtB (some rb) w w') : Chg rb tb w w' := ⟨h.os, h.tape, h.output, h.size, fun i hi h1 _ => h.block i hi (by simpa using h1)⟩
theorem Chg.next {rb tb : Nat} {a b c : World} (h : Chg rb tb a b) (k : Below b.heap.size b c) : Chg rb tb a c := h.trans (Chg.of_below k)
theorem Chg.ext {rb tb : Nat} {a b c : World} (h : Chg rb tb a b) (k : ExtB (some rb) b c) : Chg rb tb a c := h.trans (Chg.of_ext k)
theorem Chg.set {rb tb : Nat} {a b : World} (h : Chg rb tb a b) (o : Nat) (v : Value) : Chg rb tb a (b.setCell ⟨tb, o, none⟩ v) :=
  ⟨h.os, h.tape, h.output, by simpa using h.size, fun i hi h1 h2 => by rw [Below.heap_setCell _ _ _ _ h2]; exact h.block i hi h1 h2⟩
theorem Chg.inner {rb tb tb' : Nat} {a b c : World} (h : Chg rb tb a b) (k : Chg rb tb' b c) (ht : a.heap.size ≤ tb') : Chg rb tb a c :=
  ⟨k.os.trans h.os, k.tape.trans h.tape, k.output.trans h.output, Nat.le_trans h.size k.size, fun i hi h1 h2 => (k.block i (Nat.lt_of_lt_of_le hi h.size) h1 (by omega)).trans (h.block i hi h1 h2)⟩
def Off (rb tb : Nat) (a : Option Addr) : Prop := ∀ b off, a = some ⟨b, off, none⟩ → rb < b ∧ tb < b
def Tx (w : World) (a : Option Addr) (l : List ByteArray) : Prop := Txs w a l ∧ ∀ b off, a = some ⟨b, off, none⟩ → ∃ cs, w.heap[b]? = some (.cells cs 9 (0, 0))
def Ux (w : World) (a : Option Addr) (l : List Int) : Prop := U64s w a l ∧ ∀ b off, a = some ⟨b, off, none⟩ → ∃ cs, w.heap[b]? = some (.cells cs 23 (0, 0))
theorem Tx.keep {w w' : World} {a : Option Addr} {l : List ByteArray} (h : Tx w a l) (hb : ∀ b off cs, a = some ⟨b, off, none⟩ → w.heap[b]? = some (.cells cs 9 (0, 0)) → w'.heap[b]? = w.heap[b]?) : Tx w' a l := by
  refine ⟨fun i hi => ?_, fun b off e => ?_⟩
  · obtain ⟨b, off, rfl, h1⟩ := h.1 i hi
    obtain ⟨cs, h2⟩ := h.2 b off rfl
    exact ⟨b, off, rfl, by rw [World.cell?_of_block (w := w) (hb b off cs rfl h2)]; exact h1⟩
  · obtain ⟨cs, h2⟩ := h.2 b off e
    exact ⟨cs, (hb b off cs e h2).trans h2⟩
theorem Ux.keep {w w' : World} {a : Option Addr} {l : List Int} (h : Ux w a l) (hb : ∀ b off cs, a = some ⟨b, off, none⟩ → w.heap[b]? = some (.cells cs 23 (0, 0)) → w'.heap[b]? = w.heap[b]?) : Ux w' a l := by
  refine ⟨fun i hi => ?_, fun b off e => ?_⟩
  · obtain ⟨b, off, rfl, h1⟩ := h.1 i hi
    obtain ⟨cs, h2⟩ := h.2 b off rfl
    exact ⟨b, off, rfl, by rw [World.cell?_of_block (w := w) (hb b off cs rfl h2)]; exact h1⟩
  · obtain ⟨cs, h2⟩ := h.2 b off e
    exact ⟨cs, (hb b off cs e h2).trans h2⟩
theorem Tx.chg {rb tb : Nat} {w w' : World} {a : Option Addr} {l : List ByteArray} (h : Tx w a l) (ho : Off rb tb a) (hc : Chg rb tb w w') : Tx w' a l :=
  h.keep fun b off cs e h2 => hc.block b (lt_of_block h2) (by have := (ho b off e).1; omega) (by have := (ho b off e).2; omega)
theorem Ux.chg {rb tb : Nat} {w w' : World} {a : Option Addr} {l : List Int} (h : Ux w a l) (ho : Off rb tb a) (hc : Chg rb tb w w') : Ux w' a l :=
  h.keep fun b off cs e h2 => hc.block b (lt_of_block h2) (by have := (ho b off e).1; omega) (by have := (ho b off e).2; omega)
theorem Tx.chgNew {rb tb xb : Nat} {w w' : World} {a : Option Addr} {l : List ByteArray} (h : Tx w a l) (ho : Off rb tb a) (hc : Chg rb xb w w') (hx : w.heap.size ≤ xb) : Tx w' a l :=
  h.keep fun b off cs e h2 => hc.block b (lt_of_block h2) (by have := (ho b off e).1; omega) (by have := lt_of_block h2; omega)
theorem Tx.ext {row : Option Nat} {w w' : World} {a : Option Addr} {l : List ByteArray} (h : Tx w a l) (hE : ExtB row w w') (hr : ∀ k, row = some k → ∃ cs T, w.heap[k]? = some (.cells cs T (0, 0)) ∧ T ≠ 9) : Tx w' a l :=
  h.keep fun b off cs e h2 => hE.block b (lt_of_block h2) (fun e2 => by obtain ⟨cs', T, h3, h4⟩ := hr b e2.symm; rw [h2] at h3; cases h3; exact h4 rfl)
theorem Revs.chg {rb tb : Nat} {w w' : World} {a : Option Addr} {l : List Rev} (h : Revs w a l) (ho : Off rb tb a) (hc : Chg rb tb w w') : Revs w' a l := fun i hi => by
  obtain ⟨b, off, rfl, h1⟩ := h i hi
  have hb := hc.block b (lt_of_cell h1.c0) (by have := (ho b off rfl).1; omega) (by have := (ho b off rfl).2; omega)
  have e : ∀ q, w'.cell? ⟨b, q, none⟩ = w.cell? ⟨b, q, none⟩ := fun q => World.cell?_of_block (w := w) hb
  obtain ⟨c0, c1, c2, c3, c4, c5, c6, c7, c8, c9, c10⟩ := h1
  exact ⟨b, off, rfl, by constructor <;> (rw [e]; assumption)⟩
def lth (l : List RevD) (i : Nat) : RevD := l.getD i ⟨0, 0, false, 0, [], [], ⟨#[]⟩, 0, 0, 0, 0⟩
theorem lth_eq (l : List RevD) (i : Nat) (h : i < l.length) : lth l i = l[i] := by unfold lth; rw [List.getD_eq_getElem?_getD, List.getElem?_eq_getElem h]; rfl
structure RevIs (rb tb : Nat) (w : World) (r : Rev) (d : RevD) : Prop where
  pos : r.pos = d.pos
  L : r.L = d.L
  signed : r.signed = d.signed
  idx : r.idx = d.idx
  wn : r.wn = len d.ws
  ws : Tx w r.wa d.ws
  wo : Off rb tb r.wa
  pn : r.pn = len d.ps
  ps : Tx w r.pa d.ps
  po : Off rb tb r.pa
  root : r.root = d.root
  wt : r.wt = d.wt
  first : r.first = d.first
  life : r.life = d.life
  keys : r.keys = d.keys
theorem RevIs.chg {rb tb : Nat} {w w' : World} {r : Rev} {d : RevD} (h : RevIs rb tb w r d) (hc : Chg rb tb w w') : RevIs rb tb w' r d :=
  ⟨h.pos, h.L, h.signed, h.idx, h.wn, h.ws.chg h.wo hc, h.wo, h.pn, h.ps.chg h.po hc, h.po, h.root, h.wt, h.first, h.life, h.keys⟩
theorem RevIs.chgNew {rb tb xb : Nat} {w w' : World} {r : Rev} {d : RevD} (h : RevIs rb tb w r d) (hc : Chg rb xb w w') (hx : w.heap.size ≤ xb) : RevIs rb tb w' r d :=
  ⟨h.pos, h.L, h.signed, h.idx, h.wn, h.ws.chgNew h.wo hc hx, h.wo, h.pn, h.ps.chgNew h.po hc hx, h.po, h.root, h.wt, h.first, h.life, h.keys⟩
theorem RevIs.ext {rb tb : Nat} {row : Option Nat} {w w' : World} {r : Rev} {d : RevD} (h : RevIs rb tb w r d) (hE : ExtB row w w') (hr : ∀ k, row = some k → ∃ cs T, w.heap[k]? = some (.cells cs T (0, 0)) ∧ T ≠ 9) : RevIs rb tb w' r d :=
  ⟨h.pos, h.L, h.signed, h.idx, h.wn, h.ws.ext hE hr, h.wo, h.pn, h.ps.ext hE hr, h.po, h.root, h.wt, h.first, h.life, h.keys⟩
theorem RevIs.outer {rb tb xb : Nat} {w : World} {r : Rev} {d : RevD} (h : RevIs rb xb w r d) (hx : tb ≤ xb) : RevIs rb tb w r d :=
  ⟨h.pos, h.L, h.signed, h.idx, h.wn, h.ws, fun b off e => ⟨(h.wo b off e).1, Nat.lt_of_le_of_lt hx (h.wo b off e).2⟩, h.pn, h.ps, fun b off e => ⟨(h.po b off e).1, Nat.lt_of_le_of_lt hx (h.po b off e).2⟩, h.root, h.wt, h.first, h.life, h.keys⟩
def HoldsD (rb tb : Nat) (w : World) (v : Value) : DV → Prop
  | .num n => v = .int .u64 n
  | .flag q => v = .bool q
  | .str s => v = .string s
  | .strs l => ∃ a c, v = .slice a (len l) c ∧ (len l = 0 → a = none ∧ c = 0) ∧ Off rb tb a ∧ Tx w a l
  | .nums l => ∃ a c, v = .slice a (len l) c ∧ (len l = 0 → a = none ∧ c = 0) ∧ Off rb tb a ∧ Ux w a l
  | .revs l => ∃ a c, v = .slice a (len l) c ∧ (len l = 0 → a = none ∧ c = 0) ∧ Off rb tb a ∧ ∃ rs : List Rev, len rs = len l ∧ Revs w a rs ∧ ∀ i, i < len l → RevIs rb tb w (rnth rs i) (lth l i)
theorem HoldsD.chg {rb tb : Nat} {w w' : World} {v : Value} {d : DV} (h : HoldsD rb tb w v d) (hc : Chg rb tb w w') : HoldsD rb tb w' v d := by
  cases d with
  | num n => exact h
  | flag q => exact h
  | str s => exact h
  | strs l => obtain ⟨a, c, h1, h2, h3, h4⟩ := h; exact ⟨a, c, h1, h2, h3, h4.chg h3 hc⟩
  | nums l => obtain ⟨a, c, h1, h2, h3, h4⟩ := h; exact ⟨a, c, h1, h2, h3, h4.chg h3 hc⟩
  | revs l => obtain ⟨a, c, h1, h2, h3, rs, h4, h5, h6⟩ := h; exact ⟨a, c, h1, h2, h3, rs, h4, h5.chg h3 hc, fun i hi => (h6 i hi).chg hc⟩
def RecAt (rb tb : Nat) (T : TypeId) (n : Nat) (w : World) (x : Rcd) : Prop :=
  ∃ cs : Array Value, w.heap[tb]? = some (.cells cs T (0, 0)) ∧ cs.size = n ∧ ∀ i, i < n → ∃ v, cs[i]? = some v ∧ HoldsD rb tb w v (x i)
theorem RecAt.keep {rb tb : Nat} {T : TypeId} {n : Nat} {w w' : World} {x : Rcd} (h : RecAt rb tb T n w x) (hb : w'.heap[tb]? = w.heap[tb]?) (hc : Chg rb tb w w') : RecAt rb tb T n w' x := by
  obtain ⟨cs, h1, h2, h3⟩ := h
  refine ⟨cs, hb.trans h1, h2, fun i hi => ?_⟩
  obtain ⟨v, h4, h5⟩ := h3 i hi
  exact ⟨v, h4, h5.chg hc⟩
theorem RecAt.lt {rb tb : Nat} {T : TypeId} {n : Nat} {w : World} {x : Rcd} (h : RecAt rb tb T n w x) : tb < w.heap.size := by
  obtain ⟨cs, h1, _⟩ := h; exact lt_of_block h1
theorem RecAt.below {rb tb : Nat} {T : TypeId} {n : Nat} {w w' : World} {x : Rcd} (h : RecAt rb tb T n w x) (hb : Below w.heap.size w w') : RecAt rb tb T n w' x := h.keep (hb.block _ h.lt) (Chg.of_below hb)
theorem RecAt.ext {rb tb : Nat} {T : TypeId} {n : Nat} {w w' : World} {x : Rcd} (h : RecAt rb tb T n w x) (hE : ExtB (some rb) w w') (hne : tb ≠ rb) : RecAt rb tb T n w' x := h.keep (hE.block _ h.lt (by simpa using hne)) (Chg.of_ext hE)
theorem RecAt.get {rb tb : Nat} {T : TypeId} {n : Nat} {w : World} {x : Rcd} (h : RecAt rb tb T n w x) {o : Nat} (ho : o < n) : ∃ v, w.cell? ⟨tb, o, none⟩ = some v ∧ HoldsD rb tb w v (x o) := by
  obtain ⟨cs, h1, h2, h3⟩ := h
  obtain ⟨v, h4, h5⟩ := h3 o ho
  exact ⟨v, by rw [block_cell h1]; exact h4, h5⟩
theorem RecAt.free {rb tb : Nat} {T : TypeId} {n : Nat} {w : World} {x : Rcd} (h : RecAt rb tb T n w x) (o : Nat) : w.frozen? ⟨tb, o, none⟩ = false := by
  obtain ⟨cs, h1, _⟩ := h; exact block_free h1 o
theorem RecAt.set {rb tb : Nat} {T : TypeId} {n : Nat} {w : World} {x : Rcd} (h : RecAt rb tb T n w x) {o : Nat} (ho : o < n) {v : Value} {d : DV} (hv : HoldsD rb tb w v d) : RecAt rb tb T n (w.setCell ⟨tb, o, none⟩ v) (upd x o d) := by
  obtain ⟨cs, h1, h2, h3⟩ := h
  have hc : Chg rb tb w (w.setCell ⟨tb, o, none⟩ v) := (Chg.refl rb tb w).set o v
  refine ⟨_, block_setCell h1 v, by simpa using h2, fun i hi => ?_⟩
  by_cases e : i = o
  · subst e
    exact ⟨v, by rw [Array.getElem?_setIfInBounds_self_of_lt (by omega)], by rw [upd_at]; exact hv.chg hc⟩
  · obtain ⟨u, h4, h5⟩ := h3 i hi
    exact ⟨u, by rw [Array.getElem?_setIfInBounds_ne (fun e2 => e e2.symm)]; exact h4, by rw [upd_ne e]; exact h5.chg hc⟩
theorem RecAt.put {rb tb : Nat} {T : TypeId} {n : Nat} {w w' : World} {x : Rcd} {cs : Array Value} (h1 : w.heap[tb]? = some (.cells cs T (0, 0))) (h : RecAt rb tb T n w x) {o : Nat} (ho : o < n) {v : Value} {d : DV} (hc : Chg rb tb w w') (h2 : w'.heap[tb]? = some (.cells (cs.setIfInBounds o v) T (0, 0))) (hv : HoldsD rb tb w' v d) : RecAt rb tb T n w' (upd x o d) := by
  obtain ⟨cs', h1', h2', h3⟩ := h
  rw [h1] at h1'
  cases h1'
  refine ⟨_, h2, by simpa using h2', fun i hi => ?_⟩
  by_cases e : i = o
  · subst e
    exact ⟨v, by rw [Array.getElem?_setIfInBounds_self_of_lt (by omega)], by rw [upd_at]; exact hv⟩
  · obtain ⟨u, h4, h5⟩ := h3 i hi
    exact ⟨u, by rw [Array.getElem?_setIfInBounds_ne (fun e2 => e e2.symm)]; exact h4, by rw [upd_ne e]; exact h5.chg hc⟩
def ThAt (tb : Nat) (T : TypeId) (n : Nat) (w : World) : Prop := ∃ cs, w.heap[tb]? = some (.cells cs T (0, 0)) ∧ cs.size = n
theorem RecAt.thAt {rb tb : Nat} {T : TypeId} {n : Nat} {w : World} {x : Rcd} (h : RecAt rb tb T n w x) : ThAt tb T n w := by
  obtain ⟨cs, h1, h2, _⟩ := h; exact ⟨cs, h1, h2⟩
def GetIs (res : Except Flt (Rcd × Nat)) (rb tb : Nat) (T : TypeId) (n : Nat) (s : ByteArray) (w : World) (e : Ending) (w' : World) : Prop :=
  Chg rb tb w w' ∧ match res with
    | .ok x => e = .returned (.tuple #[]) ∧ RdB w' rb s x.2 10240 ∧ x.2 ≤ s.size ∧ RecAt rb tb T n w' x.1
    | .error f => ∃ fb, e = .panicked (stopC fb) ∧ FltB w' fb f.1 f.2 ∧ ThAt tb T n w'
theorem getIs_ok {x : Rcd × Nat} {rb tb : Nat} {T : TypeId} {n : Nat} {s : ByteArray} {w w' : World} {e : Ending} (h : GetIs (.ok x) rb tb T n s w e w') : e = .returned (.tuple #[]) ∧ RdB w' rb s x.2 10240 ∧ x.2 ≤ s.size ∧ RecAt rb tb T n w' x.1 ∧ Chg rb tb w w' := ⟨h.2.1, h.2.2.1, h.2.2.2.1, h.2.2.2.2, h.1⟩
theorem getIs_err {f : Flt} {rb tb : Nat} {T : TypeId} {n : Nat} {s : ByteArray} {w w' : World} {e : Ending} (h : GetIs (.error f) rb tb T n s w e w') : ∃ fb, e = .panicked (stopC fb) ∧ FltB w' fb f.1 f.2 ∧ Chg rb tb w w' := by
  obtain ⟨h1, fb, h2, h3, h4⟩ := h; exact ⟨fb, h2, h3, h1⟩
theorem getIs_th {f : Flt} {rb tb : Nat} {T : TypeId} {n : Nat} {s : ByteArray} {w w' : World} {e : Ending} (h : GetIs (.error f) rb tb T n s w e w') : ThAt tb T n w' := by
  obtain ⟨h1, fb, h2, h3, h4⟩ := h; exact h4
def fresh (x0 : Rcd) (g : GSpec) (x : Rcd) : Prop := ∀ i, i ∈ g.offs → x i = x0 i
theorem RdEnv.chg {B : Nat} {w w' : World} {qb rb tb : Nat} {s : ByteArray} {a a' : Nat} (h : RdEnv B w qb rb s a) (hc : Chg rb tb w w') (hqt : qb ≠ tb) (hBt : B ≤ tb) (hr : RdB w' rb s a' 10240) (ha : a' ≤ s.size) : RdEnv B w' qb rb s a' := by
  refine ⟨(hc.block _ (lt_of_block h.q) h.ne hqt).trans h.q, hr, ?_, h.bq, h.br, h.ne, ha, h.sz⟩
  have key : ∀ g l, TabAt B w g l → TabAt B w' g l := fun g l ⟨t, tq, rc, h1, h2, h3, h4, h5⟩ => by
    have e : ∀ b, b < B → w'.heap[b]? = w.heap[b]? := fun b hb => hc.block b (by omega) (by have := h.br; omega) (by omega)
    refine ⟨t, tq, rc, h1, h2, Nat.le_trans h3 hc.size, by rw [World.cell?_of_block (w := w) (e g h1)]; exact h4, fun i hi => ?_⟩
    obtain ⟨b, off, e2, hr⟩ := h5 i hi
    cases e2
    have e3 : ∀ q, w'.cell? ⟨t, q, none⟩ = w.cell? ⟨t, q, none⟩ := fun q => World.cell?_of_block (w := w) (e t h2)
    obtain ⟨c0, c1, c2, c3⟩ := hr
    exact ⟨t, tq, rfl, by constructor <;> (rw [e3]; assumption)⟩
  exact ⟨key _ _ h.tabs.nums, key _ _ h.tabs.lists, key _ _ h.tabs.bins, key _ _ h.tabs.strs, key _ _ h.tabs.pairs⟩
structure GSem (B qb rb tb : Nat) (x0 : Rcd) (T : TypeId) (n : Nat) (s : ByteArray) (W0 : World) (v : FVal) (g : GSpec) : Prop where
  key : v.key = g.key
  must : v.must = g.must
  ee : ∀ args w, (callFunc v.ef args).run Tryz.prog w = .ok (.enter v.ef args) w
  eg : ∀ args w, (callFunc v.gf args).run Tryz.prog w = .ok (.enter v.gf args) w
  empty : ∀ w x, Chg rb tb W0 w → RecAt rb tb T n w x → Kd x0 x → Calls Tryz.prog v.ef v.ec w fun e w' => e = .returned (.bool (g.empty x)) ∧ Below w.heap.size w w'
  read : ∀ w x a, Chg rb tb W0 w → RecAt rb tb T n w x → RdEnv B w qb rb s a → fresh x0 g x → Kd x0 x → Calls Tryz.prog v.gf (#[.pointer (some ⟨qb, 0, none⟩)] ++ v.gc) w (GetIs (g.read x a) rb tb T n s w)
theorem GSem.later {B qb rb tb : Nat} {x0 : Rcd} {T : TypeId} {n : Nat} {s : ByteArray} {W0 W1 : World} {v : FVal} {g : GSpec} (h : GSem B qb rb tb x0 T n s W0 v g) (hk : Chg rb tb W0 W1) : GSem B qb rb tb x0 T n s W1 v g :=
  ⟨h.key, h.must, h.ee, h.eg, fun w x hw => h.empty w x (hk.trans hw), fun w x a hw => h.read w x a (hk.trans hw)⟩
def GSems (B qb rb tb : Nat) (x0 : Rcd) (T : TypeId) (n : Nat) (s : ByteArray) (W0 : World) (l : List FVal) (gs : List GSpec) : Prop := len gs = len l ∧ ∀ i, i < len l → GSem B qb rb tb x0 T n s W0 (fth l i) (gth gs i)
theorem GSems.later {B qb rb tb : Nat} {x0 : Rcd} {T : TypeId} {n : Nat} {s : ByteArray} {W0 W1 : World} {l : List FVal} {gs : List GSpec} (h : GSems B qb rb tb x0 T n s W0 l gs) (hk : Chg rb tb W0 W1) : GSems B qb rb tb x0 T n s W1 l gs := ⟨h.1, fun i hi => (h.2 i hi).later hk⟩
end Go.Proofs.YtihiaopilnjonaaGreatDoor
namespace Go.Proofs.YtihiaopilnjonaaGreatDoor
open Go.RowKit
set_option linter.unusedSimpArgs false
set_option linter.unusedVariables false
theorem of_drewE {row : Option Nat} {w w1 : World} (h : ExtB row w.drew w1) : ExtB row w w1 := ExtB_trans _ _ _ _ (ext_extB (bdrew (Below.refl _ _))) h
theorem wp_of_callR {P : Program} {o : Oper} {a : Act} {w : World} {f : FuncId} {args : Array Value} {R : Value → World → Prop} {K : Act → World → Prop} {Q : Exit → Act → World → Prop} (h : (execOp a.eval o).run P w = .ok (.enter f args) w)
    (hc : Calls P f args w (fun e w' => ∃ v, e = .returned v ∧ R v w')) (hK : ∀ v w', R v w' → K (a.put o.dst v) w') : o.wp P a w K Q := by
  unfold Oper.wp; rw [h]
  exact hc.mono fun e w' ⟨v, he, hR⟩ => by subst he; exact hK v w' hR
theorem wp_of_panicR {P : Program} {o : Oper} {a : Act} {w : World} {f : FuncId} {args : Array Value} {R : Nat → World → Prop} {K : Act → World → Prop} {Q : Exit → Act → World → Prop} (h : (execOp a.eval o).run P w = .ok (.enter f args) w)
    (hc : Calls P f args w (fun e w' => ∃ fb, e = .panicked (stopC fb) ∧ R fb w')) (hK : ∀ fb w', R fb w' → Q (.panic (stopC fb)) a w') : o.wp P a w K Q := by
  unfold Oper.wp; rw [h]
  exact hc.mono fun e w' ⟨v, he, hR⟩ => by subst he; exact hK v w' hR
set_option maxRecDepth 100000 in
set_option maxHeartbeats 2000000 in
theorem num3_any (B qb rb tb o bx : Nat) (T : TypeId) (n : Nat) (s key : ByteArray) (a : Nat) (x : Rcd) (w : World) (h1 : w.heap[bx]? = some (.cells #[.pointer (some ⟨tb, o, none⟩)] 177 (0, 0))) (hbr : bx ≠ rb) (htr : tb ≠ rb) (ho : o < n)
    (hx : RecAt rb tb T n w x) (h : RdEnv B w qb rb s a) : Calls Tryz.prog 186 #[.pointer (some ⟨qb, 0, none⟩), .pointer (some ⟨bx, 0, none⟩)] w (GetIs ((gnum s key o).read x a) rb tb T n s w) := by
  have H := Lib.hid h
  have HX := Lib.hid hx
  have hqr := h.ne
  have c0 : w.cell? ⟨qb, 0, none⟩ = some (.pointer (some ⟨rb, 0, none⟩)) := block_cell h.q 0
  have c1 : w.cell? ⟨bx, 0, none⟩ = some (.pointer (some ⟨tb, o, none⟩)) := block_cell h1 0
  clear h1 hx h
  cases hr : tkR 0 s a with
  | error f =>
    have HR : Hid ((gnum s key o).read x a = .error f) := Lib.hid (by simp only [gnum, rnum, hr])
    have HN : Hid (∀ w', Below w.heap.size w w' → Calls Tryz.prog 152 #[.pointer (some ⟨rb, 0, none⟩)] w' (fun e w2 => ∃ u, e = .returned u ∧ ((∃ fb, u = .tuple #[.int .u64 0, .iface 127 (.pointer (some ⟨fb, 0, none⟩))] ∧ FltB w2 fb f.1 f.2 ∧ fb ≠ rb) ∧ ExtB (some rb) w' w2))) := Lib.hid (fun w' hb => (Num_tk w' B qb rb s a (H.out.below hb)).mono fun e w2 hh => by rw [hr] at hh; obtain ⟨fb, h1, h2, h3, h4⟩ := tkIs_err hh; exact ⟨_, h1, ⟨fb, rfl, h2, by have := lt_of_block H.out.r; have := hb.size; omega⟩, h3⟩)
    clear hr
    go_enter Tryz.func186, Tryz.ntmps186
    refine wp_region_tail 10 5 (some rb) (phis [fun u _ => u = (.pointer (some ⟨tb, o, none⟩)), fun u _ => u = (.pointer (some ⟨qb, 0, none⟩)), fun u _ => u = (.pointer (some ⟨qb, 0, none⟩)), fun u _ => u = (.pointer (some ⟨qb, 0, none⟩)), fun u _ => u = (.pointer (some ⟨rb, 0, none⟩)), fun u w' => ∃ fb, u = .tuple #[.int .u64 0, .iface 127 (.pointer (some ⟨fb, 0, none⟩))] ∧ FltB w' fb f.1 f.2 ∧ fb ≠ rb, fun u _ => u = (.int .u64 0), fun u w' => ∃ fb, u = .iface 127 (.pointer (some ⟨fb, 0, none⟩)) ∧ FltB w' fb f.1 f.2 ∧ fb ≠ rb, fun _ _ => False, fun u _ => u = (.pointer (some ⟨tb, o, none⟩))]) rfl (by kernel_rfl) (by kernel_rfl) (mono_of ⟨mono_eq, mono_eq, mono_eq, mono_eq, mono_eq, ?m5, mono_eq, ?m7, mono_eq, mono_eq, trivial⟩) (steps_of 10 ⟨?s0, ?s1, ?s2, ?s3, ?s4, ?s5, ?s6, ?s7, ?s8, ?s9, trivial⟩) ?_
    case m5 =>
      exact ⟨fun u w1 w2 h ⟨fb, h1, h2, h3⟩ => ⟨fb, h1, h2.below h, h3⟩, fun hn => absurd rfl hn⟩
    case m7 =>
      exact ⟨fun u w1 w2 h ⟨fb, h1, h2, h3⟩ => ⟨fb, h1, h2.below h, h3⟩, fun _ u w1 w2 h ⟨fb, h1, h2, h3⟩ => ⟨fb, h1, extB_block h (fun e => h3 (Option.some.inj e)) h2, h3⟩⟩
    case s0 =>
      refine step_val (v := (.pointer (some ⟨tb, o, none⟩))) (fun av wv hE hS hO hD => ?_) (fun _ => rfl)
      have h1 : av.eval (.tmp 1) = (.pointer (some ⟨bx, 0, none⟩)) := hO.2.2 1 rfl
      have f1 := (ev_form av 1).symm.trans h1
      have c1 := extB_cell hE (fun e => hbr (Option.some.inj e)) c1
      have c0 := extB_cell hE (fun e => hqr (Option.some.inj e)) c0
      refine ⟨rfl, ?_⟩
      simp [go_sem, f1, c1, c0]
    case s1 =>
      refine step_val (v := (.pointer (some ⟨qb, 0, none⟩))) (fun av wv hE hS hO hD => ?_) (fun _ => rfl)
      have h0 : av.eval (.tmp 0) = (.pointer (some ⟨qb, 0, none⟩)) := hO.2.2 0 rfl
      have f0 := (ev_form av 0).symm.trans h0
      refine ⟨rfl, ?_⟩
      simp [go_sem, f0]
    case s2 =>
      refine step_val (v := (.pointer (some ⟨qb, 0, none⟩))) (fun av wv hE hS hO hD => ?_) (fun _ => rfl)
      have d4 : av.eval (.tmp 4) = (.pointer (some ⟨qb, 0, none⟩)) := hD.1 rfl _ rfl
      have f4 := (ev_form av 4).symm.trans d4
      refine ⟨rfl, ?_⟩
      simp [go_sem, f4]
    case s3 =>
      refine step_val (v := (.pointer (some ⟨qb, 0, none⟩))) (fun av wv hE hS hO hD => ?_) (fun _ => rfl)
      have d5 : av.eval (.tmp 5) = (.pointer (some ⟨qb, 0, none⟩)) := hD.1 rfl _ rfl
      have f5 := (ev_form av 5).symm.trans d5
      refine ⟨rfl, ?_⟩
      simp [go_sem, f5]
    case s4 =>
      refine step_val (v := (.pointer (some ⟨rb, 0, none⟩))) (fun av wv hE hS hO hD => ?_) (fun _ => rfl)
      have d6 : av.eval (.tmp 6) = (.pointer (some ⟨qb, 0, none⟩)) := hD.1 rfl _ rfl
      have f6 := (ev_form av 6).symm.trans d6
      have c1 := extB_cell hE (fun e => hbr (Option.some.inj e)) c1
      have c0 := extB_cell hE (fun e => hqr (Option.some.inj e)) c0
      refine ⟨rfl, ?_⟩
      simp [go_sem, f6, c1, c0]
    case s5 =>
      refine step_wp (fun av wv hE hS hO hD => ?_)
      have d7 : av.eval (.tmp 7) = (.pointer (some ⟨rb, 0, none⟩)) := hD.1 rfl _ rfl
      have f7 := (ev_form av 7).symm.trans d7
      refine ⟨rfl, ?_⟩
      refine wp_of_callR (f := 152) (args := #[.pointer (some ⟨rb, 0, none⟩)]) (by simp [go_sem, f7]) (HN.out wv (bnext (bdrew (Below.refl _ _)) (hS rfl))) (fun u w2 ⟨h1, h3⟩ => ⟨u, rfl, es_sp h3, h1⟩)
    case s6 =>
      refine step_wp (fun av wv hE hS hO hD => ?_)
      have d8 : (fun u w' => ∃ fb, u = .tuple #[.int .u64 0, .iface 127 (.pointer (some ⟨fb, 0, none⟩))] ∧ FltB w' fb f.1 f.2 ∧ fb ≠ rb) (av.eval (.tmp 8)) wv := hD.1 rfl _ rfl
      refine ⟨rfl, ?_⟩
      obtain ⟨fb, hu8, -, -⟩ := d8
      have f8 := (ev_form av 8).symm.trans hu8
      exact wp_of_run (v := .int .u64 0) (by simp [go_sem, f8]) ⟨_, rfl, es_of_ext (Ext_refl _), rfl⟩
    case s7 =>
      refine step_wp (fun av wv hE hS hO hD => ?_)
      have d8 : (fun u w' => ∃ fb, u = .tuple #[.int .u64 0, .iface 127 (.pointer (some ⟨fb, 0, none⟩))] ∧ FltB w' fb f.1 f.2 ∧ fb ≠ rb) (av.eval (.tmp 8)) wv := hD.1 rfl _ rfl
      refine ⟨rfl, ?_⟩
      obtain ⟨fb, hu8, hf8, hn8⟩ := d8
      have f8 := (ev_form av 8).symm.trans hu8
      exact wp_of_run (v := .iface 127 (.pointer (some ⟨fb, 0, none⟩))) (by simp [go_sem, f8]) ⟨_, rfl, es_of_ext (Ext_refl _), fb, rfl, hf8, hn8⟩
    case s8 =>
      refine step_wp (fun av wv hE hS hO hD => ?_)
      have d9 : av.eval (.tmp 9) = (.int .u64 0) := hD.1 rfl _ rfl
      have f9 := (ev_form av 9).symm.trans d9
      have d10 : (fun u w' => ∃ fb, u = .iface 127 (.pointer (some ⟨fb, 0, none⟩)) ∧ FltB w' fb f.1 f.2 ∧ fb ≠ rb) (av.eval (.tmp 10)) wv := hD.2.1 rfl _ rfl
      refine ⟨rfl, ?_⟩
      obtain ⟨fb, hu10, hf, hn8⟩ := d10
      have f10 := (ev_form av 10).symm.trans hu10
      refine wp_of_panic (chain := stopC fb) (by simp [go_sem, f9, f10]) ((wholeu_no 0 fb wv).mono (fun e w2 ⟨h1, h2⟩ => ⟨h1, by rw [h2]; exact Below.refl _ _⟩)) (fun w2 hb => ?_)
      exact ⟨hO.1, by rw [HR.out]; exact ⟨(Chg.of_ext (of_drewE hE)).next hb, fb, rfl, hf.below hb, ((HX.out.ext (of_drewE hE) htr).below hb).thAt⟩⟩
    case s9 =>
      refine step_val (v := (.pointer (some ⟨tb, o, none⟩))) (fun av wv hE hS hO hD => ?_) (fun _ => rfl)
      have d3 : av.eval (.tmp 3) = (.pointer (some ⟨tb, o, none⟩)) := hD.1 rfl _ rfl
      have f3 := (ev_form av 3).symm.trans d3
      refine ⟨rfl, ?_⟩
      simp [go_sem, f3]
    intro a' w' hE hO hall
    have hA := act_of_outer (ds := [3, 4, 5, 6, 7, 8, 9, 10, 11, 12]) rfl hO (by kernel_rfl)
    have e3 : (fun u _ => u = (.pointer (some ⟨tb, o, none⟩))) (a'.eval (.tmp 3)) w' := hall.1 _ rfl
    have e4 : (fun u _ => u = (.pointer (some ⟨qb, 0, none⟩))) (a'.eval (.tmp 4)) w' := hall.2.1 _ rfl
    have e5 : (fun u _ => u = (.pointer (some ⟨qb, 0, none⟩))) (a'.eval (.tmp 5)) w' := hall.2.2.1 _ rfl
    have e6 : (fun u _ => u = (.pointer (some ⟨qb, 0, none⟩))) (a'.eval (.tmp 6)) w' := hall.2.2.2.1 _ rfl
    have e7 : (fun u _ => u = (.pointer (some ⟨rb, 0, none⟩))) (a'.eval (.tmp 7)) w' := hall.2.2.2.2.1 _ rfl
    have e8 : (fun u w' => ∃ fb, u = .tuple #[.int .u64 0, .iface 127 (.pointer (some ⟨fb, 0, none⟩))] ∧ FltB w' fb f.1 f.2 ∧ fb ≠ rb) (a'.eval (.tmp 8)) w' := hall.2.2.2.2.2.1 _ rfl
    have e9 : (fun u _ => u = (.int .u64 0)) (a'.eval (.tmp 9)) w' := hall.2.2.2.2.2.2.1 _ rfl
    have e10 : (fun u w' => ∃ fb, u = .iface 127 (.pointer (some ⟨fb, 0, none⟩)) ∧ FltB w' fb f.1 f.2 ∧ fb ≠ rb) (a'.eval (.tmp 10)) w' := hall.2.2.2.2.2.2.2.1 _ rfl
    have e11 : (fun _ _ => False) (a'.eval (.tmp 11)) w' := hall.2.2.2.2.2.2.2.2.1 _ rfl
    have e12 : (fun u _ => u = (.pointer (some ⟨tb, o, none⟩))) (a'.eval (.tmp 12)) w' := hall.2.2.2.2.2.2.2.2.2.1 _ rfl
    obtain ⟨v8, hv8⟩ : ∃ v, a'.eval (.tmp 8) = v := ⟨_, rfl⟩
    rw [hv8] at e8
    obtain ⟨v10, hv10⟩ : ∃ v, a'.eval (.tmp 10) = v := ⟨_, rfl⟩
    rw [hv10] at e10
    obtain ⟨v11, hv11⟩ : ∃ v, a'.eval (.tmp 11) = v := ⟨_, rfl⟩
    rw [hv11] at e11
    simp only [List.foldl_cons, List.foldl_nil, Act.put, List.setIfInBounds_toArray, List.set_cons_succ, List.set_cons_zero, e3, e4, e5, e6, e7, hv8, e9, hv10, hv11, e12] at hA
    clear hO hall e3 e4 e5 e6 e7 hv8 e9 hv10 hv11 e12
    subst hA
    exact e11.elim
  | ok y =>
    have HR : Hid ((gnum s key o).read x a = .ok (upd x o (.num y.1), y.2.2)) := Lib.hid (by simp only [gnum, rnum, hr])
    have HN : Hid (∀ w', Below w.heap.size w w' → Calls Tryz.prog 152 #[.pointer (some ⟨rb, 0, none⟩)] w' (fun e w2 => ∃ u, e = .returned u ∧ (u = .tuple #[.int .u64 y.1, .nilIface] ∧ RdB w2 rb s y.2.2 10240 ∧ ExtB (some rb) w' w2))) := Lib.hid (fun w' hb => (Num_tk w' B qb rb s a (H.out.below hb)).mono fun e w2 hh => by rw [hr] at hh; obtain ⟨h1, h2, h3⟩ := tkIs_ok hh; exact ⟨_, h1, rfl, h2, h3⟩)
    have hle : y.2.2 ≤ s.size := (tkR_bd (by decide) hr).1
    clear hr
    go_enter Tryz.func186, Tryz.ntmps186
    refine wp_region_tail 10 5 (some rb) (phis [fun u _ => u = (.pointer (some ⟨tb, o, none⟩)), fun u _ => u = (.pointer (some ⟨qb, 0, none⟩)), fun u _ => u = (.pointer (some ⟨qb, 0, none⟩)), fun u _ => u = (.pointer (some ⟨qb, 0, none⟩)), fun u _ => u = (.pointer (some ⟨rb, 0, none⟩)), fun u w' => u = .tuple #[.int .u64 y.1, .nilIface] ∧ RdB w' rb s y.2.2 10240, fun u _ => u = (.int .u64 y.1), fun u _ => u = (.nilIface), fun u _ => u = (.int .u64 y.1), fun u _ => u = (.pointer (some ⟨tb, o, none⟩))]) rfl (by kernel_rfl) (by kernel_rfl) (mono_of ⟨mono_eq, mono_eq, mono_eq, mono_eq, mono_eq, ?m5, mono_eq, mono_eq, mono_eq, mono_eq, trivial⟩) (steps_of 10 ⟨?s0, ?s1, ?s2, ?s3, ?s4, ?s5, ?s6, ?s7, ?s8, ?s9, trivial⟩) ?_
    case m5 =>
      exact ⟨fun u w1 w2 h ⟨h1, h2⟩ => ⟨h1, h2.below h⟩, fun hn => absurd rfl hn⟩
    case s0 =>
      refine step_val (v := (.pointer (some ⟨tb, o, none⟩))) (fun av wv hE hS hO hD => ?_) (fun _ => rfl)
      have h1 : av.eval (.tmp 1) = (.pointer (some ⟨bx, 0, none⟩)) := hO.2.2 1 rfl
      have f1 := (ev_form av 1).symm.trans h1
      have c1 := extB_cell hE (fun e => hbr (Option.some.inj e)) c1
      have c0 := extB_cell hE (fun e => hqr (Option.some.inj e)) c0
      refine ⟨rfl, ?_⟩
      simp [go_sem, f1, c1, c0]
    case s1 =>
      refine step_val (v := (.pointer (some ⟨qb, 0, none⟩))) (fun av wv hE hS hO hD => ?_) (fun _ => rfl)
      have h0 : av.eval (.tmp 0) = (.pointer (some ⟨qb, 0, none⟩)) := hO.2.2 0 rfl
      have f0 := (ev_form av 0).symm.trans h0
      refine ⟨rfl, ?_⟩
      simp [go_sem, f0]
    case s2 =>
      refine step_val (v := (.pointer (some ⟨qb, 0, none⟩))) (fun av wv hE hS hO hD => ?_) (fun _ => rfl)
      have d4 : av.eval (.tmp 4) = (.pointer (some ⟨qb, 0, none⟩)) := hD.1 rfl _ rfl
      have f4 := (ev_form av 4).symm.trans d4
      refine ⟨rfl, ?_⟩
      simp [go_sem, f4]
    case s3 =>
      refine step_val (v := (.pointer (some ⟨qb, 0, none⟩))) (fun av wv hE hS hO hD => ?_) (fun _ => rfl)
      have d5 : av.eval (.tmp 5) = (.pointer (some ⟨qb, 0, none⟩)) := hD.1 rfl _ rfl
      have f5 := (ev_form av 5).symm.trans d5
      refine ⟨rfl, ?_⟩
      simp [go_sem, f5]
    case s4 =>
      refine step_val (v := (.pointer (some ⟨rb, 0, none⟩))) (fun av wv hE hS hO hD => ?_) (fun _ => rfl)
      have d6 : av.eval (.tmp 6) = (.pointer (some ⟨qb, 0, none⟩)) := hD.1 rfl _ rfl
      have f6 := (ev_form av 6).symm.trans d6
      have c1 := extB_cell hE (fun e => hbr (Option.some.inj e)) c1
      have c0 := extB_cell hE (fun e => hqr (Option.some.inj e)) c0
      refine ⟨rfl, ?_⟩
      simp [go_sem, f6, c1, c0]
    case s5 =>
      refine step_wp (fun av wv hE hS hO hD => ?_)
      have d7 : av.eval (.tmp 7) = (.pointer (some ⟨rb, 0, none⟩)) := hD.1 rfl _ rfl
      have f7 := (ev_form av 7).symm.trans d7
      refine ⟨rfl, ?_⟩
      refine wp_of_callR (f := 152) (args := #[.pointer (some ⟨rb, 0, none⟩)]) (by simp [go_sem, f7]) (HN.out wv (bnext (bdrew (Below.refl _ _)) (hS rfl))) (fun u w2 ⟨h1, h2, h3⟩ => ⟨u, rfl, es_sp h3, h1, h2⟩)
    case s6 =>
      refine step_wp (fun av wv hE hS hO hD => ?_)
      have d8 : (fun u w' => u = .tuple #[.int .u64 y.1, .nilIface] ∧ RdB w' rb s y.2.2 10240) (av.eval (.tmp 8)) wv := hD.1 rfl _ rfl
      refine ⟨rfl, ?_⟩
      have f8 := (ev_form av 8).symm.trans d8.1
      exact wp_of_run (v := .int .u64 y.1) (by simp [go_sem, f8]) ⟨_, rfl, es_of_ext (Ext_refl _), rfl⟩
    case s7 =>
      refine step_wp (fun av wv hE hS hO hD => ?_)
      have d8 : (fun u w' => u = .tuple #[.int .u64 y.1, .nilIface] ∧ RdB w' rb s y.2.2 10240) (av.eval (.tmp 8)) wv := hD.1 rfl _ rfl
      refine ⟨rfl, ?_⟩
      have f8 := (ev_form av 8).symm.trans d8.1
      exact wp_of_run (v := .nilIface) (by simp [go_sem, f8]) ⟨_, rfl, es_of_ext (Ext_refl _), rfl⟩
    case s8 =>
      refine step_wp (fun av wv hE hS hO hD => ?_)
      have d9 : av.eval (.tmp 9) = (.int .u64 y.1) := hD.1 rfl _ rfl
      have f9 := (ev_form av 9).symm.trans d9
      have d10 : av.eval (.tmp 10) = (.nilIface) := hD.2.1 rfl _ rfl
      have f10 := (ev_form av 10).symm.trans d10
      refine ⟨rfl, ?_⟩
      refine wp_of_call (v := .int .u64 y.1) (by simp [go_sem, f9, f10]) ((wholeu_ok y.1 wv).mono (fun e w2 ⟨h1, h2⟩ => ⟨h1, by rw [h2]; exact Below.refl _ _⟩)) (fun w2 hb => ⟨_, rfl, es_of_ext hb, rfl⟩)
    case s9 =>
      refine step_val (v := (.pointer (some ⟨tb, o, none⟩))) (fun av wv hE hS hO hD => ?_) (fun _ => rfl)
      have d3 : av.eval (.tmp 3) = (.pointer (some ⟨tb, o, none⟩)) := hD.1 rfl _ rfl
      have f3 := (ev_form av 3).symm.trans d3
      refine ⟨rfl, ?_⟩
      simp [go_sem, f3]
    intro a' w' hE hO hall
    have hA := act_of_outer (ds := [3, 4, 5, 6, 7, 8, 9, 10, 11, 12]) rfl hO (by kernel_rfl)
    have e3 : (fun u _ => u = (.pointer (some ⟨tb, o, none⟩))) (a'.eval (.tmp 3)) w' := hall.1 _ rfl
    have e4 : (fun u _ => u = (.pointer (some ⟨qb, 0, none⟩))) (a'.eval (.tmp 4)) w' := hall.2.1 _ rfl
    have e5 : (fun u _ => u = (.pointer (some ⟨qb, 0, none⟩))) (a'.eval (.tmp 5)) w' := hall.2.2.1 _ rfl
    have e6 : (fun u _ => u = (.pointer (some ⟨qb, 0, none⟩))) (a'.eval (.tmp 6)) w' := hall.2.2.2.1 _ rfl
    have e7 : (fun u _ => u = (.pointer (some ⟨rb, 0, none⟩))) (a'.eval (.tmp 7)) w' := hall.2.2.2.2.1 _ rfl
    have e8 : (fun u w' => u = .tuple #[.int .u64 y.1, .nilIface] ∧ RdB w' rb s y.2.2 10240) (a'.eval (.tmp 8)) w' := hall.2.2.2.2.2.1 _ rfl
    have e9 : (fun u _ => u = (.int .u64 y.1)) (a'.eval (.tmp 9)) w' := hall.2.2.2.2.2.2.1 _ rfl
    have e10 : (fun u _ => u = (.nilIface)) (a'.eval (.tmp 10)) w' := hall.2.2.2.2.2.2.2.1 _ rfl
    have e11 : (fun u _ => u = (.int .u64 y.1)) (a'.eval (.tmp 11)) w' := hall.2.2.2.2.2.2.2.2.1 _ rfl
    have e12 : (fun u _ => u = (.pointer (some ⟨tb, o, none⟩))) (a'.eval (.tmp 12)) w' := hall.2.2.2.2.2.2.2.2.2.1 _ rfl
    obtain ⟨v8, hv8⟩ : ∃ v, a'.eval (.tmp 8) = v := ⟨_, rfl⟩
    rw [hv8] at e8
    simp only [List.foldl_cons, List.foldl_nil, Act.put, List.setIfInBounds_toArray, List.set_cons_succ, List.set_cons_zero, e3, e4, e5, e6, e7, hv8, e9, e10, e11, e12] at hA
    clear hO hall e3 e4 e5 e6 e7 hv8 e9 e10 e11 e12
    subst hA
    have HRD := Lib.hid e8.2
    have hX2 := HX.out.ext (of_drewE hE) htr
    obtain ⟨u, hu, -⟩ := hX2.get ho
    have hfz := hX2.free o
    have HX2 := Lib.hid hX2
    have HE := Lib.hid (of_drewE hE)
    have e81 := e8.1
    clear hE hX2 e8
    subst e81
    go_wp2
    go_end0
    rw [HR.out]
    exact ⟨(Chg.of_ext HE.out).set o _, rfl, block_setCell_ne HRD.out (by exact fun e => htr e.symm) _, hle, HX2.out.set ho rfl⟩
set_option maxRecDepth 100000 in
set_option maxHeartbeats 2000000 in
theorem flag3_any (B qb rb tb o bx : Nat) (T : TypeId) (n : Nat) (s key : ByteArray) (a : Nat) (x : Rcd) (w : World) (h1 : w.heap[bx]? = some (.cells #[.pointer (some ⟨tb, o, none⟩)] 179 (0, 0))) (hbr : bx ≠ rb) (htr : tb ≠ rb) (ho : o < n)
    (hx : RecAt rb tb T n w x) (h : RdEnv B w qb rb s a) : Calls Tryz.prog 189 #[.pointer (some ⟨qb, 0, none⟩), .pointer (some ⟨bx, 0, none⟩)] w (GetIs ((gflag s key o).read x a) rb tb T n s w) := by
  have H := Lib.hid h
  have HX := Lib.hid hx
  have hqr := h.ne
  have c0 : w.cell? ⟨qb, 0, none⟩ = some (.pointer (some ⟨rb, 0, none⟩)) := block_cell h.q 0
  have c1 : w.cell? ⟨bx, 0, none⟩ = some (.pointer (some ⟨tb, o, none⟩)) := block_cell h1 0
  clear h1 hx h
  cases hr : tkR 0 s a with
  | error f =>
    have HR : Hid ((gflag s key o).read x a = .error f) := Lib.hid (by simp only [gflag, rnum, hr])
    have HN : Hid (∀ w', Below w.heap.size w w' → Calls Tryz.prog 152 #[.pointer (some ⟨rb, 0, none⟩)] w' (fun e w2 => ∃ u, e = .returned u ∧ ((∃ fb, u = .tuple #[.int .u64 0, .iface 127 (.pointer (some ⟨fb, 0, none⟩))] ∧ FltB w2 fb f.1 f.2 ∧ fb ≠ rb) ∧ ExtB (some rb) w' w2))) := Lib.hid (fun w' hb => (Num_tk w' B qb rb s a (H.out.below hb)).mono fun e w2 hh => by rw [hr] at hh; obtain ⟨fb, h1, h2, h3, h4⟩ := tkIs_err hh; exact ⟨_, h1, ⟨fb, rfl, h2, by have := lt_of_block H.out.r; have := hb.size; omega⟩, h3⟩)
    clear hr
    go_enter Tryz.func189, Tryz.ntmps189
    refine wp_region_tail 11 5 (some rb) (phis [fun u _ => u = (.pointer (some ⟨tb, o, none⟩)), fun u _ => u = (.pointer (some ⟨qb, 0, none⟩)), fun u _ => u = (.pointer (some ⟨qb, 0, none⟩)), fun u _ => u = (.pointer (some ⟨qb, 0, none⟩)), fun u _ => u = (.pointer (some ⟨rb, 0, none⟩)), fun u w' => ∃ fb, u = .tuple #[.int .u64 0, .iface 127 (.pointer (some ⟨fb, 0, none⟩))] ∧ FltB w' fb f.1 f.2 ∧ fb ≠ rb, fun u _ => u = (.int .u64 0), fun u w' => ∃ fb, u = .iface 127 (.pointer (some ⟨fb, 0, none⟩)) ∧ FltB w' fb f.1 f.2 ∧ fb ≠ rb, fun _ _ => False, fun _ _ => True, fun u _ => u = (.pointer (some ⟨tb, o, none⟩))]) rfl (by kernel_rfl) (by kernel_rfl) (mono_of ⟨mono_eq, mono_eq, mono_eq, mono_eq, mono_eq, ?m5, mono_eq, ?m7, mono_eq, mono_eq, mono_eq, trivial⟩) (steps_of 11 ⟨?s0, ?s1, ?s2, ?s3, ?s4, ?s5, ?s6, ?s7, ?s8, ?s9, ?s10, trivial⟩) ?_
    case m5 =>
      exact ⟨fun u w1 w2 h ⟨fb, h1, h2, h3⟩ => ⟨fb, h1, h2.below h, h3⟩, fun hn => absurd rfl hn⟩
    case m7 =>
      exact ⟨fun u w1 w2 h ⟨fb, h1, h2, h3⟩ => ⟨fb, h1, h2.below h, h3⟩, fun _ u w1 w2 h ⟨fb, h1, h2, h3⟩ => ⟨fb, h1, extB_block h (fun e => h3 (Option.some.inj e)) h2, h3⟩⟩
    case s0 =>
      refine step_val (v := (.pointer (some ⟨tb, o, none⟩))) (fun av wv hE hS hO hD => ?_) (fun _ => rfl)
      have h1 : av.eval (.tmp 1) = (.pointer (some ⟨bx, 0, none⟩)) := hO.2.2 1 rfl
      have f1 := (ev_form av 1).symm.trans h1
      have c1 := extB_cell hE (fun e => hbr (Option.some.inj e)) c1
      have c0 := extB_cell hE (fun e => hqr (Option.some.inj e)) c0
      refine ⟨rfl, ?_⟩
      simp [go_sem, f1, c1, c0]
    case s1 =>
      refine step_val (v := (.pointer (some ⟨qb, 0, none⟩))) (fun av wv hE hS hO hD => ?_) (fun _ => rfl)
      have h0 : av.eval (.tmp 0) = (.pointer (some ⟨qb, 0, none⟩)) := hO.2.2 0 rfl
      have f0 := (ev_form av 0).symm.trans h0
      refine ⟨rfl, ?_⟩
      simp [go_sem, f0]
    case s2 =>
      refine step_val (v := (.pointer (some ⟨qb, 0, none⟩))) (fun av wv hE hS hO hD => ?_) (fun _ => rfl)
      have d4 : av.eval (.tmp 4) = (.pointer (some ⟨qb, 0, none⟩)) := hD.1 rfl _ rfl
      have f4 := (ev_form av 4).symm.trans d4
      refine ⟨rfl, ?_⟩
      simp [go_sem, f4]
    case s3 =>
      refine step_val (v := (.pointer (some ⟨qb, 0, none⟩))) (fun av wv hE hS hO hD => ?_) (fun _ => rfl)
      have d5 : av.eval (.tmp 5) = (.pointer (some ⟨qb, 0, none⟩)) := hD.1 rfl _ rfl
      have f5 := (ev_form av 5).symm.trans d5
      refine ⟨rfl, ?_⟩
      simp [go_sem, f5]
    case s4 =>
      refine step_val (v := (.pointer (some ⟨rb, 0, none⟩))) (fun av wv hE hS hO hD => ?_) (fun _ => rfl)
      have d6 : av.eval (.tmp 6) = (.pointer (some ⟨qb, 0, none⟩)) := hD.1 rfl _ rfl
      have f6 := (ev_form av 6).symm.trans d6
      have c1 := extB_cell hE (fun e => hbr (Option.some.inj e)) c1
      have c0 := extB_cell hE (fun e => hqr (Option.some.inj e)) c0
      refine ⟨rfl, ?_⟩
      simp [go_sem, f6, c1, c0]
    case s5 =>
      refine step_wp (fun av wv hE hS hO hD => ?_)
      have d7 : av.eval (.tmp 7) = (.pointer (some ⟨rb, 0, none⟩)) := hD.1 rfl _ rfl
      have f7 := (ev_form av 7).symm.trans d7
      refine ⟨rfl, ?_⟩
      refine wp_of_callR (f := 152) (args := #[.pointer (some ⟨rb, 0, none⟩)]) (by simp [go_sem, f7]) (HN.out wv (bnext (bdrew (Below.refl _ _)) (hS rfl))) (fun u w2 ⟨h1, h3⟩ => ⟨u, rfl, es_sp h3, h1⟩)
    case s6 =>
      refine step_wp (fun av wv hE hS hO hD => ?_)
      have d8 : (fun u w' => ∃ fb, u = .tuple #[.int .u64 0, .iface 127 (.pointer (some ⟨fb, 0, none⟩))] ∧ FltB w' fb f.1 f.2 ∧ fb ≠ rb) (av.eval (.tmp 8)) wv := hD.1 rfl _ rfl
      refine ⟨rfl, ?_⟩
      obtain ⟨fb, hu8, -, -⟩ := d8
      have f8 := (ev_form av 8).symm.trans hu8
      exact wp_of_run (v := .int .u64 0) (by simp [go_sem, f8]) ⟨_, rfl, es_of_ext (Ext_refl _), rfl⟩
    case s7 =>
      refine step_wp (fun av wv hE hS hO hD => ?_)
      have d8 : (fun u w' => ∃ fb, u = .tuple #[.int .u64 0, .iface 127 (.pointer (some ⟨fb, 0, none⟩))] ∧ FltB w' fb f.1 f.2 ∧ fb ≠ rb) (av.eval (.tmp 8)) wv := hD.1 rfl _ rfl
      refine ⟨rfl, ?_⟩
      obtain ⟨fb, hu8, hf8, hn8⟩ := d8
      have f8 := (ev_form av 8).symm.trans hu8
      exact wp_of_run (v := .iface 127 (.pointer (some ⟨fb, 0, none⟩))) (by simp [go_sem, f8]) ⟨_, rfl, es_of_ext (Ext_refl _), fb, rfl, hf8, hn8⟩
    case s8 =>
      refine step_wp (fun av wv hE hS hO hD => ?_)
      have d9 : av.eval (.tmp 9) = (.int .u64 0) := hD.1 rfl _ rfl
      have f9 := (ev_form av 9).symm.trans d9
      have d10 : (fun u w' => ∃ fb, u = .iface 127 (.pointer (some ⟨fb, 0, none⟩)) ∧ FltB w' fb f.1 f.2 ∧ fb ≠ rb) (av.eval (.tmp 10)) wv := hD.2.1 rfl _ rfl
      refine ⟨rfl, ?_⟩
      obtain ⟨fb, hu10, hf, hn8⟩ := d10
      have f10 := (ev_form av 10).symm.trans hu10
      refine wp_of_panic (chain := stopC fb) (by simp [go_sem, f9, f10]) ((wholeu_no 0 fb wv).mono (fun e w2 ⟨h1, h2⟩ => ⟨h1, by rw [h2]; exact Below.refl _ _⟩)) (fun w2 hb => ?_)
      exact ⟨hO.1, by rw [HR.out]; exact ⟨(Chg.of_ext (of_drewE hE)).next hb, fb, rfl, hf.below hb, ((HX.out.ext (of_drewE hE) htr).below hb).thAt⟩⟩
    case s9 =>
      refine step_wp (fun av wv hE hS hO hD => ?_)
      have d11 : (fun _ _ => False) (av.eval (.tmp 11)) wv := hD.1 rfl _ rfl
      refine ⟨rfl, ?_⟩
      exact d11.elim
    case s10 =>
      refine step_val (v := (.pointer (some ⟨tb, o, none⟩))) (fun av wv hE hS hO hD => ?_) (fun _ => rfl)
      have d3 : av.eval (.tmp 3) = (.pointer (some ⟨tb, o, none⟩)) := hD.1 rfl _ rfl
      have f3 := (ev_form av 3).symm.trans d3
      refine ⟨rfl, ?_⟩
      simp [go_sem, f3]
    intro a' w' hE hO hall
    have hA := act_of_outer (ds := [3, 4, 5, 6, 7, 8, 9, 10, 11, 12, 13]) rfl hO (by kernel_rfl)
    have e3 : (fun u _ => u = (.pointer (some ⟨tb, o, none⟩))) (a'.eval (.tmp 3)) w' := hall.1 _ rfl
    have e4 : (fun u _ => u = (.pointer (some ⟨qb, 0, none⟩))) (a'.eval (.tmp 4)) w' := hall.2.1 _ rfl
    have e5 : (fun u _ => u = (.pointer (some ⟨qb, 0, none⟩))) (a'.eval (.tmp 5)) w' := hall.2.2.1 _ rfl
    have e6 : (fun u _ => u = (.pointer (some ⟨qb, 0, none⟩))) (a'.eval (.tmp 6)) w' := hall.2.2.2.1 _ rfl
    have e7 : (fun u _ => u = (.pointer (some ⟨rb, 0, none⟩))) (a'.eval (.tmp 7)) w' := hall.2.2.2.2.1 _ rfl
    have e8 : (fun u w' => ∃ fb, u = .tuple #[.int .u64 0, .iface 127 (.pointer (some ⟨fb, 0, none⟩))] ∧ FltB w' fb f.1 f.2 ∧ fb ≠ rb) (a'.eval (.tmp 8)) w' := hall.2.2.2.2.2.1 _ rfl
    have e9 : (fun u _ => u = (.int .u64 0)) (a'.eval (.tmp 9)) w' := hall.2.2.2.2.2.2.1 _ rfl
    have e10 : (fun u w' => ∃ fb, u = .iface 127 (.pointer (some ⟨fb, 0, none⟩)) ∧ FltB w' fb f.1 f.2 ∧ fb ≠ rb) (a'.eval (.tmp 10)) w' := hall.2.2.2.2.2.2.2.1 _ rfl
    have e11 : (fun _ _ => False) (a'.eval (.tmp 11)) w' := hall.2.2.2.2.2.2.2.2.1 _ rfl
    have e12 : (fun _ _ => True) (a'.eval (.tmp 12)) w' := hall.2.2.2.2.2.2.2.2.2.1 _ rfl
    have e13 : (fun u _ => u = (.pointer (some ⟨tb, o, none⟩))) (a'.eval (.tmp 13)) w' := hall.2.2.2.2.2.2.2.2.2.2.1 _ rfl
    obtain ⟨v8, hv8⟩ : ∃ v, a'.eval (.tmp 8) = v := ⟨_, rfl⟩
    rw [hv8] at e8
    obtain ⟨v10, hv10⟩ : ∃ v, a'.eval (.tmp 10) = v := ⟨_, rfl⟩
    rw [hv10] at e10
    obtain ⟨v11, hv11⟩ : ∃ v, a'.eval (.tmp 11) = v := ⟨_, rfl⟩
    rw [hv11] at e11
    obtain ⟨v12, hv12⟩ : ∃ v, a'.eval (.tmp 12) = v := ⟨_, rfl⟩
    rw [hv12] at e12
    simp only [List.foldl_cons, List.foldl_nil, Act.put, List.setIfInBounds_toArray, List.set_cons_succ, List.set_cons_zero, e3, e4, e5, e6, e7, hv8, e9, hv10, hv11, hv12, e13] at hA
    clear hO hall e3 e4 e5 e6 e7 hv8 e9 hv10 hv11 hv12 e13
    subst hA
    exact e11.elim
  | ok y =>
    have HR : Hid ((gflag s key o).read x a = .ok (upd x o (.flag (y.1 == 1)), y.2.2)) := Lib.hid (by simp only [gflag, rnum, hr])
    have HN : Hid (∀ w', Below w.heap.size w w' → Calls Tryz.prog 152 #[.pointer (some ⟨rb, 0, none⟩)] w' (fun e w2 => ∃ u, e = .returned u ∧ (u = .tuple #[.int .u64 y.1, .nilIface] ∧ RdB w2 rb s y.2.2 10240 ∧ ExtB (some rb) w' w2))) := Lib.hid (fun w' hb => (Num_tk w' B qb rb s a (H.out.below hb)).mono fun e w2 hh => by rw [hr] at hh; obtain ⟨h1, h2, h3⟩ := tkIs_ok hh; exact ⟨_, h1, rfl, h2, h3⟩)
    have hle : y.2.2 ≤ s.size := (tkR_bd (by decide) hr).1
    clear hr
    go_enter Tryz.func189, Tryz.ntmps189
    refine wp_region_tail 11 5 (some rb) (phis [fun u _ => u = (.pointer (some ⟨tb, o, none⟩)), fun u _ => u = (.pointer (some ⟨qb, 0, none⟩)), fun u _ => u = (.pointer (some ⟨qb, 0, none⟩)), fun u _ => u = (.pointer (some ⟨qb, 0, none⟩)), fun u _ => u = (.pointer (some ⟨rb, 0, none⟩)), fun u w' => u = .tuple #[.int .u64 y.1, .nilIface] ∧ RdB w' rb s y.2.2 10240, fun u _ => u = (.int .u64 y.1), fun u _ => u = (.nilIface), fun u _ => u = (.int .u64 y.1), fun u _ => u = (.bool (y.1 == 1)), fun u _ => u = (.pointer (some ⟨tb, o, none⟩))]) rfl (by kernel_rfl) (by kernel_rfl) (mono_of ⟨mono_eq, mono_eq, mono_eq, mono_eq, mono_eq, ?m5, mono_eq, mono_eq, mono_eq, mono_eq, mono_eq, trivial⟩) (steps_of 11 ⟨?s0, ?s1, ?s2, ?s3, ?s4, ?s5, ?s6, ?s7, ?s8, ?s9, ?s10, trivial⟩) ?_
    case m5 =>
      exact ⟨fun u w1 w2 h ⟨h1, h2⟩ => ⟨h1, h2.below h⟩, fun hn => absurd rfl hn⟩
    case s0 =>
      refine step_val (v := (.pointer (some ⟨tb, o, none⟩))) (fun av wv hE hS hO hD => ?_) (fun _ => rfl)
      have h1 : av.eval (.tmp 1) = (.pointer (some ⟨bx, 0, none⟩)) := hO.2.2 1 rfl
      have f1 := (ev_form av 1).symm.trans h1
      have c1 := extB_cell hE (fun e => hbr (Option.some.inj e)) c1
      have c0 := extB_cell hE (fun e => hqr (Option.some.inj e)) c0
      refine ⟨rfl, ?_⟩
      simp [go_sem, f1, c1, c0]
    case s1 =>
      refine step_val (v := (.pointer (some ⟨qb, 0, none⟩))) (fun av wv hE hS hO hD => ?_) (fun _ => rfl)
      have h0 : av.eval (.tmp 0) = (.pointer (some ⟨qb, 0, none⟩)) := hO.2.2 0 rfl
      have f0 := (ev_form av 0).symm.trans h0
      refine ⟨rfl, ?_⟩
      simp [go_sem, f0]
    case s2 =>
      refine step_val (v := (.pointer (some ⟨qb, 0, none⟩))) (fun av wv hE hS hO hD => ?_) (fun _ => rfl)
      have d4 : av.eval (.tmp 4) = (.pointer (some ⟨qb, 0, none⟩)) := hD.1 rfl _ rfl
      have f4 := (ev_form av 4).symm.trans d4
      refine ⟨rfl, ?_⟩
      simp [go_sem, f4]
    case s3 =>
      refine step_val (v := (.pointer (some ⟨qb, 0, none⟩))) (fun av wv hE hS hO hD => ?_) (fun _ => rfl)
      have d5 : av.eval (.tmp 5) = (.pointer (some ⟨qb, 0, none⟩)) := hD.1 rfl _ rfl
      have f5 := (ev_form av 5).symm.trans d5
      refine ⟨rfl, ?_⟩
      simp [go_sem, f5]
    case s4 =>
      refine step_val (v := (.pointer (some ⟨rb, 0, none⟩))) (fun av wv hE hS hO hD => ?_) (fun _ => rfl)
      have d6 : av.eval (.tmp 6) = (.pointer (some ⟨qb, 0, none⟩)) := hD.1 rfl _ rfl
      have f6 := (ev_form av 6).symm.trans d6
      have c1 := extB_cell hE (fun e => hbr (Option.some.inj e)) c1
      have c0 := extB_cell hE (fun e => hqr (Option.some.inj e)) c0
      refine ⟨rfl, ?_⟩
      simp [go_sem, f6, c1, c0]
    case s5 =>
      refine step_wp (fun av wv hE hS hO hD => ?_)
      have d7 : av.eval (.tmp 7) = (.pointer (some ⟨rb, 0, none⟩)) := hD.1 rfl _ rfl
      have f7 := (ev_form av 7).symm.trans d7
      refine ⟨rfl, ?_⟩
      refine wp_of_callR (f := 152) (args := #[.pointer (some ⟨rb, 0, none⟩)]) (by simp [go_sem, f7]) (HN.out wv (bnext (bdrew (Below.refl _ _)) (hS rfl))) (fun u w2 ⟨h1, h2, h3⟩ => ⟨u, rfl, es_sp h3, h1, h2⟩)
    case s6 =>
      refine step_wp (fun av wv hE hS hO hD => ?_)
      have d8 : (fun u w' => u = .tuple #[.int .u64 y.1, .nilIface] ∧ RdB w' rb s y.2.2 10240) (av.eval (.tmp 8)) wv := hD.1 rfl _ rfl
      refine ⟨rfl, ?_⟩
      have f8 := (ev_form av 8).symm.trans d8.1
      exact wp_of_run (v := .int .u64 y.1) (by simp [go_sem, f8]) ⟨_, rfl, es_of_ext (Ext_refl _), rfl⟩
    case s7 =>
      refine step_wp (fun av wv hE hS hO hD => ?_)
      have d8 : (fun u w' => u = .tuple #[.int .u64 y.1, .nilIface] ∧ RdB w' rb s y.2.2 10240) (av.eval (.tmp 8)) wv := hD.1 rfl _ rfl
      refine ⟨rfl, ?_⟩
      have f8 := (ev_form av 8).symm.trans d8.1
      exact wp_of_run (v := .nilIface) (by simp [go_sem, f8]) ⟨_, rfl, es_of_ext (Ext_refl _), rfl⟩
    case s8 =>
      refine step_wp (fun av wv hE hS hO hD => ?_)
      have d9 : av.eval (.tmp 9) = (.int .u64 y.1) := hD.1 rfl _ rfl
      have f9 := (ev_form av 9).symm.trans d9
      have d10 : av.eval (.tmp 10) = (.nilIface) := hD.2.1 rfl _ rfl
      have f10 := (ev_form av 10).symm.trans d10
      refine ⟨rfl, ?_⟩
      refine wp_of_call (v := .int .u64 y.1) (by simp [go_sem, f9, f10]) ((wholeu_ok y.1 wv).mono (fun e w2 ⟨h1, h2⟩ => ⟨h1, by rw [h2]; exact Below.refl _ _⟩)) (fun w2 hb => ⟨_, rfl, es_of_ext hb, rfl⟩)
    case s9 =>
      refine step_val (v := (.bool (y.1 == 1))) (fun av wv hE hS hO hD => ?_) (fun _ => rfl)
      have d11 : av.eval (.tmp 11) = (.int .u64 y.1) := hD.1 rfl _ rfl
      have f11 := (ev_form av 11).symm.trans d11
      refine ⟨rfl, ?_⟩
      simp [go_sem, f11]
    case s10 =>
      refine step_val (v := (.pointer (some ⟨tb, o, none⟩))) (fun av wv hE hS hO hD => ?_) (fun _ => rfl)
      have d3 : av.eval (.tmp 3) = (.pointer (some ⟨tb, o, none⟩)) := hD.1 rfl _ rfl
      have f3 := (ev_form av 3).symm.trans d3
      refine ⟨rfl, ?_⟩
      simp [go_sem, f3]
    intro a' w' hE hO hall
    have hA := act_of_outer (ds := [3, 4, 5, 6, 7, 8, 9, 10, 11, 12, 13]) rfl hO (by kernel_rfl)
    have e3 : (fun u _ => u = (.pointer (some ⟨tb, o, none⟩))) (a'.eval (.tmp 3)) w' := hall.1 _ rfl
    have e4 : (fun u _ => u = (.pointer (some ⟨qb, 0, none⟩))) (a'.eval (.tmp 4)) w' := hall.2.1 _ rfl
    have e5 : (fun u _ => u = (.pointer (some ⟨qb, 0, none⟩))) (a'.eval (.tmp 5)) w' := hall.2.2.1 _ rfl
    have e6 : (fun u _ => u = (.pointer (some ⟨qb, 0, none⟩))) (a'.eval (.tmp 6)) w' := hall.2.2.2.1 _ rfl
    have e7 : (fun u _ => u = (.pointer (some ⟨rb, 0, none⟩))) (a'.eval (.tmp 7)) w' := hall.2.2.2.2.1 _ rfl
    have e8 : (fun u w' => u = .tuple #[.int .u64 y.1, .nilIface] ∧ RdB w' rb s y.2.2 10240) (a'.eval (.tmp 8)) w' := hall.2.2.2.2.2.1 _ rfl
    have e9 : (fun u _ => u = (.int .u64 y.1)) (a'.eval (.tmp 9)) w' := hall.2.2.2.2.2.2.1 _ rfl
    have e10 : (fun u _ => u = (.nilIface)) (a'.eval (.tmp 10)) w' := hall.2.2.2.2.2.2.2.1 _ rfl
    have e11 : (fun u _ => u = (.int .u64 y.1)) (a'.eval (.tmp 11)) w' := hall.2.2.2.2.2.2.2.2.1 _ rfl
    have e12 : (fun u _ => u = (.bool (y.1 == 1))) (a'.eval (.tmp 12)) w' := hall.2.2.2.2.2.2.2.2.2.1 _ rfl
    have e13 : (fun u _ => u = (.pointer (some ⟨tb, o, none⟩))) (a'.eval (.tmp 13)) w' := hall.2.2.2.2.2.2.2.2.2.2.1 _ rfl
    obtain ⟨v8, hv8⟩ : ∃ v, a'.eval (.tmp 8) = v := ⟨_, rfl⟩
    rw [hv8] at e8
    simp only [List.foldl_cons, List.foldl_nil, Act.put, List.setIfInBounds_toArray, List.set_cons_succ, List.set_cons_zero, e3, e4, e5, e6, e7, hv8, e9, e10, e11, e12, e13] at hA
    clear hO hall e3 e4 e5 e6 e7 hv8 e9 e10 e11 e12 e13
    subst hA
    have HRD := Lib.hid e8.2
    have hX2 := HX.out.ext (of_drewE hE) htr
    obtain ⟨u, hu, -⟩ := hX2.get ho
    have hfz := hX2.free o
    have HX2 := Lib.hid hX2
    have HE := Lib.hid (of_drewE hE)
    have e81 := e8.1
    clear hE hX2 e8
    subst e81
    go_wp2
    go_end0
    rw [HR.out]
    exact ⟨(Chg.of_ext HE.out).set o _, rfl, block_setCell_ne HRD.out (by exact fun e => htr e.symm) _, hle, HX2.out.set ho rfl⟩
theorem rdig_le {s : ByteArray} {a : Nat} {y : ByteArray × Nat} (h : rdig s a = .ok y) : y.2 ≤ s.size := by
  unfold rdig at h
  split at h
  · cases h
  · next x hx =>
    split at h
    · cases h; exact (tkR_bd (by decide) hx).1
    · cases h
set_option maxRecDepth 100000 in
set_option maxHeartbeats 2000000 in
theorem digest4_any (B qb rb tb o bx : Nat) (T : TypeId) (n : Nat) (s key : ByteArray) (a : Nat) (x : Rcd) (w : World) (h1 : w.heap[bx]? = some (.cells #[.pointer (some ⟨tb, o, none⟩)] 181 (0, 0))) (hbr : bx ≠ rb) (htr : tb ≠ rb) (ho : o < n)
    (hx : RecAt rb tb T n w x) (h : RdEnv B w qb rb s a) : Calls Tryz.prog 194 #[.pointer (some ⟨qb, 0, none⟩), .pointer (some ⟨bx, 0, none⟩)] w (GetIs ((gdig s key o).read x a) rb tb T n s w) := by
  have H := Lib.hid h
  have HX := Lib.hid hx
  have hqr := h.ne
  have c0 : w.cell? ⟨qb, 0, none⟩ = some (.pointer (some ⟨rb, 0, none⟩)) := block_cell h.q 0
  have c1 : w.cell? ⟨bx, 0, none⟩ = some (.pointer (some ⟨tb, o, none⟩)) := block_cell h1 0
  clear h1 hx h
  cases hr : rdig s a with
  | error f =>
    have HR : Hid ((gdig s key o).read x a = .error f) := Lib.hid (by simp only [gdig, hr])
    have HN : Hid (∀ w', Below w.heap.size w w' → Calls Tryz.prog 195 #[.pointer (some ⟨qb, 0, none⟩)] w' (fun e w2 => ∃ fb, e = .panicked (stopC fb) ∧ (FltB w2 fb f.1 f.2 ∧ ExtB (some rb) w' w2))) := Lib.hid (fun w' hb => (dgRead_any B qb rb s a w' (H.out.below hb)).mono fun e w2 hh => by rw [hr] at hh; obtain ⟨fb, h1, h2, h3⟩ := vIs_err hh; exact ⟨fb, h1, h2, h3⟩)
    clear hr
    go_enter Tryz.func194, Tryz.ntmps194
    refine wp_region_tail 4 2 (some rb) (phis [fun u _ => u = (.pointer (some ⟨tb, o, none⟩)), fun u _ => u = (.pointer (some ⟨qb, 0, none⟩)), fun _ _ => False, fun u _ => u = (.pointer (some ⟨tb, o, none⟩))]) rfl (by kernel_rfl) (by kernel_rfl) (mono_of ⟨mono_eq, mono_eq, mono_eq, mono_eq, trivial⟩) (steps_of 4 ⟨?s0, ?s1, ?s2, ?s3, trivial⟩) ?_
    case s0 =>
      refine step_val (v := (.pointer (some ⟨tb, o, none⟩))) (fun av wv hE hS hO hD => ?_) (fun _ => rfl)
      have h1 : av.eval (.tmp 1) = (.pointer (some ⟨bx, 0, none⟩)) := hO.2.2 1 rfl
      have f1 := (ev_form av 1).symm.trans h1
      have c1 := extB_cell hE (fun e => hbr (Option.some.inj e)) c1
      have c0 := extB_cell hE (fun e => hqr (Option.some.inj e)) c0
      refine ⟨rfl, ?_⟩
      simp [go_sem, f1, c1, c0]
    case s1 =>
      refine step_val (v := (.pointer (some ⟨qb, 0, none⟩))) (fun av wv hE hS hO hD => ?_) (fun _ => rfl)
      have h0 : av.eval (.tmp 0) = (.pointer (some ⟨qb, 0, none⟩)) := hO.2.2 0 rfl
      have f0 := (ev_form av 0).symm.trans h0
      refine ⟨rfl, ?_⟩
      simp [go_sem, f0]
    case s2 =>
      refine step_wp (fun av wv hE hS hO hD => ?_)
      have d4 : av.eval (.tmp 4) = (.pointer (some ⟨qb, 0, none⟩)) := hD.1 rfl _ rfl
      have f4 := (ev_form av 4).symm.trans d4
      refine ⟨rfl, ?_⟩
      refine wp_of_panicR (f := 195) (args := #[.pointer (some ⟨qb, 0, none⟩)]) (by simp [go_sem, f4]) (HN.out wv (bnext (bdrew (Below.refl _ _)) (hS rfl))) (fun fb w2 ⟨hf, hE2⟩ => ?_)
      exact ⟨hO.1, by rw [HR.out]; exact ⟨(Chg.of_ext (of_drewE hE)).ext hE2, fb, rfl, hf, ((HX.out.ext (of_drewE hE) htr).ext hE2 htr).thAt⟩⟩
    case s3 =>
      refine step_val (v := (.pointer (some ⟨tb, o, none⟩))) (fun av wv hE hS hO hD => ?_) (fun _ => rfl)
      have d3 : av.eval (.tmp 3) = (.pointer (some ⟨tb, o, none⟩)) := hD.1 rfl _ rfl
      have f3 := (ev_form av 3).symm.trans d3
      refine ⟨rfl, ?_⟩
      simp [go_sem, f3]
    intro a' w' hE hO hall
    have hA := act_of_outer (ds := [3, 4, 5, 6]) rfl hO (by kernel_rfl)
    have e3 : (fun u _ => u = (.pointer (some ⟨tb, o, none⟩))) (a'.eval (.tmp 3)) w' := hall.1 _ rfl
    have e4 : (fun u _ => u = (.pointer (some ⟨qb, 0, none⟩))) (a'.eval (.tmp 4)) w' := hall.2.1 _ rfl
    have e5 : (fun _ _ => False) (a'.eval (.tmp 5)) w' := hall.2.2.1 _ rfl
    have e6 : (fun u _ => u = (.pointer (some ⟨tb, o, none⟩))) (a'.eval (.tmp 6)) w' := hall.2.2.2.1 _ rfl
    obtain ⟨v5, hv5⟩ : ∃ v, a'.eval (.tmp 5) = v := ⟨_, rfl⟩
    rw [hv5] at e5
    simp only [List.foldl_cons, List.foldl_nil, Act.put, List.setIfInBounds_toArray, List.set_cons_succ, List.set_cons_zero, e3, e4, hv5, e6] at hA
    clear hO hall e3 e4 hv5 e6
    subst hA
    exact e5.elim
  | ok y =>
    have HR : Hid ((gdig s key o).read x a = .ok (upd x o (.str y.1), y.2)) := Lib.hid (by simp only [gdig, hr])
    have HN : Hid (∀ w', Below w.heap.size w w' → Calls Tryz.prog 195 #[.pointer (some ⟨qb, 0, none⟩)] w' (fun e w2 => ∃ u, e = .returned u ∧ (u = .string y.1 ∧ RdB w2 rb s y.2 10240 ∧ ExtB (some rb) w' w2))) := Lib.hid (fun w' hb => (dgRead_any B qb rb s a w' (H.out.below hb)).mono fun e w2 hh => by rw [hr] at hh; obtain ⟨h1, h2, h4, h3⟩ := vIs_ok hh; exact ⟨_, h1, rfl, h2, h3⟩)
    have hle : y.2 ≤ s.size := rdig_le hr
    clear hr
    go_enter Tryz.func194, Tryz.ntmps194
    refine wp_region_tail 4 2 (some rb) (phis [fun u _ => u = (.pointer (some ⟨tb, o, none⟩)), fun u _ => u = (.pointer (some ⟨qb, 0, none⟩)), fun u w' => u = .string y.1 ∧ RdB w' rb s y.2 10240, fun u _ => u = (.pointer (some ⟨tb, o, none⟩))]) rfl (by kernel_rfl) (by kernel_rfl) (mono_of ⟨mono_eq, mono_eq, ?m2, mono_eq, trivial⟩) (steps_of 4 ⟨?s0, ?s1, ?s2, ?s3, trivial⟩) ?_
    case m2 =>
      exact ⟨fun u w1 w2 h ⟨h1, h2⟩ => ⟨h1, h2.below h⟩, fun hn => absurd rfl hn⟩
    case s0 =>
      refine step_val (v := (.pointer (some ⟨tb, o, none⟩))) (fun av wv hE hS hO hD => ?_) (fun _ => rfl)
      have h1 : av.eval (.tmp 1) = (.pointer (some ⟨bx, 0, none⟩)) := hO.2.2 1 rfl
      have f1 := (ev_form av 1).symm.trans h1
      have c1 := extB_cell hE (fun e => hbr (Option.some.inj e)) c1
      have c0 := extB_cell hE (fun e => hqr (Option.some.inj e)) c0
      refine ⟨rfl, ?_⟩
      simp [go_sem, f1, c1, c0]
    case s1 =>
      refine step_val (v := (.pointer (some ⟨qb, 0, none⟩))) (fun av wv hE hS hO hD => ?_) (fun _ => rfl)
      have h0 : av.eval (.tmp 0) = (.pointer (some ⟨qb, 0, none⟩)) := hO.2.2 0 rfl
      have f0 := (ev_form av 0).symm.trans h0
      refine ⟨rfl, ?_⟩
      simp [go_sem, f0]
    case s2 =>
      refine step_wp (fun av wv hE hS hO hD => ?_)
      have d4 : av.eval (.tmp 4) = (.pointer (some ⟨qb, 0, none⟩)) := hD.1 rfl _ rfl
      have f4 := (ev_form av 4).symm.trans d4
      refine ⟨rfl, ?_⟩
      refine wp_of_callR (f := 195) (args := #[.pointer (some ⟨qb, 0, none⟩)]) (by simp [go_sem, f4]) (HN.out wv (bnext (bdrew (Below.refl _ _)) (hS rfl))) (fun u w2 ⟨h1, h2, h3⟩ => ⟨u, rfl, es_sp h3, h1, h2⟩)
    case s3 =>
      refine step_val (v := (.pointer (some ⟨tb, o, none⟩))) (fun av wv hE hS hO hD => ?_) (fun _ => rfl)
      have d3 : av.eval (.tmp 3) = (.pointer (some ⟨tb, o, none⟩)) := hD.1 rfl _ rfl
      have f3 := (ev_form av 3).symm.trans d3
      refine ⟨rfl, ?_⟩
      simp [go_sem, f3]
    intro a' w' hE hO hall
    have hA := act_of_outer (ds := [3, 4, 5, 6]) rfl hO (by kernel_rfl)
    have e3 : (fun u _ => u = (.pointer (some ⟨tb, o, none⟩))) (a'.eval (.tmp 3)) w' := hall.1 _ rfl
    have e4 : (fun u _ => u = (.pointer (some ⟨qb, 0, none⟩))) (a'.eval (.tmp 4)) w' := hall.2.1 _ rfl
    have e5 : (fun u w' => u = .string y.1 ∧ RdB w' rb s y.2 10240) (a'.eval (.tmp 5)) w' := hall.2.2.1 _ rfl
    have e6 : (fun u _ => u = (.pointer (some ⟨tb, o, none⟩))) (a'.eval (.tmp 6)) w' := hall.2.2.2.1 _ rfl
    obtain ⟨v5, hv5⟩ : ∃ v, a'.eval (.tmp 5) = v := ⟨_, rfl⟩
    rw [hv5] at e5
    simp only [List.foldl_cons, List.foldl_nil, Act.put, List.setIfInBounds_toArray, List.set_cons_succ, List.set_cons_zero, e3, e4, hv5, e6] at hA
    clear hO hall e3 e4 hv5 e6
    subst hA
    have HRD := Lib.hid e5.2
    have hX2 := HX.out.ext (of_drewE hE) htr
    obtain ⟨u, hu, -⟩ := hX2.get ho
    have hfz := hX2.free o
    have HX2 := Lib.hid hX2
    have HE := Lib.hid (of_drewE hE)
    have e51 := e5.1
    clear hE hX2 e5
    subst e51
    go_wp2
    go_end0
    rw [HR.out]
    exact ⟨(Chg.of_ext HE.out).set o _, rfl, block_setCell_ne HRD.out (by exact fun e => htr e.symm) _, hle, HX2.out.set ho rfl⟩
end Go.Proofs.YtihiaopilnjonaaGreatDoor

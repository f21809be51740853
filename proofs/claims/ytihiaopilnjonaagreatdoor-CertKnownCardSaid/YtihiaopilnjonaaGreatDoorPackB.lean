/- Package pack: a row lays a number (head's inner function). -/
import Derived.Test.YtihiaopilnjonaaGreatDoorPackA
namespace Go.Proofs.YtihiaopilnjonaaGreatDoor
open Go.RowKit
set_option linter.unusedSimpArgs false
set_option linter.unusedVariables false

structure PRow.Ok (r : PRow) (n : Int) : Prop where
  b0 : 0 ≤ r.below
  b1 : r.below ≤ 18446744073709551615
  f0 : 0 ≤ r.first
  f1 : r.first ≤ 255
  s0 : 0 ≤ r.size
  s1 : r.size ≤ 8
  fit : r.size = 0 → (n < r.below ∨ r.below = 0) → r.first + n ≤ 255
def Head1Is (r : PRow) (n : Int) (s : ByteArray) (b base : Nat) (w : World) (e : Ending) (w' : World) : Prop :=
  e = .returned (.bool (decide (n < r.below ∨ r.below = 0))) ∧ WrB w' b base (if n < r.below ∨ r.below = 0 then s ++ baL (rowB r n) else s) ∧ WK base b w w'

theorem hi_next (n : Int) (k i : Nat) (h : i < k) : (hiL n k).take (k - i) = (hiL n k).take (k - (i + 1)) ++ [n / 256 ^ i % 256] := by
  have hl := hiL_len n k
  have key : ∀ k, i < k → (hiL n k)[k - (i + 1)]? = some (n / 256 ^ i % 256) := by
    intro k
    induction k with
    | zero => intro h; omega
    | succ k ih =>
      intro h
      rw [hiL]
      by_cases e : i = k
      · subst e; simp
      · have h2 := ih (by omega)
        rw [show k + 1 - (i + 1) = (k - (i + 1)) + 1 by omega, List.getElem?_cons_succ]; exact h2
  have h3 := key k h
  rw [show k - i = k - (i + 1) + 1 by omega, List.take_add_one, h3]; rfl

set_option maxRecDepth 100000 in
set_option maxHeartbeats 4000000 in
theorem head1_any (r : PRow) (bn bw b base : Nat) (n : Int) (s : ByteArray) (w : World) (hn : w.heap[bn]? = some (.cells #[.int .u64 n] 23 (0, 0))) (hw : w.heap[bw]? = some (.cells #[.pointer (some ⟨b, 0, none⟩)] 166 (0, 0)))
    (hW : WrB w b base s) (h0 : 0 ≤ n) (h1 : n ≤ 18446744073709551615) (hr : r.Ok n) (hs : s.size ≤ 70000000000000) :
    Calls Tryz.prog 255 #[r.val, .pointer (some ⟨bn, 0, none⟩), .pointer (some ⟨bw, 0, none⟩)] w (Head1Is r n s b base w) := by
  have HR := Lib.hid hr
  have HN := Lib.hid hn
  have HW2 := Lib.hid hw
  have HWR := Lib.hid hW
  have cn := block_cell hn 0
  have cw := block_cell hw 0
  simp only [List.getElem?_toArray, List.getElem?_cons_zero] at cn cw
  have lbn := lt_of_block hn
  have lbw := lt_of_block hw
  clear hr hn hw hW
  unfold PRow.val
  by_cases hx : n < r.below ∨ r.below = 0
  · have HX : Hid (decide (n < r.below ∨ r.below = 0) = true) := Lib.hid (decide_eq_true hx)
    have hcase : decide (r.below ≤ n) = false ∨ (decide (r.below ≤ n) = true ∧ decide (0 < r.below) = false) := by
      rcases hx with h | h
      · exact .inl (decide_eq_false (by omega))
      · exact .inr ⟨decide_eq_true (by omega), decide_eq_false (by omega)⟩
    have HCS := Lib.hid hcase
    have hfit := fun h => HR.out.fit h hx
    have HFIT := Lib.hid hfit
    have HIF : Hid ((if n < r.below ∨ r.below = 0 then s ++ baL (rowB r n) else s) = s ++ baL (rowB r n)) := Lib.hid (if_pos hx)
    have f0 := HR.out.f0
    have f1 := HR.out.f1
    have s0 := HR.out.s0
    have s1 := HR.out.s1
    clear hx hfit hcase
    obtain ⟨hbase, v, hv, hown⟩ := HWR.out
    have n8w : Not8 (.cells #[v] 265 (0, 0)) := not8_cells (by decide)
    have n8n : Not8 (.cells #[.int .u64 n] 23 (0, 0)) := not8_cells (by decide)
    have n8b : Not8 (.cells #[.pointer (some ⟨b, 0, none⟩)] 166 (0, 0)) := not8_cells (by decide)
    have n8r : Not8 (.cells #[.int .u64 r.below, .int .u8 r.first, .int .i64 r.size] 332 (0, 0)) := not8_cells (by decide)
    obtain ⟨i0, hi, hz0, hz1, hz2⟩ := info_parts info_u8
    have cb := block_cell hv 0
    simp only [List.getElem?_toArray, List.getElem?_cons_zero] at cb
    have HV := Lib.hid hv
    have HOWN0 := Lib.hid hown
    have hltb := HWR.out.lt
    have HBS : Hid (base ≤ w.heap.size) := Lib.hid (by omega)
    clear hv hown
    have hcs := HCS.out
    clear HCS
    rcases hcs with g1 | ⟨g1, g2⟩
    · skip
      go_enter Tryz.func255, Tryz.ntmps255
      by_cases hsz : r.size = 0
      · have e0 : (r.size == 0) = true := by simpa using hsz
        have HSZ := Lib.hid hsz
        clear hsz
        go_upto_region 4 with fail
        obtain ⟨br, hbr⟩ : ∃ br, w.heap.size = br := ⟨_, rfl⟩
        obtain ⟨V, hV⟩ : ∃ V, w.alloc (.cells #[.int .u64 r.below, .int .u8 r.first, .int .i64 r.size] 332) = V := ⟨_, rfl⟩
        have VB : Hid (Below w.heap.size w V) := Lib.hid (by rw [← hV]; exact balloc (Below.refl _ _) _)
        have VR : Hid (V.heap[br]? = some (.cells #[.int .u64 r.below, .int .u8 r.first, .int .i64 r.size] 332 (0, 0))) := Lib.hid (by rw [← hV, ← hbr]; exact heap_alloc_new _ _)
        have VN : Hid (V.heap[bn]? = some (.cells #[.int .u64 n] 23 (0, 0))) := Lib.hid ((VB.out.block _ (lt_of_block HN.out)).trans HN.out)
        have VW : Hid (V.heap[bw]? = some (.cells #[.pointer (some ⟨b, 0, none⟩)] 166 (0, 0))) := Lib.hid ((VB.out.block _ (lt_of_block HW2.out)).trans HW2.out)
        have VV : Hid (V.heap[b]? = some (.cells #[v] 265 (0, 0))) := Lib.hid ((VB.out.block _ hltb).trans HV.out)
        have HOWN := Lib.hid (own_below HOWN0.out VB.out)
        have HQ : Hid (∀ g, v.ownBlock = some g → base ≤ g ∧ g < V.heap.size) := Lib.hid (fun g hg => HOWN.out.lt g hg)
        have n1 := own_not8 HOWN.out VN.out n8n
        have n2 := own_not8 HOWN.out VW.out n8b
        have n3 := own_not8 HOWN.out VR.out n8r
        have n4 := own_not8 HOWN.out VV.out n8w
        have c1 : V.cell? ⟨bn, 0, none⟩ = some (.int .u64 n) := block_cell VN.out 0
        have c2 : V.cell? ⟨bw, 0, none⟩ = some (.pointer (some ⟨b, 0, none⟩)) := block_cell VW.out 0
        have c3 : V.cell? ⟨br, 1, none⟩ = some (.int .u8 r.first) := block_cell VR.out 1
        have c4 : V.cell? ⟨b, 0, none⟩ = some v := block_cell VV.out 0
        have hbV : base ≤ V.heap.size := Nat.le_trans hbase (Nat.le_of_lt (lt_of_block VV.out))
        obtain ⟨y, hy⟩ : ∃ y, r.first + n = y := ⟨_, rfl⟩
        have hy1 : y ≤ 255 := by rw [← hy]; exact HFIT.out HSZ.out
        have y0 : IntKind.u8.wrap n = n := IntWalk.u8_in _ (by omega)
        have y1 : IntKind.u8.wrap (r.first + n) = y := by rw [hy]; exact IntWalk.u8_in _ (by omega)
        have hy0 : 0 ≤ y := by omega
        have HY := Lib.hid hy
        rw [hbr]
        try rw [hV]
        clear hV hbr hy cn cw cb
        --REGION (*sextant/pack.Writer).head$1 4 ph4
        refine wp_region_tail 14 11 (v.ownBlock) (phis [fun u _ => u = (.pointer (some ⟨b, 0, none⟩)), fun u _ => u = (.pointer (some ⟨b, 0, none⟩)), fun u _ => u = (.pointer (some ⟨b, 0, none⟩)), fun u _ => u = (.pointer (some ⟨b, 0, none⟩)), fun u _ => u = (v), fun u _ => u = (.pointer (some ⟨br, 1, none⟩)), fun u _ => u = (.int .u8 r.first), fun u _ => u = (.int .u64 n), fun u _ => u = (.int .u8 n), fun u _ => u = (.int .u8 y), fun u w' => ∃ b, u = .slice (some ⟨b, 0, none⟩) 1 1 ∧ some b ≠ v.ownBlock ∧ w'.heap[b]? = some (.cells ([.int .u8 y]).toArray 5 (0, 0)), fun u w' => w'.ownsRow (base) 5 1 u (s.size + 1) (Lib.strCells s ++ [.int .u8 y]), fun u _ => u = (.pointer (some ⟨b, 0, none⟩)), fun u _ => u = (.pointer (some ⟨b, 0, none⟩))]) rfl (by kernel_rfl) (by kernel_rfl) (mono_of ⟨mono_eq, mono_eq, mono_eq, mono_eq, mono_eq, mono_eq, mono_eq, mono_eq, mono_eq, mono_eq, ?m10, ?m11, mono_eq, mono_eq, trivial⟩) (steps_of 14 ⟨?s0, ?s1, ?s2, ?s3, ?s4, ?s5, ?s6, ?s7, ?s8, ?s9, ?s10, ?s11, ?s12, ?s13, trivial⟩) ?_
        case m10 =>
          exact ⟨fun u w1 w' h ⟨b, h1, hb, hb'⟩ => ⟨b, h1, hb, ext_block h hb'⟩, fun _ u w1 w' h ⟨b, h1, hb, hb'⟩ => ⟨b, h1, hb, extB_block h hb hb'⟩⟩
        case m11 =>
          exact ⟨fun u w1 w' h hu => own_below hu h, fun hn => absurd rfl hn⟩
        case s0 =>
          refine step_val (v := (.pointer (some ⟨b, 0, none⟩))) (fun av wv hE hS hO hD => ?_) (fun _ => rfl)
          have h2 : av.eval (.tmp 2) = (.pointer (some ⟨bw, 0, none⟩)) := hO.2.2 2 rfl
          have f2 := (ev_form av 2).symm.trans h2
          have c1 := extB_cell hE n1 c1
          have c2 := extB_cell hE n2 c2
          have c3 := extB_cell hE n3 c3
          have c4 := extB_cell hE n4 c4
          refine ⟨rfl, ?_⟩
          simp [go_sem, f2, c1, c2, c3, c4, y0, y1]
        case s1 =>
          refine step_val (v := (.pointer (some ⟨b, 0, none⟩))) (fun av wv hE hS hO hD => ?_) (fun _ => rfl)
          have h2 : av.eval (.tmp 2) = (.pointer (some ⟨bw, 0, none⟩)) := hO.2.2 2 rfl
          have f2 := (ev_form av 2).symm.trans h2
          have c1 := extB_cell hE n1 c1
          have c2 := extB_cell hE n2 c2
          have c3 := extB_cell hE n3 c3
          have c4 := extB_cell hE n4 c4
          refine ⟨rfl, ?_⟩
          simp [go_sem, f2, c1, c2, c3, c4, y0, y1]
        case s2 =>
          refine step_val (v := (.pointer (some ⟨b, 0, none⟩))) (fun av wv hE hS hO hD => ?_) (fun _ => rfl)
          have d19 : av.eval (.tmp 19) = (.pointer (some ⟨b, 0, none⟩)) := hD.1 rfl _ rfl
          have f19 := (ev_form av 19).symm.trans d19
          refine ⟨rfl, ?_⟩
          simp [go_sem, f19, y0, y1]
        case s3 =>
          refine step_val (v := (.pointer (some ⟨b, 0, none⟩))) (fun av wv hE hS hO hD => ?_) (fun _ => rfl)
          have d20 : av.eval (.tmp 20) = (.pointer (some ⟨b, 0, none⟩)) := hD.1 rfl _ rfl
          have f20 := (ev_form av 20).symm.trans d20
          refine ⟨rfl, ?_⟩
          simp [go_sem, f20, y0, y1]
        case s4 =>
          refine step_val (v := (v)) (fun av wv hE hS hO hD => ?_) (fun _ => rfl)
          have d21 : av.eval (.tmp 21) = (.pointer (some ⟨b, 0, none⟩)) := hD.1 rfl _ rfl
          have f21 := (ev_form av 21).symm.trans d21
          have c1 := extB_cell hE n1 c1
          have c2 := extB_cell hE n2 c2
          have c3 := extB_cell hE n3 c3
          have c4 := extB_cell hE n4 c4
          refine ⟨rfl, ?_⟩
          simp [go_sem, f21, c1, c2, c3, c4, y0, y1]
        case s5 =>
          refine step_val (v := (.pointer (some ⟨br, 1, none⟩))) (fun av wv hE hS hO hD => ?_) (fun _ => rfl)
          have h3 : av.eval (.tmp 3) = (.pointer (some ⟨br, 0, none⟩)) := hO.2.2 3 rfl
          have f3 := (ev_form av 3).symm.trans h3
          refine ⟨rfl, ?_⟩
          simp [go_sem, f3, y0, y1]
        case s6 =>
          refine step_val (v := (.int .u8 r.first)) (fun av wv hE hS hO hD => ?_) (fun _ => rfl)
          have d23 : av.eval (.tmp 23) = (.pointer (some ⟨br, 1, none⟩)) := hD.1 rfl _ rfl
          have f23 := (ev_form av 23).symm.trans d23
          have c1 := extB_cell hE n1 c1
          have c2 := extB_cell hE n2 c2
          have c3 := extB_cell hE n3 c3
          have c4 := extB_cell hE n4 c4
          refine ⟨rfl, ?_⟩
          simp [go_sem, f23, c1, c2, c3, c4, y0, y1]
        case s7 =>
          refine step_val (v := (.int .u64 n)) (fun av wv hE hS hO hD => ?_) (fun _ => rfl)
          have h1 : av.eval (.tmp 1) = (.pointer (some ⟨bn, 0, none⟩)) := hO.2.2 1 rfl
          have f1 := (ev_form av 1).symm.trans h1
          have c1 := extB_cell hE n1 c1
          have c2 := extB_cell hE n2 c2
          have c3 := extB_cell hE n3 c3
          have c4 := extB_cell hE n4 c4
          refine ⟨rfl, ?_⟩
          simp [go_sem, f1, c1, c2, c3, c4, y0, y1]
        case s8 =>
          refine step_val (v := (.int .u8 n)) (fun av wv hE hS hO hD => ?_) (fun _ => rfl)
          have d25 : av.eval (.tmp 25) = (.int .u64 n) := hD.1 rfl _ rfl
          have f25 := (ev_form av 25).symm.trans d25
          refine ⟨rfl, ?_⟩
          simp [go_sem, f25, y0, y1]
        case s9 =>
          refine step_val (v := (.int .u8 y)) (fun av wv hE hS hO hD => ?_) (fun _ => rfl)
          have d24 : av.eval (.tmp 24) = (.int .u8 r.first) := hD.1 rfl _ rfl
          have f24 := (ev_form av 24).symm.trans d24
          have d26 : av.eval (.tmp 26) = (.int .u8 n) := hD.2.1 rfl _ rfl
          have f26 := (ev_form av 26).symm.trans d26
          refine ⟨rfl, ?_⟩
          simp [go_sem, f24, f26, y0, y1]
        case s10 =>
          refine step_wp (fun av wv hE hS hO hD => ?_)
          have d27 : av.eval (.tmp 27) = (.int .u8 y) := hD.1 rfl _ rfl
          have f27 := (ev_form av 27).symm.trans d27
          refine ⟨rfl, ?_⟩
          refine wp_of_run (v := .slice (some ⟨wv.heap.size, 0, none⟩) 1 1) (w' := wv.alloc (.cells ([.int .u8 y]).toArray 5)) (by first | (simp [go_sem, f27, y0, y1]; done) | (simp [go_sem, f27, y0, y1]; rfl)) ⟨_, rfl, es_of_ext (balloc (Ext_refl _) _), wv.heap.size, rfl, ?_, heap_alloc_new _ _⟩
          exact fun e => absurd (HQ.out _ e.symm).2 (by have := hE.size; simp at this; omega)
        case s11 =>
          refine step_wp (fun av wv hE hS hO hD => ?_)
          have d22 : av.eval (.tmp 22) = (v) := hD.1 rfl _ rfl
          have f22 := (ev_form av 22).symm.trans d22
          have d28 : (fun u w' => ∃ b, u = .slice (some ⟨b, 0, none⟩) 1 1 ∧ some b ≠ v.ownBlock ∧ w'.heap[b]? = some (.cells ([.int .u8 y]).toArray 5 (0, 0))) (av.eval (.tmp 28)) wv := hD.2.1 rfl _ rfl
          refine ⟨rfl, ?_⟩
          obtain ⟨bS, hS1, hbS, hcS⟩ := d28
          have hown1 : wv.ownsRow (base) 5 1 (v) (s.size) (Lib.strCells s) := own_below (w := World.drew _) (HOWN.out) (hS rfl)
          refine wp_append_lies wv _ _ _ rfl (base) 5 i0 (.int .u8 0) 1 1 Tryz.underlying106 hi hz0 hz1 hz2 rfl (by decide) (v) (s.size) _ d22 hown1 ⟨bS, 0, none⟩ 1 1 ([.int .u8 y]) (by exact hS1) rfl (World.news_of_block hcS) (one_u8 _) (by decide) (by unfold maxLen; omega) (by omega) (by have := hE.size; simp at this; omega) _ rfl ?_
          intro g cap1 w2 hown2 hgrow hat hlt2
          exact ⟨_, rfl, es_sp hgrow, hown2⟩
        case s12 =>
          refine step_val (v := (.pointer (some ⟨b, 0, none⟩))) (fun av wv hE hS hO hD => ?_) (fun _ => rfl)
          have d18 : av.eval (.tmp 18) = (.pointer (some ⟨b, 0, none⟩)) := hD.1 rfl _ rfl
          have f18 := (ev_form av 18).symm.trans d18
          refine ⟨rfl, ?_⟩
          simp [go_sem, f18, y0, y1]
        case s13 =>
          refine step_val (v := (.pointer (some ⟨b, 0, none⟩))) (fun av wv hE hS hO hD => ?_) (fun _ => rfl)
          have d30 : av.eval (.tmp 30) = (.pointer (some ⟨b, 0, none⟩)) := hD.1 rfl _ rfl
          have f30 := (ev_form av 30).symm.trans d30
          refine ⟨rfl, ?_⟩
          simp [go_sem, f30, y0, y1]
        intro a' w' hE hO hall
        have hA := act_of_outer (ds := [18, 19, 20, 21, 22, 23, 24, 25, 26, 27, 28, 29, 30, 31]) rfl hO (by kernel_rfl)
        have e18 : (fun u _ => u = (.pointer (some ⟨b, 0, none⟩))) (a'.eval (.tmp 18)) w' := hall.1 _ rfl
        have e19 : (fun u _ => u = (.pointer (some ⟨b, 0, none⟩))) (a'.eval (.tmp 19)) w' := hall.2.1 _ rfl
        have e20 : (fun u _ => u = (.pointer (some ⟨b, 0, none⟩))) (a'.eval (.tmp 20)) w' := hall.2.2.1 _ rfl
        have e21 : (fun u _ => u = (.pointer (some ⟨b, 0, none⟩))) (a'.eval (.tmp 21)) w' := hall.2.2.2.1 _ rfl
        have e22 : (fun u _ => u = (v)) (a'.eval (.tmp 22)) w' := hall.2.2.2.2.1 _ rfl
        have e23 : (fun u _ => u = (.pointer (some ⟨br, 1, none⟩))) (a'.eval (.tmp 23)) w' := hall.2.2.2.2.2.1 _ rfl
        have e24 : (fun u _ => u = (.int .u8 r.first)) (a'.eval (.tmp 24)) w' := hall.2.2.2.2.2.2.1 _ rfl
        have e25 : (fun u _ => u = (.int .u64 n)) (a'.eval (.tmp 25)) w' := hall.2.2.2.2.2.2.2.1 _ rfl
        have e26 : (fun u _ => u = (.int .u8 n)) (a'.eval (.tmp 26)) w' := hall.2.2.2.2.2.2.2.2.1 _ rfl
        have e27 : (fun u _ => u = (.int .u8 y)) (a'.eval (.tmp 27)) w' := hall.2.2.2.2.2.2.2.2.2.1 _ rfl
        have e28 : (fun u w' => ∃ b, u = .slice (some ⟨b, 0, none⟩) 1 1 ∧ some b ≠ v.ownBlock ∧ w'.heap[b]? = some (.cells ([.int .u8 y]).toArray 5 (0, 0))) (a'.eval (.tmp 28)) w' := hall.2.2.2.2.2.2.2.2.2.2.1 _ rfl
        have e29 : (fun u w' => w'.ownsRow (base) 5 1 u (s.size + 1) (Lib.strCells s ++ [.int .u8 y])) (a'.eval (.tmp 29)) w' := hall.2.2.2.2.2.2.2.2.2.2.2.1 _ rfl
        have e30 : (fun u _ => u = (.pointer (some ⟨b, 0, none⟩))) (a'.eval (.tmp 30)) w' := hall.2.2.2.2.2.2.2.2.2.2.2.2.1 _ rfl
        have e31 : (fun u _ => u = (.pointer (some ⟨b, 0, none⟩))) (a'.eval (.tmp 31)) w' := hall.2.2.2.2.2.2.2.2.2.2.2.2.2.1 _ rfl
        obtain ⟨v28, hv28⟩ : ∃ v, a'.eval (.tmp 28) = v := ⟨_, rfl⟩
        rw [hv28] at e28
        obtain ⟨v29, hv29⟩ : ∃ v, a'.eval (.tmp 29) = v := ⟨_, rfl⟩
        rw [hv29] at e29
        simp only [List.foldl_cons, List.foldl_nil, Act.put, List.setIfInBounds_toArray, List.set_cons_succ, List.set_cons_zero, e18, e19, e20, e21, e22, e23, e24, e25, e26, e27, hv28, hv29, e30, e31] at hA
        clear hO hall e18 e19 e20 e21 e22 e23 e24 e25 e26 e27 hv28 hv29 e30 e31
        subst hA
        --ENDREGION
        obtain ⟨ga, gc, rfl⟩ := own_slice e29
        have hst := wr_step (s' := s ++ baL [toB y]) hbase VV.out HOWN.out hE (by rw [baL_one]; exact e29) (by rw [strCells_app, strCells_one hy0 hy1])
        have HST := Lib.hid hst
        have hc4 := hst.1
        have hf4 := hst.2.1
        clear hst hE e29
        go_wp2
        go_ret
        refine ⟨ret_bool HX.out.symm, ?_, (WK.of_below VB.out HBS.out).trans HST.out.2.2.2⟩
        rw [HIF.out]
        have e4 : rowB r n = [toB y] := by unfold rowB; rw [if_pos HSZ.out, HY.out]
        rw [e4]; exact HST.out.2.2.1
      · have e0 : (r.size == 0) = false := by simpa using hsz
        have HSZ := Lib.hid hsz
        clear hsz
        go_upto_region 6 with fail
        obtain ⟨br, hbr⟩ : ∃ br, w.heap.size = br := ⟨_, rfl⟩
        obtain ⟨V, hV⟩ : ∃ V, w.alloc (.cells #[.int .u64 r.below, .int .u8 r.first, .int .i64 r.size] 332) = V := ⟨_, rfl⟩
        have VB : Hid (Below w.heap.size w V) := Lib.hid (by rw [← hV]; exact balloc (Below.refl _ _) _)
        have VR : Hid (V.heap[br]? = some (.cells #[.int .u64 r.below, .int .u8 r.first, .int .i64 r.size] 332 (0, 0))) := Lib.hid (by rw [← hV, ← hbr]; exact heap_alloc_new _ _)
        have VN : Hid (V.heap[bn]? = some (.cells #[.int .u64 n] 23 (0, 0))) := Lib.hid ((VB.out.block _ (lt_of_block HN.out)).trans HN.out)
        have VW : Hid (V.heap[bw]? = some (.cells #[.pointer (some ⟨b, 0, none⟩)] 166 (0, 0))) := Lib.hid ((VB.out.block _ (lt_of_block HW2.out)).trans HW2.out)
        have VV : Hid (V.heap[b]? = some (.cells #[v] 265 (0, 0))) := Lib.hid ((VB.out.block _ hltb).trans HV.out)
        have HOWN := Lib.hid (own_below HOWN0.out VB.out)
        have HQ : Hid (∀ g, v.ownBlock = some g → base ≤ g ∧ g < V.heap.size) := Lib.hid (fun g hg => HOWN.out.lt g hg)
        have n1 := own_not8 HOWN.out VN.out n8n
        have n2 := own_not8 HOWN.out VW.out n8b
        have n3 := own_not8 HOWN.out VR.out n8r
        have n4 := own_not8 HOWN.out VV.out n8w
        have c1 : V.cell? ⟨bn, 0, none⟩ = some (.int .u64 n) := block_cell VN.out 0
        have c2 : V.cell? ⟨bw, 0, none⟩ = some (.pointer (some ⟨b, 0, none⟩)) := block_cell VW.out 0
        have c3 : V.cell? ⟨br, 1, none⟩ = some (.int .u8 r.first) := block_cell VR.out 1
        have c4 : V.cell? ⟨b, 0, none⟩ = some v := block_cell VV.out 0
        have hbV : base ≤ V.heap.size := Nat.le_trans hbase (Nat.le_of_lt (lt_of_block VV.out))
        rw [hbr]
        try rw [hV]
        clear hV hbr cn cw cb
        --REGION (*sextant/pack.Writer).head$1 6 ph6
        refine wp_region_tail 11 8 (v.ownBlock) (phis [fun u _ => u = (.pointer (some ⟨b, 0, none⟩)), fun u _ => u = (.pointer (some ⟨b, 0, none⟩)), fun u _ => u = (.pointer (some ⟨b, 0, none⟩)), fun u _ => u = (.pointer (some ⟨b, 0, none⟩)), fun u _ => u = (v), fun u _ => u = (.pointer (some ⟨br, 1, none⟩)), fun u _ => u = (.int .u8 r.first), fun u w' => ∃ b, u = .slice (some ⟨b, 0, none⟩) 1 1 ∧ some b ≠ v.ownBlock ∧ w'.heap[b]? = some (.cells ([.int .u8 r.first]).toArray 5 (0, 0)), fun u w' => w'.ownsRow (base) 5 1 u (s.size + 1) (Lib.strCells s ++ [.int .u8 r.first]), fun u _ => u = (.pointer (some ⟨b, 0, none⟩)), fun u _ => u = (.pointer (some ⟨b, 0, none⟩))]) rfl (by kernel_rfl) (by kernel_rfl) (mono_of ⟨mono_eq, mono_eq, mono_eq, mono_eq, mono_eq, mono_eq, mono_eq, ?m7, ?m8, mono_eq, mono_eq, trivial⟩) (steps_of 11 ⟨?s0, ?s1, ?s2, ?s3, ?s4, ?s5, ?s6, ?s7, ?s8, ?s9, ?s10, trivial⟩) ?_
        case m7 =>
          exact ⟨fun u w1 w' h ⟨b, h1, hb, hb'⟩ => ⟨b, h1, hb, ext_block h hb'⟩, fun _ u w1 w' h ⟨b, h1, hb, hb'⟩ => ⟨b, h1, hb, extB_block h hb hb'⟩⟩
        case m8 =>
          exact ⟨fun u w1 w' h hu => own_below hu h, fun hn => absurd rfl hn⟩
        case s0 =>
          refine step_val (v := (.pointer (some ⟨b, 0, none⟩))) (fun av wv hE hS hO hD => ?_) (fun _ => rfl)
          have h2 : av.eval (.tmp 2) = (.pointer (some ⟨bw, 0, none⟩)) := hO.2.2 2 rfl
          have f2 := (ev_form av 2).symm.trans h2
          have c1 := extB_cell hE n1 c1
          have c2 := extB_cell hE n2 c2
          have c3 := extB_cell hE n3 c3
          have c4 := extB_cell hE n4 c4
          refine ⟨rfl, ?_⟩
          simp [go_sem, f2, c1, c2, c3, c4]
        case s1 =>
          refine step_val (v := (.pointer (some ⟨b, 0, none⟩))) (fun av wv hE hS hO hD => ?_) (fun _ => rfl)
          have h2 : av.eval (.tmp 2) = (.pointer (some ⟨bw, 0, none⟩)) := hO.2.2 2 rfl
          have f2 := (ev_form av 2).symm.trans h2
          have c1 := extB_cell hE n1 c1
          have c2 := extB_cell hE n2 c2
          have c3 := extB_cell hE n3 c3
          have c4 := extB_cell hE n4 c4
          refine ⟨rfl, ?_⟩
          simp [go_sem, f2, c1, c2, c3, c4]
        case s2 =>
          refine step_val (v := (.pointer (some ⟨b, 0, none⟩))) (fun av wv hE hS hO hD => ?_) (fun _ => rfl)
          have d33 : av.eval (.tmp 33) = (.pointer (some ⟨b, 0, none⟩)) := hD.1 rfl _ rfl
          have f33 := (ev_form av 33).symm.trans d33
          refine ⟨rfl, ?_⟩
          simp [go_sem, f33]
        case s3 =>
          refine step_val (v := (.pointer (some ⟨b, 0, none⟩))) (fun av wv hE hS hO hD => ?_) (fun _ => rfl)
          have d34 : av.eval (.tmp 34) = (.pointer (some ⟨b, 0, none⟩)) := hD.1 rfl _ rfl
          have f34 := (ev_form av 34).symm.trans d34
          refine ⟨rfl, ?_⟩
          simp [go_sem, f34]
        case s4 =>
          refine step_val (v := (v)) (fun av wv hE hS hO hD => ?_) (fun _ => rfl)
          have d35 : av.eval (.tmp 35) = (.pointer (some ⟨b, 0, none⟩)) := hD.1 rfl _ rfl
          have f35 := (ev_form av 35).symm.trans d35
          have c1 := extB_cell hE n1 c1
          have c2 := extB_cell hE n2 c2
          have c3 := extB_cell hE n3 c3
          have c4 := extB_cell hE n4 c4
          refine ⟨rfl, ?_⟩
          simp [go_sem, f35, c1, c2, c3, c4]
        case s5 =>
          refine step_val (v := (.pointer (some ⟨br, 1, none⟩))) (fun av wv hE hS hO hD => ?_) (fun _ => rfl)
          have h3 : av.eval (.tmp 3) = (.pointer (some ⟨br, 0, none⟩)) := hO.2.2 3 rfl
          have f3 := (ev_form av 3).symm.trans h3
          refine ⟨rfl, ?_⟩
          simp [go_sem, f3]
        case s6 =>
          refine step_val (v := (.int .u8 r.first)) (fun av wv hE hS hO hD => ?_) (fun _ => rfl)
          have d37 : av.eval (.tmp 37) = (.pointer (some ⟨br, 1, none⟩)) := hD.1 rfl _ rfl
          have f37 := (ev_form av 37).symm.trans d37
          have c1 := extB_cell hE n1 c1
          have c2 := extB_cell hE n2 c2
          have c3 := extB_cell hE n3 c3
          have c4 := extB_cell hE n4 c4
          refine ⟨rfl, ?_⟩
          simp [go_sem, f37, c1, c2, c3, c4]
        case s7 =>
          refine step_wp (fun av wv hE hS hO hD => ?_)
          have d38 : av.eval (.tmp 38) = (.int .u8 r.first) := hD.1 rfl _ rfl
          have f38 := (ev_form av 38).symm.trans d38
          refine ⟨rfl, ?_⟩
          refine wp_of_run (v := .slice (some ⟨wv.heap.size, 0, none⟩) 1 1) (w' := wv.alloc (.cells ([.int .u8 r.first]).toArray 5)) (by first | (simp [go_sem, f38]; done) | (simp [go_sem, f38]; rfl)) ⟨_, rfl, es_of_ext (balloc (Ext_refl _) _), wv.heap.size, rfl, ?_, heap_alloc_new _ _⟩
          exact fun e => absurd (HQ.out _ e.symm).2 (by have := hE.size; simp at this; omega)
        case s8 =>
          refine step_wp (fun av wv hE hS hO hD => ?_)
          have d36 : av.eval (.tmp 36) = (v) := hD.1 rfl _ rfl
          have f36 := (ev_form av 36).symm.trans d36
          have d39 : (fun u w' => ∃ b, u = .slice (some ⟨b, 0, none⟩) 1 1 ∧ some b ≠ v.ownBlock ∧ w'.heap[b]? = some (.cells ([.int .u8 r.first]).toArray 5 (0, 0))) (av.eval (.tmp 39)) wv := hD.2.1 rfl _ rfl
          refine ⟨rfl, ?_⟩
          obtain ⟨bS, hS1, hbS, hcS⟩ := d39
          have hown1 : wv.ownsRow (base) 5 1 (v) (s.size) (Lib.strCells s) := own_below (w := World.drew _) (HOWN.out) (hS rfl)
          refine wp_append_lies wv _ _ _ rfl (base) 5 i0 (.int .u8 0) 1 1 Tryz.underlying106 hi hz0 hz1 hz2 rfl (by decide) (v) (s.size) _ d36 hown1 ⟨bS, 0, none⟩ 1 1 ([.int .u8 r.first]) (by exact hS1) rfl (World.news_of_block hcS) (one_u8 _) (by decide) (by unfold maxLen; omega) (by omega) (by have := hE.size; simp at this; omega) _ rfl ?_
          intro g cap1 w2 hown2 hgrow hat hlt2
          exact ⟨_, rfl, es_sp hgrow, hown2⟩
        case s9 =>
          refine step_val (v := (.pointer (some ⟨b, 0, none⟩))) (fun av wv hE hS hO hD => ?_) (fun _ => rfl)
          have d32 : av.eval (.tmp 32) = (.pointer (some ⟨b, 0, none⟩)) := hD.1 rfl _ rfl
          have f32 := (ev_form av 32).symm.trans d32
          refine ⟨rfl, ?_⟩
          simp [go_sem, f32]
        case s10 =>
          refine step_val (v := (.pointer (some ⟨b, 0, none⟩))) (fun av wv hE hS hO hD => ?_) (fun _ => rfl)
          have d41 : av.eval (.tmp 41) = (.pointer (some ⟨b, 0, none⟩)) := hD.1 rfl _ rfl
          have f41 := (ev_form av 41).symm.trans d41
          refine ⟨rfl, ?_⟩
          simp [go_sem, f41]
        intro a' w' hE hO hall
        have hA := act_of_outer (ds := [32, 33, 34, 35, 36, 37, 38, 39, 40, 41, 42]) rfl hO (by kernel_rfl)
        have e32 : (fun u _ => u = (.pointer (some ⟨b, 0, none⟩))) (a'.eval (.tmp 32)) w' := hall.1 _ rfl
        have e33 : (fun u _ => u = (.pointer (some ⟨b, 0, none⟩))) (a'.eval (.tmp 33)) w' := hall.2.1 _ rfl
        have e34 : (fun u _ => u = (.pointer (some ⟨b, 0, none⟩))) (a'.eval (.tmp 34)) w' := hall.2.2.1 _ rfl
        have e35 : (fun u _ => u = (.pointer (some ⟨b, 0, none⟩))) (a'.eval (.tmp 35)) w' := hall.2.2.2.1 _ rfl
        have e36 : (fun u _ => u = (v)) (a'.eval (.tmp 36)) w' := hall.2.2.2.2.1 _ rfl
        have e37 : (fun u _ => u = (.pointer (some ⟨br, 1, none⟩))) (a'.eval (.tmp 37)) w' := hall.2.2.2.2.2.1 _ rfl
        have e38 : (fun u _ => u = (.int .u8 r.first)) (a'.eval (.tmp 38)) w' := hall.2.2.2.2.2.2.1 _ rfl
        have e39 : (fun u w' => ∃ b, u = .slice (some ⟨b, 0, none⟩) 1 1 ∧ some b ≠ v.ownBlock ∧ w'.heap[b]? = some (.cells ([.int .u8 r.first]).toArray 5 (0, 0))) (a'.eval (.tmp 39)) w' := hall.2.2.2.2.2.2.2.1 _ rfl
        have e40 : (fun u w' => w'.ownsRow (base) 5 1 u (s.size + 1) (Lib.strCells s ++ [.int .u8 r.first])) (a'.eval (.tmp 40)) w' := hall.2.2.2.2.2.2.2.2.1 _ rfl
        have e41 : (fun u _ => u = (.pointer (some ⟨b, 0, none⟩))) (a'.eval (.tmp 41)) w' := hall.2.2.2.2.2.2.2.2.2.1 _ rfl
        have e42 : (fun u _ => u = (.pointer (some ⟨b, 0, none⟩))) (a'.eval (.tmp 42)) w' := hall.2.2.2.2.2.2.2.2.2.2.1 _ rfl
        obtain ⟨v39, hv39⟩ : ∃ v, a'.eval (.tmp 39) = v := ⟨_, rfl⟩
        rw [hv39] at e39
        obtain ⟨v40, hv40⟩ : ∃ v, a'.eval (.tmp 40) = v := ⟨_, rfl⟩
        rw [hv40] at e40
        simp only [List.foldl_cons, List.foldl_nil, Act.put, List.setIfInBounds_toArray, List.set_cons_succ, List.set_cons_zero, e32, e33, e34, e35, e36, e37, e38, hv39, hv40, e41, e42] at hA
        clear hO hall e32 e33 e34 e35 e36 e37 e38 hv39 hv40 e41 e42
        subst hA
        --ENDREGION
        obtain ⟨ga, gc, rfl⟩ := own_slice e40
        have hst := wr_step (s' := s ++ baL [toB r.first]) hbase VV.out HOWN.out hE (by rw [baL_one]; exact e40) (by rw [strCells_app, strCells_one f0 f1])
        have HST := Lib.hid hst
        have hc4 := hst.1
        have hf4 := hst.2.1
        have HBR : Hid (w'.cell? ⟨br, 2, none⟩ = some (.int .i64 r.size)) := Lib.hid (extB_cell hE n3 (block_cell VR.out 2))
        clear hst hE e40 c1 c2 c3 c4
        have hne : br ≠ b := fun e => by have h1 := VR.out; rw [e, VV.out] at h1; cases h1
        have c5 : (w'.setCell ⟨b, 0, none⟩ (.slice (some ⟨ga, 0, none⟩) (s.size + 1) gc)).cell? ⟨br, 2, none⟩ = some (.int .i64 r.size) := by
          have h := (HST.out.2.2.2).keep br _ VR.out hne n8r
          exact block_cell h 2
        obtain ⟨k, hk⟩ := Int.eq_ofNat_of_zero_le s0
        have HKK := Lib.hid hk
        have k8 : k ≤ 8 := by omega
        rw [hk] at c5
        have hw1 : IntKind.i64.wrap ((k : Int) - 1) = (k : Int) - 1 := IntWalk.i64_in _ (by omega)
        clear hk HBR
        go_wp2
        obtain ⟨V2, hV2⟩ : ∃ V2, w'.setCell ⟨b, 0, none⟩ (.slice (some ⟨ga, 0, none⟩) (s.size + 1) gc) = V2 := ⟨_, rfl⟩
        have HWR2 : Hid (WrB V2 b base (s ++ baL (toB r.first :: ((hiL n k).take (k - k)).map toB))) := Lib.hid (by rw [← hV2, Nat.sub_self]; exact HST.out.2.2.1)
        have HWK2 : Hid (WK base b V V2) := Lib.hid (by rw [← hV2]; exact HST.out.2.2.2)
        try rw [hV2]
        clear hV2 HST hc4 hf4 c5 hw1 HWR
        have nbn : bn ≠ b := fun e => by have h1 := VN.out; rw [e, VV.out] at h1; cases h1
        have nbw : bw ≠ b := fun e => by have h1 := VW.out; rw [e, VV.out] at h1; cases h1
        have hbVS : base ≤ V.heap.size := hbV
        clear n1 n2 n3 n4 hbV hltb HQ
        go_loopg [5] k (fun g i wr => g ≤ k ∧ i = .int .i64 ((g : Int) - 1) ∧ Hid (WrB wr b base (s ++ baL (toB r.first :: ((hiL n k).take (k - g)).map toB))) ∧ Hid (WK base b V wr))
        case atStart => exact ⟨Nat.le_refl _, rfl, HWR2.out, HWK2.out⟩
        case round =>
          clear HWR2 HWK2
          obtain ⟨hgk, rfl, HWR, HWK⟩ := hrel
          obtain ⟨G, hG⟩ : ∃ G, G = gk := ⟨_, rfl⟩
          subst hG
          cases G with
          | zero =>
            have e2 : ((0 : Nat) : Int) - 1 = -1 := rfl
            rw [e2]
            clear e2
            go_wp2
            go_ret
            refine ⟨ret_bool HX.out.symm, ?_, (WK.of_below VB.out HBS.out).trans HWK.out⟩
            rw [HIF.out]
            have e4 : rowB r n = toB r.first :: ((hiL n k).take (k - 0)).map toB := by
              unfold rowB
              rw [if_neg HSZ.out, HKK.out, Nat.sub_zero, List.take_of_length_le (by rw [hiL_len]; exact Nat.le_refl _)]; rfl
            rw [e4]; exact HWR.out
          | succ i =>
            have e2 : ((i + 1 : Nat) : Int) - 1 = (i : Int) := by omega
            rw [e2]
            obtain ⟨t, ht⟩ : ∃ t, s ++ baL (toB r.first :: ((hiL n k).take (k - (i + 1))).map toB) = t := ⟨_, rfl⟩
            have hts : t.size ≤ 70000000000009 := by
              rw [← ht, ByteArray.size_append, baL_size, List.length_cons, List.length_map, List.length_take, hiL_len]; omega
            obtain ⟨x, hx⟩ : ∃ x, n / 2 ^ (8 * i) % 256 = x := ⟨_, rfl⟩
            have hx0 : 0 ≤ x ∧ x ≤ 255 := by rw [← hx]; omega
            have HT : Hid (s ++ baL (toB r.first :: ((hiL n k).take (k - i)).map toB) = t ++ baL [toB x]) := Lib.hid (by
              rw [← ht, hi_next n k i (by omega), show (256 : Int) ^ i = 2 ^ (8 * i) by rw [Int.pow_mul]; rfl, hx, List.map_append, ← List.cons_append, baL_app, ByteArray.append_assoc]; rfl)
            rw [ht] at HWR
            have y0 : IntKind.u8.wrap (n / 2 ^ (8 * i)) = x := by rw [IntKind.wrap_u8]; exact hx
            have y1 : IntKind.i64.wrap (8 * (i : Int)) = 8 * (i : Int) := IntWalk.i64_in _ (by omega)
            have y2 : 0 ≤ 8 * (i : Int) := by omega
            have y3 : (8 * (i : Int)).toNat = 8 * i := by omega
            clear ht e2 hx
            obtain ⟨-, v, hv, hown⟩ := HWR.out
            have VV2 := Lib.hid hv
            have HOWN := Lib.hid hown
            have VN2 := Lib.hid (HWK.out.keep _ _ VN.out nbn n8n)
            have VW2 := Lib.hid (HWK.out.keep _ _ VW.out nbw n8b)
            have n8w : Not8 (.cells #[v] 265 (0, 0)) := not8_cells (by decide)
            have HQ : Hid (∀ g, v.ownBlock = some g → base ≤ g ∧ g < wr.heap.size) := Lib.hid (fun g hg => HOWN.out.lt g hg)
            have n1 := own_not8 HOWN.out VN2.out n8n
            have n2 := own_not8 HOWN.out VW2.out n8b
            have n4 := own_not8 HOWN.out VV2.out n8w
            have c1 : wr.cell? ⟨bn, 0, none⟩ = some (.int .u64 n) := block_cell VN2.out 0
            have c2 : wr.cell? ⟨bw, 0, none⟩ = some (.pointer (some ⟨b, 0, none⟩)) := block_cell VW2.out 0
            have c4 : wr.cell? ⟨b, 0, none⟩ = some v := block_cell VV2.out 0
            have hbV : base ≤ wr.heap.size := Nat.le_trans hbase (Nat.le_of_lt (lt_of_block VV2.out))
            clear hv hown
            go_upto_region 10 with fail
            --REGION (*sextant/pack.Writer).head$1 10 ph10
            refine wp_region_tail 14 11 (v.ownBlock) (phis [fun u _ => u = (.pointer (some ⟨b, 0, none⟩)), fun u _ => u = (.pointer (some ⟨b, 0, none⟩)), fun u _ => u = (.pointer (some ⟨b, 0, none⟩)), fun u _ => u = (.pointer (some ⟨b, 0, none⟩)), fun u _ => u = (v), fun u _ => u = (.int .u64 n), fun u _ => u = (.int .i64 i), fun u _ => u = (.int .i64 (8 * (i : Int))), fun u _ => u = (.int .u64 (n / 2 ^ (8 * i))), fun u _ => u = (.int .u8 x), fun u w' => ∃ b, u = .slice (some ⟨b, 0, none⟩) 1 1 ∧ some b ≠ v.ownBlock ∧ w'.heap[b]? = some (.cells ([.int .u8 x]).toArray 5 (0, 0)), fun u w' => w'.ownsRow (base) 5 1 u (t.size + 1) (Lib.strCells t ++ [.int .u8 x]), fun u _ => u = (.pointer (some ⟨b, 0, none⟩)), fun u _ => u = (.pointer (some ⟨b, 0, none⟩))]) rfl (by kernel_rfl) (by kernel_rfl) (mono_of ⟨mono_eq, mono_eq, mono_eq, mono_eq, mono_eq, mono_eq, mono_eq, mono_eq, mono_eq, mono_eq, ?m10, ?m11, mono_eq, mono_eq, trivial⟩) (steps_of 14 ⟨?s0, ?s1, ?s2, ?s3, ?s4, ?s5, ?s6, ?s7, ?s8, ?s9, ?s10, ?s11, ?s12, ?s13, trivial⟩) ?_
            case m10 =>
              exact ⟨fun u w1 w' h ⟨b, h1, hb, hb'⟩ => ⟨b, h1, hb, ext_block h hb'⟩, fun _ u w1 w' h ⟨b, h1, hb, hb'⟩ => ⟨b, h1, hb, extB_block h hb hb'⟩⟩
            case m11 =>
              exact ⟨fun u w1 w' h hu => own_below hu h, fun hn => absurd rfl hn⟩
            case s0 =>
              refine step_val (v := (.pointer (some ⟨b, 0, none⟩))) (fun av wv hE hS hO hD => ?_) (fun _ => rfl)
              have h2 : av.eval (.tmp 2) = (.pointer (some ⟨bw, 0, none⟩)) := hO.2.2 2 rfl
              have f2 := (ev_form av 2).symm.trans h2
              have c1 := extB_cell hE n1 c1
              have c2 := extB_cell hE n2 c2
              have c4 := extB_cell hE n4 c4
              refine ⟨rfl, ?_⟩
              simp [go_sem, f2, c1, c2, c4, y0, y1, y2, y3]
            case s1 =>
              refine step_val (v := (.pointer (some ⟨b, 0, none⟩))) (fun av wv hE hS hO hD => ?_) (fun _ => rfl)
              have h2 : av.eval (.tmp 2) = (.pointer (some ⟨bw, 0, none⟩)) := hO.2.2 2 rfl
              have f2 := (ev_form av 2).symm.trans h2
              have c1 := extB_cell hE n1 c1
              have c2 := extB_cell hE n2 c2
              have c4 := extB_cell hE n4 c4
              refine ⟨rfl, ?_⟩
              simp [go_sem, f2, c1, c2, c4, y0, y1, y2, y3]
            case s2 =>
              refine step_val (v := (.pointer (some ⟨b, 0, none⟩))) (fun av wv hE hS hO hD => ?_) (fun _ => rfl)
              have d51 : av.eval (.tmp 51) = (.pointer (some ⟨b, 0, none⟩)) := hD.1 rfl _ rfl
              have f51 := (ev_form av 51).symm.trans d51
              refine ⟨rfl, ?_⟩
              simp [go_sem, f51, y0, y1, y2, y3]
            case s3 =>
              refine step_val (v := (.pointer (some ⟨b, 0, none⟩))) (fun av wv hE hS hO hD => ?_) (fun _ => rfl)
              have d52 : av.eval (.tmp 52) = (.pointer (some ⟨b, 0, none⟩)) := hD.1 rfl _ rfl
              have f52 := (ev_form av 52).symm.trans d52
              refine ⟨rfl, ?_⟩
              simp [go_sem, f52, y0, y1, y2, y3]
            case s4 =>
              refine step_val (v := (v)) (fun av wv hE hS hO hD => ?_) (fun _ => rfl)
              have d53 : av.eval (.tmp 53) = (.pointer (some ⟨b, 0, none⟩)) := hD.1 rfl _ rfl
              have f53 := (ev_form av 53).symm.trans d53
              have c1 := extB_cell hE n1 c1
              have c2 := extB_cell hE n2 c2
              have c4 := extB_cell hE n4 c4
              refine ⟨rfl, ?_⟩
              simp [go_sem, f53, c1, c2, c4, y0, y1, y2, y3]
            case s5 =>
              refine step_val (v := (.int .u64 n)) (fun av wv hE hS hO hD => ?_) (fun _ => rfl)
              have h1 : av.eval (.tmp 1) = (.pointer (some ⟨bn, 0, none⟩)) := hO.2.2 1 rfl
              have f1 := (ev_form av 1).symm.trans h1
              have c1 := extB_cell hE n1 c1
              have c2 := extB_cell hE n2 c2
              have c4 := extB_cell hE n4 c4
              refine ⟨rfl, ?_⟩
              simp [go_sem, f1, c1, c2, c4, y0, y1, y2, y3]
            case s6 =>
              refine step_val (v := (.int .i64 i)) (fun av wv hE hS hO hD => ?_) (fun _ => rfl)
              have h5 : av.eval (.tmp 5) = (.int .i64 i) := hO.2.2 5 rfl
              have f5 := (ev_form av 5).symm.trans h5
              refine ⟨rfl, ?_⟩
              simp [go_sem, f5, y0, y1, y2, y3]
            case s7 =>
              refine step_val (v := (.int .i64 (8 * (i : Int)))) (fun av wv hE hS hO hD => ?_) (fun _ => rfl)
              have d56 : av.eval (.tmp 56) = (.int .i64 i) := hD.1 rfl _ rfl
              have f56 := (ev_form av 56).symm.trans d56
              refine ⟨rfl, ?_⟩
              simp [go_sem, f56, y0, y1, y2, y3]
            case s8 =>
              refine step_val (v := (.int .u64 (n / 2 ^ (8 * i)))) (fun av wv hE hS hO hD => ?_) (fun _ => rfl)
              have d55 : av.eval (.tmp 55) = (.int .u64 n) := hD.1 rfl _ rfl
              have f55 := (ev_form av 55).symm.trans d55
              have d57 : av.eval (.tmp 57) = (.int .i64 (8 * (i : Int))) := hD.2.1 rfl _ rfl
              have f57 := (ev_form av 57).symm.trans d57
              refine ⟨rfl, ?_⟩
              simp [go_sem, f55, f57, y0, y1, y2, y3]
            case s9 =>
              refine step_val (v := (.int .u8 x)) (fun av wv hE hS hO hD => ?_) (fun _ => rfl)
              have d58 : av.eval (.tmp 58) = (.int .u64 (n / 2 ^ (8 * i))) := hD.1 rfl _ rfl
              have f58 := (ev_form av 58).symm.trans d58
              refine ⟨rfl, ?_⟩
              simp [go_sem, f58, y0, y1, y2, y3]
            case s10 =>
              refine step_wp (fun av wv hE hS hO hD => ?_)
              have d59 : av.eval (.tmp 59) = (.int .u8 x) := hD.1 rfl _ rfl
              have f59 := (ev_form av 59).symm.trans d59
              refine ⟨rfl, ?_⟩
              refine wp_of_run (v := .slice (some ⟨wv.heap.size, 0, none⟩) 1 1) (w' := wv.alloc (.cells ([.int .u8 x]).toArray 5)) (by first | (simp [go_sem, f59, y0, y1, y2, y3]; done) | (simp [go_sem, f59, y0, y1, y2, y3]; rfl)) ⟨_, rfl, es_of_ext (balloc (Ext_refl _) _), wv.heap.size, rfl, ?_, heap_alloc_new _ _⟩
              exact fun e => absurd (HQ.out _ e.symm).2 (by have := hE.size; simp at this; omega)
            case s11 =>
              refine step_wp (fun av wv hE hS hO hD => ?_)
              have d54 : av.eval (.tmp 54) = (v) := hD.1 rfl _ rfl
              have f54 := (ev_form av 54).symm.trans d54
              have d60 : (fun u w' => ∃ b, u = .slice (some ⟨b, 0, none⟩) 1 1 ∧ some b ≠ v.ownBlock ∧ w'.heap[b]? = some (.cells ([.int .u8 x]).toArray 5 (0, 0))) (av.eval (.tmp 60)) wv := hD.2.1 rfl _ rfl
              refine ⟨rfl, ?_⟩
              obtain ⟨bS, hS1, hbS, hcS⟩ := d60
              have hown1 : wv.ownsRow (base) 5 1 (v) (t.size) (Lib.strCells t) := own_below (w := World.drew _) (HOWN.out) (hS rfl)
              refine wp_append_lies wv _ _ _ rfl (base) 5 i0 (.int .u8 0) 1 1 Tryz.underlying106 hi hz0 hz1 hz2 rfl (by decide) (v) (t.size) _ d54 hown1 ⟨bS, 0, none⟩ 1 1 ([.int .u8 x]) (by exact hS1) rfl (World.news_of_block hcS) (one_u8 _) (by decide) (by unfold maxLen; omega) (by omega) (by have := hE.size; simp at this; omega) _ rfl ?_
              intro g cap1 w2 hown2 hgrow hat hlt2
              exact ⟨_, rfl, es_sp hgrow, hown2⟩
            case s12 =>
              refine step_val (v := (.pointer (some ⟨b, 0, none⟩))) (fun av wv hE hS hO hD => ?_) (fun _ => rfl)
              have d50 : av.eval (.tmp 50) = (.pointer (some ⟨b, 0, none⟩)) := hD.1 rfl _ rfl
              have f50 := (ev_form av 50).symm.trans d50
              refine ⟨rfl, ?_⟩
              simp [go_sem, f50, y0, y1, y2, y3]
            case s13 =>
              refine step_val (v := (.pointer (some ⟨b, 0, none⟩))) (fun av wv hE hS hO hD => ?_) (fun _ => rfl)
              have d62 : av.eval (.tmp 62) = (.pointer (some ⟨b, 0, none⟩)) := hD.1 rfl _ rfl
              have f62 := (ev_form av 62).symm.trans d62
              refine ⟨rfl, ?_⟩
              simp [go_sem, f62, y0, y1, y2, y3]
            intro a' w' hE hO hall
            have hA := act_of_outer (ds := [50, 51, 52, 53, 54, 55, 56, 57, 58, 59, 60, 61, 62, 63]) rfl hO (by kernel_rfl)
            have e50 : (fun u _ => u = (.pointer (some ⟨b, 0, none⟩))) (a'.eval (.tmp 50)) w' := hall.1 _ rfl
            have e51 : (fun u _ => u = (.pointer (some ⟨b, 0, none⟩))) (a'.eval (.tmp 51)) w' := hall.2.1 _ rfl
            have e52 : (fun u _ => u = (.pointer (some ⟨b, 0, none⟩))) (a'.eval (.tmp 52)) w' := hall.2.2.1 _ rfl
            have e53 : (fun u _ => u = (.pointer (some ⟨b, 0, none⟩))) (a'.eval (.tmp 53)) w' := hall.2.2.2.1 _ rfl
            have e54 : (fun u _ => u = (v)) (a'.eval (.tmp 54)) w' := hall.2.2.2.2.1 _ rfl
            have e55 : (fun u _ => u = (.int .u64 n)) (a'.eval (.tmp 55)) w' := hall.2.2.2.2.2.1 _ rfl
            have e56 : (fun u _ => u = (.int .i64 i)) (a'.eval (.tmp 56)) w' := hall.2.2.2.2.2.2.1 _ rfl
            have e57 : (fun u _ => u = (.int .i64 (8 * (i : Int)))) (a'.eval (.tmp 57)) w' := hall.2.2.2.2.2.2.2.1 _ rfl
            have e58 : (fun u _ => u = (.int .u64 (n / 2 ^ (8 * i)))) (a'.eval (.tmp 58)) w' := hall.2.2.2.2.2.2.2.2.1 _ rfl
            have e59 : (fun u _ => u = (.int .u8 x)) (a'.eval (.tmp 59)) w' := hall.2.2.2.2.2.2.2.2.2.1 _ rfl
            have e60 : (fun u w' => ∃ b, u = .slice (some ⟨b, 0, none⟩) 1 1 ∧ some b ≠ v.ownBlock ∧ w'.heap[b]? = some (.cells ([.int .u8 x]).toArray 5 (0, 0))) (a'.eval (.tmp 60)) w' := hall.2.2.2.2.2.2.2.2.2.2.1 _ rfl
            have e61 : (fun u w' => w'.ownsRow (base) 5 1 u (t.size + 1) (Lib.strCells t ++ [.int .u8 x])) (a'.eval (.tmp 61)) w' := hall.2.2.2.2.2.2.2.2.2.2.2.1 _ rfl
            have e62 : (fun u _ => u = (.pointer (some ⟨b, 0, none⟩))) (a'.eval (.tmp 62)) w' := hall.2.2.2.2.2.2.2.2.2.2.2.2.1 _ rfl
            have e63 : (fun u _ => u = (.pointer (some ⟨b, 0, none⟩))) (a'.eval (.tmp 63)) w' := hall.2.2.2.2.2.2.2.2.2.2.2.2.2.1 _ rfl
            obtain ⟨v60, hv60⟩ : ∃ v, a'.eval (.tmp 60) = v := ⟨_, rfl⟩
            rw [hv60] at e60
            obtain ⟨v61, hv61⟩ : ∃ v, a'.eval (.tmp 61) = v := ⟨_, rfl⟩
            rw [hv61] at e61
            simp only [List.foldl_cons, List.foldl_nil, Act.put, List.setIfInBounds_toArray, List.set_cons_succ, List.set_cons_zero, e50, e51, e52, e53, e54, e55, e56, e57, e58, e59, hv60, hv61, e62, e63] at hA
            clear hO hall e50 e51 e52 e53 e54 e55 e56 e57 e58 e59 hv60 hv61 e62 e63
            subst hA
            --ENDREGION
            obtain ⟨ga, gc, rfl⟩ := own_slice e61
            have hst := wr_step (s' := t ++ baL [toB x]) hbase VV2.out HOWN.out hE (by rw [baL_one]; exact e61) (by rw [strCells_app, strCells_one hx0.1 hx0.2])
            have HST := Lib.hid hst
            have hc4 := hst.1
            have hf4 := hst.2.1
            clear hst hE e61 c1 c2 c4 n1 n2 n4
            go_wp2
            go_roundg i
            case rel => exact ⟨by omega, by go_num, by rw [HT.out]; exact HST.out.2.2.1, HWK.out.trans HST.out.2.2.2⟩
            case measure => omega
    · skip
      go_enter Tryz.func255, Tryz.ntmps255
      by_cases hsz : r.size = 0
      · have e0 : (r.size == 0) = true := by simpa using hsz
        have HSZ := Lib.hid hsz
        clear hsz
        go_upto_region 4 with fail
        obtain ⟨br, hbr⟩ : ∃ br, w.heap.size = br := ⟨_, rfl⟩
        obtain ⟨V, hV⟩ : ∃ V, w.alloc (.cells #[.int .u64 r.below, .int .u8 r.first, .int .i64 r.size] 332) = V := ⟨_, rfl⟩
        have VB : Hid (Below w.heap.size w V) := Lib.hid (by rw [← hV]; exact balloc (Below.refl _ _) _)
        have VR : Hid (V.heap[br]? = some (.cells #[.int .u64 r.below, .int .u8 r.first, .int .i64 r.size] 332 (0, 0))) := Lib.hid (by rw [← hV, ← hbr]; exact heap_alloc_new _ _)
        have VN : Hid (V.heap[bn]? = some (.cells #[.int .u64 n] 23 (0, 0))) := Lib.hid ((VB.out.block _ (lt_of_block HN.out)).trans HN.out)
        have VW : Hid (V.heap[bw]? = some (.cells #[.pointer (some ⟨b, 0, none⟩)] 166 (0, 0))) := Lib.hid ((VB.out.block _ (lt_of_block HW2.out)).trans HW2.out)
        have VV : Hid (V.heap[b]? = some (.cells #[v] 265 (0, 0))) := Lib.hid ((VB.out.block _ hltb).trans HV.out)
        have HOWN := Lib.hid (own_below HOWN0.out VB.out)
        have HQ : Hid (∀ g, v.ownBlock = some g → base ≤ g ∧ g < V.heap.size) := Lib.hid (fun g hg => HOWN.out.lt g hg)
        have n1 := own_not8 HOWN.out VN.out n8n
        have n2 := own_not8 HOWN.out VW.out n8b
        have n3 := own_not8 HOWN.out VR.out n8r
        have n4 := own_not8 HOWN.out VV.out n8w
        have c1 : V.cell? ⟨bn, 0, none⟩ = some (.int .u64 n) := block_cell VN.out 0
        have c2 : V.cell? ⟨bw, 0, none⟩ = some (.pointer (some ⟨b, 0, none⟩)) := block_cell VW.out 0
        have c3 : V.cell? ⟨br, 1, none⟩ = some (.int .u8 r.first) := block_cell VR.out 1
        have c4 : V.cell? ⟨b, 0, none⟩ = some v := block_cell VV.out 0
        have hbV : base ≤ V.heap.size := Nat.le_trans hbase (Nat.le_of_lt (lt_of_block VV.out))
        obtain ⟨y, hy⟩ : ∃ y, r.first + n = y := ⟨_, rfl⟩
        have hy1 : y ≤ 255 := by rw [← hy]; exact HFIT.out HSZ.out
        have y0 : IntKind.u8.wrap n = n := IntWalk.u8_in _ (by omega)
        have y1 : IntKind.u8.wrap (r.first + n) = y := by rw [hy]; exact IntWalk.u8_in _ (by omega)
        have hy0 : 0 ≤ y := by omega
        have HY := Lib.hid hy
        rw [hbr]
        try rw [hV]
        clear hV hbr hy cn cw cb
        --REGION (*sextant/pack.Writer).head$1 4 ph4
        refine wp_region_tail 14 11 (v.ownBlock) (phis [fun u _ => u = (.pointer (some ⟨b, 0, none⟩)), fun u _ => u = (.pointer (some ⟨b, 0, none⟩)), fun u _ => u = (.pointer (some ⟨b, 0, none⟩)), fun u _ => u = (.pointer (some ⟨b, 0, none⟩)), fun u _ => u = (v), fun u _ => u = (.pointer (some ⟨br, 1, none⟩)), fun u _ => u = (.int .u8 r.first), fun u _ => u = (.int .u64 n), fun u _ => u = (.int .u8 n), fun u _ => u = (.int .u8 y), fun u w' => ∃ b, u = .slice (some ⟨b, 0, none⟩) 1 1 ∧ some b ≠ v.ownBlock ∧ w'.heap[b]? = some (.cells ([.int .u8 y]).toArray 5 (0, 0)), fun u w' => w'.ownsRow (base) 5 1 u (s.size + 1) (Lib.strCells s ++ [.int .u8 y]), fun u _ => u = (.pointer (some ⟨b, 0, none⟩)), fun u _ => u = (.pointer (some ⟨b, 0, none⟩))]) rfl (by kernel_rfl) (by kernel_rfl) (mono_of ⟨mono_eq, mono_eq, mono_eq, mono_eq, mono_eq, mono_eq, mono_eq, mono_eq, mono_eq, mono_eq, ?m10, ?m11, mono_eq, mono_eq, trivial⟩) (steps_of 14 ⟨?s0, ?s1, ?s2, ?s3, ?s4, ?s5, ?s6, ?s7, ?s8, ?s9, ?s10, ?s11, ?s12, ?s13, trivial⟩) ?_
        case m10 =>
          exact ⟨fun u w1 w' h ⟨b, h1, hb, hb'⟩ => ⟨b, h1, hb, ext_block h hb'⟩, fun _ u w1 w' h ⟨b, h1, hb, hb'⟩ => ⟨b, h1, hb, extB_block h hb hb'⟩⟩
        case m11 =>
          exact ⟨fun u w1 w' h hu => own_below hu h, fun hn => absurd rfl hn⟩
        case s0 =>
          refine step_val (v := (.pointer (some ⟨b, 0, none⟩))) (fun av wv hE hS hO hD => ?_) (fun _ => rfl)
          have h2 : av.eval (.tmp 2) = (.pointer (some ⟨bw, 0, none⟩)) := hO.2.2 2 rfl
          have f2 := (ev_form av 2).symm.trans h2
          have c1 := extB_cell hE n1 c1
          have c2 := extB_cell hE n2 c2
          have c3 := extB_cell hE n3 c3
          have c4 := extB_cell hE n4 c4
          refine ⟨rfl, ?_⟩
          simp [go_sem, f2, c1, c2, c3, c4, y0, y1]
        case s1 =>
          refine step_val (v := (.pointer (some ⟨b, 0, none⟩))) (fun av wv hE hS hO hD => ?_) (fun _ => rfl)
          have h2 : av.eval (.tmp 2) = (.pointer (some ⟨bw, 0, none⟩)) := hO.2.2 2 rfl
          have f2 := (ev_form av 2).symm.trans h2
          have c1 := extB_cell hE n1 c1
          have c2 := extB_cell hE n2 c2
          have c3 := extB_cell hE n3 c3
          have c4 := extB_cell hE n4 c4
          refine ⟨rfl, ?_⟩
          simp [go_sem, f2, c1, c2, c3, c4, y0, y1]
        case s2 =>
          refine step_val (v := (.pointer (some ⟨b, 0, none⟩))) (fun av wv hE hS hO hD => ?_) (fun _ => rfl)
          have d19 : av.eval (.tmp 19) = (.pointer (some ⟨b, 0, none⟩)) := hD.1 rfl _ rfl
          have f19 := (ev_form av 19).symm.trans d19
          refine ⟨rfl, ?_⟩
          simp [go_sem, f19, y0, y1]
        case s3 =>
          refine step_val (v := (.pointer (some ⟨b, 0, none⟩))) (fun av wv hE hS hO hD => ?_) (fun _ => rfl)
          have d20 : av.eval (.tmp 20) = (.pointer (some ⟨b, 0, none⟩)) := hD.1 rfl _ rfl
          have f20 := (ev_form av 20).symm.trans d20
          refine ⟨rfl, ?_⟩
          simp [go_sem, f20, y0, y1]
        case s4 =>
          refine step_val (v := (v)) (fun av wv hE hS hO hD => ?_) (fun _ => rfl)
          have d21 : av.eval (.tmp 21) = (.pointer (some ⟨b, 0, none⟩)) := hD.1 rfl _ rfl
          have f21 := (ev_form av 21).symm.trans d21
          have c1 := extB_cell hE n1 c1
          have c2 := extB_cell hE n2 c2
          have c3 := extB_cell hE n3 c3
          have c4 := extB_cell hE n4 c4
          refine ⟨rfl, ?_⟩
          simp [go_sem, f21, c1, c2, c3, c4, y0, y1]
        case s5 =>
          refine step_val (v := (.pointer (some ⟨br, 1, none⟩))) (fun av wv hE hS hO hD => ?_) (fun _ => rfl)
          have h3 : av.eval (.tmp 3) = (.pointer (some ⟨br, 0, none⟩)) := hO.2.2 3 rfl
          have f3 := (ev_form av 3).symm.trans h3
          refine ⟨rfl, ?_⟩
          simp [go_sem, f3, y0, y1]
        case s6 =>
          refine step_val (v := (.int .u8 r.first)) (fun av wv hE hS hO hD => ?_) (fun _ => rfl)
          have d23 : av.eval (.tmp 23) = (.pointer (some ⟨br, 1, none⟩)) := hD.1 rfl _ rfl
          have f23 := (ev_form av 23).symm.trans d23
          have c1 := extB_cell hE n1 c1
          have c2 := extB_cell hE n2 c2
          have c3 := extB_cell hE n3 c3
          have c4 := extB_cell hE n4 c4
          refine ⟨rfl, ?_⟩
          simp [go_sem, f23, c1, c2, c3, c4, y0, y1]
        case s7 =>
          refine step_val (v := (.int .u64 n)) (fun av wv hE hS hO hD => ?_) (fun _ => rfl)
          have h1 : av.eval (.tmp 1) = (.pointer (some ⟨bn, 0, none⟩)) := hO.2.2 1 rfl
          have f1 := (ev_form av 1).symm.trans h1
          have c1 := extB_cell hE n1 c1
          have c2 := extB_cell hE n2 c2
          have c3 := extB_cell hE n3 c3
          have c4 := extB_cell hE n4 c4
          refine ⟨rfl, ?_⟩
          simp [go_sem, f1, c1, c2, c3, c4, y0, y1]
        case s8 =>
          refine step_val (v := (.int .u8 n)) (fun av wv hE hS hO hD => ?_) (fun _ => rfl)
          have d25 : av.eval (.tmp 25) = (.int .u64 n) := hD.1 rfl _ rfl
          have f25 := (ev_form av 25).symm.trans d25
          refine ⟨rfl, ?_⟩
          simp [go_sem, f25, y0, y1]
        case s9 =>
          refine step_val (v := (.int .u8 y)) (fun av wv hE hS hO hD => ?_) (fun _ => rfl)
          have d24 : av.eval (.tmp 24) = (.int .u8 r.first) := hD.1 rfl _ rfl
          have f24 := (ev_form av 24).symm.trans d24
          have d26 : av.eval (.tmp 26) = (.int .u8 n) := hD.2.1 rfl _ rfl
          have f26 := (ev_form av 26).symm.trans d26
          refine ⟨rfl, ?_⟩
          simp [go_sem, f24, f26, y0, y1]
        case s10 =>
          refine step_wp (fun av wv hE hS hO hD => ?_)
          have d27 : av.eval (.tmp 27) = (.int .u8 y) := hD.1 rfl _ rfl
          have f27 := (ev_form av 27).symm.trans d27
          refine ⟨rfl, ?_⟩
          refine wp_of_run (v := .slice (some ⟨wv.heap.size, 0, none⟩) 1 1) (w' := wv.alloc (.cells ([.int .u8 y]).toArray 5)) (by first | (simp [go_sem, f27, y0, y1]; done) | (simp [go_sem, f27, y0, y1]; rfl)) ⟨_, rfl, es_of_ext (balloc (Ext_refl _) _), wv.heap.size, rfl, ?_, heap_alloc_new _ _⟩
          exact fun e => absurd (HQ.out _ e.symm).2 (by have := hE.size; simp at this; omega)
        case s11 =>
          refine step_wp (fun av wv hE hS hO hD => ?_)
          have d22 : av.eval (.tmp 22) = (v) := hD.1 rfl _ rfl
          have f22 := (ev_form av 22).symm.trans d22
          have d28 : (fun u w' => ∃ b, u = .slice (some ⟨b, 0, none⟩) 1 1 ∧ some b ≠ v.ownBlock ∧ w'.heap[b]? = some (.cells ([.int .u8 y]).toArray 5 (0, 0))) (av.eval (.tmp 28)) wv := hD.2.1 rfl _ rfl
          refine ⟨rfl, ?_⟩
          obtain ⟨bS, hS1, hbS, hcS⟩ := d28
          have hown1 : wv.ownsRow (base) 5 1 (v) (s.size) (Lib.strCells s) := own_below (w := World.drew _) (HOWN.out) (hS rfl)
          refine wp_append_lies wv _ _ _ rfl (base) 5 i0 (.int .u8 0) 1 1 Tryz.underlying106 hi hz0 hz1 hz2 rfl (by decide) (v) (s.size) _ d22 hown1 ⟨bS, 0, none⟩ 1 1 ([.int .u8 y]) (by exact hS1) rfl (World.news_of_block hcS) (one_u8 _) (by decide) (by unfold maxLen; omega) (by omega) (by have := hE.size; simp at this; omega) _ rfl ?_
          intro g cap1 w2 hown2 hgrow hat hlt2
          exact ⟨_, rfl, es_sp hgrow, hown2⟩
        case s12 =>
          refine step_val (v := (.pointer (some ⟨b, 0, none⟩))) (fun av wv hE hS hO hD => ?_) (fun _ => rfl)
          have d18 : av.eval (.tmp 18) = (.pointer (some ⟨b, 0, none⟩)) := hD.1 rfl _ rfl
          have f18 := (ev_form av 18).symm.trans d18
          refine ⟨rfl, ?_⟩
          simp [go_sem, f18, y0, y1]
        case s13 =>
          refine step_val (v := (.pointer (some ⟨b, 0, none⟩))) (fun av wv hE hS hO hD => ?_) (fun _ => rfl)
          have d30 : av.eval (.tmp 30) = (.pointer (some ⟨b, 0, none⟩)) := hD.1 rfl _ rfl
          have f30 := (ev_form av 30).symm.trans d30
          refine ⟨rfl, ?_⟩
          simp [go_sem, f30, y0, y1]
        intro a' w' hE hO hall
        have hA := act_of_outer (ds := [18, 19, 20, 21, 22, 23, 24, 25, 26, 27, 28, 29, 30, 31]) rfl hO (by kernel_rfl)
        have e18 : (fun u _ => u = (.pointer (some ⟨b, 0, none⟩))) (a'.eval (.tmp 18)) w' := hall.1 _ rfl
        have e19 : (fun u _ => u = (.pointer (some ⟨b, 0, none⟩))) (a'.eval (.tmp 19)) w' := hall.2.1 _ rfl
        have e20 : (fun u _ => u = (.pointer (some ⟨b, 0, none⟩))) (a'.eval (.tmp 20)) w' := hall.2.2.1 _ rfl
        have e21 : (fun u _ => u = (.pointer (some ⟨b, 0, none⟩))) (a'.eval (.tmp 21)) w' := hall.2.2.2.1 _ rfl
        have e22 : (fun u _ => u = (v)) (a'.eval (.tmp 22)) w' := hall.2.2.2.2.1 _ rfl
        have e23 : (fun u _ => u = (.pointer (some ⟨br, 1, none⟩))) (a'.eval (.tmp 23)) w' := hall.2.2.2.2.2.1 _ rfl
        have e24 : (fun u _ => u = (.int .u8 r.first)) (a'.eval (.tmp 24)) w' := hall.2.2.2.2.2.2.1 _ rfl
        have e25 : (fun u _ => u = (.int .u64 n)) (a'.eval (.tmp 25)) w' := hall.2.2.2.2.2.2.2.1 _ rfl
        have e26 : (fun u _ => u = (.int .u8 n)) (a'.eval (.tmp 26)) w' := hall.2.2.2.2.2.2.2.2.1 _ rfl
        have e27 : (fun u _ => u = (.int .u8 y)) (a'.eval (.tmp 27)) w' := hall.2.2.2.2.2.2.2.2.2.1 _ rfl
        have e28 : (fun u w' => ∃ b, u = .slice (some ⟨b, 0, none⟩) 1 1 ∧ some b ≠ v.ownBlock ∧ w'.heap[b]? = some (.cells ([.int .u8 y]).toArray 5 (0, 0))) (a'.eval (.tmp 28)) w' := hall.2.2.2.2.2.2.2.2.2.2.1 _ rfl
        have e29 : (fun u w' => w'.ownsRow (base) 5 1 u (s.size + 1) (Lib.strCells s ++ [.int .u8 y])) (a'.eval (.tmp 29)) w' := hall.2.2.2.2.2.2.2.2.2.2.2.1 _ rfl
        have e30 : (fun u _ => u = (.pointer (some ⟨b, 0, none⟩))) (a'.eval (.tmp 30)) w' := hall.2.2.2.2.2.2.2.2.2.2.2.2.1 _ rfl
        have e31 : (fun u _ => u = (.pointer (some ⟨b, 0, none⟩))) (a'.eval (.tmp 31)) w' := hall.2.2.2.2.2.2.2.2.2.2.2.2.2.1 _ rfl
        obtain ⟨v28, hv28⟩ : ∃ v, a'.eval (.tmp 28) = v := ⟨_, rfl⟩
        rw [hv28] at e28
        obtain ⟨v29, hv29⟩ : ∃ v, a'.eval (.tmp 29) = v := ⟨_, rfl⟩
        rw [hv29] at e29
        simp only [List.foldl_cons, List.foldl_nil, Act.put, List.setIfInBounds_toArray, List.set_cons_succ, List.set_cons_zero, e18, e19, e20, e21, e22, e23, e24, e25, e26, e27, hv28, hv29, e30, e31] at hA
        clear hO hall e18 e19 e20 e21 e22 e23 e24 e25 e26 e27 hv28 hv29 e30 e31
        subst hA
        --ENDREGION
        obtain ⟨ga, gc, rfl⟩ := own_slice e29
        have hst := wr_step (s' := s ++ baL [toB y]) hbase VV.out HOWN.out hE (by rw [baL_one]; exact e29) (by rw [strCells_app, strCells_one hy0 hy1])
        have HST := Lib.hid hst
        have hc4 := hst.1
        have hf4 := hst.2.1
        clear hst hE e29
        go_wp2
        go_ret
        refine ⟨ret_bool HX.out.symm, ?_, (WK.of_below VB.out HBS.out).trans HST.out.2.2.2⟩
        rw [HIF.out]
        have e4 : rowB r n = [toB y] := by unfold rowB; rw [if_pos HSZ.out, HY.out]
        rw [e4]; exact HST.out.2.2.1
      · have e0 : (r.size == 0) = false := by simpa using hsz
        have HSZ := Lib.hid hsz
        clear hsz
        go_upto_region 6 with fail
        obtain ⟨br, hbr⟩ : ∃ br, w.heap.size = br := ⟨_, rfl⟩
        obtain ⟨V, hV⟩ : ∃ V, w.alloc (.cells #[.int .u64 r.below, .int .u8 r.first, .int .i64 r.size] 332) = V := ⟨_, rfl⟩
        have VB : Hid (Below w.heap.size w V) := Lib.hid (by rw [← hV]; exact balloc (Below.refl _ _) _)
        have VR : Hid (V.heap[br]? = some (.cells #[.int .u64 r.below, .int .u8 r.first, .int .i64 r.size] 332 (0, 0))) := Lib.hid (by rw [← hV, ← hbr]; exact heap_alloc_new _ _)
        have VN : Hid (V.heap[bn]? = some (.cells #[.int .u64 n] 23 (0, 0))) := Lib.hid ((VB.out.block _ (lt_of_block HN.out)).trans HN.out)
        have VW : Hid (V.heap[bw]? = some (.cells #[.pointer (some ⟨b, 0, none⟩)] 166 (0, 0))) := Lib.hid ((VB.out.block _ (lt_of_block HW2.out)).trans HW2.out)
        have VV : Hid (V.heap[b]? = some (.cells #[v] 265 (0, 0))) := Lib.hid ((VB.out.block _ hltb).trans HV.out)
        have HOWN := Lib.hid (own_below HOWN0.out VB.out)
        have HQ : Hid (∀ g, v.ownBlock = some g → base ≤ g ∧ g < V.heap.size) := Lib.hid (fun g hg => HOWN.out.lt g hg)
        have n1 := own_not8 HOWN.out VN.out n8n
        have n2 := own_not8 HOWN.out VW.out n8b
        have n3 := own_not8 HOWN.out VR.out n8r
        have n4 := own_not8 HOWN.out VV.out n8w
        have c1 : V.cell? ⟨bn, 0, none⟩ = some (.int .u64 n) := block_cell VN.out 0
        have c2 : V.cell? ⟨bw, 0, none⟩ = some (.pointer (some ⟨b, 0, none⟩)) := block_cell VW.out 0
        have c3 : V.cell? ⟨br, 1, none⟩ = some (.int .u8 r.first) := block_cell VR.out 1
        have c4 : V.cell? ⟨b, 0, none⟩ = some v := block_cell VV.out 0
        have hbV : base ≤ V.heap.size := Nat.le_trans hbase (Nat.le_of_lt (lt_of_block VV.out))
        rw [hbr]
        try rw [hV]
        clear hV hbr cn cw cb
        --REGION (*sextant/pack.Writer).head$1 6 ph6
        refine wp_region_tail 11 8 (v.ownBlock) (phis [fun u _ => u = (.pointer (some ⟨b, 0, none⟩)), fun u _ => u = (.pointer (some ⟨b, 0, none⟩)), fun u _ => u = (.pointer (some ⟨b, 0, none⟩)), fun u _ => u = (.pointer (some ⟨b, 0, none⟩)), fun u _ => u = (v), fun u _ => u = (.pointer (some ⟨br, 1, none⟩)), fun u _ => u = (.int .u8 r.first), fun u w' => ∃ b, u = .slice (some ⟨b, 0, none⟩) 1 1 ∧ some b ≠ v.ownBlock ∧ w'.heap[b]? = some (.cells ([.int .u8 r.first]).toArray 5 (0, 0)), fun u w' => w'.ownsRow (base) 5 1 u (s.size + 1) (Lib.strCells s ++ [.int .u8 r.first]), fun u _ => u = (.pointer (some ⟨b, 0, none⟩)), fun u _ => u = (.pointer (some ⟨b, 0, none⟩))]) rfl (by kernel_rfl) (by kernel_rfl) (mono_of ⟨mono_eq, mono_eq, mono_eq, mono_eq, mono_eq, mono_eq, mono_eq, ?m7, ?m8, mono_eq, mono_eq, trivial⟩) (steps_of 11 ⟨?s0, ?s1, ?s2, ?s3, ?s4, ?s5, ?s6, ?s7, ?s8, ?s9, ?s10, trivial⟩) ?_
        case m7 =>
          exact ⟨fun u w1 w' h ⟨b, h1, hb, hb'⟩ => ⟨b, h1, hb, ext_block h hb'⟩, fun _ u w1 w' h ⟨b, h1, hb, hb'⟩ => ⟨b, h1, hb, extB_block h hb hb'⟩⟩
        case m8 =>
          exact ⟨fun u w1 w' h hu => own_below hu h, fun hn => absurd rfl hn⟩
        case s0 =>
          refine step_val (v := (.pointer (some ⟨b, 0, none⟩))) (fun av wv hE hS hO hD => ?_) (fun _ => rfl)
          have h2 : av.eval (.tmp 2) = (.pointer (some ⟨bw, 0, none⟩)) := hO.2.2 2 rfl
          have f2 := (ev_form av 2).symm.trans h2
          have c1 := extB_cell hE n1 c1
          have c2 := extB_cell hE n2 c2
          have c3 := extB_cell hE n3 c3
          have c4 := extB_cell hE n4 c4
          refine ⟨rfl, ?_⟩
          simp [go_sem, f2, c1, c2, c3, c4]
        case s1 =>
          refine step_val (v := (.pointer (some ⟨b, 0, none⟩))) (fun av wv hE hS hO hD => ?_) (fun _ => rfl)
          have h2 : av.eval (.tmp 2) = (.pointer (some ⟨bw, 0, none⟩)) := hO.2.2 2 rfl
          have f2 := (ev_form av 2).symm.trans h2
          have c1 := extB_cell hE n1 c1
          have c2 := extB_cell hE n2 c2
          have c3 := extB_cell hE n3 c3
          have c4 := extB_cell hE n4 c4
          refine ⟨rfl, ?_⟩
          simp [go_sem, f2, c1, c2, c3, c4]
        case s2 =>
          refine step_val (v := (.pointer (some ⟨b, 0, none⟩))) (fun av wv hE hS hO hD => ?_) (fun _ => rfl)
          have d33 : av.eval (.tmp 33) = (.pointer (some ⟨b, 0, none⟩)) := hD.1 rfl _ rfl
          have f33 := (ev_form av 33).symm.trans d33
          refine ⟨rfl, ?_⟩
          simp [go_sem, f33]
        case s3 =>
          refine step_val (v := (.pointer (some ⟨b, 0, none⟩))) (fun av wv hE hS hO hD => ?_) (fun _ => rfl)
          have d34 : av.eval (.tmp 34) = (.pointer (some ⟨b, 0, none⟩)) := hD.1 rfl _ rfl
          have f34 := (ev_form av 34).symm.trans d34
          refine ⟨rfl, ?_⟩
          simp [go_sem, f34]
        case s4 =>
          refine step_val (v := (v)) (fun av wv hE hS hO hD => ?_) (fun _ => rfl)
          have d35 : av.eval (.tmp 35) = (.pointer (some ⟨b, 0, none⟩)) := hD.1 rfl _ rfl
          have f35 := (ev_form av 35).symm.trans d35
          have c1 := extB_cell hE n1 c1
          have c2 := extB_cell hE n2 c2
          have c3 := extB_cell hE n3 c3
          have c4 := extB_cell hE n4 c4
          refine ⟨rfl, ?_⟩
          simp [go_sem, f35, c1, c2, c3, c4]
        case s5 =>
          refine step_val (v := (.pointer (some ⟨br, 1, none⟩))) (fun av wv hE hS hO hD => ?_) (fun _ => rfl)
          have h3 : av.eval (.tmp 3) = (.pointer (some ⟨br, 0, none⟩)) := hO.2.2 3 rfl
          have f3 := (ev_form av 3).symm.trans h3
          refine ⟨rfl, ?_⟩
          simp [go_sem, f3]
        case s6 =>
          refine step_val (v := (.int .u8 r.first)) (fun av wv hE hS hO hD => ?_) (fun _ => rfl)
          have d37 : av.eval (.tmp 37) = (.pointer (some ⟨br, 1, none⟩)) := hD.1 rfl _ rfl
          have f37 := (ev_form av 37).symm.trans d37
          have c1 := extB_cell hE n1 c1
          have c2 := extB_cell hE n2 c2
          have c3 := extB_cell hE n3 c3
          have c4 := extB_cell hE n4 c4
          refine ⟨rfl, ?_⟩
          simp [go_sem, f37, c1, c2, c3, c4]
        case s7 =>
          refine step_wp (fun av wv hE hS hO hD => ?_)
          have d38 : av.eval (.tmp 38) = (.int .u8 r.first) := hD.1 rfl _ rfl
          have f38 := (ev_form av 38).symm.trans d38
          refine ⟨rfl, ?_⟩
          refine wp_of_run (v := .slice (some ⟨wv.heap.size, 0, none⟩) 1 1) (w' := wv.alloc (.cells ([.int .u8 r.first]).toArray 5)) (by first | (simp [go_sem, f38]; done) | (simp [go_sem, f38]; rfl)) ⟨_, rfl, es_of_ext (balloc (Ext_refl _) _), wv.heap.size, rfl, ?_, heap_alloc_new _ _⟩
          exact fun e => absurd (HQ.out _ e.symm).2 (by have := hE.size; simp at this; omega)
        case s8 =>
          refine step_wp (fun av wv hE hS hO hD => ?_)
          have d36 : av.eval (.tmp 36) = (v) := hD.1 rfl _ rfl
          have f36 := (ev_form av 36).symm.trans d36
          have d39 : (fun u w' => ∃ b, u = .slice (some ⟨b, 0, none⟩) 1 1 ∧ some b ≠ v.ownBlock ∧ w'.heap[b]? = some (.cells ([.int .u8 r.first]).toArray 5 (0, 0))) (av.eval (.tmp 39)) wv := hD.2.1 rfl _ rfl
          refine ⟨rfl, ?_⟩
          obtain ⟨bS, hS1, hbS, hcS⟩ := d39
          have hown1 : wv.ownsRow (base) 5 1 (v) (s.size) (Lib.strCells s) := own_below (w := World.drew _) (HOWN.out) (hS rfl)
          refine wp_append_lies wv _ _ _ rfl (base) 5 i0 (.int .u8 0) 1 1 Tryz.underlying106 hi hz0 hz1 hz2 rfl (by decide) (v) (s.size) _ d36 hown1 ⟨bS, 0, none⟩ 1 1 ([.int .u8 r.first]) (by exact hS1) rfl (World.news_of_block hcS) (one_u8 _) (by decide) (by unfold maxLen; omega) (by omega) (by have := hE.size; simp at this; omega) _ rfl ?_
          intro g cap1 w2 hown2 hgrow hat hlt2
          exact ⟨_, rfl, es_sp hgrow, hown2⟩
        case s9 =>
          refine step_val (v := (.pointer (some ⟨b, 0, none⟩))) (fun av wv hE hS hO hD => ?_) (fun _ => rfl)
          have d32 : av.eval (.tmp 32) = (.pointer (some ⟨b, 0, none⟩)) := hD.1 rfl _ rfl
          have f32 := (ev_form av 32).symm.trans d32
          refine ⟨rfl, ?_⟩
          simp [go_sem, f32]
        case s10 =>
          refine step_val (v := (.pointer (some ⟨b, 0, none⟩))) (fun av wv hE hS hO hD => ?_) (fun _ => rfl)
          have d41 : av.eval (.tmp 41) = (.pointer (some ⟨b, 0, none⟩)) := hD.1 rfl _ rfl
          have f41 := (ev_form av 41).symm.trans d41
          refine ⟨rfl, ?_⟩
          simp [go_sem, f41]
        intro a' w' hE hO hall
        have hA := act_of_outer (ds := [32, 33, 34, 35, 36, 37, 38, 39, 40, 41, 42]) rfl hO (by kernel_rfl)
        have e32 : (fun u _ => u = (.pointer (some ⟨b, 0, none⟩))) (a'.eval (.tmp 32)) w' := hall.1 _ rfl
        have e33 : (fun u _ => u = (.pointer (some ⟨b, 0, none⟩))) (a'.eval (.tmp 33)) w' := hall.2.1 _ rfl
        have e34 : (fun u _ => u = (.pointer (some ⟨b, 0, none⟩))) (a'.eval (.tmp 34)) w' := hall.2.2.1 _ rfl
        have e35 : (fun u _ => u = (.pointer (some ⟨b, 0, none⟩))) (a'.eval (.tmp 35)) w' := hall.2.2.2.1 _ rfl
        have e36 : (fun u _ => u = (v)) (a'.eval (.tmp 36)) w' := hall.2.2.2.2.1 _ rfl
        have e37 : (fun u _ => u = (.pointer (some ⟨br, 1, none⟩))) (a'.eval (.tmp 37)) w' := hall.2.2.2.2.2.1 _ rfl
        have e38 : (fun u _ => u = (.int .u8 r.first)) (a'.eval (.tmp 38)) w' := hall.2.2.2.2.2.2.1 _ rfl
        have e39 : (fun u w' => ∃ b, u = .slice (some ⟨b, 0, none⟩) 1 1 ∧ some b ≠ v.ownBlock ∧ w'.heap[b]? = some (.cells ([.int .u8 r.first]).toArray 5 (0, 0))) (a'.eval (.tmp 39)) w' := hall.2.2.2.2.2.2.2.1 _ rfl
        have e40 : (fun u w' => w'.ownsRow (base) 5 1 u (s.size + 1) (Lib.strCells s ++ [.int .u8 r.first])) (a'.eval (.tmp 40)) w' := hall.2.2.2.2.2.2.2.2.1 _ rfl
        have e41 : (fun u _ => u = (.pointer (some ⟨b, 0, none⟩))) (a'.eval (.tmp 41)) w' := hall.2.2.2.2.2.2.2.2.2.1 _ rfl
        have e42 : (fun u _ => u = (.pointer (some ⟨b, 0, none⟩))) (a'.eval (.tmp 42)) w' := hall.2.2.2.2.2.2.2.2.2.2.1 _ rfl
        obtain ⟨v39, hv39⟩ : ∃ v, a'.eval (.tmp 39) = v := ⟨_, rfl⟩
        rw [hv39] at e39
        obtain ⟨v40, hv40⟩ : ∃ v, a'.eval (.tmp 40) = v := ⟨_, rfl⟩
        rw [hv40] at e40
        simp only [List.foldl_cons, List.foldl_nil, Act.put, List.setIfInBounds_toArray, List.set_cons_succ, List.set_cons_zero, e32, e33, e34, e35, e36, e37, e38, hv39, hv40, e41, e42] at hA
        clear hO hall e32 e33 e34 e35 e36 e37 e38 hv39 hv40 e41 e42
        subst hA
        --ENDREGION
        obtain ⟨ga, gc, rfl⟩ := own_slice e40
        have hst := wr_step (s' := s ++ baL [toB r.first]) hbase VV.out HOWN.out hE (by rw [baL_one]; exact e40) (by rw [strCells_app, strCells_one f0 f1])
        have HST := Lib.hid hst
        have hc4 := hst.1
        have hf4 := hst.2.1
        have HBR : Hid (w'.cell? ⟨br, 2, none⟩ = some (.int .i64 r.size)) := Lib.hid (extB_cell hE n3 (block_cell VR.out 2))
        clear hst hE e40 c1 c2 c3 c4
        have hne : br ≠ b := fun e => by have h1 := VR.out; rw [e, VV.out] at h1; cases h1
        have c5 : (w'.setCell ⟨b, 0, none⟩ (.slice (some ⟨ga, 0, none⟩) (s.size + 1) gc)).cell? ⟨br, 2, none⟩ = some (.int .i64 r.size) := by
          have h := (HST.out.2.2.2).keep br _ VR.out hne n8r
          exact block_cell h 2
        obtain ⟨k, hk⟩ := Int.eq_ofNat_of_zero_le s0
        have HKK := Lib.hid hk
        have k8 : k ≤ 8 := by omega
        rw [hk] at c5
        have hw1 : IntKind.i64.wrap ((k : Int) - 1) = (k : Int) - 1 := IntWalk.i64_in _ (by omega)
        clear hk HBR
        go_wp2
        obtain ⟨V2, hV2⟩ : ∃ V2, w'.setCell ⟨b, 0, none⟩ (.slice (some ⟨ga, 0, none⟩) (s.size + 1) gc) = V2 := ⟨_, rfl⟩
        have HWR2 : Hid (WrB V2 b base (s ++ baL (toB r.first :: ((hiL n k).take (k - k)).map toB))) := Lib.hid (by rw [← hV2, Nat.sub_self]; exact HST.out.2.2.1)
        have HWK2 : Hid (WK base b V V2) := Lib.hid (by rw [← hV2]; exact HST.out.2.2.2)
        try rw [hV2]
        clear hV2 HST hc4 hf4 c5 hw1 HWR
        have nbn : bn ≠ b := fun e => by have h1 := VN.out; rw [e, VV.out] at h1; cases h1
        have nbw : bw ≠ b := fun e => by have h1 := VW.out; rw [e, VV.out] at h1; cases h1
        have hbVS : base ≤ V.heap.size := hbV
        clear n1 n2 n3 n4 hbV hltb HQ
        go_loopg [5] k (fun g i wr => g ≤ k ∧ i = .int .i64 ((g : Int) - 1) ∧ Hid (WrB wr b base (s ++ baL (toB r.first :: ((hiL n k).take (k - g)).map toB))) ∧ Hid (WK base b V wr))
        case atStart => exact ⟨Nat.le_refl _, rfl, HWR2.out, HWK2.out⟩
        case round =>
          clear HWR2 HWK2
          obtain ⟨hgk, rfl, HWR, HWK⟩ := hrel
          obtain ⟨G, hG⟩ : ∃ G, G = gk := ⟨_, rfl⟩
          subst hG
          cases G with
          | zero =>
            have e2 : ((0 : Nat) : Int) - 1 = -1 := rfl
            rw [e2]
            clear e2
            go_wp2
            go_ret
            refine ⟨ret_bool HX.out.symm, ?_, (WK.of_below VB.out HBS.out).trans HWK.out⟩
            rw [HIF.out]
            have e4 : rowB r n = toB r.first :: ((hiL n k).take (k - 0)).map toB := by
              unfold rowB
              rw [if_neg HSZ.out, HKK.out, Nat.sub_zero, List.take_of_length_le (by rw [hiL_len]; exact Nat.le_refl _)]; rfl
            rw [e4]; exact HWR.out
          | succ i =>
            have e2 : ((i + 1 : Nat) : Int) - 1 = (i : Int) := by omega
            rw [e2]
            obtain ⟨t, ht⟩ : ∃ t, s ++ baL (toB r.first :: ((hiL n k).take (k - (i + 1))).map toB) = t := ⟨_, rfl⟩
            have hts : t.size ≤ 70000000000009 := by
              rw [← ht, ByteArray.size_append, baL_size, List.length_cons, List.length_map, List.length_take, hiL_len]; omega
            obtain ⟨x, hx⟩ : ∃ x, n / 2 ^ (8 * i) % 256 = x := ⟨_, rfl⟩
            have hx0 : 0 ≤ x ∧ x ≤ 255 := by rw [← hx]; omega
            have HT : Hid (s ++ baL (toB r.first :: ((hiL n k).take (k - i)).map toB) = t ++ baL [toB x]) := Lib.hid (by
              rw [← ht, hi_next n k i (by omega), show (256 : Int) ^ i = 2 ^ (8 * i) by rw [Int.pow_mul]; rfl, hx, List.map_append, ← List.cons_append, baL_app, ByteArray.append_assoc]; rfl)
            rw [ht] at HWR
            have y0 : IntKind.u8.wrap (n / 2 ^ (8 * i)) = x := by rw [IntKind.wrap_u8]; exact hx
            have y1 : IntKind.i64.wrap (8 * (i : Int)) = 8 * (i : Int) := IntWalk.i64_in _ (by omega)
            have y2 : 0 ≤ 8 * (i : Int) := by omega
            have y3 : (8 * (i : Int)).toNat = 8 * i := by omega
            clear ht e2 hx
            obtain ⟨-, v, hv, hown⟩ := HWR.out
            have VV2 := Lib.hid hv
            have HOWN := Lib.hid hown
            have VN2 := Lib.hid (HWK.out.keep _ _ VN.out nbn n8n)
            have VW2 := Lib.hid (HWK.out.keep _ _ VW.out nbw n8b)
            have n8w : Not8 (.cells #[v] 265 (0, 0)) := not8_cells (by decide)
            have HQ : Hid (∀ g, v.ownBlock = some g → base ≤ g ∧ g < wr.heap.size) := Lib.hid (fun g hg => HOWN.out.lt g hg)
            have n1 := own_not8 HOWN.out VN2.out n8n
            have n2 := own_not8 HOWN.out VW2.out n8b
            have n4 := own_not8 HOWN.out VV2.out n8w
            have c1 : wr.cell? ⟨bn, 0, none⟩ = some (.int .u64 n) := block_cell VN2.out 0
            have c2 : wr.cell? ⟨bw, 0, none⟩ = some (.pointer (some ⟨b, 0, none⟩)) := block_cell VW2.out 0
            have c4 : wr.cell? ⟨b, 0, none⟩ = some v := block_cell VV2.out 0
            have hbV : base ≤ wr.heap.size := Nat.le_trans hbase (Nat.le_of_lt (lt_of_block VV2.out))
            clear hv hown
            go_upto_region 10 with fail
            --REGION (*sextant/pack.Writer).head$1 10 ph10
            refine wp_region_tail 14 11 (v.ownBlock) (phis [fun u _ => u = (.pointer (some ⟨b, 0, none⟩)), fun u _ => u = (.pointer (some ⟨b, 0, none⟩)), fun u _ => u = (.pointer (some ⟨b, 0, none⟩)), fun u _ => u = (.pointer (some ⟨b, 0, none⟩)), fun u _ => u = (v), fun u _ => u = (.int .u64 n), fun u _ => u = (.int .i64 i), fun u _ => u = (.int .i64 (8 * (i : Int))), fun u _ => u = (.int .u64 (n / 2 ^ (8 * i))), fun u _ => u = (.int .u8 x), fun u w' => ∃ b, u = .slice (some ⟨b, 0, none⟩) 1 1 ∧ some b ≠ v.ownBlock ∧ w'.heap[b]? = some (.cells ([.int .u8 x]).toArray 5 (0, 0)), fun u w' => w'.ownsRow (base) 5 1 u (t.size + 1) (Lib.strCells t ++ [.int .u8 x]), fun u _ => u = (.pointer (some ⟨b, 0, none⟩)), fun u _ => u = (.pointer (some ⟨b, 0, none⟩))]) rfl (by kernel_rfl) (by kernel_rfl) (mono_of ⟨mono_eq, mono_eq, mono_eq, mono_eq, mono_eq, mono_eq, mono_eq, mono_eq, mono_eq, mono_eq, ?m10, ?m11, mono_eq, mono_eq, trivial⟩) (steps_of 14 ⟨?s0, ?s1, ?s2, ?s3, ?s4, ?s5, ?s6, ?s7, ?s8, ?s9, ?s10, ?s11, ?s12, ?s13, trivial⟩) ?_
            case m10 =>
              exact ⟨fun u w1 w' h ⟨b, h1, hb, hb'⟩ => ⟨b, h1, hb, ext_block h hb'⟩, fun _ u w1 w' h ⟨b, h1, hb, hb'⟩ => ⟨b, h1, hb, extB_block h hb hb'⟩⟩
            case m11 =>
              exact ⟨fun u w1 w' h hu => own_below hu h, fun hn => absurd rfl hn⟩
            case s0 =>
              refine step_val (v := (.pointer (some ⟨b, 0, none⟩))) (fun av wv hE hS hO hD => ?_) (fun _ => rfl)
              have h2 : av.eval (.tmp 2) = (.pointer (some ⟨bw, 0, none⟩)) := hO.2.2 2 rfl
              have f2 := (ev_form av 2).symm.trans h2
              have c1 := extB_cell hE n1 c1
              have c2 := extB_cell hE n2 c2
              have c4 := extB_cell hE n4 c4
              refine ⟨rfl, ?_⟩
              simp [go_sem, f2, c1, c2, c4, y0, y1, y2, y3]
            case s1 =>
              refine step_val (v := (.pointer (some ⟨b, 0, none⟩))) (fun av wv hE hS hO hD => ?_) (fun _ => rfl)
              have h2 : av.eval (.tmp 2) = (.pointer (some ⟨bw, 0, none⟩)) := hO.2.2 2 rfl
              have f2 := (ev_form av 2).symm.trans h2
              have c1 := extB_cell hE n1 c1
              have c2 := extB_cell hE n2 c2
              have c4 := extB_cell hE n4 c4
              refine ⟨rfl, ?_⟩
              simp [go_sem, f2, c1, c2, c4, y0, y1, y2, y3]
            case s2 =>
              refine step_val (v := (.pointer (some ⟨b, 0, none⟩))) (fun av wv hE hS hO hD => ?_) (fun _ => rfl)
              have d51 : av.eval (.tmp 51) = (.pointer (some ⟨b, 0, none⟩)) := hD.1 rfl _ rfl
              have f51 := (ev_form av 51).symm.trans d51
              refine ⟨rfl, ?_⟩
              simp [go_sem, f51, y0, y1, y2, y3]
            case s3 =>
              refine step_val (v := (.pointer (some ⟨b, 0, none⟩))) (fun av wv hE hS hO hD => ?_) (fun _ => rfl)
              have d52 : av.eval (.tmp 52) = (.pointer (some ⟨b, 0, none⟩)) := hD.1 rfl _ rfl
              have f52 := (ev_form av 52).symm.trans d52
              refine ⟨rfl, ?_⟩
              simp [go_sem, f52, y0, y1, y2, y3]
            case s4 =>
              refine step_val (v := (v)) (fun av wv hE hS hO hD => ?_) (fun _ => rfl)
              have d53 : av.eval (.tmp 53) = (.pointer (some ⟨b, 0, none⟩)) := hD.1 rfl _ rfl
              have f53 := (ev_form av 53).symm.trans d53
              have c1 := extB_cell hE n1 c1
              have c2 := extB_cell hE n2 c2
              have c4 := extB_cell hE n4 c4
              refine ⟨rfl, ?_⟩
              simp [go_sem, f53, c1, c2, c4, y0, y1, y2, y3]
            case s5 =>
              refine step_val (v := (.int .u64 n)) (fun av wv hE hS hO hD => ?_) (fun _ => rfl)
              have h1 : av.eval (.tmp 1) = (.pointer (some ⟨bn, 0, none⟩)) := hO.2.2 1 rfl
              have f1 := (ev_form av 1).symm.trans h1
              have c1 := extB_cell hE n1 c1
              have c2 := extB_cell hE n2 c2
              have c4 := extB_cell hE n4 c4
              refine ⟨rfl, ?_⟩
              simp [go_sem, f1, c1, c2, c4, y0, y1, y2, y3]
            case s6 =>
              refine step_val (v := (.int .i64 i)) (fun av wv hE hS hO hD => ?_) (fun _ => rfl)
              have h5 : av.eval (.tmp 5) = (.int .i64 i) := hO.2.2 5 rfl
              have f5 := (ev_form av 5).symm.trans h5
              refine ⟨rfl, ?_⟩
              simp [go_sem, f5, y0, y1, y2, y3]
            case s7 =>
              refine step_val (v := (.int .i64 (8 * (i : Int)))) (fun av wv hE hS hO hD => ?_) (fun _ => rfl)
              have d56 : av.eval (.tmp 56) = (.int .i64 i) := hD.1 rfl _ rfl
              have f56 := (ev_form av 56).symm.trans d56
              refine ⟨rfl, ?_⟩
              simp [go_sem, f56, y0, y1, y2, y3]
            case s8 =>
              refine step_val (v := (.int .u64 (n / 2 ^ (8 * i)))) (fun av wv hE hS hO hD => ?_) (fun _ => rfl)
              have d55 : av.eval (.tmp 55) = (.int .u64 n) := hD.1 rfl _ rfl
              have f55 := (ev_form av 55).symm.trans d55
              have d57 : av.eval (.tmp 57) = (.int .i64 (8 * (i : Int))) := hD.2.1 rfl _ rfl
              have f57 := (ev_form av 57).symm.trans d57
              refine ⟨rfl, ?_⟩
              simp [go_sem, f55, f57, y0, y1, y2, y3]
            case s9 =>
              refine step_val (v := (.int .u8 x)) (fun av wv hE hS hO hD => ?_) (fun _ => rfl)
              have d58 : av.eval (.tmp 58) = (.int .u64 (n / 2 ^ (8 * i))) := hD.1 rfl _ rfl
              have f58 := (ev_form av 58).symm.trans d58
              refine ⟨rfl, ?_⟩
              simp [go_sem, f58, y0, y1, y2, y3]
            case s10 =>
              refine step_wp (fun av wv hE hS hO hD => ?_)
              have d59 : av.eval (.tmp 59) = (.int .u8 x) := hD.1 rfl _ rfl
              have f59 := (ev_form av 59).symm.trans d59
              refine ⟨rfl, ?_⟩
              refine wp_of_run (v := .slice (some ⟨wv.heap.size, 0, none⟩) 1 1) (w' := wv.alloc (.cells ([.int .u8 x]).toArray 5)) (by first | (simp [go_sem, f59, y0, y1, y2, y3]; done) | (simp [go_sem, f59, y0, y1, y2, y3]; rfl)) ⟨_, rfl, es_of_ext (balloc (Ext_refl _) _), wv.heap.size, rfl, ?_, heap_alloc_new _ _⟩
              exact fun e => absurd (HQ.out _ e.symm).2 (by have := hE.size; simp at this; omega)
            case s11 =>
              refine step_wp (fun av wv hE hS hO hD => ?_)
              have d54 : av.eval (.tmp 54) = (v) := hD.1 rfl _ rfl
              have f54 := (ev_form av 54).symm.trans d54
              have d60 : (fun u w' => ∃ b, u = .slice (some ⟨b, 0, none⟩) 1 1 ∧ some b ≠ v.ownBlock ∧ w'.heap[b]? = some (.cells ([.int .u8 x]).toArray 5 (0, 0))) (av.eval (.tmp 60)) wv := hD.2.1 rfl _ rfl
              refine ⟨rfl, ?_⟩
              obtain ⟨bS, hS1, hbS, hcS⟩ := d60
              have hown1 : wv.ownsRow (base) 5 1 (v) (t.size) (Lib.strCells t) := own_below (w := World.drew _) (HOWN.out) (hS rfl)
              refine wp_append_lies wv _ _ _ rfl (base) 5 i0 (.int .u8 0) 1 1 Tryz.underlying106 hi hz0 hz1 hz2 rfl (by decide) (v) (t.size) _ d54 hown1 ⟨bS, 0, none⟩ 1 1 ([.int .u8 x]) (by exact hS1) rfl (World.news_of_block hcS) (one_u8 _) (by decide) (by unfold maxLen; omega) (by omega) (by have := hE.size; simp at this; omega) _ rfl ?_
              intro g cap1 w2 hown2 hgrow hat hlt2
              exact ⟨_, rfl, es_sp hgrow, hown2⟩
            case s12 =>
              refine step_val (v := (.pointer (some ⟨b, 0, none⟩))) (fun av wv hE hS hO hD => ?_) (fun _ => rfl)
              have d50 : av.eval (.tmp 50) = (.pointer (some ⟨b, 0, none⟩)) := hD.1 rfl _ rfl
              have f50 := (ev_form av 50).symm.trans d50
              refine ⟨rfl, ?_⟩
              simp [go_sem, f50, y0, y1, y2, y3]
            case s13 =>
              refine step_val (v := (.pointer (some ⟨b, 0, none⟩))) (fun av wv hE hS hO hD => ?_) (fun _ => rfl)
              have d62 : av.eval (.tmp 62) = (.pointer (some ⟨b, 0, none⟩)) := hD.1 rfl _ rfl
              have f62 := (ev_form av 62).symm.trans d62
              refine ⟨rfl, ?_⟩
              simp [go_sem, f62, y0, y1, y2, y3]
            intro a' w' hE hO hall
            have hA := act_of_outer (ds := [50, 51, 52, 53, 54, 55, 56, 57, 58, 59, 60, 61, 62, 63]) rfl hO (by kernel_rfl)
            have e50 : (fun u _ => u = (.pointer (some ⟨b, 0, none⟩))) (a'.eval (.tmp 50)) w' := hall.1 _ rfl
            have e51 : (fun u _ => u = (.pointer (some ⟨b, 0, none⟩))) (a'.eval (.tmp 51)) w' := hall.2.1 _ rfl
            have e52 : (fun u _ => u = (.pointer (some ⟨b, 0, none⟩))) (a'.eval (.tmp 52)) w' := hall.2.2.1 _ rfl
            have e53 : (fun u _ => u = (.pointer (some ⟨b, 0, none⟩))) (a'.eval (.tmp 53)) w' := hall.2.2.2.1 _ rfl
            have e54 : (fun u _ => u = (v)) (a'.eval (.tmp 54)) w' := hall.2.2.2.2.1 _ rfl
            have e55 : (fun u _ => u = (.int .u64 n)) (a'.eval (.tmp 55)) w' := hall.2.2.2.2.2.1 _ rfl
            have e56 : (fun u _ => u = (.int .i64 i)) (a'.eval (.tmp 56)) w' := hall.2.2.2.2.2.2.1 _ rfl
            have e57 : (fun u _ => u = (.int .i64 (8 * (i : Int)))) (a'.eval (.tmp 57)) w' := hall.2.2.2.2.2.2.2.1 _ rfl
            have e58 : (fun u _ => u = (.int .u64 (n / 2 ^ (8 * i)))) (a'.eval (.tmp 58)) w' := hall.2.2.2.2.2.2.2.2.1 _ rfl
            have e59 : (fun u _ => u = (.int .u8 x)) (a'.eval (.tmp 59)) w' := hall.2.2.2.2.2.2.2.2.2.1 _ rfl
            have e60 : (fun u w' => ∃ b, u = .slice (some ⟨b, 0, none⟩) 1 1 ∧ some b ≠ v.ownBlock ∧ w'.heap[b]? = some (.cells ([.int .u8 x]).toArray 5 (0, 0))) (a'.eval (.tmp 60)) w' := hall.2.2.2.2.2.2.2.2.2.2.1 _ rfl
            have e61 : (fun u w' => w'.ownsRow (base) 5 1 u (t.size + 1) (Lib.strCells t ++ [.int .u8 x])) (a'.eval (.tmp 61)) w' := hall.2.2.2.2.2.2.2.2.2.2.2.1 _ rfl
            have e62 : (fun u _ => u = (.pointer (some ⟨b, 0, none⟩))) (a'.eval (.tmp 62)) w' := hall.2.2.2.2.2.2.2.2.2.2.2.2.1 _ rfl
            have e63 : (fun u _ => u = (.pointer (some ⟨b, 0, none⟩))) (a'.eval (.tmp 63)) w' := hall.2.2.2.2.2.2.2.2.2.2.2.2.2.1 _ rfl
            obtain ⟨v60, hv60⟩ : ∃ v, a'.eval (.tmp 60) = v := ⟨_, rfl⟩
            rw [hv60] at e60
            obtain ⟨v61, hv61⟩ : ∃ v, a'.eval (.tmp 61) = v := ⟨_, rfl⟩
            rw [hv61] at e61
            simp only [List.foldl_cons, List.foldl_nil, Act.put, List.setIfInBounds_toArray, List.set_cons_succ, List.set_cons_zero, e50, e51, e52, e53, e54, e55, e56, e57, e58, e59, hv60, hv61, e62, e63] at hA
            clear hO hall e50 e51 e52 e53 e54 e55 e56 e57 e58 e59 hv60 hv61 e62 e63
            subst hA
            --ENDREGION
            obtain ⟨ga, gc, rfl⟩ := own_slice e61
            have hst := wr_step (s' := t ++ baL [toB x]) hbase VV2.out HOWN.out hE (by rw [baL_one]; exact e61) (by rw [strCells_app, strCells_one hx0.1 hx0.2])
            have HST := Lib.hid hst
            have hc4 := hst.1
            have hf4 := hst.2.1
            clear hst hE e61 c1 c2 c4 n1 n2 n4
            go_wp2
            go_roundg i
            case rel => exact ⟨by omega, by go_num, by rw [HT.out]; exact HST.out.2.2.1, HWK.out.trans HST.out.2.2.2⟩
            case measure => omega
  · have HX : Hid (decide (n < r.below ∨ r.below = 0) = false) := Lib.hid (decide_eq_false hx)
    have g1 : decide (r.below ≤ n) = true := by simp; omega
    have g2 : decide (0 < r.below) = true := by have := HR.out.b0; simp; omega
    have HNX := Lib.hid hx
    clear hx
    go_enter Tryz.func255, Tryz.ntmps255
    go_wp2
    go_ret
    exact ⟨ret_bool HX.out.symm, by rw [if_neg HNX.out]; exact HWR.out.below (by (repeat (first | exact Below.refl _ _ | assumption | (refine bdrew ?_) | (refine bdrewN ?_ _) | (refine balloc ?_ _) | (refine bset ?_ (by first | omega | (simp; done) | (simp; omega)) _) | (refine bnext ?_ (by assumption))))), WK.of_below (by (repeat (first | exact Below.refl _ _ | assumption | (refine bdrew ?_) | (refine bdrewN ?_ _) | (refine balloc ?_ _) | (refine bset ?_ (by first | omega | (simp; done) | (simp; omega)) _) | (refine bnext ?_ (by assumption))))) (by have := HWR.out.1; have := HWR.out.lt; omega)⟩
end Go.Proofs.YtihiaopilnjonaaGreatDoor

/- Parts of the proof, one behind the other. -/
import Derived.Test.YtihiaopilnjonaaGreatDoorWpaP1
import Derived.Laws.BytesArg
import Derived.Shelf.Strings.Builder1
import Derived.Shelf.Strings.Builder2
import Derived.Shelf.Strings.BuilderF
import Derived.Shelf.Strings.BuilderK
import Derived.Shelf.Strings.Builder2Cap
import Derived.Shelf.Strings.Prefix
import Derived.Shelf.Bits.Mul64
import Derived.Shelf.Strings.Repeat
import Derived.Shelf.Strings.BuilderCap
import Derived.Test.YtihiaopilnjonaaGreatDoorProg
import Derived.WalkMore
import Derived.Lib.SliceRun
import Derived.Laws.EntriesVeiled
namespace Go.Proofs.YtihiaopilnjonaaGreatDoor
open Go.RowKit
set_option linter.unusedSimpArgs false
set_option linter.unusedVariables false
structure PRow.Ok (r : PRow) (n : Int) : Prop where
  b0 : 0 ≤ r.below
  b1 : r.below ≤ 18446744073709551615
  f0 : 0 ≤ r.first
  f1 : r.first ≤ 255
  s0 : 0 ≤ r.size
  s1 : r.size ≤ 8
  fit : r.size = 0 → (n < r.below ∨ r.below = 0) → r.first + n ≤ 255
def Head1Is (r : PRow) (n : Int) (s : ByteArray) (b base : Nat) (w : World) (e : Ending) (w' : World) : Prop :=
  e = .returned (.bool (decide (n < r.below ∨ r.below = 0))) ∧ WrB w' b base (if n < r.below ∨ r.below = 0 then s ++ baL (rowB r n) else s) ∧ WK base b w w'
theorem hi_next (n : Int) (k i : Nat) (h : i < k) : (hiL n k).take (k - i) = (hiL n k).take (k - (i + 1)) ++ [n / 256 ^ i % 256] := by
  have hl := hiL_len n k
  have key : ∀ k, i < k → (hiL n k)[k - (i + 1)]? = some (n / 256 ^ i % 256) := by
    intro k
    induction k with
    | zero => intro h; omega
    | succ k ih =>
      intro h
      rw [hiL]
      by_cases e : i = k
      · subst e; simp
      · have h2 := ih (by omega)
        rw [show k + 1 - (i + 1) = (k - (i + 1)) + 1 by omega, List.getElem?_cons_succ]; exact h2
  have h3 := key k h
  rw [show k - i = k - (i + 1) + 1 by omega, List.take_add_one, h3]; rfl
set_option maxRecDepth 100000 in
set_option maxHeartbeats 4000000 in
theorem head1_any (r : PRow) (bn bw b base : Nat) (n : Int) (s : ByteArray) (w : World) (hn : w.heap[bn]? = some (.cells #[.int .u64 n] 23 (0, 0))) (hw : w.heap[bw]? = some (.cells #[.pointer (some ⟨b, 0, none⟩)] 166 (0, 0)))
    (hW : WrB w b base s) (h0 : 0 ≤ n) (h1 : n ≤ 18446744073709551615) (hr : r.Ok n) (hs : s.size ≤ 70000000000000) :
    Calls Tryz.prog 255 #[r.val, .pointer (some ⟨bn, 0, none⟩), .pointer (some ⟨bw, 0, none⟩)] w (Head1Is r n s b base w) := by
  have HR := Lib.hid hr
  have HN := Lib.hid hn
  have HW2 := Lib.hid hw
  have HWR := Lib.hid hW
  have cn := block_cell hn 0
  have cw := block_cell hw 0
  simp only [List.getElem?_toArray, List.getElem?_cons_zero] at cn cw
  have lbn := lt_of_block hn
  have lbw := lt_of_block hw
  clear hr hn hw hW
  unfold PRow.val
  by_cases hx : n < r.below ∨ r.below = 0
  · have HX : Hid (decide (n < r.below ∨ r.below = 0) = true) := Lib.hid (decide_eq_true hx)
    have hcase : decide (r.below ≤ n) = false ∨ (decide (r.below ≤ n) = true ∧ decide (0 < r.below) = false) := by
      rcases hx with h | h
      · exact .inl (decide_eq_false (by omega))
      · exact .inr ⟨decide_eq_true (by omega), decide_eq_false (by omega)⟩
    have HCS := Lib.hid hcase
    have hfit := fun h => HR.out.fit h hx
    have HFIT := Lib.hid hfit
    have HIF : Hid ((if n < r.below ∨ r.below = 0 then s ++ baL (rowB r n) else s) = s ++ baL (rowB r n)) := Lib.hid (if_pos hx)
    have f0 := HR.out.f0
    have f1 := HR.out.f1
    have s0 := HR.out.s0
    have s1 := HR.out.s1
    clear hx hfit hcase
    obtain ⟨hbase, v, hv, hown⟩ := HWR.out
    have n8w : Not8 (.cells #[v] 265 (0, 0)) := not8_cells (by decide)
    have n8n : Not8 (.cells #[.int .u64 n] 23 (0, 0)) := not8_cells (by decide)
    have n8b : Not8 (.cells #[.pointer (some ⟨b, 0, none⟩)] 166 (0, 0)) := not8_cells (by decide)
    have n8r : Not8 (.cells #[.int .u64 r.below, .int .u8 r.first, .int .i64 r.size] 332 (0, 0)) := not8_cells (by decide)
    obtain ⟨i0, hi, hz0, hz1, hz2⟩ := info_parts info_u8
    have cb := block_cell hv 0
    simp only [List.getElem?_toArray, List.getElem?_cons_zero] at cb
    have HV := Lib.hid hv
    have HOWN0 := Lib.hid hown
    have hltb := HWR.out.lt
    have HBS : Hid (base ≤ w.heap.size) := Lib.hid (by omega)
    clear hv hown
    have hcs := HCS.out
    clear HCS
    rcases hcs with g1 | ⟨g1, g2⟩
    · skip
      go_enter Tryz.func255, Tryz.ntmps255
      by_cases hsz : r.size = 0
      · have e0 : (r.size == 0) = true := by simpa using hsz
        have HSZ := Lib.hid hsz
        clear hsz
        go_upto_region 4 with fail
        obtain ⟨br, hbr⟩ : ∃ br, w.heap.size = br := ⟨_, rfl⟩
        obtain ⟨V, hV⟩ : ∃ V, w.alloc (.cells #[.int .u64 r.below, .int .u8 r.first, .int .i64 r.size] 332) = V := ⟨_, rfl⟩
        have VB : Hid (Below w.heap.size w V) := Lib.hid (by rw [← hV]; exact balloc (Below.refl _ _) _)
        have VR : Hid (V.heap[br]? = some (.cells #[.int .u64 r.below, .int .u8 r.first, .int .i64 r.size] 332 (0, 0))) := Lib.hid (by rw [← hV, ← hbr]; exact heap_alloc_new _ _)
        have VN : Hid (V.heap[bn]? = some (.cells #[.int .u64 n] 23 (0, 0))) := Lib.hid ((VB.out.block _ (lt_of_block HN.out)).trans HN.out)
        have VW : Hid (V.heap[bw]? = some (.cells #[.pointer (some ⟨b, 0, none⟩)] 166 (0, 0))) := Lib.hid ((VB.out.block _ (lt_of_block HW2.out)).trans HW2.out)
        have VV : Hid (V.heap[b]? = some (.cells #[v] 265 (0, 0))) := Lib.hid ((VB.out.block _ hltb).trans HV.out)
        have HOWN := Lib.hid (own_below HOWN0.out VB.out)
        have HQ : Hid (∀ g, v.ownBlock = some g → base ≤ g ∧ g < V.heap.size) := Lib.hid (fun g hg => HOWN.out.lt g hg)
        have n1 := own_not8 HOWN.out VN.out n8n
        have n2 := own_not8 HOWN.out VW.out n8b
        have n3 := own_not8 HOWN.out VR.out n8r
        have n4 := own_not8 HOWN.out VV.out n8w
        have c1 : V.cell? ⟨bn, 0, none⟩ = some (.int .u64 n) := block_cell VN.out 0
        have c2 : V.cell? ⟨bw, 0, none⟩ = some (.pointer (some ⟨b, 0, none⟩)) := block_cell VW.out 0
        have c3 : V.cell? ⟨br, 1, none⟩ = some (.int .u8 r.first) := block_cell VR.out 1
        have c4 : V.cell? ⟨b, 0, none⟩ = some v := block_cell VV.out 0
        have hbV : base ≤ V.heap.size := Nat.le_trans hbase (Nat.le_of_lt (lt_of_block VV.out))
        obtain ⟨y, hy⟩ : ∃ y, r.first + n = y := ⟨_, rfl⟩
        have hy1 : y ≤ 255 := by rw [← hy]; exact HFIT.out HSZ.out
        have y0 : IntKind.u8.wrap n = n := IntWalk.u8_in _ (by omega)
        have y1 : IntKind.u8.wrap (r.first + n) = y := by rw [hy]; exact IntWalk.u8_in _ (by omega)
        have hy0 : 0 ≤ y := by omega
        have HY := Lib.hid hy
        rw [hbr]
        try rw [hV]
        clear hV hbr hy cn cw cb
        refine wp_region_tail 14 11 (v.ownBlock) (phis [fun u _ => u = (.pointer (some ⟨b, 0, none⟩)), fun u _ => u = (.pointer (some ⟨b, 0, none⟩)), fun u _ => u = (.pointer (some ⟨b, 0, none⟩)), fun u _ => u = (.pointer (some ⟨b, 0, none⟩)), fun u _ => u = (v), fun u _ => u = (.pointer (some ⟨br, 1, none⟩)), fun u _ => u = (.int .u8 r.first), fun u _ => u = (.int .u64 n), fun u _ => u = (.int .u8 n), fun u _ => u = (.int .u8 y), fun u w' => ∃ b, u = .slice (some ⟨b, 0, none⟩) 1 1 ∧ some b ≠ v.ownBlock ∧ w'.heap[b]? = some (.cells ([.int .u8 y]).toArray 5 (0, 0)), fun u w' => w'.ownsRow (base) 5 1 u (s.size + 1) (Lib.strCells s ++ [.int .u8 y]), fun u _ => u = (.pointer (some ⟨b, 0, none⟩)), fun u _ => u = (.pointer (some ⟨b, 0, none⟩))]) rfl (by kernel_rfl) (by kernel_rfl) (mono_of ⟨mono_eq, mono_eq, mono_eq, mono_eq, mono_eq, mono_eq, mono_eq, mono_eq, mono_eq, mono_eq, ?m10, ?m11, mono_eq, mono_eq, trivial⟩) (steps_of 14 ⟨?s0, ?s1, ?s2, ?s3, ?s4, ?s5, ?s6, ?s7, ?s8, ?s9, ?s10, ?s11, ?s12, ?s13, trivial⟩) ?_
        case m10 =>
          exact ⟨fun u w1 w' h ⟨b, h1, hb, hb'⟩ => ⟨b, h1, hb, ext_block h hb'⟩, fun _ u w1 w' h ⟨b, h1, hb, hb'⟩ => ⟨b, h1, hb, extB_block h hb hb'⟩⟩
        case m11 =>
          exact ⟨fun u w1 w' h hu => own_below hu h, fun hn => absurd rfl hn⟩
        case s0 =>
          refine step_val (v := (.pointer (some ⟨b, 0, none⟩))) (fun av wv hE hS hO hD => ?_) (fun _ => rfl)
          have h2 : av.eval (.tmp 2) = (.pointer (some ⟨bw, 0, none⟩)) := hO.2.2 2 rfl
          have f2 := (ev_form av 2).symm.trans h2
          have c1 := extB_cell hE n1 c1
          have c2 := extB_cell hE n2 c2
          have c3 := extB_cell hE n3 c3
          have c4 := extB_cell hE n4 c4
          refine ⟨rfl, ?_⟩
          simp [go_sem, f2, c1, c2, c3, c4, y0, y1]
        case s1 =>
          refine step_val (v := (.pointer (some ⟨b, 0, none⟩))) (fun av wv hE hS hO hD => ?_) (fun _ => rfl)
          have h2 : av.eval (.tmp 2) = (.pointer (some ⟨bw, 0, none⟩)) := hO.2.2 2 rfl
          have f2 := (ev_form av 2).symm.trans h2
          have c1 := extB_cell hE n1 c1
          have c2 := extB_cell hE n2 c2
          have c3 := extB_cell hE n3 c3
          have c4 := extB_cell hE n4 c4
          refine ⟨rfl, ?_⟩
          simp [go_sem, f2, c1, c2, c3, c4, y0, y1]
        case s2 =>
          refine step_val (v := (.pointer (some ⟨b, 0, none⟩))) (fun av wv hE hS hO hD => ?_) (fun _ => rfl)
          have d19 : av.eval (.tmp 19) = (.pointer (some ⟨b, 0, none⟩)) := hD.1 rfl _ rfl
          have f19 := (ev_form av 19).symm.trans d19
          refine ⟨rfl, ?_⟩
          simp [go_sem, f19, y0, y1]
        case s3 =>
          refine step_val (v := (.pointer (some ⟨b, 0, none⟩))) (fun av wv hE hS hO hD => ?_) (fun _ => rfl)
          have d20 : av.eval (.tmp 20) = (.pointer (some ⟨b, 0, none⟩)) := hD.1 rfl _ rfl
          have f20 := (ev_form av 20).symm.trans d20
          refine ⟨rfl, ?_⟩
          simp [go_sem, f20, y0, y1]
        case s4 =>
          refine step_val (v := (v)) (fun av wv hE hS hO hD => ?_) (fun _ => rfl)
          have d21 : av.eval (.tmp 21) = (.pointer (some ⟨b, 0, none⟩)) := hD.1 rfl _ rfl
          have f21 := (ev_form av 21).symm.trans d21
          have c1 := extB_cell hE n1 c1
          have c2 := extB_cell hE n2 c2
          have c3 := extB_cell hE n3 c3
          have c4 := extB_cell hE n4 c4
          refine ⟨rfl, ?_⟩
          simp [go_sem, f21, c1, c2, c3, c4, y0, y1]
        case s5 =>
          refine step_val (v := (.pointer (some ⟨br, 1, none⟩))) (fun av wv hE hS hO hD => ?_) (fun _ => rfl)
          have h3 : av.eval (.tmp 3) = (.pointer (some ⟨br, 0, none⟩)) := hO.2.2 3 rfl
          have f3 := (ev_form av 3).symm.trans h3
          refine ⟨rfl, ?_⟩
          simp [go_sem, f3, y0, y1]
        case s6 =>
          refine step_val (v := (.int .u8 r.first)) (fun av wv hE hS hO hD => ?_) (fun _ => rfl)
          have d23 : av.eval (.tmp 23) = (.pointer (some ⟨br, 1, none⟩)) := hD.1 rfl _ rfl
          have f23 := (ev_form av 23).symm.trans d23
          have c1 := extB_cell hE n1 c1
          have c2 := extB_cell hE n2 c2
          have c3 := extB_cell hE n3 c3
          have c4 := extB_cell hE n4 c4
          refine ⟨rfl, ?_⟩
          simp [go_sem, f23, c1, c2, c3, c4, y0, y1]
        case s7 =>
          refine step_val (v := (.int .u64 n)) (fun av wv hE hS hO hD => ?_) (fun _ => rfl)
          have h1 : av.eval (.tmp 1) = (.pointer (some ⟨bn, 0, none⟩)) := hO.2.2 1 rfl
          have f1 := (ev_form av 1).symm.trans h1
          have c1 := extB_cell hE n1 c1
          have c2 := extB_cell hE n2 c2
          have c3 := extB_cell hE n3 c3
          have c4 := extB_cell hE n4 c4
          refine ⟨rfl, ?_⟩
          simp [go_sem, f1, c1, c2, c3, c4, y0, y1]
        case s8 =>
          refine step_val (v := (.int .u8 n)) (fun av wv hE hS hO hD => ?_) (fun _ => rfl)
          have d25 : av.eval (.tmp 25) = (.int .u64 n) := hD.1 rfl _ rfl
          have f25 := (ev_form av 25).symm.trans d25
          refine ⟨rfl, ?_⟩
          simp [go_sem, f25, y0, y1]
        case s9 =>
          refine step_val (v := (.int .u8 y)) (fun av wv hE hS hO hD => ?_) (fun _ => rfl)
          have d24 : av.eval (.tmp 24) = (.int .u8 r.first) := hD.1 rfl _ rfl
          have f24 := (ev_form av 24).symm.trans d24
          have d26 : av.eval (.tmp 26) = (.int .u8 n) := hD.2.1 rfl _ rfl
          have f26 := (ev_form av 26).symm.trans d26
          refine ⟨rfl, ?_⟩
          simp [go_sem, f24, f26, y0, y1]
        case s10 =>
          refine step_wp (fun av wv hE hS hO hD => ?_)
          have d27 : av.eval (.tmp 27) = (.int .u8 y) := hD.1 rfl _ rfl
          have f27 := (ev_form av 27).symm.trans d27
          refine ⟨rfl, ?_⟩
          refine wp_of_run (v := .slice (some ⟨wv.heap.size, 0, none⟩) 1 1) (w' := wv.alloc (.cells ([.int .u8 y]).toArray 5)) (by first | (simp [go_sem, f27, y0, y1]; done) | (simp [go_sem, f27, y0, y1]; rfl)) ⟨_, rfl, es_of_ext (balloc (Ext_refl _) _), wv.heap.size, rfl, ?_, heap_alloc_new _ _⟩
          exact fun e => absurd (HQ.out _ e.symm).2 (by have := hE.size; simp at this; omega)
        case s11 =>
          refine step_wp (fun av wv hE hS hO hD => ?_)
          have d22 : av.eval (.tmp 22) = (v) := hD.1 rfl _ rfl
          have f22 := (ev_form av 22).symm.trans d22
          have d28 : (fun u w' => ∃ b, u = .slice (some ⟨b, 0, none⟩) 1 1 ∧ some b ≠ v.ownBlock ∧ w'.heap[b]? = some (.cells ([.int .u8 y]).toArray 5 (0, 0))) (av.eval (.tmp 28)) wv := hD.2.1 rfl _ rfl
          refine ⟨rfl, ?_⟩
          obtain ⟨bS, hS1, hbS, hcS⟩ := d28
          have hown1 : wv.ownsRow (base) 5 1 (v) (s.size) (Lib.strCells s) := own_below (w := World.drew _) (HOWN.out) (hS rfl)
          refine wp_append_lies wv _ _ _ rfl (base) 5 i0 (.int .u8 0) 1 1 Tryz.underlying106 hi hz0 hz1 hz2 rfl (by decide) (v) (s.size) _ d22 hown1 ⟨bS, 0, none⟩ 1 1 ([.int .u8 y]) (by exact hS1) rfl (World.news_of_block hcS) (one_u8 _) (by decide) (by unfold maxLen; omega) (by omega) (by have := hE.size; simp at this; omega) _ rfl ?_
          intro g cap1 w2 hown2 hgrow hat hlt2
          exact ⟨_, rfl, es_sp hgrow, hown2⟩
        case s12 =>
          refine step_val (v := (.pointer (some ⟨b, 0, none⟩))) (fun av wv hE hS hO hD => ?_) (fun _ => rfl)
          have d18 : av.eval (.tmp 18) = (.pointer (some ⟨b, 0, none⟩)) := hD.1 rfl _ rfl
          have f18 := (ev_form av 18).symm.trans d18
          refine ⟨rfl, ?_⟩
          simp [go_sem, f18, y0, y1]
        case s13 =>
          refine step_val (v := (.pointer (some ⟨b, 0, none⟩))) (fun av wv hE hS hO hD => ?_) (fun _ => rfl)
          have d30 : av.eval (.tmp 30) = (.pointer (some ⟨b, 0, none⟩)) := hD.1 rfl _ rfl
          have f30 := (ev_form av 30).symm.trans d30
          refine ⟨rfl, ?_⟩
          simp [go_sem, f30, y0, y1]
        intro a' w' hE hO hall
        have hA := act_of_outer (ds := [18, 19, 20, 21, 22, 23, 24, 25, 26, 27, 28, 29, 30, 31]) rfl hO (by kernel_rfl)
        have e18 : (fun u _ => u = (.pointer (some ⟨b, 0, none⟩))) (a'.eval (.tmp 18)) w' := hall.1 _ rfl
        have e19 : (fun u _ => u = (.pointer (some ⟨b, 0, none⟩))) (a'.eval (.tmp 19)) w' := hall.2.1 _ rfl
        have e20 : (fun u _ => u = (.pointer (some ⟨b, 0, none⟩))) (a'.eval (.tmp 20)) w' := hall.2.2.1 _ rfl
        have e21 : (fun u _ => u = (.pointer (some ⟨b, 0, none⟩))) (a'.eval (.tmp 21)) w' := hall.2.2.2.1 _ rfl
        have e22 : (fun u _ => u = (v)) (a'.eval (.tmp 22)) w' := hall.2.2.2.2.1 _ rfl
        have e23 : (fun u _ => u = (.pointer (some ⟨br, 1, none⟩))) (a'.eval (.tmp 23)) w' := hall.2.2.2.2.2.1 _ rfl
        have e24 : (fun u _ => u = (.int .u8 r.first)) (a'.eval (.tmp 24)) w' := hall.2.2.2.2.2.2.1 _ rfl
        have e25 : (fun u _ => u = (.int .u64 n)) (a'.eval (.tmp 25)) w' := hall.2.2.2.2.2.2.2.1 _ rfl
        have e26 : (fun u _ => u = (.int .u8 n)) (a'.eval (.tmp 26)) w' := hall.2.2.2.2.2.2.2.2.1 _ rfl
        have e27 : (fun u _ => u = (.int .u8 y)) (a'.eval (.tmp 27)) w' := hall.2.2.2.2.2.2.2.2.2.1 _ rfl
        have e28 : (fun u w' => ∃ b, u = .slice (some ⟨b, 0, none⟩) 1 1 ∧ some b ≠ v.ownBlock ∧ w'.heap[b]? = some (.cells ([.int .u8 y]).toArray 5 (0, 0))) (a'.eval (.tmp 28)) w' := hall.2.2.2.2.2.2.2.2.2.2.1 _ rfl
        have e29 : (fun u w' => w'.ownsRow (base) 5 1 u (s.size + 1) (Lib.strCells s ++ [.int .u8 y])) (a'.eval (.tmp 29)) w' := hall.2.2.2.2.2.2.2.2.2.2.2.1 _ rfl
        have e30 : (fun u _ => u = (.pointer (some ⟨b, 0, none⟩))) (a'.eval (.tmp 30)) w' := hall.2.2.2.2.2.2.2.2.2.2.2.2.1 _ rfl
        have e31 : (fun u _ => u = (.pointer (some ⟨b, 0, none⟩))) (a'.eval (.tmp 31)) w' := hall.2.2.2.2.2.2.2.2.2.2.2.2.2.1 _ rfl
        obtain ⟨v28, hv28⟩ : ∃ v, a'.eval (.tmp 28) = v := ⟨_, rfl⟩
        rw [hv28] at e28
        obtain ⟨v29, hv29⟩ : ∃ v, a'.eval (.tmp 29) = v := ⟨_, rfl⟩
        rw [hv29] at e29
        simp only [List.foldl_cons, List.foldl_nil, Act.put, List.setIfInBounds_toArray, List.set_cons_succ, List.set_cons_zero, e18, e19, e20, e21, e22, e23, e24, e25, e26, e27, hv28, hv29, e30, e31] at hA
        clear hO hall e18 e19 e20 e21 e22 e23 e24 e25 e26 e27 hv28 hv29 e30 e31
        subst hA
        obtain ⟨ga, gc, rfl⟩ := own_slice e29
        have hst := wr_step (s' := s ++ baL [toB y]) hbase VV.out HOWN.out hE (by rw [baL_one]; exact e29) (by rw [strCells_app, strCells_one hy0 hy1])
        have HST := Lib.hid hst
        have hc4 := hst.1
        have hf4 := hst.2.1
        clear hst hE e29
        go_wp2
        go_ret
        refine ⟨ret_bool HX.out.symm, ?_, (WK.of_below VB.out HBS.out).trans HST.out.2.2.2⟩
        rw [HIF.out]
        have e4 : rowB r n = [toB y] := by unfold rowB; rw [if_pos HSZ.out, HY.out]
        rw [e4]; exact HST.out.2.2.1
      · have e0 : (r.size == 0) = false := by simpa using hsz
        have HSZ := Lib.hid hsz
        clear hsz
        go_upto_region 6 with fail
        obtain ⟨br, hbr⟩ : ∃ br, w.heap.size = br := ⟨_, rfl⟩
        obtain ⟨V, hV⟩ : ∃ V, w.alloc (.cells #[.int .u64 r.below, .int .u8 r.first, .int .i64 r.size] 332) = V := ⟨_, rfl⟩
        have VB : Hid (Below w.heap.size w V) := Lib.hid (by rw [← hV]; exact balloc (Below.refl _ _) _)
        have VR : Hid (V.heap[br]? = some (.cells #[.int .u64 r.below, .int .u8 r.first, .int .i64 r.size] 332 (0, 0))) := Lib.hid (by rw [← hV, ← hbr]; exact heap_alloc_new _ _)
        have VN : Hid (V.heap[bn]? = some (.cells #[.int .u64 n] 23 (0, 0))) := Lib.hid ((VB.out.block _ (lt_of_block HN.out)).trans HN.out)
        have VW : Hid (V.heap[bw]? = some (.cells #[.pointer (some ⟨b, 0, none⟩)] 166 (0, 0))) := Lib.hid ((VB.out.block _ (lt_of_block HW2.out)).trans HW2.out)
        have VV : Hid (V.heap[b]? = some (.cells #[v] 265 (0, 0))) := Lib.hid ((VB.out.block _ hltb).trans HV.out)
        have HOWN := Lib.hid (own_below HOWN0.out VB.out)
        have HQ : Hid (∀ g, v.ownBlock = some g → base ≤ g ∧ g < V.heap.size) := Lib.hid (fun g hg => HOWN.out.lt g hg)
        have n1 := own_not8 HOWN.out VN.out n8n
        have n2 := own_not8 HOWN.out VW.out n8b
        have n3 := own_not8 HOWN.out VR.out n8r
        have n4 := own_not8 HOWN.out VV.out n8w
        have c1 : V.cell? ⟨bn, 0, none⟩ = some (.int .u64 n) := block_cell VN.out 0
        have c2 : V.cell? ⟨bw, 0, none⟩ = some (.pointer (some ⟨b, 0, none⟩)) := block_cell VW.out 0
        have c3 : V.cell? ⟨br, 1, none⟩ = some (.int .u8 r.first) := block_cell VR.out 1
        have c4 : V.cell? ⟨b, 0, none⟩ = some v := block_cell VV.out 0
        have hbV : base ≤ V.heap.size := Nat.le_trans hbase (Nat.le_of_lt (lt_of_block VV.out))
        rw [hbr]
        try rw [hV]
        clear hV hbr cn cw cb
        refine wp_region_tail 11 8 (v.ownBlock) (phis [fun u _ => u = (.pointer (some ⟨b, 0, none⟩)), fun u _ => u = (.pointer (some ⟨b, 0, none⟩)), fun u _ => u = (.pointer (some ⟨b, 0, none⟩)), fun u _ => u = (.pointer (some ⟨b, 0, none⟩)), fun u _ => u = (v), fun u _ => u = (.pointer (some ⟨br, 1, none⟩)), fun u _ => u = (.int .u8 r.first), fun u w' => ∃ b, u = .slice (some ⟨b, 0, none⟩) 1 1 ∧ some b ≠ v.ownBlock ∧ w'.heap[b]? = some (.cells ([.int .u8 r.first]).toArray 5 (0, 0)), fun u w' => w'.ownsRow (base) 5 1 u (s.size + 1) (Lib.strCells s ++ [.int .u8 r.first]), fun u _ => u = (.pointer (some ⟨b, 0, none⟩)), fun u _ => u = (.pointer (some ⟨b, 0, none⟩))]) rfl (by kernel_rfl) (by kernel_rfl) (mono_of ⟨mono_eq, mono_eq, mono_eq, mono_eq, mono_eq, mono_eq, mono_eq, ?m7, ?m8, mono_eq, mono_eq, trivial⟩) (steps_of 11 ⟨?s0, ?s1, ?s2, ?s3, ?s4, ?s5, ?s6, ?s7, ?s8, ?s9, ?s10, trivial⟩) ?_
        case m7 =>
          exact ⟨fun u w1 w' h ⟨b, h1, hb, hb'⟩ => ⟨b, h1, hb, ext_block h hb'⟩, fun _ u w1 w' h ⟨b, h1, hb, hb'⟩ => ⟨b, h1, hb, extB_block h hb hb'⟩⟩
        case m8 =>
          exact ⟨fun u w1 w' h hu => own_below hu h, fun hn => absurd rfl hn⟩
        case s0 =>
          refine step_val (v := (.pointer (some ⟨b, 0, none⟩))) (fun av wv hE hS hO hD => ?_) (fun _ => rfl)
          have h2 : av.eval (.tmp 2) = (.pointer (some ⟨bw, 0, none⟩)) := hO.2.2 2 rfl
          have f2 := (ev_form av 2).symm.trans h2
          have c1 := extB_cell hE n1 c1
          have c2 := extB_cell hE n2 c2
          have c3 := extB_cell hE n3 c3
          have c4 := extB_cell hE n4 c4
          refine ⟨rfl, ?_⟩
          simp [go_sem, f2, c1, c2, c3, c4]
        case s1 =>
          refine step_val (v := (.pointer (some ⟨b, 0, none⟩))) (fun av wv hE hS hO hD => ?_) (fun _ => rfl)
          have h2 : av.eval (.tmp 2) = (.pointer (some ⟨bw, 0, none⟩)) := hO.2.2 2 rfl
          have f2 := (ev_form av 2).symm.trans h2
          have c1 := extB_cell hE n1 c1
          have c2 := extB_cell hE n2 c2
          have c3 := extB_cell hE n3 c3
          have c4 := extB_cell hE n4 c4
          refine ⟨rfl, ?_⟩
          simp [go_sem, f2, c1, c2, c3, c4]
        case s2 =>
          refine step_val (v := (.pointer (some ⟨b, 0, none⟩))) (fun av wv hE hS hO hD => ?_) (fun _ => rfl)
          have d33 : av.eval (.tmp 33) = (.pointer (some ⟨b, 0, none⟩)) := hD.1 rfl _ rfl
          have f33 := (ev_form av 33).symm.trans d33
          refine ⟨rfl, ?_⟩
          simp [go_sem, f33]
        case s3 =>
          refine step_val (v := (.pointer (some ⟨b, 0, none⟩))) (fun av wv hE hS hO hD => ?_) (fun _ => rfl)
          have d34 : av.eval (.tmp 34) = (.pointer (some ⟨b, 0, none⟩)) := hD.1 rfl _ rfl
          have f34 := (ev_form av 34).symm.trans d34
          refine ⟨rfl, ?_⟩
          simp [go_sem, f34]
        case s4 =>
          refine step_val (v := (v)) (fun av wv hE hS hO hD => ?_) (fun _ => rfl)
          have d35 : av.eval (.tmp 35) = (.pointer (some ⟨b, 0, none⟩)) := hD.1 rfl _ rfl
          have f35 := (ev_form av 35).symm.trans d35
          have c1 := extB_cell hE n1 c1
          have c2 := extB_cell hE n2 c2
          have c3 := extB_cell hE n3 c3
          have c4 := extB_cell hE n4 c4
          refine ⟨rfl, ?_⟩
          simp [go_sem, f35, c1, c2, c3, c4]
        case s5 =>
          refine step_val (v := (.pointer (some ⟨br, 1, none⟩))) (fun av wv hE hS hO hD => ?_) (fun _ => rfl)
          have h3 : av.eval (.tmp 3) = (.pointer (some ⟨br, 0, none⟩)) := hO.2.2 3 rfl
          have f3 := (ev_form av 3).symm.trans h3
          refine ⟨rfl, ?_⟩
          simp [go_sem, f3]
        case s6 =>
          refine step_val (v := (.int .u8 r.first)) (fun av wv hE hS hO hD => ?_) (fun _ => rfl)
          have d37 : av.eval (.tmp 37) = (.pointer (some ⟨br, 1, none⟩)) := hD.1 rfl _ rfl
          have f37 := (ev_form av 37).symm.trans d37
          have c1 := extB_cell hE n1 c1
          have c2 := extB_cell hE n2 c2
          have c3 := extB_cell hE n3 c3
          have c4 := extB_cell hE n4 c4
          refine ⟨rfl, ?_⟩
          simp [go_sem, f37, c1, c2, c3, c4]
        case s7 =>
          refine step_wp (fun av wv hE hS hO hD => ?_)
          have d38 : av.eval (.tmp 38) = (.int .u8 r.first) := hD.1 rfl _ rfl
          have f38 := (ev_form av 38).symm.trans d38
          refine ⟨rfl, ?_⟩
          refine wp_of_run (v := .slice (some ⟨wv.heap.size, 0, none⟩) 1 1) (w' := wv.alloc (.cells ([.int .u8 r.first]).toArray 5)) (by first | (simp [go_sem, f38]; done) | (simp [go_sem, f38]; rfl)) ⟨_, rfl, es_of_ext (balloc (Ext_refl _) _), wv.heap.size, rfl, ?_, heap_alloc_new _ _⟩
          exact fun e => absurd (HQ.out _ e.symm).2 (by have := hE.size; simp at this; omega)
        case s8 =>
          refine step_wp (fun av wv hE hS hO hD => ?_)
          have d36 : av.eval (.tmp 36) = (v) := hD.1 rfl _ rfl
          have f36 := (ev_form av 36).symm.trans d36
          have d39 : (fun u w' => ∃ b, u = .slice (some ⟨b, 0, none⟩) 1 1 ∧ some b ≠ v.ownBlock ∧ w'.heap[b]? = some (.cells ([.int .u8 r.first]).toArray 5 (0, 0))) (av.eval (.tmp 39)) wv := hD.2.1 rfl _ rfl
          refine ⟨rfl, ?_⟩
          obtain ⟨bS, hS1, hbS, hcS⟩ := d39
          have hown1 : wv.ownsRow (base) 5 1 (v) (s.size) (Lib.strCells s) := own_below (w := World.drew _) (HOWN.out) (hS rfl)
          refine wp_append_lies wv _ _ _ rfl (base) 5 i0 (.int .u8 0) 1 1 Tryz.underlying106 hi hz0 hz1 hz2 rfl (by decide) (v) (s.size) _ d36 hown1 ⟨bS, 0, none⟩ 1 1 ([.int .u8 r.first]) (by exact hS1) rfl (World.news_of_block hcS) (one_u8 _) (by decide) (by unfold maxLen; omega) (by omega) (by have := hE.size; simp at this; omega) _ rfl ?_
          intro g cap1 w2 hown2 hgrow hat hlt2
          exact ⟨_, rfl, es_sp hgrow, hown2⟩
        case s9 =>
          refine step_val (v := (.pointer (some ⟨b, 0, none⟩))) (fun av wv hE hS hO hD => ?_) (fun _ => rfl)
          have d32 : av.eval (.tmp 32) = (.pointer (some ⟨b, 0, none⟩)) := hD.1 rfl _ rfl
          have f32 := (ev_form av 32).symm.trans d32
          refine ⟨rfl, ?_⟩
          simp [go_sem, f32]
        case s10 =>
          refine step_val (v := (.pointer (some ⟨b, 0, none⟩))) (fun av wv hE hS hO hD => ?_) (fun _ => rfl)
          have d41 : av.eval (.tmp 41) = (.pointer (some ⟨b, 0, none⟩)) := hD.1 rfl _ rfl
          have f41 := (ev_form av 41).symm.trans d41
          refine ⟨rfl, ?_⟩
          simp [go_sem, f41]
        intro a' w' hE hO hall
        have hA := act_of_outer (ds := [32, 33, 34, 35, 36, 37, 38, 39, 40, 41, 42]) rfl hO (by kernel_rfl)
        have e32 : (fun u _ => u = (.pointer (some ⟨b, 0, none⟩))) (a'.eval (.tmp 32)) w' := hall.1 _ rfl
        have e33 : (fun u _ => u = (.pointer (some ⟨b, 0, none⟩))) (a'.eval (.tmp 33)) w' := hall.2.1 _ rfl
        have e34 : (fun u _ => u = (.pointer (some ⟨b, 0, none⟩))) (a'.eval (.tmp 34)) w' := hall.2.2.1 _ rfl
        have e35 : (fun u _ => u = (.pointer (some ⟨b, 0, none⟩))) (a'.eval (.tmp 35)) w' := hall.2.2.2.1 _ rfl
        have e36 : (fun u _ => u = (v)) (a'.eval (.tmp 36)) w' := hall.2.2.2.2.1 _ rfl
        have e37 : (fun u _ => u = (.pointer (some ⟨br, 1, none⟩))) (a'.eval (.tmp 37)) w' := hall.2.2.2.2.2.1 _ rfl
        have e38 : (fun u _ => u = (.int .u8 r.first)) (a'.eval (.tmp 38)) w' := hall.2.2.2.2.2.2.1 _ rfl
        have e39 : (fun u w' => ∃ b, u = .slice (some ⟨b, 0, none⟩) 1 1 ∧ some b ≠ v.ownBlock ∧ w'.heap[b]? = some (.cells ([.int .u8 r.first]).toArray 5 (0, 0))) (a'.eval (.tmp 39)) w' := hall.2.2.2.2.2.2.2.1 _ rfl
        have e40 : (fun u w' => w'.ownsRow (base) 5 1 u (s.size + 1) (Lib.strCells s ++ [.int .u8 r.first])) (a'.eval (.tmp 40)) w' := hall.2.2.2.2.2.2.2.2.1 _ rfl
        have e41 : (fun u _ => u = (.pointer (some ⟨b, 0, none⟩))) (a'.eval (.tmp 41)) w' := hall.2.2.2.2.2.2.2.2.2.1 _ rfl
        have e42 : (fun u _ => u = (.pointer (some ⟨b, 0, none⟩))) (a'.eval (.tmp 42)) w' := hall.2.2.2.2.2.2.2.2.2.2.1 _ rfl
        obtain ⟨v39, hv39⟩ : ∃ v, a'.eval (.tmp 39) = v := ⟨_, rfl⟩
        rw [hv39] at e39
        obtain ⟨v40, hv40⟩ : ∃ v, a'.eval (.tmp 40) = v := ⟨_, rfl⟩
        rw [hv40] at e40
        simp only [List.foldl_cons, List.foldl_nil, Act.put, List.setIfInBounds_toArray, List.set_cons_succ, List.set_cons_zero, e32, e33, e34, e35, e36, e37, e38, hv39, hv40, e41, e42] at hA
        clear hO hall e32 e33 e34 e35 e36 e37 e38 hv39 hv40 e41 e42
        subst hA
        obtain ⟨ga, gc, rfl⟩ := own_slice e40
        have hst := wr_step (s' := s ++ baL [toB r.first]) hbase VV.out HOWN.out hE (by rw [baL_one]; exact e40) (by rw [strCells_app, strCells_one f0 f1])
        have HST := Lib.hid hst
        have hc4 := hst.1
        have hf4 := hst.2.1
        have HBR : Hid (w'.cell? ⟨br, 2, none⟩ = some (.int .i64 r.size)) := Lib.hid (extB_cell hE n3 (block_cell VR.out 2))
        clear hst hE e40 c1 c2 c3 c4
        have hne : br ≠ b := fun e => by have h1 := VR.out; rw [e, VV.out] at h1; cases h1
        have c5 : (w'.setCell ⟨b, 0, none⟩ (.slice (some ⟨ga, 0, none⟩) (s.size + 1) gc)).cell? ⟨br, 2, none⟩ = some (.int .i64 r.size) := by
          have h := (HST.out.2.2.2).keep br _ VR.out hne n8r
          exact block_cell h 2
        obtain ⟨k, hk⟩ := Int.eq_ofNat_of_zero_le s0
        have HKK := Lib.hid hk
        have k8 : k ≤ 8 := by omega
        rw [hk] at c5
        have hw1 : IntKind.i64.wrap ((k : Int) - 1) = (k : Int) - 1 := IntWalk.i64_in _ (by omega)
        clear hk HBR
        go_wp2
        obtain ⟨V2, hV2⟩ : ∃ V2, w'.setCell ⟨b, 0, none⟩ (.slice (some ⟨ga, 0, none⟩) (s.size + 1) gc) = V2 := ⟨_, rfl⟩
        have HWR2 : Hid (WrB V2 b base (s ++ baL (toB r.first :: ((hiL n k).take (k - k)).map toB))) := Lib.hid (by rw [← hV2, Nat.sub_self]; exact HST.out.2.2.1)
        have HWK2 : Hid (WK base b V V2) := Lib.hid (by rw [← hV2]; exact HST.out.2.2.2)
        try rw [hV2]
        clear hV2 HST hc4 hf4 c5 hw1 HWR
        have nbn : bn ≠ b := fun e => by have h1 := VN.out; rw [e, VV.out] at h1; cases h1
        have nbw : bw ≠ b := fun e => by have h1 := VW.out; rw [e, VV.out] at h1; cases h1
        have hbVS : base ≤ V.heap.size := hbV
        clear n1 n2 n3 n4 hbV hltb HQ
        go_loopg [5] k (fun g i wr => g ≤ k ∧ i = .int .i64 ((g : Int) - 1) ∧ Hid (WrB wr b base (s ++ baL (toB r.first :: ((hiL n k).take (k - g)).map toB))) ∧ Hid (WK base b V wr))
        case atStart => exact ⟨Nat.le_refl _, rfl, HWR2.out, HWK2.out⟩
        case round =>
          clear HWR2 HWK2
          obtain ⟨hgk, rfl, HWR, HWK⟩ := hrel
          obtain ⟨G, hG⟩ : ∃ G, G = gk := ⟨_, rfl⟩
          subst hG
          cases G with
          | zero =>
            have e2 : ((0 : Nat) : Int) - 1 = -1 := rfl
            rw [e2]
            clear e2
            go_wp2
            go_ret
            refine ⟨ret_bool HX.out.symm, ?_, (WK.of_below VB.out HBS.out).trans HWK.out⟩
            rw [HIF.out]
            have e4 : rowB r n = toB r.first :: ((hiL n k).take (k - 0)).map toB := by
              unfold rowB
              rw [if_neg HSZ.out, HKK.out, Nat.sub_zero, List.take_of_length_le (by rw [hiL_len]; exact Nat.le_refl _)]; rfl
            rw [e4]; exact HWR.out
          | succ i =>
            have e2 : ((i + 1 : Nat) : Int) - 1 = (i : Int) := by omega
            rw [e2]
            obtain ⟨t, ht⟩ : ∃ t, s ++ baL (toB r.first :: ((hiL n k).take (k - (i + 1))).map toB) = t := ⟨_, rfl⟩
            have hts : t.size ≤ 70000000000009 := by
              rw [← ht, ByteArray.size_append, baL_size, List.length_cons, List.length_map, List.length_take, hiL_len]; omega
            obtain ⟨x, hx⟩ : ∃ x, n / 2 ^ (8 * i) % 256 = x := ⟨_, rfl⟩
            have hx0 : 0 ≤ x ∧ x ≤ 255 := by rw [← hx]; omega
            have HT : Hid (s ++ baL (toB r.first :: ((hiL n k).take (k - i)).map toB) = t ++ baL [toB x]) := Lib.hid (by
              rw [← ht, hi_next n k i (by omega), show (256 : Int) ^ i = 2 ^ (8 * i) by rw [Int.pow_mul]; rfl, hx, List.map_append, ← List.cons_append, baL_app, ByteArray.append_assoc]; rfl)
            rw [ht] at HWR
            have y0 : IntKind.u8.wrap (n / 2 ^ (8 * i)) = x := by rw [IntKind.wrap_u8]; exact hx
            have y1 : IntKind.i64.wrap (8 * (i : Int)) = 8 * (i : Int) := IntWalk.i64_in _ (by omega)
            have y2 : 0 ≤ 8 * (i : Int) := by omega
            have y3 : (8 * (i : Int)).toNat = 8 * i := by omega
            clear ht e2 hx
            obtain ⟨-, v, hv, hown⟩ := HWR.out
            have VV2 := Lib.hid hv
            have HOWN := Lib.hid hown
            have VN2 := Lib.hid (HWK.out.keep _ _ VN.out nbn n8n)
            have VW2 := Lib.hid (HWK.out.keep _ _ VW.out nbw n8b)
            have n8w : Not8 (.cells #[v] 265 (0, 0)) := not8_cells (by decide)
            have HQ : Hid (∀ g, v.ownBlock = some g → base ≤ g ∧ g < wr.heap.size) := Lib.hid (fun g hg => HOWN.out.lt g hg)
            have n1 := own_not8 HOWN.out VN2.out n8n
            have n2 := own_not8 HOWN.out VW2.out n8b
            have n4 := own_not8 HOWN.out VV2.out n8w
            have c1 : wr.cell? ⟨bn, 0, none⟩ = some (.int .u64 n) := block_cell VN2.out 0
            have c2 : wr.cell? ⟨bw, 0, none⟩ = some (.pointer (some ⟨b, 0, none⟩)) := block_cell VW2.out 0
            have c4 : wr.cell? ⟨b, 0, none⟩ = some v := block_cell VV2.out 0
            have hbV : base ≤ wr.heap.size := Nat.le_trans hbase (Nat.le_of_lt (lt_of_block VV2.out))
            clear hv hown
            go_upto_region 10 with fail
            refine wp_region_tail 14 11 (v.ownBlock) (phis [fun u _ => u = (.pointer (some ⟨b, 0, none⟩)), fun u _ => u = (.pointer (some ⟨b, 0, none⟩)), fun u _ => u = (.pointer (some ⟨b, 0, none⟩)), fun u _ => u = (.pointer (some ⟨b, 0, none⟩)), fun u _ => u = (v), fun u _ => u = (.int .u64 n), fun u _ => u = (.int .i64 i), fun u _ => u = (.int .i64 (8 * (i : Int))), fun u _ => u = (.int .u64 (n / 2 ^ (8 * i))), fun u _ => u = (.int .u8 x), fun u w' => ∃ b, u = .slice (some ⟨b, 0, none⟩) 1 1 ∧ some b ≠ v.ownBlock ∧ w'.heap[b]? = some (.cells ([.int .u8 x]).toArray 5 (0, 0)), fun u w' => w'.ownsRow (base) 5 1 u (t.size + 1) (Lib.strCells t ++ [.int .u8 x]), fun u _ => u = (.pointer (some ⟨b, 0, none⟩)), fun u _ => u = (.pointer (some ⟨b, 0, none⟩))]) rfl (by kernel_rfl) (by kernel_rfl) (mono_of ⟨mono_eq, mono_eq, mono_eq, mono_eq, mono_eq, mono_eq, mono_eq, mono_eq, mono_eq, mono_eq, ?m10, ?m11, mono_eq, mono_eq, trivial⟩) (steps_of 14 ⟨?s0, ?s1, ?s2, ?s3, ?s4, ?s5, ?s6, ?s7, ?s8, ?s9, ?s10, ?s11, ?s12, ?s13, trivial⟩) ?_
            case m10 =>
              exact ⟨fun u w1 w' h ⟨b, h1, hb, hb'⟩ => ⟨b, h1, hb, ext_block h hb'⟩, fun _ u w1 w' h ⟨b, h1, hb, hb'⟩ => ⟨b, h1, hb, extB_block h hb hb'⟩⟩
            case m11 =>
              exact ⟨fun u w1 w' h hu => own_below hu h, fun hn => absurd rfl hn⟩
            case s0 =>
              refine step_val (v := (.pointer (some ⟨b, 0, none⟩))) (fun av wv hE hS hO hD => ?_) (fun _ => rfl)
              have h2 : av.eval (.tmp 2) = (.pointer (some ⟨bw, 0, none⟩)) := hO.2.2 2 rfl
              have f2 := (ev_form av 2).symm.trans h2
              have c1 := extB_cell hE n1 c1
              have c2 := extB_cell hE n2 c2
              have c4 := extB_cell hE n4 c4
              refine ⟨rfl, ?_⟩
              simp [go_sem, f2, c1, c2, c4, y0, y1, y2, y3]
            case s1 =>
              refine step_val (v := (.pointer (some ⟨b, 0, none⟩))) (fun av wv hE hS hO hD => ?_) (fun _ => rfl)
              have h2 : av.eval (.tmp 2) = (.pointer (some ⟨bw, 0, none⟩)) := hO.2.2 2 rfl
              have f2 := (ev_form av 2).symm.trans h2
              have c1 := extB_cell hE n1 c1
              have c2 := extB_cell hE n2 c2
              have c4 := extB_cell hE n4 c4
              refine ⟨rfl, ?_⟩
              simp [go_sem, f2, c1, c2, c4, y0, y1, y2, y3]
            case s2 =>
              refine step_val (v := (.pointer (some ⟨b, 0, none⟩))) (fun av wv hE hS hO hD => ?_) (fun _ => rfl)
              have d51 : av.eval (.tmp 51) = (.pointer (some ⟨b, 0, none⟩)) := hD.1 rfl _ rfl
              have f51 := (ev_form av 51).symm.trans d51
              refine ⟨rfl, ?_⟩
              simp [go_sem, f51, y0, y1, y2, y3]
            case s3 =>
              refine step_val (v := (.pointer (some ⟨b, 0, none⟩))) (fun av wv hE hS hO hD => ?_) (fun _ => rfl)
              have d52 : av.eval (.tmp 52) = (.pointer (some ⟨b, 0, none⟩)) := hD.1 rfl _ rfl
              have f52 := (ev_form av 52).symm.trans d52
              refine ⟨rfl, ?_⟩
              simp [go_sem, f52, y0, y1, y2, y3]
            case s4 =>
              refine step_val (v := (v)) (fun av wv hE hS hO hD => ?_) (fun _ => rfl)
              have d53 : av.eval (.tmp 53) = (.pointer (some ⟨b, 0, none⟩)) := hD.1 rfl _ rfl
              have f53 := (ev_form av 53).symm.trans d53
              have c1 := extB_cell hE n1 c1
              have c2 := extB_cell hE n2 c2
              have c4 := extB_cell hE n4 c4
              refine ⟨rfl, ?_⟩
              simp [go_sem, f53, c1, c2, c4, y0, y1, y2, y3]
            case s5 =>
              refine step_val (v := (.int .u64 n)) (fun av wv hE hS hO hD => ?_) (fun _ => rfl)
              have h1 : av.eval (.tmp 1) = (.pointer (some ⟨bn, 0, none⟩)) := hO.2.2 1 rfl
              have f1 := (ev_form av 1).symm.trans h1
              have c1 := extB_cell hE n1 c1
              have c2 := extB_cell hE n2 c2
              have c4 := extB_cell hE n4 c4
              refine ⟨rfl, ?_⟩
              simp [go_sem, f1, c1, c2, c4, y0, y1, y2, y3]
            case s6 =>
              refine step_val (v := (.int .i64 i)) (fun av wv hE hS hO hD => ?_) (fun _ => rfl)
              have h5 : av.eval (.tmp 5) = (.int .i64 i) := hO.2.2 5 rfl
              have f5 := (ev_form av 5).symm.trans h5
              refine ⟨rfl, ?_⟩
              simp [go_sem, f5, y0, y1, y2, y3]
            case s7 =>
              refine step_val (v := (.int .i64 (8 * (i : Int)))) (fun av wv hE hS hO hD => ?_) (fun _ => rfl)
              have d56 : av.eval (.tmp 56) = (.int .i64 i) := hD.1 rfl _ rfl
              have f56 := (ev_form av 56).symm.trans d56
              refine ⟨rfl, ?_⟩
              simp [go_sem, f56, y0, y1, y2, y3]
            case s8 =>
              refine step_val (v := (.int .u64 (n / 2 ^ (8 * i)))) (fun av wv hE hS hO hD => ?_) (fun _ => rfl)
              have d55 : av.eval (.tmp 55) = (.int .u64 n) := hD.1 rfl _ rfl
              have f55 := (ev_form av 55).symm.trans d55
              have d57 : av.eval (.tmp 57) = (.int .i64 (8 * (i : Int))) := hD.2.1 rfl _ rfl
              have f57 := (ev_form av 57).symm.trans d57
              refine ⟨rfl, ?_⟩
              simp [go_sem, f55, f57, y0, y1, y2, y3]
            case s9 =>
              refine step_val (v := (.int .u8 x)) (fun av wv hE hS hO hD => ?_) (fun _ => rfl)
              have d58 : av.eval (.tmp 58) = (.int .u64 (n / 2 ^ (8 * i))) := hD.1 rfl _ rfl
              have f58 := (ev_form av 58).symm.trans d58
              refine ⟨rfl, ?_⟩
              simp [go_sem, f58, y0, y1, y2, y3]
            case s10 =>
              refine step_wp (fun av wv hE hS hO hD => ?_)
              have d59 : av.eval (.tmp 59) = (.int .u8 x) := hD.1 rfl _ rfl
              have f59 := (ev_form av 59).symm.trans d59
              refine ⟨rfl, ?_⟩
              refine wp_of_run (v := .slice (some ⟨wv.heap.size, 0, none⟩) 1 1) (w' := wv.alloc (.cells ([.int .u8 x]).toArray 5)) (by first | (simp [go_sem, f59, y0, y1, y2, y3]; done) | (simp [go_sem, f59, y0, y1, y2, y3]; rfl)) ⟨_, rfl, es_of_ext (balloc (Ext_refl _) _), wv.heap.size, rfl, ?_, heap_alloc_new _ _⟩
              exact fun e => absurd (HQ.out _ e.symm).2 (by have := hE.size; simp at this; omega)
            case s11 =>
              refine step_wp (fun av wv hE hS hO hD => ?_)
              have d54 : av.eval (.tmp 54) = (v) := hD.1 rfl _ rfl
              have f54 := (ev_form av 54).symm.trans d54
              have d60 : (fun u w' => ∃ b, u = .slice (some ⟨b, 0, none⟩) 1 1 ∧ some b ≠ v.ownBlock ∧ w'.heap[b]? = some (.cells ([.int .u8 x]).toArray 5 (0, 0))) (av.eval (.tmp 60)) wv := hD.2.1 rfl _ rfl
              refine ⟨rfl, ?_⟩
              obtain ⟨bS, hS1, hbS, hcS⟩ := d60
              have hown1 : wv.ownsRow (base) 5 1 (v) (t.size) (Lib.strCells t) := own_below (w := World.drew _) (HOWN.out) (hS rfl)
              refine wp_append_lies wv _ _ _ rfl (base) 5 i0 (.int .u8 0) 1 1 Tryz.underlying106 hi hz0 hz1 hz2 rfl (by decide) (v) (t.size) _ d54 hown1 ⟨bS, 0, none⟩ 1 1 ([.int .u8 x]) (by exact hS1) rfl (World.news_of_block hcS) (one_u8 _) (by decide) (by unfold maxLen; omega) (by omega) (by have := hE.size; simp at this; omega) _ rfl ?_
              intro g cap1 w2 hown2 hgrow hat hlt2
              exact ⟨_, rfl, es_sp hgrow, hown2⟩
            case s12 =>
              refine step_val (v := (.pointer (some ⟨b, 0, none⟩))) (fun av wv hE hS hO hD => ?_) (fun _ => rfl)
              have d50 : av.eval (.tmp 50) = (.pointer (some ⟨b, 0, none⟩)) := hD.1 rfl _ rfl
              have f50 := (ev_form av 50).symm.trans d50
              refine ⟨rfl, ?_⟩
              simp [go_sem, f50, y0, y1, y2, y3]
            case s13 =>
              refine step_val (v := (.pointer (some ⟨b, 0, none⟩))) (fun av wv hE hS hO hD => ?_) (fun _ => rfl)
              have d62 : av.eval (.tmp 62) = (.pointer (some ⟨b, 0, none⟩)) := hD.1 rfl _ rfl
              have f62 := (ev_form av 62).symm.trans d62
              refine ⟨rfl, ?_⟩
              simp [go_sem, f62, y0, y1, y2, y3]
            intro a' w' hE hO hall
            have hA := act_of_outer (ds := [50, 51, 52, 53, 54, 55, 56, 57, 58, 59, 60, 61, 62, 63]) rfl hO (by kernel_rfl)
            have e50 : (fun u _ => u = (.pointer (some ⟨b, 0, none⟩))) (a'.eval (.tmp 50)) w' := hall.1 _ rfl
            have e51 : (fun u _ => u = (.pointer (some ⟨b, 0, none⟩))) (a'.eval (.tmp 51)) w' := hall.2.1 _ rfl
            have e52 : (fun u _ => u = (.pointer (some ⟨b, 0, none⟩))) (a'.eval (.tmp 52)) w' := hall.2.2.1 _ rfl
            have e53 : (fun u _ => u = (.pointer (some ⟨b, 0, none⟩))) (a'.eval (.tmp 53)) w' := hall.2.2.2.1 _ rfl
            have e54 : (fun u _ => u = (v)) (a'.eval (.tmp 54)) w' := hall.2.2.2.2.1 _ rfl
            have e55 : (fun u _ => u = (.int .u64 n)) (a'.eval (.tmp 55)) w' := hall.2.2.2.2.2.1 _ rfl
            have e56 : (fun u _ => u = (.int .i64 i)) (a'.eval (.tmp 56)) w' := hall.2.2.2.2.2.2.1 _ rfl
            have e57 : (fun u _ => u = (.int .i64 (8 * (i : Int)))) (a'.eval (.tmp 57)) w' := hall.2.2.2.2.2.2.2.1 _ rfl
            have e58 : (fun u _ => u = (.int .u64 (n / 2 ^ (8 * i)))) (a'.eval (.tmp 58)) w' := hall.2.2.2.2.2.2.2.2.1 _ rfl
            have e59 : (fun u _ => u = (.int .u8 x)) (a'.eval (.tmp 59)) w' := hall.2.2.2.2.2.2.2.2.2.1 _ rfl
            have e60 : (fun u w' => ∃ b, u = .slice (some ⟨b, 0, none⟩) 1 1 ∧ some b ≠ v.ownBlock ∧ w'.heap[b]? = some (.cells ([.int .u8 x]).toArray 5 (0, 0))) (a'.eval (.tmp 60)) w' := hall.2.2.2.2.2.2.2.2.2.2.1 _ rfl
            have e61 : (fun u w' => w'.ownsRow (base) 5 1 u (t.size + 1) (Lib.strCells t ++ [.int .u8 x])) (a'.eval (.tmp 61)) w' := hall.2.2.2.2.2.2.2.2.2.2.2.1 _ rfl
            have e62 : (fun u _ => u = (.pointer (some ⟨b, 0, none⟩))) (a'.eval (.tmp 62)) w' := hall.2.2.2.2.2.2.2.2.2.2.2.2.1 _ rfl
            have e63 : (fun u _ => u = (.pointer (some ⟨b, 0, none⟩))) (a'.eval (.tmp 63)) w' := hall.2.2.2.2.2.2.2.2.2.2.2.2.2.1 _ rfl
            obtain ⟨v60, hv60⟩ : ∃ v, a'.eval (.tmp 60) = v := ⟨_, rfl⟩
            rw [hv60] at e60
            obtain ⟨v61, hv61⟩ : ∃ v, a'.eval (.tmp 61) = v := ⟨_, rfl⟩
            rw [hv61] at e61
            simp only [List.foldl_cons, List.foldl_nil, Act.put, List.setIfInBounds_toArray, List.set_cons_succ, List.set_cons_zero, e50, e51, e52, e53, e54, e55, e56, e57, e58, e59, hv60, hv61, e62, e63] at hA
            clear hO hall e50 e51 e52 e53 e54 e55 e56 e57 e58 e59 hv60 hv61 e62 e63
            subst hA
            obtain ⟨ga, gc, rfl⟩ := own_slice e61
            have hst := wr_step (s' := t ++ baL [toB x]) hbase VV2.out HOWN.out hE (by rw [baL_one]; exact e61) (by rw [strCells_app, strCells_one hx0.1 hx0.2])
            have HST := Lib.hid hst
            have hc4 := hst.1
            have hf4 := hst.2.1
            clear hst hE e61 c1 c2 c4 n1 n2 n4
            go_wp2
            go_roundg i
            case rel => exact ⟨by omega, by go_num, by rw [HT.out]; exact HST.out.2.2.1, HWK.out.trans HST.out.2.2.2⟩
            case measure => omega
    · skip
      go_enter Tryz.func255, Tryz.ntmps255
      by_cases hsz : r.size = 0
      · have e0 : (r.size == 0) = true := by simpa using hsz
        have HSZ := Lib.hid hsz
        clear hsz
        go_upto_region 4 with fail
        obtain ⟨br, hbr⟩ : ∃ br, w.heap.size = br := ⟨_, rfl⟩
        obtain ⟨V, hV⟩ : ∃ V, w.alloc (.cells #[.int .u64 r.below, .int .u8 r.first, .int .i64 r.size] 332) = V := ⟨_, rfl⟩
        have VB : Hid (Below w.heap.size w V) := Lib.hid (by rw [← hV]; exact balloc (Below.refl _ _) _)
        have VR : Hid (V.heap[br]? = some (.cells #[.int .u64 r.below, .int .u8 r.first, .int .i64 r.size] 332 (0, 0))) := Lib.hid (by rw [← hV, ← hbr]; exact heap_alloc_new _ _)
        have VN : Hid (V.heap[bn]? = some (.cells #[.int .u64 n] 23 (0, 0))) := Lib.hid ((VB.out.block _ (lt_of_block HN.out)).trans HN.out)
        have VW : Hid (V.heap[bw]? = some (.cells #[.pointer (some ⟨b, 0, none⟩)] 166 (0, 0))) := Lib.hid ((VB.out.block _ (lt_of_block HW2.out)).trans HW2.out)
        have VV : Hid (V.heap[b]? = some (.cells #[v] 265 (0, 0))) := Lib.hid ((VB.out.block _ hltb).trans HV.out)
        have HOWN := Lib.hid (own_below HOWN0.out VB.out)
        have HQ : Hid (∀ g, v.ownBlock = some g → base ≤ g ∧ g < V.heap.size) := Lib.hid (fun g hg => HOWN.out.lt g hg)
        have n1 := own_not8 HOWN.out VN.out n8n
        have n2 := own_not8 HOWN.out VW.out n8b
        have n3 := own_not8 HOWN.out VR.out n8r
        have n4 := own_not8 HOWN.out VV.out n8w
        have c1 : V.cell? ⟨bn, 0, none⟩ = some (.int .u64 n) := block_cell VN.out 0
        have c2 : V.cell? ⟨bw, 0, none⟩ = some (.pointer (some ⟨b, 0, none⟩)) := block_cell VW.out 0
        have c3 : V.cell? ⟨br, 1, none⟩ = some (.int .u8 r.first) := block_cell VR.out 1
        have c4 : V.cell? ⟨b, 0, none⟩ = some v := block_cell VV.out 0
        have hbV : base ≤ V.heap.size := Nat.le_trans hbase (Nat.le_of_lt (lt_of_block VV.out))
        obtain ⟨y, hy⟩ : ∃ y, r.first + n = y := ⟨_, rfl⟩
        have hy1 : y ≤ 255 := by rw [← hy]; exact HFIT.out HSZ.out
        have y0 : IntKind.u8.wrap n = n := IntWalk.u8_in _ (by omega)
        have y1 : IntKind.u8.wrap (r.first + n) = y := by rw [hy]; exact IntWalk.u8_in _ (by omega)
        have hy0 : 0 ≤ y := by omega
        have HY := Lib.hid hy
        rw [hbr]
        try rw [hV]
        clear hV hbr hy cn cw cb
        refine wp_region_tail 14 11 (v.ownBlock) (phis [fun u _ => u = (.pointer (some ⟨b, 0, none⟩)), fun u _ => u = (.pointer (some ⟨b, 0, none⟩)), fun u _ => u = (.pointer (some ⟨b, 0, none⟩)), fun u _ => u = (.pointer (some ⟨b, 0, none⟩)), fun u _ => u = (v), fun u _ => u = (.pointer (some ⟨br, 1, none⟩)), fun u _ => u = (.int .u8 r.first), fun u _ => u = (.int .u64 n), fun u _ => u = (.int .u8 n), fun u _ => u = (.int .u8 y), fun u w' => ∃ b, u = .slice (some ⟨b, 0, none⟩) 1 1 ∧ some b ≠ v.ownBlock ∧ w'.heap[b]? = some (.cells ([.int .u8 y]).toArray 5 (0, 0)), fun u w' => w'.ownsRow (base) 5 1 u (s.size + 1) (Lib.strCells s ++ [.int .u8 y]), fun u _ => u = (.pointer (some ⟨b, 0, none⟩)), fun u _ => u = (.pointer (some ⟨b, 0, none⟩))]) rfl (by kernel_rfl) (by kernel_rfl) (mono_of ⟨mono_eq, mono_eq, mono_eq, mono_eq, mono_eq, mono_eq, mono_eq, mono_eq, mono_eq, mono_eq, ?m10, ?m11, mono_eq, mono_eq, trivial⟩) (steps_of 14 ⟨?s0, ?s1, ?s2, ?s3, ?s4, ?s5, ?s6, ?s7, ?s8, ?s9, ?s10, ?s11, ?s12, ?s13, trivial⟩) ?_
        case m10 =>
          exact ⟨fun u w1 w' h ⟨b, h1, hb, hb'⟩ => ⟨b, h1, hb, ext_block h hb'⟩, fun _ u w1 w' h ⟨b, h1, hb, hb'⟩ => ⟨b, h1, hb, extB_block h hb hb'⟩⟩
        case m11 =>
          exact ⟨fun u w1 w' h hu => own_below hu h, fun hn => absurd rfl hn⟩
        case s0 =>
          refine step_val (v := (.pointer (some ⟨b, 0, none⟩))) (fun av wv hE hS hO hD => ?_) (fun _ => rfl)
          have h2 : av.eval (.tmp 2) = (.pointer (some ⟨bw, 0, none⟩)) := hO.2.2 2 rfl
          have f2 := (ev_form av 2).symm.trans h2
          have c1 := extB_cell hE n1 c1
          have c2 := extB_cell hE n2 c2
          have c3 := extB_cell hE n3 c3
          have c4 := extB_cell hE n4 c4
          refine ⟨rfl, ?_⟩
          simp [go_sem, f2, c1, c2, c3, c4, y0, y1]
        case s1 =>
          refine step_val (v := (.pointer (some ⟨b, 0, none⟩))) (fun av wv hE hS hO hD => ?_) (fun _ => rfl)
          have h2 : av.eval (.tmp 2) = (.pointer (some ⟨bw, 0, none⟩)) := hO.2.2 2 rfl
          have f2 := (ev_form av 2).symm.trans h2
          have c1 := extB_cell hE n1 c1
          have c2 := extB_cell hE n2 c2
          have c3 := extB_cell hE n3 c3
          have c4 := extB_cell hE n4 c4
          refine ⟨rfl, ?_⟩
          simp [go_sem, f2, c1, c2, c3, c4, y0, y1]
        case s2 =>
          refine step_val (v := (.pointer (some ⟨b, 0, none⟩))) (fun av wv hE hS hO hD => ?_) (fun _ => rfl)
          have d19 : av.eval (.tmp 19) = (.pointer (some ⟨b, 0, none⟩)) := hD.1 rfl _ rfl
          have f19 := (ev_form av 19).symm.trans d19
          refine ⟨rfl, ?_⟩
          simp [go_sem, f19, y0, y1]
        case s3 =>
          refine step_val (v := (.pointer (some ⟨b, 0, none⟩))) (fun av wv hE hS hO hD => ?_) (fun _ => rfl)
          have d20 : av.eval (.tmp 20) = (.pointer (some ⟨b, 0, none⟩)) := hD.1 rfl _ rfl
          have f20 := (ev_form av 20).symm.trans d20
          refine ⟨rfl, ?_⟩
          simp [go_sem, f20, y0, y1]
        case s4 =>
          refine step_val (v := (v)) (fun av wv hE hS hO hD => ?_) (fun _ => rfl)
          have d21 : av.eval (.tmp 21) = (.pointer (some ⟨b, 0, none⟩)) := hD.1 rfl _ rfl
          have f21 := (ev_form av 21).symm.trans d21
          have c1 := extB_cell hE n1 c1
          have c2 := extB_cell hE n2 c2
          have c3 := extB_cell hE n3 c3
          have c4 := extB_cell hE n4 c4
          refine ⟨rfl, ?_⟩
          simp [go_sem, f21, c1, c2, c3, c4, y0, y1]
        case s5 =>
          refine step_val (v := (.pointer (some ⟨br, 1, none⟩))) (fun av wv hE hS hO hD => ?_) (fun _ => rfl)
          have h3 : av.eval (.tmp 3) = (.pointer (some ⟨br, 0, none⟩)) := hO.2.2 3 rfl
          have f3 := (ev_form av 3).symm.trans h3
          refine ⟨rfl, ?_⟩
          simp [go_sem, f3, y0, y1]
        case s6 =>
          refine step_val (v := (.int .u8 r.first)) (fun av wv hE hS hO hD => ?_) (fun _ => rfl)
          have d23 : av.eval (.tmp 23) = (.pointer (some ⟨br, 1, none⟩)) := hD.1 rfl _ rfl
          have f23 := (ev_form av 23).symm.trans d23
          have c1 := extB_cell hE n1 c1
          have c2 := extB_cell hE n2 c2
          have c3 := extB_cell hE n3 c3
          have c4 := extB_cell hE n4 c4
          refine ⟨rfl, ?_⟩
          simp [go_sem, f23, c1, c2, c3, c4, y0, y1]
        case s7 =>
          refine step_val (v := (.int .u64 n)) (fun av wv hE hS hO hD => ?_) (fun _ => rfl)
          have h1 : av.eval (.tmp 1) = (.pointer (some ⟨bn, 0, none⟩)) := hO.2.2 1 rfl
          have f1 := (ev_form av 1).symm.trans h1
          have c1 := extB_cell hE n1 c1
          have c2 := extB_cell hE n2 c2
          have c3 := extB_cell hE n3 c3
          have c4 := extB_cell hE n4 c4
          refine ⟨rfl, ?_⟩
          simp [go_sem, f1, c1, c2, c3, c4, y0, y1]
        case s8 =>
          refine step_val (v := (.int .u8 n)) (fun av wv hE hS hO hD => ?_) (fun _ => rfl)
          have d25 : av.eval (.tmp 25) = (.int .u64 n) := hD.1 rfl _ rfl
          have f25 := (ev_form av 25).symm.trans d25
          refine ⟨rfl, ?_⟩
          simp [go_sem, f25, y0, y1]
        case s9 =>
          refine step_val (v := (.int .u8 y)) (fun av wv hE hS hO hD => ?_) (fun _ => rfl)
          have d24 : av.eval (.tmp 24) = (.int .u8 r.first) := hD.1 rfl _ rfl
          have f24 := (ev_form av 24).symm.trans d24
          have d26 : av.eval (.tmp 26) = (.int .u8 n) := hD.2.1 rfl _ rfl
          have f26 := (ev_form av 26).symm.trans d26
          refine ⟨rfl, ?_⟩
          simp [go_sem, f24, f26, y0, y1]
        case s10 =>
          refine step_wp (fun av wv hE hS hO hD => ?_)
          have d27 : av.eval (.tmp 27) = (.int .u8 y) := hD.1 rfl _ rfl
          have f27 := (ev_form av 27).symm.trans d27
          refine ⟨rfl, ?_⟩
          refine wp_of_run (v := .slice (some ⟨wv.heap.size, 0, none⟩) 1 1) (w' := wv.alloc (.cells ([.int .u8 y]).toArray 5)) (by first | (simp [go_sem, f27, y0, y1]; done) | (simp [go_sem, f27, y0, y1]; rfl)) ⟨_, rfl, es_of_ext (balloc (Ext_refl _) _), wv.heap.size, rfl, ?_, heap_alloc_new _ _⟩
          exact fun e => absurd (HQ.out _ e.symm).2 (by have := hE.size; simp at this; omega)
        case s11 =>
          refine step_wp (fun av wv hE hS hO hD => ?_)
          have d22 : av.eval (.tmp 22) = (v) := hD.1 rfl _ rfl
          have f22 := (ev_form av 22).symm.trans d22
          have d28 : (fun u w' => ∃ b, u = .slice (some ⟨b, 0, none⟩) 1 1 ∧ some b ≠ v.ownBlock ∧ w'.heap[b]? = some (.cells ([.int .u8 y]).toArray 5 (0, 0))) (av.eval (.tmp 28)) wv := hD.2.1 rfl _ rfl
          refine ⟨rfl, ?_⟩
          obtain ⟨bS, hS1, hbS, hcS⟩ := d28
          have hown1 : wv.ownsRow (base) 5 1 (v) (s.size) (Lib.strCells s) := own_below (w := World.drew _) (HOWN.out) (hS rfl)
          refine wp_append_lies wv _ _ _ rfl (base) 5 i0 (.int .u8 0) 1 1 Tryz.underlying106 hi hz0 hz1 hz2 rfl (by decide) (v) (s.size) _ d22 hown1 ⟨bS, 0, none⟩ 1 1 ([.int .u8 y]) (by exact hS1) rfl (World.news_of_block hcS) (one_u8 _) (by decide) (by unfold maxLen; omega) (by omega) (by have := hE.size; simp at this; omega) _ rfl ?_
          intro g cap1 w2 hown2 hgrow hat hlt2
          exact ⟨_, rfl, es_sp hgrow, hown2⟩
        case s12 =>
          refine step_val (v := (.pointer (some ⟨b, 0, none⟩))) (fun av wv hE hS hO hD => ?_) (fun _ => rfl)
          have d18 : av.eval (.tmp 18) = (.pointer (some ⟨b, 0, none⟩)) := hD.1 rfl _ rfl
          have f18 := (ev_form av 18).symm.trans d18
          refine ⟨rfl, ?_⟩
          simp [go_sem, f18, y0, y1]
        case s13 =>
          refine step_val (v := (.pointer (some ⟨b, 0, none⟩))) (fun av wv hE hS hO hD => ?_) (fun _ => rfl)
          have d30 : av.eval (.tmp 30) = (.pointer (some ⟨b, 0, none⟩)) := hD.1 rfl _ rfl
          have f30 := (ev_form av 30).symm.trans d30
          refine ⟨rfl, ?_⟩
          simp [go_sem, f30, y0, y1]
        intro a' w' hE hO hall
        have hA := act_of_outer (ds := [18, 19, 20, 21, 22, 23, 24, 25, 26, 27, 28, 29, 30, 31]) rfl hO (by kernel_rfl)
        have e18 : (fun u _ => u = (.pointer (some ⟨b, 0, none⟩))) (a'.eval (.tmp 18)) w' := hall.1 _ rfl
        have e19 : (fun u _ => u = (.pointer (some ⟨b, 0, none⟩))) (a'.eval (.tmp 19)) w' := hall.2.1 _ rfl
        have e20 : (fun u _ => u = (.pointer (some ⟨b, 0, none⟩))) (a'.eval (.tmp 20)) w' := hall.2.2.1 _ rfl
        have e21 : (fun u _ => u = (.pointer (some ⟨b, 0, none⟩))) (a'.eval (.tmp 21)) w' := hall.2.2.2.1 _ rfl
        have e22 : (fun u _ => u = (v)) (a'.eval (.tmp 22)) w' := hall.2.2.2.2.1 _ rfl
        have e23 : (fun u _ => u = (.pointer (some ⟨br, 1, none⟩))) (a'.eval (.tmp 23)) w' := hall.2.2.2.2.2.1 _ rfl
        have e24 : (fun u _ => u = (.int .u8 r.first)) (a'.eval (.tmp 24)) w' := hall.2.2.2.2.2.2.1 _ rfl
        have e25 : (fun u _ => u = (.int .u64 n)) (a'.eval (.tmp 25)) w' := hall.2.2.2.2.2.2.2.1 _ rfl
        have e26 : (fun u _ => u = (.int .u8 n)) (a'.eval (.tmp 26)) w' := hall.2.2.2.2.2.2.2.2.1 _ rfl
        have e27 : (fun u _ => u = (.int .u8 y)) (a'.eval (.tmp 27)) w' := hall.2.2.2.2.2.2.2.2.2.1 _ rfl
        have e28 : (fun u w' => ∃ b, u = .slice (some ⟨b, 0, none⟩) 1 1 ∧ some b ≠ v.ownBlock ∧ w'.heap[b]? = some (.cells ([.int .u8 y]).toArray 5 (0, 0))) (a'.eval (.tmp 28)) w' := hall.2.2.2.2.2.2.2.2.2.2.1 _ rfl
        have e29 : (fun u w' => w'.ownsRow (base) 5 1 u (s.size + 1) (Lib.strCells s ++ [.int .u8 y])) (a'.eval (.tmp 29)) w' := hall.2.2.2.2.2.2.2.2.2.2.2.1 _ rfl
        have e30 : (fun u _ => u = (.pointer (some ⟨b, 0, none⟩))) (a'.eval (.tmp 30)) w' := hall.2.2.2.2.2.2.2.2.2.2.2.2.1 _ rfl
        have e31 : (fun u _ => u = (.pointer (some ⟨b, 0, none⟩))) (a'.eval (.tmp 31)) w' := hall.2.2.2.2.2.2.2.2.2.2.2.2.2.1 _ rfl
        obtain ⟨v28, hv28⟩ : ∃ v, a'.eval (.tmp 28) = v := ⟨_, rfl⟩
        rw [hv28] at e28
        obtain ⟨v29, hv29⟩ : ∃ v, a'.eval (.tmp 29) = v := ⟨_, rfl⟩
        rw [hv29] at e29
        simp only [List.foldl_cons, List.foldl_nil, Act.put, List.setIfInBounds_toArray, List.set_cons_succ, List.set_cons_zero, e18, e19, e20, e21, e22, e23, e24, e25, e26, e27, hv28, hv29, e30, e31] at hA
        clear hO hall e18 e19 e20 e21 e22 e23 e24 e25 e26 e27 hv28 hv29 e30 e31
        subst hA
        obtain ⟨ga, gc, rfl⟩ := own_slice e29
        have hst := wr_step (s' := s ++ baL [toB y]) hbase VV.out HOWN.out hE (by rw [baL_one]; exact e29) (by rw [strCells_app, strCells_one hy0 hy1])
        have HST := Lib.hid hst
        have hc4 := hst.1
        have hf4 := hst.2.1
        clear hst hE e29
        go_wp2
        go_ret
        refine ⟨ret_bool HX.out.symm, ?_, (WK.of_below VB.out HBS.out).trans HST.out.2.2.2⟩
        rw [HIF.out]
        have e4 : rowB r n = [toB y] := by unfold rowB; rw [if_pos HSZ.out, HY.out]
        rw [e4]; exact HST.out.2.2.1
      · have e0 : (r.size == 0) = false := by simpa using hsz
        have HSZ := Lib.hid hsz
        clear hsz
        go_upto_region 6 with fail
        obtain ⟨br, hbr⟩ : ∃ br, w.heap.size = br := ⟨_, rfl⟩
        obtain ⟨V, hV⟩ : ∃ V, w.alloc (.cells #[.int .u64 r.below, .int .u8 r.first, .int .i64 r.size] 332) = V := ⟨_, rfl⟩
        have VB : Hid (Below w.heap.size w V) := Lib.hid (by rw [← hV]; exact balloc (Below.refl _ _) _)
        have VR : Hid (V.heap[br]? = some (.cells #[.int .u64 r.below, .int .u8 r.first, .int .i64 r.size] 332 (0, 0))) := Lib.hid (by rw [← hV, ← hbr]; exact heap_alloc_new _ _)
        have VN : Hid (V.heap[bn]? = some (.cells #[.int .u64 n] 23 (0, 0))) := Lib.hid ((VB.out.block _ (lt_of_block HN.out)).trans HN.out)
        have VW : Hid (V.heap[bw]? = some (.cells #[.pointer (some ⟨b, 0, none⟩)] 166 (0, 0))) := Lib.hid ((VB.out.block _ (lt_of_block HW2.out)).trans HW2.out)
        have VV : Hid (V.heap[b]? = some (.cells #[v] 265 (0, 0))) := Lib.hid ((VB.out.block _ hltb).trans HV.out)
        have HOWN := Lib.hid (own_below HOWN0.out VB.out)
        have HQ : Hid (∀ g, v.ownBlock = some g → base ≤ g ∧ g < V.heap.size) := Lib.hid (fun g hg => HOWN.out.lt g hg)
        have n1 := own_not8 HOWN.out VN.out n8n
        have n2 := own_not8 HOWN.out VW.out n8b
        have n3 := own_not8 HOWN.out VR.out n8r
        have n4 := own_not8 HOWN.out VV.out n8w
        have c1 : V.cell? ⟨bn, 0, none⟩ = some (.int .u64 n) := block_cell VN.out 0
        have c2 : V.cell? ⟨bw, 0, none⟩ = some (.pointer (some ⟨b, 0, none⟩)) := block_cell VW.out 0
        have c3 : V.cell? ⟨br, 1, none⟩ = some (.int .u8 r.first) := block_cell VR.out 1
        have c4 : V.cell? ⟨b, 0, none⟩ = some v := block_cell VV.out 0
        have hbV : base ≤ V.heap.size := Nat.le_trans hbase (Nat.le_of_lt (lt_of_block VV.out))
        rw [hbr]
        try rw [hV]
        clear hV hbr cn cw cb
        refine wp_region_tail 11 8 (v.ownBlock) (phis [fun u _ => u = (.pointer (some ⟨b, 0, none⟩)), fun u _ => u = (.pointer (some ⟨b, 0, none⟩)), fun u _ => u = (.pointer (some ⟨b, 0, none⟩)), fun u _ => u = (.pointer (some ⟨b, 0, none⟩)), fun u _ => u = (v), fun u _ => u = (.pointer (some ⟨br, 1, none⟩)), fun u _ => u = (.int .u8 r.first), fun u w' => ∃ b, u = .slice (some ⟨b, 0, none⟩) 1 1 ∧ some b ≠ v.ownBlock ∧ w'.heap[b]? = some (.cells ([.int .u8 r.first]).toArray 5 (0, 0)), fun u w' => w'.ownsRow (base) 5 1 u (s.size + 1) (Lib.strCells s ++ [.int .u8 r.first]), fun u _ => u = (.pointer (some ⟨b, 0, none⟩)), fun u _ => u = (.pointer (some ⟨b, 0, none⟩))]) rfl (by kernel_rfl) (by kernel_rfl) (mono_of ⟨mono_eq, mono_eq, mono_eq, mono_eq, mono_eq, mono_eq, mono_eq, ?m7, ?m8, mono_eq, mono_eq, trivial⟩) (steps_of 11 ⟨?s0, ?s1, ?s2, ?s3, ?s4, ?s5, ?s6, ?s7, ?s8, ?s9, ?s10, trivial⟩) ?_
        case m7 =>
          exact ⟨fun u w1 w' h ⟨b, h1, hb, hb'⟩ => ⟨b, h1, hb, ext_block h hb'⟩, fun _ u w1 w' h ⟨b, h1, hb, hb'⟩ => ⟨b, h1, hb, extB_block h hb hb'⟩⟩
        case m8 =>
          exact ⟨fun u w1 w' h hu => own_below hu h, fun hn => absurd rfl hn⟩
        case s0 =>
          refine step_val (v := (.pointer (some ⟨b, 0, none⟩))) (fun av wv hE hS hO hD => ?_) (fun _ => rfl)
          have h2 : av.eval (.tmp 2) = (.pointer (some ⟨bw, 0, none⟩)) := hO.2.2 2 rfl
          have f2 := (ev_form av 2).symm.trans h2
          have c1 := extB_cell hE n1 c1
          have c2 := extB_cell hE n2 c2
          have c3 := extB_cell hE n3 c3
          have c4 := extB_cell hE n4 c4
          refine ⟨rfl, ?_⟩
          simp [go_sem, f2, c1, c2, c3, c4]
        case s1 =>
          refine step_val (v := (.pointer (some ⟨b, 0, none⟩))) (fun av wv hE hS hO hD => ?_) (fun _ => rfl)
          have h2 : av.eval (.tmp 2) = (.pointer (some ⟨bw, 0, none⟩)) := hO.2.2 2 rfl
          have f2 := (ev_form av 2).symm.trans h2
          have c1 := extB_cell hE n1 c1
          have c2 := extB_cell hE n2 c2
          have c3 := extB_cell hE n3 c3
          have c4 := extB_cell hE n4 c4
          refine ⟨rfl, ?_⟩
          simp [go_sem, f2, c1, c2, c3, c4]
        case s2 =>
          refine step_val (v := (.pointer (some ⟨b, 0, none⟩))) (fun av wv hE hS hO hD => ?_) (fun _ => rfl)
          have d33 : av.eval (.tmp 33) = (.pointer (some ⟨b, 0, none⟩)) := hD.1 rfl _ rfl
          have f33 := (ev_form av 33).symm.trans d33
          refine ⟨rfl, ?_⟩
          simp [go_sem, f33]
        case s3 =>
          refine step_val (v := (.pointer (some ⟨b, 0, none⟩))) (fun av wv hE hS hO hD => ?_) (fun _ => rfl)
          have d34 : av.eval (.tmp 34) = (.pointer (some ⟨b, 0, none⟩)) := hD.1 rfl _ rfl
          have f34 := (ev_form av 34).symm.trans d34
          refine ⟨rfl, ?_⟩
          simp [go_sem, f34]
        case s4 =>
          refine step_val (v := (v)) (fun av wv hE hS hO hD => ?_) (fun _ => rfl)
          have d35 : av.eval (.tmp 35) = (.pointer (some ⟨b, 0, none⟩)) := hD.1 rfl _ rfl
          have f35 := (ev_form av 35).symm.trans d35
          have c1 := extB_cell hE n1 c1
          have c2 := extB_cell hE n2 c2
          have c3 := extB_cell hE n3 c3
          have c4 := extB_cell hE n4 c4
          refine ⟨rfl, ?_⟩
          simp [go_sem, f35, c1, c2, c3, c4]
        case s5 =>
          refine step_val (v := (.pointer (some ⟨br, 1, none⟩))) (fun av wv hE hS hO hD => ?_) (fun _ => rfl)
          have h3 : av.eval (.tmp 3) = (.pointer (some ⟨br, 0, none⟩)) := hO.2.2 3 rfl
          have f3 := (ev_form av 3).symm.trans h3
          refine ⟨rfl, ?_⟩
          simp [go_sem, f3]
        case s6 =>
          refine step_val (v := (.int .u8 r.first)) (fun av wv hE hS hO hD => ?_) (fun _ => rfl)
          have d37 : av.eval (.tmp 37) = (.pointer (some ⟨br, 1, none⟩)) := hD.1 rfl _ rfl
          have f37 := (ev_form av 37).symm.trans d37
          have c1 := extB_cell hE n1 c1
          have c2 := extB_cell hE n2 c2
          have c3 := extB_cell hE n3 c3
          have c4 := extB_cell hE n4 c4
          refine ⟨rfl, ?_⟩
          simp [go_sem, f37, c1, c2, c3, c4]
        case s7 =>
          refine step_wp (fun av wv hE hS hO hD => ?_)
          have d38 : av.eval (.tmp 38) = (.int .u8 r.first) := hD.1 rfl _ rfl
          have f38 := (ev_form av 38).symm.trans d38
          refine ⟨rfl, ?_⟩
          refine wp_of_run (v := .slice (some ⟨wv.heap.size, 0, none⟩) 1 1) (w' := wv.alloc (.cells ([.int .u8 r.first]).toArray 5)) (by first | (simp [go_sem, f38]; done) | (simp [go_sem, f38]; rfl)) ⟨_, rfl, es_of_ext (balloc (Ext_refl _) _), wv.heap.size, rfl, ?_, heap_alloc_new _ _⟩
          exact fun e => absurd (HQ.out _ e.symm).2 (by have := hE.size; simp at this; omega)
        case s8 =>
          refine step_wp (fun av wv hE hS hO hD => ?_)
          have d36 : av.eval (.tmp 36) = (v) := hD.1 rfl _ rfl
          have f36 := (ev_form av 36).symm.trans d36
          have d39 : (fun u w' => ∃ b, u = .slice (some ⟨b, 0, none⟩) 1 1 ∧ some b ≠ v.ownBlock ∧ w'.heap[b]? = some (.cells ([.int .u8 r.first]).toArray 5 (0, 0))) (av.eval (.tmp 39)) wv := hD.2.1 rfl _ rfl
          refine ⟨rfl, ?_⟩
          obtain ⟨bS, hS1, hbS, hcS⟩ := d39
          have hown1 : wv.ownsRow (base) 5 1 (v) (s.size) (Lib.strCells s) := own_below (w := World.drew _) (HOWN.out) (hS rfl)
          refine wp_append_lies wv _ _ _ rfl (base) 5 i0 (.int .u8 0) 1 1 Tryz.underlying106 hi hz0 hz1 hz2 rfl (by decide) (v) (s.size) _ d36 hown1 ⟨bS, 0, none⟩ 1 1 ([.int .u8 r.first]) (by exact hS1) rfl (World.news_of_block hcS) (one_u8 _) (by decide) (by unfold maxLen; omega) (by omega) (by have := hE.size; simp at this; omega) _ rfl ?_
          intro g cap1 w2 hown2 hgrow hat hlt2
          exact ⟨_, rfl, es_sp hgrow, hown2⟩
        case s9 =>
          refine step_val (v := (.pointer (some ⟨b, 0, none⟩))) (fun av wv hE hS hO hD => ?_) (fun _ => rfl)
          have d32 : av.eval (.tmp 32) = (.pointer (some ⟨b, 0, none⟩)) := hD.1 rfl _ rfl
          have f32 := (ev_form av 32).symm.trans d32
          refine ⟨rfl, ?_⟩
          simp [go_sem, f32]
        case s10 =>
          refine step_val (v := (.pointer (some ⟨b, 0, none⟩))) (fun av wv hE hS hO hD => ?_) (fun _ => rfl)
          have d41 : av.eval (.tmp 41) = (.pointer (some ⟨b, 0, none⟩)) := hD.1 rfl _ rfl
          have f41 := (ev_form av 41).symm.trans d41
          refine ⟨rfl, ?_⟩
          simp [go_sem, f41]
        intro a' w' hE hO hall
        have hA := act_of_outer (ds := [32, 33, 34, 35, 36, 37, 38, 39, 40, 41, 42]) rfl hO (by kernel_rfl)
        have e32 : (fun u _ => u = (.pointer (some ⟨b, 0, none⟩))) (a'.eval (.tmp 32)) w' := hall.1 _ rfl
        have e33 : (fun u _ => u = (.pointer (some ⟨b, 0, none⟩))) (a'.eval (.tmp 33)) w' := hall.2.1 _ rfl
        have e34 : (fun u _ => u = (.pointer (some ⟨b, 0, none⟩))) (a'.eval (.tmp 34)) w' := hall.2.2.1 _ rfl
        have e35 : (fun u _ => u = (.pointer (some ⟨b, 0, none⟩))) (a'.eval (.tmp 35)) w' := hall.2.2.2.1 _ rfl
        have e36 : (fun u _ => u = (v)) (a'.eval (.tmp 36)) w' := hall.2.2.2.2.1 _ rfl
        have e37 : (fun u _ => u = (.pointer (some ⟨br, 1, none⟩))) (a'.eval (.tmp 37)) w' := hall.2.2.2.2.2.1 _ rfl
        have e38 : (fun u _ => u = (.int .u8 r.first)) (a'.eval (.tmp 38)) w' := hall.2.2.2.2.2.2.1 _ rfl
        have e39 : (fun u w' => ∃ b, u = .slice (some ⟨b, 0, none⟩) 1 1 ∧ some b ≠ v.ownBlock ∧ w'.heap[b]? = some (.cells ([.int .u8 r.first]).toArray 5 (0, 0))) (a'.eval (.tmp 39)) w' := hall.2.2.2.2.2.2.2.1 _ rfl
        have e40 : (fun u w' => w'.ownsRow (base) 5 1 u (s.size + 1) (Lib.strCells s ++ [.int .u8 r.first])) (a'.eval (.tmp 40)) w' := hall.2.2.2.2.2.2.2.2.1 _ rfl
        have e41 : (fun u _ => u = (.pointer (some ⟨b, 0, none⟩))) (a'.eval (.tmp 41)) w' := hall.2.2.2.2.2.2.2.2.2.1 _ rfl
        have e42 : (fun u _ => u = (.pointer (some ⟨b, 0, none⟩))) (a'.eval (.tmp 42)) w' := hall.2.2.2.2.2.2.2.2.2.2.1 _ rfl
        obtain ⟨v39, hv39⟩ : ∃ v, a'.eval (.tmp 39) = v := ⟨_, rfl⟩
        rw [hv39] at e39
        obtain ⟨v40, hv40⟩ : ∃ v, a'.eval (.tmp 40) = v := ⟨_, rfl⟩
        rw [hv40] at e40
        simp only [List.foldl_cons, List.foldl_nil, Act.put, List.setIfInBounds_toArray, List.set_cons_succ, List.set_cons_zero, e32, e33, e34, e35, e36, e37, e38, hv39, hv40, e41, e42] at hA
        clear hO hall e32 e33 e34 e35 e36 e37 e38 hv39 hv40 e41 e42
        subst hA
        obtain ⟨ga, gc, rfl⟩ := own_slice e40
        have hst := wr_step (s' := s ++ baL [toB r.first]) hbase VV.out HOWN.out hE (by rw [baL_one]; exact e40) (by rw [strCells_app, strCells_one f0 f1])
        have HST := Lib.hid hst
        have hc4 := hst.1
        have hf4 := hst.2.1
        have HBR : Hid (w'.cell? ⟨br, 2, none⟩ = some (.int .i64 r.size)) := Lib.hid (extB_cell hE n3 (block_cell VR.out 2))
        clear hst hE e40 c1 c2 c3 c4
        have hne : br ≠ b := fun e => by have h1 := VR.out; rw [e, VV.out] at h1; cases h1
        have c5 : (w'.setCell ⟨b, 0, none⟩ (.slice (some ⟨ga, 0, none⟩) (s.size + 1) gc)).cell? ⟨br, 2, none⟩ = some (.int .i64 r.size) := by
          have h := (HST.out.2.2.2).keep br _ VR.out hne n8r
          exact block_cell h 2
        obtain ⟨k, hk⟩ := Int.eq_ofNat_of_zero_le s0
        have HKK := Lib.hid hk
        have k8 : k ≤ 8 := by omega
        rw [hk] at c5
        have hw1 : IntKind.i64.wrap ((k : Int) - 1) = (k : Int) - 1 := IntWalk.i64_in _ (by omega)
        clear hk HBR
        go_wp2
        obtain ⟨V2, hV2⟩ : ∃ V2, w'.setCell ⟨b, 0, none⟩ (.slice (some ⟨ga, 0, none⟩) (s.size + 1) gc) = V2 := ⟨_, rfl⟩
        have HWR2 : Hid (WrB V2 b base (s ++ baL (toB r.first :: ((hiL n k).take (k - k)).map toB))) := Lib.hid (by rw [← hV2, Nat.sub_self]; exact HST.out.2.2.1)
        have HWK2 : Hid (WK base b V V2) := Lib.hid (by rw [← hV2]; exact HST.out.2.2.2)
        try rw [hV2]
        clear hV2 HST hc4 hf4 c5 hw1 HWR
        have nbn : bn ≠ b := fun e => by have h1 := VN.out; rw [e, VV.out] at h1; cases h1
        have nbw : bw ≠ b := fun e => by have h1 := VW.out; rw [e, VV.out] at h1; cases h1
        have hbVS : base ≤ V.heap.size := hbV
        clear n1 n2 n3 n4 hbV hltb HQ
        go_loopg [5] k (fun g i wr => g ≤ k ∧ i = .int .i64 ((g : Int) - 1) ∧ Hid (WrB wr b base (s ++ baL (toB r.first :: ((hiL n k).take (k - g)).map toB))) ∧ Hid (WK base b V wr))
        case atStart => exact ⟨Nat.le_refl _, rfl, HWR2.out, HWK2.out⟩
        case round =>
          clear HWR2 HWK2
          obtain ⟨hgk, rfl, HWR, HWK⟩ := hrel
          obtain ⟨G, hG⟩ : ∃ G, G = gk := ⟨_, rfl⟩
          subst hG
          cases G with
          | zero =>
            have e2 : ((0 : Nat) : Int) - 1 = -1 := rfl
            rw [e2]
            clear e2
            go_wp2
            go_ret
            refine ⟨ret_bool HX.out.symm, ?_, (WK.of_below VB.out HBS.out).trans HWK.out⟩
            rw [HIF.out]
            have e4 : rowB r n = toB r.first :: ((hiL n k).take (k - 0)).map toB := by
              unfold rowB
              rw [if_neg HSZ.out, HKK.out, Nat.sub_zero, List.take_of_length_le (by rw [hiL_len]; exact Nat.le_refl _)]; rfl
            rw [e4]; exact HWR.out
          | succ i =>
            have e2 : ((i + 1 : Nat) : Int) - 1 = (i : Int) := by omega
            rw [e2]
            obtain ⟨t, ht⟩ : ∃ t, s ++ baL (toB r.first :: ((hiL n k).take (k - (i + 1))).map toB) = t := ⟨_, rfl⟩
            have hts : t.size ≤ 70000000000009 := by
              rw [← ht, ByteArray.size_append, baL_size, List.length_cons, List.length_map, List.length_take, hiL_len]; omega
            obtain ⟨x, hx⟩ : ∃ x, n / 2 ^ (8 * i) % 256 = x := ⟨_, rfl⟩
            have hx0 : 0 ≤ x ∧ x ≤ 255 := by rw [← hx]; omega
            have HT : Hid (s ++ baL (toB r.first :: ((hiL n k).take (k - i)).map toB) = t ++ baL [toB x]) := Lib.hid (by
              rw [← ht, hi_next n k i (by omega), show (256 : Int) ^ i = 2 ^ (8 * i) by rw [Int.pow_mul]; rfl, hx, List.map_append, ← List.cons_append, baL_app, ByteArray.append_assoc]; rfl)
            rw [ht] at HWR
            have y0 : IntKind.u8.wrap (n / 2 ^ (8 * i)) = x := by rw [IntKind.wrap_u8]; exact hx
            have y1 : IntKind.i64.wrap (8 * (i : Int)) = 8 * (i : Int) := IntWalk.i64_in _ (by omega)
            have y2 : 0 ≤ 8 * (i : Int) := by omega
            have y3 : (8 * (i : Int)).toNat = 8 * i := by omega
            clear ht e2 hx
            obtain ⟨-, v, hv, hown⟩ := HWR.out
            have VV2 := Lib.hid hv
            have HOWN := Lib.hid hown
            have VN2 := Lib.hid (HWK.out.keep _ _ VN.out nbn n8n)
            have VW2 := Lib.hid (HWK.out.keep _ _ VW.out nbw n8b)
            have n8w : Not8 (.cells #[v] 265 (0, 0)) := not8_cells (by decide)
            have HQ : Hid (∀ g, v.ownBlock = some g → base ≤ g ∧ g < wr.heap.size) := Lib.hid (fun g hg => HOWN.out.lt g hg)
            have n1 := own_not8 HOWN.out VN2.out n8n
            have n2 := own_not8 HOWN.out VW2.out n8b
            have n4 := own_not8 HOWN.out VV2.out n8w
            have c1 : wr.cell? ⟨bn, 0, none⟩ = some (.int .u64 n) := block_cell VN2.out 0
            have c2 : wr.cell? ⟨bw, 0, none⟩ = some (.pointer (some ⟨b, 0, none⟩)) := block_cell VW2.out 0
            have c4 : wr.cell? ⟨b, 0, none⟩ = some v := block_cell VV2.out 0
            have hbV : base ≤ wr.heap.size := Nat.le_trans hbase (Nat.le_of_lt (lt_of_block VV2.out))
            clear hv hown
            go_upto_region 10 with fail
            refine wp_region_tail 14 11 (v.ownBlock) (phis [fun u _ => u = (.pointer (some ⟨b, 0, none⟩)), fun u _ => u = (.pointer (some ⟨b, 0, none⟩)), fun u _ => u = (.pointer (some ⟨b, 0, none⟩)), fun u _ => u = (.pointer (some ⟨b, 0, none⟩)), fun u _ => u = (v), fun u _ => u = (.int .u64 n), fun u _ => u = (.int .i64 i), fun u _ => u = (.int .i64 (8 * (i : Int))), fun u _ => u = (.int .u64 (n / 2 ^ (8 * i))), fun u _ => u = (.int .u8 x), fun u w' => ∃ b, u = .slice (some ⟨b, 0, none⟩) 1 1 ∧ some b ≠ v.ownBlock ∧ w'.heap[b]? = some (.cells ([.int .u8 x]).toArray 5 (0, 0)), fun u w' => w'.ownsRow (base) 5 1 u (t.size + 1) (Lib.strCells t ++ [.int .u8 x]), fun u _ => u = (.pointer (some ⟨b, 0, none⟩)), fun u _ => u = (.pointer (some ⟨b, 0, none⟩))]) rfl (by kernel_rfl) (by kernel_rfl) (mono_of ⟨mono_eq, mono_eq, mono_eq, mono_eq, mono_eq, mono_eq, mono_eq, mono_eq, mono_eq, mono_eq, ?m10, ?m11, mono_eq, mono_eq, trivial⟩) (steps_of 14 ⟨?s0, ?s1, ?s2, ?s3, ?s4, ?s5, ?s6, ?s7, ?s8, ?s9, ?s10, ?s11, ?s12, ?s13, trivial⟩) ?_
            case m10 =>
              exact ⟨fun u w1 w' h ⟨b, h1, hb, hb'⟩ => ⟨b, h1, hb, ext_block h hb'⟩, fun _ u w1 w' h ⟨b, h1, hb, hb'⟩ => ⟨b, h1, hb, extB_block h hb hb'⟩⟩
            case m11 =>
              exact ⟨fun u w1 w' h hu => own_below hu h, fun hn => absurd rfl hn⟩
            case s0 =>
              refine step_val (v := (.pointer (some ⟨b, 0, none⟩))) (fun av wv hE hS hO hD => ?_) (fun _ => rfl)
              have h2 : av.eval (.tmp 2) = (.pointer (some ⟨bw, 0, none⟩)) := hO.2.2 2 rfl
              have f2 := (ev_form av 2).symm.trans h2
              have c1 := extB_cell hE n1 c1
              have c2 := extB_cell hE n2 c2
              have c4 := extB_cell hE n4 c4
              refine ⟨rfl, ?_⟩
              simp [go_sem, f2, c1, c2, c4, y0, y1, y2, y3]
            case s1 =>
              refine step_val (v := (.pointer (some ⟨b, 0, none⟩))) (fun av wv hE hS hO hD => ?_) (fun _ => rfl)
              have h2 : av.eval (.tmp 2) = (.pointer (some ⟨bw, 0, none⟩)) := hO.2.2 2 rfl
              have f2 := (ev_form av 2).symm.trans h2
              have c1 := extB_cell hE n1 c1
              have c2 := extB_cell hE n2 c2
              have c4 := extB_cell hE n4 c4
              refine ⟨rfl, ?_⟩
              simp [go_sem, f2, c1, c2, c4, y0, y1, y2, y3]
            case s2 =>
              refine step_val (v := (.pointer (some ⟨b, 0, none⟩))) (fun av wv hE hS hO hD => ?_) (fun _ => rfl)
              have d51 : av.eval (.tmp 51) = (.pointer (some ⟨b, 0, none⟩)) := hD.1 rfl _ rfl
              have f51 := (ev_form av 51).symm.trans d51
              refine ⟨rfl, ?_⟩
              simp [go_sem, f51, y0, y1, y2, y3]
            case s3 =>
              refine step_val (v := (.pointer (some ⟨b, 0, none⟩))) (fun av wv hE hS hO hD => ?_) (fun _ => rfl)
              have d52 : av.eval (.tmp 52) = (.pointer (some ⟨b, 0, none⟩)) := hD.1 rfl _ rfl
              have f52 := (ev_form av 52).symm.trans d52
              refine ⟨rfl, ?_⟩
              simp [go_sem, f52, y0, y1, y2, y3]
            case s4 =>
              refine step_val (v := (v)) (fun av wv hE hS hO hD => ?_) (fun _ => rfl)
              have d53 : av.eval (.tmp 53) = (.pointer (some ⟨b, 0, none⟩)) := hD.1 rfl _ rfl
              have f53 := (ev_form av 53).symm.trans d53
              have c1 := extB_cell hE n1 c1
              have c2 := extB_cell hE n2 c2
              have c4 := extB_cell hE n4 c4
              refine ⟨rfl, ?_⟩
              simp [go_sem, f53, c1, c2, c4, y0, y1, y2, y3]
            case s5 =>
              refine step_val (v := (.int .u64 n)) (fun av wv hE hS hO hD => ?_) (fun _ => rfl)
              have h1 : av.eval (.tmp 1) = (.pointer (some ⟨bn, 0, none⟩)) := hO.2.2 1 rfl
              have f1 := (ev_form av 1).symm.trans h1
              have c1 := extB_cell hE n1 c1
              have c2 := extB_cell hE n2 c2
              have c4 := extB_cell hE n4 c4
              refine ⟨rfl, ?_⟩
              simp [go_sem, f1, c1, c2, c4, y0, y1, y2, y3]
            case s6 =>
              refine step_val (v := (.int .i64 i)) (fun av wv hE hS hO hD => ?_) (fun _ => rfl)
              have h5 : av.eval (.tmp 5) = (.int .i64 i) := hO.2.2 5 rfl
              have f5 := (ev_form av 5).symm.trans h5
              refine ⟨rfl, ?_⟩
              simp [go_sem, f5, y0, y1, y2, y3]
            case s7 =>
              refine step_val (v := (.int .i64 (8 * (i : Int)))) (fun av wv hE hS hO hD => ?_) (fun _ => rfl)
              have d56 : av.eval (.tmp 56) = (.int .i64 i) := hD.1 rfl _ rfl
              have f56 := (ev_form av 56).symm.trans d56
              refine ⟨rfl, ?_⟩
              simp [go_sem, f56, y0, y1, y2, y3]
            case s8 =>
              refine step_val (v := (.int .u64 (n / 2 ^ (8 * i)))) (fun av wv hE hS hO hD => ?_) (fun _ => rfl)
              have d55 : av.eval (.tmp 55) = (.int .u64 n) := hD.1 rfl _ rfl
              have f55 := (ev_form av 55).symm.trans d55
              have d57 : av.eval (.tmp 57) = (.int .i64 (8 * (i : Int))) := hD.2.1 rfl _ rfl
              have f57 := (ev_form av 57).symm.trans d57
              refine ⟨rfl, ?_⟩
              simp [go_sem, f55, f57, y0, y1, y2, y3]
            case s9 =>
              refine step_val (v := (.int .u8 x)) (fun av wv hE hS hO hD => ?_) (fun _ => rfl)
              have d58 : av.eval (.tmp 58) = (.int .u64 (n / 2 ^ (8 * i))) := hD.1 rfl _ rfl
              have f58 := (ev_form av 58).symm.trans d58
              refine ⟨rfl, ?_⟩
              simp [go_sem, f58, y0, y1, y2, y3]
            case s10 =>
              refine step_wp (fun av wv hE hS hO hD => ?_)
              have d59 : av.eval (.tmp 59) = (.int .u8 x) := hD.1 rfl _ rfl
              have f59 := (ev_form av 59).symm.trans d59
              refine ⟨rfl, ?_⟩
              refine wp_of_run (v := .slice (some ⟨wv.heap.size, 0, none⟩) 1 1) (w' := wv.alloc (.cells ([.int .u8 x]).toArray 5)) (by first | (simp [go_sem, f59, y0, y1, y2, y3]; done) | (simp [go_sem, f59, y0, y1, y2, y3]; rfl)) ⟨_, rfl, es_of_ext (balloc (Ext_refl _) _), wv.heap.size, rfl, ?_, heap_alloc_new _ _⟩
              exact fun e => absurd (HQ.out _ e.symm).2 (by have := hE.size; simp at this; omega)
            case s11 =>
              refine step_wp (fun av wv hE hS hO hD => ?_)
              have d54 : av.eval (.tmp 54) = (v) := hD.1 rfl _ rfl
              have f54 := (ev_form av 54).symm.trans d54
              have d60 : (fun u w' => ∃ b, u = .slice (some ⟨b, 0, none⟩) 1 1 ∧ some b ≠ v.ownBlock ∧ w'.heap[b]? = some (.cells ([.int .u8 x]).toArray 5 (0, 0))) (av.eval (.tmp 60)) wv := hD.2.1 rfl _ rfl
              refine ⟨rfl, ?_⟩
              obtain ⟨bS, hS1, hbS, hcS⟩ := d60
              have hown1 : wv.ownsRow (base) 5 1 (v) (t.size) (Lib.strCells t) := own_below (w := World.drew _) (HOWN.out) (hS rfl)
              refine wp_append_lies wv _ _ _ rfl (base) 5 i0 (.int .u8 0) 1 1 Tryz.underlying106 hi hz0 hz1 hz2 rfl (by decide) (v) (t.size) _ d54 hown1 ⟨bS, 0, none⟩ 1 1 ([.int .u8 x]) (by exact hS1) rfl (World.news_of_block hcS) (one_u8 _) (by decide) (by unfold maxLen; omega) (by omega) (by have := hE.size; simp at this; omega) _ rfl ?_
              intro g cap1 w2 hown2 hgrow hat hlt2
              exact ⟨_, rfl, es_sp hgrow, hown2⟩
            case s12 =>
              refine step_val (v := (.pointer (some ⟨b, 0, none⟩))) (fun av wv hE hS hO hD => ?_) (fun _ => rfl)
              have d50 : av.eval (.tmp 50) = (.pointer (some ⟨b, 0, none⟩)) := hD.1 rfl _ rfl
              have f50 := (ev_form av 50).symm.trans d50
              refine ⟨rfl, ?_⟩
              simp [go_sem, f50, y0, y1, y2, y3]
            case s13 =>
              refine step_val (v := (.pointer (some ⟨b, 0, none⟩))) (fun av wv hE hS hO hD => ?_) (fun _ => rfl)
              have d62 : av.eval (.tmp 62) = (.pointer (some ⟨b, 0, none⟩)) := hD.1 rfl _ rfl
              have f62 := (ev_form av 62).symm.trans d62
              refine ⟨rfl, ?_⟩
              simp [go_sem, f62, y0, y1, y2, y3]
            intro a' w' hE hO hall
            have hA := act_of_outer (ds := [50, 51, 52, 53, 54, 55, 56, 57, 58, 59, 60, 61, 62, 63]) rfl hO (by kernel_rfl)
            have e50 : (fun u _ => u = (.pointer (some ⟨b, 0, none⟩))) (a'.eval (.tmp 50)) w' := hall.1 _ rfl
            have e51 : (fun u _ => u = (.pointer (some ⟨b, 0, none⟩))) (a'.eval (.tmp 51)) w' := hall.2.1 _ rfl
            have e52 : (fun u _ => u = (.pointer (some ⟨b, 0, none⟩))) (a'.eval (.tmp 52)) w' := hall.2.2.1 _ rfl
            have e53 : (fun u _ => u = (.pointer (some ⟨b, 0, none⟩))) (a'.eval (.tmp 53)) w' := hall.2.2.2.1 _ rfl
            have e54 : (fun u _ => u = (v)) (a'.eval (.tmp 54)) w' := hall.2.2.2.2.1 _ rfl
            have e55 : (fun u _ => u = (.int .u64 n)) (a'.eval (.tmp 55)) w' := hall.2.2.2.2.2.1 _ rfl
            have e56 : (fun u _ => u = (.int .i64 i)) (a'.eval (.tmp 56)) w' := hall.2.2.2.2.2.2.1 _ rfl
            have e57 : (fun u _ => u = (.int .i64 (8 * (i : Int)))) (a'.eval (.tmp 57)) w' := hall.2.2.2.2.2.2.2.1 _ rfl
            have e58 : (fun u _ => u = (.int .u64 (n / 2 ^ (8 * i)))) (a'.eval (.tmp 58)) w' := hall.2.2.2.2.2.2.2.2.1 _ rfl
            have e59 : (fun u _ => u = (.int .u8 x)) (a'.eval (.tmp 59)) w' := hall.2.2.2.2.2.2.2.2.2.1 _ rfl
            have e60 : (fun u w' => ∃ b, u = .slice (some ⟨b, 0, none⟩) 1 1 ∧ some b ≠ v.ownBlock ∧ w'.heap[b]? = some (.cells ([.int .u8 x]).toArray 5 (0, 0))) (a'.eval (.tmp 60)) w' := hall.2.2.2.2.2.2.2.2.2.2.1 _ rfl
            have e61 : (fun u w' => w'.ownsRow (base) 5 1 u (t.size + 1) (Lib.strCells t ++ [.int .u8 x])) (a'.eval (.tmp 61)) w' := hall.2.2.2.2.2.2.2.2.2.2.2.1 _ rfl
            have e62 : (fun u _ => u = (.pointer (some ⟨b, 0, none⟩))) (a'.eval (.tmp 62)) w' := hall.2.2.2.2.2.2.2.2.2.2.2.2.1 _ rfl
            have e63 : (fun u _ => u = (.pointer (some ⟨b, 0, none⟩))) (a'.eval (.tmp 63)) w' := hall.2.2.2.2.2.2.2.2.2.2.2.2.2.1 _ rfl
            obtain ⟨v60, hv60⟩ : ∃ v, a'.eval (.tmp 60) = v := ⟨_, rfl⟩
            rw [hv60] at e60
            obtain ⟨v61, hv61⟩ : ∃ v, a'.eval (.tmp 61) = v := ⟨_, rfl⟩
            rw [hv61] at e61
            simp only [List.foldl_cons, List.foldl_nil, Act.put, List.setIfInBounds_toArray, List.set_cons_succ, List.set_cons_zero, e50, e51, e52, e53, e54, e55, e56, e57, e58, e59, hv60, hv61, e62, e63] at hA
            clear hO hall e50 e51 e52 e53 e54 e55 e56 e57 e58 e59 hv60 hv61 e62 e63
            subst hA
            obtain ⟨ga, gc, rfl⟩ := own_slice e61
            have hst := wr_step (s' := t ++ baL [toB x]) hbase VV2.out HOWN.out hE (by rw [baL_one]; exact e61) (by rw [strCells_app, strCells_one hx0.1 hx0.2])
            have HST := Lib.hid hst
            have hc4 := hst.1
            have hf4 := hst.2.1
            clear hst hE e61 c1 c2 c4 n1 n2 n4
            go_wp2
            go_roundg i
            case rel => exact ⟨by omega, by go_num, by rw [HT.out]; exact HST.out.2.2.1, HWK.out.trans HST.out.2.2.2⟩
            case measure => omega
  · have HX : Hid (decide (n < r.below ∨ r.below = 0) = false) := Lib.hid (decide_eq_false hx)
    have g1 : decide (r.below ≤ n) = true := by simp; omega
    have g2 : decide (0 < r.below) = true := by have := HR.out.b0; simp; omega
    have HNX := Lib.hid hx
    clear hx
    go_enter Tryz.func255, Tryz.ntmps255
    go_wp2
    go_ret
    exact ⟨ret_bool HX.out.symm, by rw [if_neg HNX.out]; exact HWR.out.below (by (repeat (first | exact Below.refl _ _ | assumption | (refine bdrew ?_) | (refine bdrewN ?_ _) | (refine balloc ?_ _) | (refine bset ?_ (by first | omega | (simp; done) | (simp; omega)) _) | (refine bnext ?_ (by assumption))))), WK.of_below (by (repeat (first | exact Below.refl _ _ | assumption | (refine bdrew ?_) | (refine bdrewN ?_ _) | (refine balloc ?_ _) | (refine bset ?_ (by first | omega | (simp; done) | (simp; omega)) _) | (refine bnext ?_ (by assumption))))) (by have := HWR.out.1; have := HWR.out.lt; omega)⟩
end Go.Proofs.YtihiaopilnjonaaGreatDoor
namespace Go.Proofs.YtihiaopilnjonaaGreatDoor
open Go.RowKit
set_option linter.unusedSimpArgs false
set_option linter.unusedVariables false
structure PTab (B : Nat) (w : World) : Prop where
  glob : 4 < B
  size : B ≤ w.heap.size
  tab : ∀ k, k < 5 → ∃ tb tq rc, tb < B ∧ w.cell? ⟨4, k, none⟩ = some (.slice (some ⟨tb, tq, none⟩) (len (rowsP k)) rc) ∧ PRows w (some ⟨tb, tq, none⟩) (rowsP k)
theorem PTab.keep {B B' : Nat} {w w' : World} (h : PTab B w) (hb : Below B' w w') (hB : B ≤ B') : PTab B w' := by
  refine ⟨h.glob, Nat.le_trans h.size hb.size, fun k hk => ?_⟩
  obtain ⟨tb, tq, rc, h1, h2, h3⟩ := h.tab k hk
  have e : ∀ b o, b < B → w'.cell? ⟨b, o, none⟩ = w.cell? ⟨b, o, none⟩ := fun b o hb2 => hb.cell (p := ⟨b, o, none⟩) (Nat.lt_of_lt_of_le hb2 hB)
  refine ⟨tb, tq, rc, h1, (e _ _ h.glob).trans h2, fun i hi => ?_⟩
  obtain ⟨b, off, e2, c0, c1, c2⟩ := h3 i hi
  cases e2
  exact ⟨tb, tq, rfl, (e _ _ h1).trans c0, (e _ _ h1).trans c1, (e _ _ h1).trans c2⟩
theorem rowsP_pos (k : Nat) : 0 < len (rowsP k) := by
  unfold rowsP; split <;> simp [len]
theorem rowsP_ok {sort : Nat} {n : Int} (h0 : 0 ≤ n) (i : Nat) (hi : i < len (rowsP sort)) : (prth (rowsP sort) i).Ok n := by
  have hi' : i < (rowsP sort).length := hi
  rw [prth_eq _ i hi']
  have hm : (rowsP sort)[i] ∈ rowsP sort := List.getElem_mem _
  generalize (rowsP sort)[i] = r at hm
  unfold rowsP at hm
  split at hm <;> simp at hm
  · rcases hm with rfl | rfl <;> exact ⟨by decide, by decide, by decide, by decide, by decide, by decide, fun h => by simp at h⟩
  · rcases hm with rfl | rfl | rfl
    · exact ⟨by decide, by decide, by decide, by decide, by decide, by decide, fun _ h => by simp at h; simp; omega⟩
    · exact ⟨by decide, by decide, by decide, by decide, by decide, by decide, fun h => by simp at h⟩
    · exact ⟨by decide, by decide, by decide, by decide, by decide, by decide, fun h => by simp at h⟩
  · rcases hm with rfl | rfl
    · exact ⟨by decide, by decide, by decide, by decide, by decide, by decide, fun _ h => by simp at h; simp; omega⟩
    · exact ⟨by decide, by decide, by decide, by decide, by decide, by decide, fun h => by simp at h⟩
  · rcases hm with rfl | rfl
    · exact ⟨by decide, by decide, by decide, by decide, by decide, by decide, fun _ h => by simp at h; simp; omega⟩
    · exact ⟨by decide, by decide, by decide, by decide, by decide, by decide, fun h => by simp at h⟩
  · rcases hm with rfl | rfl | rfl | rfl | rfl
    · exact ⟨by decide, by decide, by decide, by decide, by decide, by decide, fun _ h => by simp at h; simp; omega⟩
    all_goals exact ⟨by decide, by decide, by decide, by decide, by decide, by decide, fun h => by simp at h⟩
theorem headP_at {sort i : Nat} {n : Int} (hi : i < len (rowsP sort)) (hn : ∀ j, j < i → ¬ (n < (prth (rowsP sort) j).below ∨ (prth (rowsP sort) j).below = 0)) (hy : n < (prth (rowsP sort) i).below ∨ (prth (rowsP sort) i).below = 0) : headP sort n = rowB (prth (rowsP sort) i) n := by
  have hi' : i < (rowsP sort).length := hi
  have hf : (rowsP sort).find? (fun r => decide (n < r.below ∨ r.below = 0)) = some (prth (rowsP sort) i) := by
    rw [prth_eq _ i hi'] at hy ⊢
    rw [List.find?_eq_some_iff_getElem]
    refine ⟨by simpa using hy, i, hi', rfl, fun j hj => ?_⟩
    have := hn j hj
    rw [prth_eq _ j (by omega)] at this
    simpa using this
  unfold headP
  rw [hf]
theorem headP_end {sort : Nat} {n : Int} (hn : ∀ j, j < len (rowsP sort) → ¬ (n < (prth (rowsP sort) j).below ∨ (prth (rowsP sort) j).below = 0)) : headP sort n = [] := by
  have hf : (rowsP sort).find? (fun r => decide (n < r.below ∨ r.below = 0)) = none := by
    rw [List.find?_eq_none]
    intro x hx
    obtain ⟨j, hj, rfl⟩ := List.getElem_of_mem hx
    have := hn j hj
    rw [prth_eq _ j hj] at this
    simpa using this
  unfold headP
  rw [hf]
theorem prows_keep {w w' : World} {tb tq B B' : Nat} {l : List PRow} (h : PRows w (some ⟨tb, tq, none⟩) l) (htb : tb < B) (hb : Below B' w w') (hB : B ≤ B') : PRows w' (some ⟨tb, tq, none⟩) l := fun i hi => by
  have e : ∀ o, w'.cell? ⟨tb, o, none⟩ = w.cell? ⟨tb, o, none⟩ := fun o => hb.cell (p := ⟨tb, o, none⟩) (Nat.lt_of_lt_of_le htb hB)
  obtain ⟨b, off, e2, c0, c1, c2⟩ := h i hi
  cases e2
  exact ⟨tb, tq, rfl, (e _).trans c0, (e _).trans c1, (e _).trans c2⟩
def HeadOut (s' : ByteArray) (b base : Nat) (w : World) (e : Ending) (w' : World) : Prop := e = .returned (.tuple #[]) ∧ WrB w' b base s' ∧ WK base b w w'
set_option maxRecDepth 100000 in
set_option maxHeartbeats 4000000 in
theorem phead_any (B b base sort : Nat) (n : Int) (s : ByteArray) (w : World) (ht : PTab B w) (hB : B ≤ base) (hW : WrB w b base s) (h5 : sort < 5) (h0 : 0 ≤ n) (h1 : n ≤ 18446744073709551615) (hs : s.size ≤ 70000000000000) :
    Calls Tryz.prog 222 #[.pointer (some ⟨b, 0, none⟩), .int .i64 sort, .int .u64 n] w (HeadOut (s ++ baL (headP sort n)) b base w) := by
  have HT := Lib.hid ht
  have HWR := Lib.hid hW
  obtain ⟨tb, tq, rc, htb, hg, hrows⟩ := ht.tab sort h5
  have HROWS := Lib.hid hrows
  have HBS : Hid (base ≤ w.heap.size) := Lib.hid (by have := hW.1; have := hW.lt; omega)
  have hgl : 4 < w.heap.size := lt_of_cell hg
  have i5 : (sort : Int) < 5 := by omega
  have eg := enters_of Tryz.func255 (by kernel_rfl) rfl
  clear hrows ht hW
  obtain ⟨nr, hnr⟩ : ∃ nr, len (rowsP sort) = nr := ⟨_, rfl⟩
  have HNR := Lib.hid hnr
  have nr5 : nr ≤ 5 := by rw [← hnr]; unfold rowsP; split <;> simp [len]
  rw [hnr] at hg
  clear hnr
  go_enter Tryz.func222, Tryz.ntmps222
  go_wp2
  obtain ⟨bw, hbw⟩ : ∃ bw, w.heap.size = bw := ⟨_, rfl⟩
  obtain ⟨V, hV⟩ : ∃ V, (w.alloc (.cells #[.pointer (some ⟨b, 0, none⟩)] 166)).alloc (.cells #[.int .u64 n] 23) = V := ⟨_, rfl⟩
  have VW : Hid (V.heap[bw]? = some (.cells #[.pointer (some ⟨b, 0, none⟩)] 166 (0, 0))) := Lib.hid (by rw [← hV, ← hbw]; exact block_alloc (heap_alloc_new _ _) _)
  have VN : Hid (V.heap[bw + 1]? = some (.cells #[.int .u64 n] 23 (0, 0))) := Lib.hid (by rw [← hV, ← hbw]; exact alloc_new_at _ (by simp))
  have VB : Hid (Below w.heap.size w V) := Lib.hid (by rw [← hV]; (repeat (first | exact Below.refl _ _ | assumption | (refine bdrew ?_) | (refine bdrewN ?_ _) | (refine balloc ?_ _) | (refine bset ?_ (by first | omega | (simp; done) | (simp; omega)) _) | (refine bnext ?_ (by assumption)))))
  have HWV : Hid (WrB V b base s) := Lib.hid (HWR.out.below VB.out)
  have hbb : Hid (b < bw) := Lib.hid (by rw [← hbw]; exact HWR.out.lt)
  have HBV : Hid (base ≤ V.heap.size) := Lib.hid (by have := VB.out.size; have := HBS.out; omega)
  rw [hbw]
  try rw [hV]
  clear hV hbw hgl
  go_loopg [14] nr (fun g i wr => ∃ m : Nat, g + m = nr ∧ i = .int .i64 m ∧ Hid (∀ j, j < m → ¬ (n < (prth (rowsP sort) j).below ∨ (prth (rowsP sort) j).below = 0)) ∧ Hid (WrB wr b base s) ∧ Hid (WK base b V wr))
  case atStart => exact ⟨0, rfl, rfl, fun j hj => by omega, HWV.out, WK.refl _ _ _⟩
  case round =>
    clear HWV
    obtain ⟨m, hm, rfl, HN, HWW, HWK⟩ := hrel
    by_cases hlt : m < nr
    · have i1 : (m : Int) < nr := by omega
      obtain ⟨rb, ro, hre, c0, c1, c2⟩ := prows_keep (prows_keep HROWS.out htb VB.out (Nat.le_trans hB HBS.out)) htb HWK.out.bel hB m (by rw [HNR.out]; exact hlt)
      cases hre
      obtain ⟨r, hr⟩ : ∃ r, prth (rowsP sort) m = r := ⟨_, rfl⟩
      have HRE := Lib.hid hr
      rw [hr] at c0 c1 c2
      clear hr
      have n8n : Not8 (.cells #[.int .u64 n] 23 (0, 0)) := not8_cells (by decide)
      have n8b : Not8 (.cells #[.pointer (some ⟨b, 0, none⟩)] 166 (0, 0)) := not8_cells (by decide)
      go_wp2_with fail
      refine (head1_any r (bw + 1) bw b base n s _ (block_alloc (HWK.out.keep _ _ VN.out (by have := hbb.out; omega) n8n) _) (block_alloc (HWK.out.keep _ _ VW.out (by have := hbb.out; omega) n8b) _) (HWW.out.below (balloc (Below.refl _ _) _)) h0 h1 (by rw [← HRE.out]; exact rowsP_ok h0 m (by rw [HNR.out]; exact hlt)) hs).mono ?_
      rintro e w6 ⟨rfl, hw6, hk6⟩
      have HK6 : Hid (WK base b V w6) := Lib.hid ((HWK.out.next (balloc (Below.refl _ _) _) HBV.out).trans hk6)
      have HW6 := Lib.hid hw6
      clear hw6 hk6 HWK HWW c0 c1 c2 n8n n8b
      by_cases hx : n < r.below ∨ r.below = 0
      · rw [decide_eq_true hx]
        rw [if_pos hx] at HW6
        have HP : Hid (headP sort n = rowB r n) := Lib.hid (by rw [← HRE.out]; exact headP_at (by rw [HNR.out]; exact hlt) HN.out (by rw [HRE.out]; exact hx))
        clear hx
        go_wp2
        refine bodyPost_ret (results_none rfl _ _ _) rfl ?_
        refine ⟨rfl, ?_, (WK.of_below VB.out HBS.out).trans HK6.out⟩
        rw [HP.out]; exact HW6.out
      · rw [decide_eq_false hx]
        rw [if_neg hx] at HW6
        have HN2 : Hid (∀ j, j < m + 1 → ¬ (n < (prth (rowsP sort) j).below ∨ (prth (rowsP sort) j).below = 0)) := Lib.hid (fun j hj => by
          by_cases e : j = m
          · subst e; rw [HRE.out]; exact hx
          · exact HN.out j (by omega))
        clear hx
        go_wp2
        go_roundg (nr - (m + 1))
        case rel => exact ⟨m + 1, by omega, by go_num, HN2.out, HW6.out, HK6.out⟩
        case measure => omega
    · obtain rfl : m = nr := by omega
      have i1 : ¬ (m : Int) < m := by omega
      go_wp2
      go_end0
      refine ⟨rfl, ?_, (WK.of_below VB.out HBS.out).trans HWK.out⟩
      rw [headP_end (fun j hj => HN.out j (by rw [HNR.out] at hj; exact hj))]
      have e : s ++ baL [] = s := ba_ext (by simp [baL])
      rw [e]; exact HWW.out
end Go.Proofs.YtihiaopilnjonaaGreatDoor
namespace Go.Proofs.YtihiaopilnjonaaGreatDoor
open Go.RowKit
set_option linter.unusedSimpArgs false
set_option linter.unusedVariables false
def catB : List ByteArray → ByteArray
  | [] => ByteArray.empty
  | x :: r => x ++ catB r
theorem catB_app : ∀ a b : List ByteArray, catB (a ++ b) = catB a ++ catB b
  | [], b => by simp [catB]
  | x :: r, b => by rw [List.cons_append, catB, catB_app r b, catB, ByteArray.append_assoc]
theorem catB_snoc (a : List ByteArray) (x : ByteArray) : catB (a ++ [x]) = catB a ++ x := by rw [catB_app]; simp [catB]
structure FSpec where
  key : ByteArray
  must : Bool
  empty : Bool
  may : Bool
  bytes : ByteArray
def strP (s : ByteArray) : ByteArray := laidP 2 s.size s
def binP (s : ByteArray) : ByteArray := laidP 1 s.size s
def numP (n : Int) : ByteArray := laidP 0 n ByteArray.empty
def listP (n : Nat) : ByteArray := laidP 3 n ByteArray.empty
def mapP (n : Nat) : ByteArray := laidP 4 n ByteArray.empty
def fieldP (f : FSpec) : ByteArray := strP f.key ++ f.bytes
def keptF (l : List FSpec) : List FSpec := l.filter fun f => !f.empty
def layP (l : List FSpec) : ByteArray := mapP (keptF l).length ++ catB ((keptF l).map fieldP)
def allMay (l : List FSpec) : Bool := l.all fun f => f.may
def rkept (l : List (ByteArray × ByteArray)) : List (ByteArray × ByteArray) := l.filter fun p => decide (p.2.size ≠ 0)
def rlayP (l : List (ByteArray × ByteArray)) : ByteArray := mapP (rkept l).length ++ catB ((rkept l).map fun p => strP p.1 ++ p.2)
theorem lay_same : ∀ (l : List FSpec) (r : List (ByteArray × ByteArray)), l.length = r.length → (∀ i (h : i < l.length) (h' : i < r.length), l[i].key = r[i].1 ∧ (l[i].empty = true ↔ r[i].2.size = 0) ∧ (l[i].empty = false → l[i].bytes = r[i].2)) →
    (keptF l).length = (rkept r).length ∧ catB ((keptF l).map fieldP) = catB ((rkept r).map fun p => strP p.1 ++ p.2)
  | [], [], _, _ => ⟨rfl, rfl⟩
  | [], _ :: _, h, _ => by simp at h
  | _ :: _, [], h, _ => by simp at h
  | f :: l, p :: r, h, hh => by
    have ih := lay_same l r (by simpa using h) (fun i h1 h2 => hh (i + 1) (by simpa using h1) (by simpa using h2))
    have h0 := hh 0 (by simp) (by simp)
    simp only [List.getElem_cons_zero] at h0
    obtain ⟨e1, e2, e3⟩ := h0
    unfold keptF rkept at ih ⊢
    cases he : f.empty with
    | true =>
      have h2 := e2.1 he
      rw [List.filter_cons_of_neg (by simp [he]), List.filter_cons_of_neg (by simp [h2])]
      exact ih
    | false =>
      have h2 : p.2.size ≠ 0 := fun h => by rw [e2.2 h] at he; cases he
      rw [List.filter_cons_of_pos (by simp [he]), List.filter_cons_of_pos (by simp [h2])]
      refine ⟨by simp [ih.1], ?_⟩
      rw [List.map_cons, List.map_cons, catB, catB, ih.2]
      unfold fieldP
      rw [e1, e3 he]
theorem layP_eq {l : List FSpec} {r : List (ByteArray × ByteArray)} (h : l.length = r.length) (hh : ∀ i (h : i < l.length) (h' : i < r.length), l[i].key = r[i].1 ∧ (l[i].empty = true ↔ r[i].2.size = 0) ∧ (l[i].empty = false → l[i].bytes = r[i].2)) : layP l = rlayP r := by
  obtain ⟨h1, h2⟩ := lay_same l r h hh
  unfold layP rlayP
  rw [h1, h2]
end Go.Proofs.YtihiaopilnjonaaGreatDoor
namespace Go.Proofs.YtihiaopilnjonaaGreatDoor
open Go.RowKit
set_option linter.unusedSimpArgs false
set_option linter.unusedVariables false
def LaidOut (s' : ByteArray) (b base : Nat) (w : World) (e : Ending) (w' : World) : Prop := e = .returned (.int .i64 0) ∧ WrB w' b base s' ∧ WK base b w w'
theorem many_any (B b base sort n : Nat) (s : ByteArray) (w : World) (ht : PTab B w) (hB : B ≤ base) (hW : WrB w b base s) (h5 : sort < 5) (hn : n < 65536) (hs : s.size ≤ 70000000000000) :
    Calls Tryz.prog 239 #[.pointer (some ⟨b, 0, none⟩), .int .i64 sort, .int .i64 n] w (LaidOut (s ++ baL (headP sort n)) b base w) := by
  have H := Lib.hid (phead_any B b base sort n s w ht hB hW h5 (by omega) (by omega) hs)
  have i1 : decide ((65536 : Int) ≤ (n : Int)) = false := decide_eq_false (by omega)
  have i2 : IntKind.u64.wrap (n : Int) = n := IntWalk.u64_in _ (by omega)
  clear ht hW
  go_enter Tryz.func239, Tryz.ntmps239
  go_wp2_with fail
  refine H.out.mono ?_
  rintro e w' ⟨rfl, h1, h2⟩
  have H1 := Lib.hid h1
  have H2 := Lib.hid h2
  clear h1 h2
  go_wp2
  go_ret
  exact ⟨rfl, H1.out, H2.out⟩
set_option maxRecDepth 100000 in
theorem whole_any (B b base sort : Nat) (t s : ByteArray) (w : World) (ht : PTab B w) (hB : B ≤ base) (hW : WrB w b base s) (h5 : sort < 5) (hn : t.size < 65536) (hs : s.size ≤ 70000000000000) :
    Calls Tryz.prog 240 #[.pointer (some ⟨b, 0, none⟩), .int .i64 sort, .string t] w (LaidOut (s ++ (baL (headP sort t.size) ++ t)) b base w) := by
  have H := Lib.hid (many_any B b base sort t.size s w ht hB hW h5 hn hs)
  have HBS : Hid (base ≤ w.heap.size) := Lib.hid (by have := hW.1; have := hW.lt; omega)
  obtain ⟨i0, hi, hz0, hz1, hz2⟩ := info_parts info_u8
  clear ht hW
  go_enter Tryz.func240, Tryz.ntmps240
  go_wp2_with fail
  refine H.out.mono ?_
  rintro e w1 ⟨rfl, h1, h2⟩
  obtain ⟨s1, hs1⟩ : ∃ s1, s ++ baL (headP sort t.size) = s1 := ⟨_, rfl⟩
  have hl2 : s1.size ≤ 70000000000009 := by have hl := headP_len sort t.size; rw [← hs1, ByteArray.size_append, baL_size]; omega
  have HS1 : Hid (s ++ (baL (headP sort t.size) ++ t) = s1 ++ t) := Lib.hid (by rw [← hs1, ByteArray.append_assoc])
  rw [hs1] at h1
  clear hs1
  obtain ⟨hb, v, hv, hown⟩ := h1
  have HV := Lib.hid hv
  have HOWN := Lib.hid hown
  have H2 := Lib.hid h2
  have cb := block_cell hv 0
  simp only [List.getElem?_toArray, List.getElem?_cons_zero] at cb
  clear hv hown h2
  go_wp2_with (at_builtin; refine Lib.wpList_append_own_string _ rfl _ _ 106 9 rfl base 5 i0 Tryz.underlying106 Tryz.underlying9 hi hz0 hz1 hz2 _ _ _ rfl HOWN.out t rfl (by unfold maxLen; omega) (by omega) (by have := HBS.out; have := H2.out.bel.size; omega) ?_)
  intro v' w2 hown' hgrow _
  have hst := wr_step (s' := s1 ++ t) hb HV.out HOWN.out (w1 := w2) ⟨hgrow.os, hgrow.tape, hgrow.output, hgrow.size, hgrow.block⟩ (v' := v') (ys := Lib.strCells s1 ++ Lib.strCells t) (by rw [ByteArray.size_append]; exact hown') (by rw [← strCells_app])
  have HST := Lib.hid hst
  have hc4 := hst.1
  have hf4 := hst.2.1
  have hsl : ∃ g cap, v' = .slice (some ⟨g, 0, none⟩) (s1.size + t.size) cap ∨ v' = .slice none 0 0 := by
    rcases hown'.2 with ⟨h, _⟩ | ⟨g, cap, cur, h, _⟩
    · exact ⟨0, 0, .inr h⟩
    · exact ⟨g, cap, .inl h⟩
  clear hst hown' hgrow
  obtain ⟨ga, gc, rfl | rfl⟩ := hsl
  · go_wp2
    go_ret
    exact ⟨rfl, by rw [HS1.out]; exact HST.out.2.2.1, H2.out.trans HST.out.2.2.2⟩
  · go_wp2
    go_ret
    exact ⟨rfl, by rw [HS1.out]; exact HST.out.2.2.1, H2.out.trans HST.out.2.2.2⟩
theorem Num_w (B b base : Nat) (n : Int) (s : ByteArray) (w : World) (ht : PTab B w) (hB : B ≤ base) (hW : WrB w b base s) (h0 : 0 ≤ n) (h1 : n ≤ 18446744073709551615) (hs : s.size ≤ 70000000000000) :
    Calls Tryz.prog 149 #[.pointer (some ⟨b, 0, none⟩), .int .u64 n] w (LaidOut (s ++ numP n) b base w) := by
  have H := Lib.hid (phead_any B b base 0 n s w ht hB hW (by decide) h0 h1 hs)
  clear ht hW
  go_enter Tryz.func149, Tryz.ntmps149
  go_wp2_with fail
  refine H.out.mono ?_
  rintro e w' ⟨rfl, h1, h2⟩
  have H1 := Lib.hid h1
  have H2 := Lib.hid h2
  clear h1 h2
  go_wp2
  go_ret
  have e : numP n = baL (headP 0 n) := by unfold numP laidP; exact ba_ext (by simp)
  exact ⟨rfl, by rw [e]; exact H1.out, H2.out⟩
theorem Str_w (B b base : Nat) (t s : ByteArray) (w : World) (ht : PTab B w) (hB : B ≤ base) (hW : WrB w b base s) (hn : t.size < 65536) (hs : s.size ≤ 70000000000000) :
    Calls Tryz.prog 176 #[.pointer (some ⟨b, 0, none⟩), .string t] w (LaidOut (s ++ strP t) b base w) := by
  have H := Lib.hid (whole_any B b base 2 t s w ht hB hW (by decide) hn hs)
  clear ht hW
  go_enter Tryz.func176, Tryz.ntmps176
  go_wp2_with fail
  refine H.out.mono ?_
  rintro e w' ⟨rfl, h1, h2⟩
  have H1 := Lib.hid h1
  have H2 := Lib.hid h2
  clear h1 h2
  go_wp2
  go_ret
  exact ⟨rfl, H1.out, H2.out⟩
theorem Bin_w (B b base : Nat) (t s : ByteArray) (w : World) (ht : PTab B w) (hB : B ≤ base) (hW : WrB w b base s) (hn : t.size < 65536) (hs : s.size ≤ 70000000000000) :
    Calls Tryz.prog 193 #[.pointer (some ⟨b, 0, none⟩), .string t] w (LaidOut (s ++ binP t) b base w) := by
  have H := Lib.hid (whole_any B b base 1 t s w ht hB hW (by decide) hn hs)
  clear ht hW
  go_enter Tryz.func193, Tryz.ntmps193
  go_wp2_with fail
  refine H.out.mono ?_
  rintro e w' ⟨rfl, h1, h2⟩
  have H1 := Lib.hid h1
  have H2 := Lib.hid h2
  clear h1 h2
  go_wp2
  go_ret
  exact ⟨rfl, H1.out, H2.out⟩
theorem List_w (B b base n : Nat) (s : ByteArray) (w : World) (ht : PTab B w) (hB : B ≤ base) (hW : WrB w b base s) (hn : n < 65536) (hs : s.size ≤ 70000000000000) :
    Calls Tryz.prog 219 #[.pointer (some ⟨b, 0, none⟩), .int .i64 n] w (LaidOut (s ++ listP n) b base w) := by
  have H := Lib.hid (many_any B b base 3 n s w ht hB hW (by decide) hn hs)
  clear ht hW
  go_enter Tryz.func219, Tryz.ntmps219
  go_wp2_with fail
  refine H.out.mono ?_
  rintro e w' ⟨rfl, h1, h2⟩
  have H1 := Lib.hid h1
  have H2 := Lib.hid h2
  clear h1 h2
  go_wp2
  go_ret
  have e : listP n = baL (headP 3 n) := by unfold listP laidP; exact ba_ext (by simp)
  exact ⟨rfl, by rw [e]; exact H1.out, H2.out⟩
theorem Map_w (B b base n : Nat) (s : ByteArray) (w : World) (ht : PTab B w) (hB : B ≤ base) (hW : WrB w b base s) (hn : n < 65536) (hs : s.size ≤ 70000000000000) :
    Calls Tryz.prog 175 #[.pointer (some ⟨b, 0, none⟩), .int .i64 n] w (LaidOut (s ++ mapP n) b base w) := by
  have H := Lib.hid (many_any B b base 4 n s w ht hB hW (by decide) hn hs)
  clear ht hW
  go_enter Tryz.func175, Tryz.ntmps175
  go_wp2_with fail
  refine H.out.mono ?_
  rintro e w' ⟨rfl, h1, h2⟩
  have H1 := Lib.hid h1
  have H2 := Lib.hid h2
  clear h1 h2
  go_wp2
  go_ret
  have e : mapP n = baL (headP 4 n) := by unfold mapP laidP; exact ba_ext (by simp)
  exact ⟨rfl, by rw [e]; exact H1.out, H2.out⟩
theorem strNums (s : ByteArray) : strOfNums (s.data.toList.map fun b => (b.toNat : Int)) = s := by
  refine ba_ext ?_
  rw [strOfNums_data, List.map_map]
  conv => rhs; rw [← List.map_id s.data.toList]
  refine List.map_congr_left fun x _ => ?_
  simp
set_option maxRecDepth 100000 in
theorem ptext_any (b base : Nat) (s : ByteArray) (w : World) (hW : WrB w b base s) : Calls Tryz.prog 106 #[.pointer (some ⟨b, 0, none⟩)] w fun e w' => e = .returned (.string s) ∧ w = w' := by
  obtain ⟨hb, v, hv, hown⟩ := hW
  have cb := block_cell hv 0
  simp only [List.getElem?_toArray, List.getElem?_cons_zero] at cb
  have hc : ∀ t, Tryz.prog.underlying t = some .string → (convert 106 t v).run Tryz.prog w = .ok (.string s) w := by
    intro t ht
    rcases hown.2 with ⟨rfl, h0⟩ | ⟨g, cap, cur, rfl, _, _, _, _, _, _⟩
    · have e : s = ByteArray.empty := ba_ext (by
        have : s.data.toList.length = 0 := by rw [ba_len]; exact h0
        rw [List.eq_nil_of_length_eq_zero this]; rfl)
      rw [e]
      exact run_convert_bytes_nil w 106 5 Tryz.underlying106 Tryz.underlying5 0 0 t ht
    · have h := run_convert_bytes_arg (P := Tryz.prog) w 106 5 Tryz.underlying106 Tryz.underlying5 g 0 s.size cap (s.data.toList.map fun b => (b.toNat : Int)) (by rw [List.length_map, ba_len]) (fun i hi => by
        have h1 := hown.cellAt i (by omega)
        rw [Nat.zero_add, h1]
        have hi2 : i < s.data.toList.length := by rw [ba_len]; exact hi
        unfold Lib.strCells
        rw [List.getElem?_map, List.getElem?_eq_getElem hi2, List.getD_eq_getElem?_getD, List.getElem?_map, List.getElem?_eq_getElem hi2]; rfl) t ht
      rw [strNums] at h; exact h
  have hcv := hc 9 Tryz.underlying9
  clear hc hown hv
  go_enter Tryz.func106, Tryz.ntmps106
  go_wp2
  go_ret
  exact ⟨rfl, rfl⟩
theorem pnew_any (w : World) : Calls Tryz.prog 104 #[] w fun e w' => e = .returned (.pointer (some ⟨w.heap.size, 0, none⟩)) ∧ WrB w' w.heap.size w.heap.size ByteArray.empty ∧ Below w.heap.size w w' := by
  go_enter Tryz.func104, Tryz.ntmps104
  go_wp2
  go_ret
  exact ⟨rfl, ⟨Nat.le_refl _, .slice none 0 0, heap_alloc_new _ _, World.ownsRow_nil _ _ _ _⟩, by (repeat (first | exact Below.refl _ _ | assumption | (refine bdrew ?_) | (refine bdrewN ?_ _) | (refine balloc ?_ _) | (refine bset ?_ (by first | omega | (simp; done) | (simp; omega)) _) | (refine bnext ?_ (by assumption))))⟩
end Go.Proofs.YtihiaopilnjonaaGreatDoor
namespace Go.Proofs.YtihiaopilnjonaaGreatDoor
open Go.RowKit
set_option linter.unusedSimpArgs false
set_option linter.unusedVariables false
structure FVal where
  key : ByteArray
  must : Bool
  ef : Nat
  ec : Array Value
  mf : Nat
  mc : Array Value
  pf : Nat
  pc : Array Value
  gf : Nat
  gc : Array Value
abbrev FVal.val (r : FVal) : Value := .agg #[.string r.key, .bool r.must, .func (.func r.ef) #[] r.ec, .func (.func r.mf) #[] r.mc, .func (.func r.pf) #[] r.pc, .func (.func r.gf) #[] r.gc]
def FVal.cells (r : FVal) : List Value := [.string r.key, .bool r.must, .func (.func r.ef) #[] r.ec, .func (.func r.mf) #[] r.mc, .func (.func r.pf) #[] r.pc, .func (.func r.gf) #[] r.gc]
theorem FVal.cells_len (r : FVal) : r.cells.length = 6 := rfl
theorem FVal.cells_one (r : FVal) : ∀ u ∈ r.cells, u.oneCell' = true := by intro u hu; simp only [FVal.cells, List.mem_cons, List.not_mem_nil, or_false] at hu; rcases hu with rfl | rfl | rfl | rfl | rfl | rfl <;> rfl
def FVal.zero : FVal := ⟨ByteArray.empty, false, 0, #[], 0, #[], 0, #[], 0, #[]⟩
def fth (l : List FVal) (i : Nat) : FVal := l.getD i FVal.zero
theorem fth_eq (l : List FVal) (i : Nat) (h : i < l.length) : fth l i = l[i] := by unfold fth; rw [List.getD_eq_getElem?_getD, List.getElem?_eq_getElem h]; rfl
structure FValAt (w : World) (b o : Nat) (r : FVal) : Prop where
  c0 : w.cell? ⟨b, o, none⟩ = some (.string r.key)
  c1 : w.cell? ⟨b, o + 1, none⟩ = some (.bool r.must)
  c2 : w.cell? ⟨b, o + 2, none⟩ = some (.func (.func r.ef) #[] r.ec)
  c3 : w.cell? ⟨b, o + 3, none⟩ = some (.func (.func r.mf) #[] r.mc)
  c4 : w.cell? ⟨b, o + 4, none⟩ = some (.func (.func r.pf) #[] r.pc)
  c5 : w.cell? ⟨b, o + 5, none⟩ = some (.func (.func r.gf) #[] r.gc)
theorem FValAt.below {w w' : World} {b o : Nat} {r : FVal} (h : FValAt w b o r) (hb : Below w.heap.size w w') : FValAt w' b o r := by
  have hl := lt_of_cell h.c0
  have e : ∀ q, w'.cell? ⟨b, q, none⟩ = w.cell? ⟨b, q, none⟩ := fun q => hb.cell (p := ⟨b, q, none⟩) hl
  obtain ⟨c0, c1, c2, c3, c4, c5⟩ := h
  constructor <;> (rw [e]; assumption)
def Flds (w : World) (a : Option Addr) (l : List FVal) : Prop := ∀ i, i < len l → ∃ b off, a = some ⟨b, off, none⟩ ∧ FValAt w b (off + i * 6) (fth l i)
theorem Flds.nil (w : World) (a : Option Addr) : Flds w a [] := fun i hi => absurd hi (by simp [len])
theorem Flds.below {w w' : World} {a : Option Addr} {l : List FVal} (h : Flds w a l) (hb : Below w.heap.size w w') : Flds w' a l := fun i hi => by
  obtain ⟨b, off, rfl, hc⟩ := h i hi
  exact ⟨b, off, rfl, hc.below hb⟩
theorem Flds.drew {w w' : World} {a : Option Addr} {l : List FVal} (h : Flds w a l) (hb : Drew w w') : Flds w' a l := h.below (hb.below _)
theorem Flds.take {w : World} {a : Option Addr} {l : List FVal} (h : Flds w a l) (k : Nat) : Flds w a (l.take k) := fun i hi => by
  have hi2 : i < l.length ∧ i < k := by simp only [len, List.length_take] at hi; omega
  have hi3 : i < (l.take k).length := hi
  have e : fth (l.take k) i = fth l i := by rw [fth_eq l i hi2.1, fth_eq _ i hi3, List.getElem_take]
  rw [e]; exact h i hi2.1
theorem Flds.drop {w : World} {b off : Nat} {l : List FVal} (h : Flds w (some ⟨b, off, none⟩) l) (k : Nat) : Flds w (some ⟨b, off + k * 6, none⟩) (l.drop k) := fun i hi => by
  have hi2 : k + i < l.length := by simp only [len, List.length_drop] at hi; omega
  have hi3 : i < (l.drop k).length := hi
  have e : fth (l.drop k) i = fth l (k + i) := by rw [fth_eq l _ hi2, fth_eq _ i hi3, List.getElem_drop]
  obtain ⟨b', off', e2, hc⟩ := h (k + i) hi2
  cases e2
  exact ⟨b, _, rfl, by rw [e, show off + k * 6 + i * 6 = off + (k + i) * 6 by omega]; exact hc⟩
theorem Flds.own {w : World} {base e n : Nat} {v : Value} {l : List FVal} (h : w.ownsRow base e 6 v n (l.flatMap FVal.cells)) : ∃ a cap, v = .slice a (len l) cap ∧ Flds w a l ∧ len l ≤ cap := by
  have hn : len l = n := by have := h.1; rw [flat_length FVal.cells 6 FVal.cells_len] at this; rw [len_eq]; omega
  obtain ⟨h1, h2⟩ := h
  rcases h2 with ⟨rfl, h2⟩ | ⟨g, cap, cur, rfl, hg, hh, hc1, hc2, hc3, hc4⟩
  · obtain rfl : l = [] := List.eq_nil_of_length_eq_zero (by rw [← len_eq]; omega)
    exact ⟨none, 0, rfl, Flds.nil _ _, Nat.le_refl _⟩
  · refine ⟨some ⟨g, 0, none⟩, cap, by rw [hn], fun i hi => ⟨g, 0, rfl, ?_⟩, by omega⟩
    have hown : w.ownsRow base e 6 (.slice (some ⟨g, 0, none⟩) n cap) n (l.flatMap FVal.cells) := ⟨h1, .inr ⟨g, cap, cur, rfl, hg, hh, hc1, hc2, hc3, hc4⟩⟩
    have key : ∀ r, r < 6 → w.cell? ⟨g, 0 + i * 6 + r, none⟩ = (fth l i).cells[r]? := fun r hr => by
      have := hown.cellAt (i * 6 + r) (by rw [← hn]; omega)
      rw [Nat.zero_add, this, flat_get FVal.cells 6 FVal.cells_len l i r hi hr, fth_eq l i hi]
    exact ⟨key 0 (by decide), key 1 (by decide), key 2 (by decide), key 3 (by decide), key 4 (by decide), key 5 (by decide)⟩
theorem Flds.block {w : World} {g : Nat} {l : List FVal} {t : TypeId} {fr : Nat × Nat} (h : w.heap[g]? = some (.cells (l.flatMap FVal.cells).toArray t fr)) : Flds w (some ⟨g, 0, none⟩) l := fun i hi => ⟨g, 0, rfl, by
  have key : ∀ r, r < 6 → w.cell? ⟨g, 0 + i * 6 + r, none⟩ = (fth l i).cells[r]? := fun r hr => by
    rw [Nat.zero_add, block_cell h, List.getElem?_toArray, flat_get FVal.cells 6 FVal.cells_len l i r hi hr, fth_eq l i hi]
  exact ⟨key 0 (by decide), key 1 (by decide), key 2 (by decide), key 3 (by decide), key 4 (by decide), key 5 (by decide)⟩⟩
structure Keep8 (B : Nat) (W0 w : World) : Prop where
  s0 : B ≤ W0.heap.size
  s1 : W0.heap.size ≤ w.heap.size
  low : ∀ k : Nat, k < B → w.heap[k]? = W0.heap[k]?
  keep : ∀ (k : Nat) (x : Obj), W0.heap[k]? = some x → Not8 x → w.heap[k]? = some x
theorem Keep8.refl {B : Nat} {w : World} (h : B ≤ w.heap.size) : Keep8 B w w := ⟨h, Nat.le_refl _, fun _ _ => rfl, fun _ _ h _ => h⟩
theorem Keep8.trans {B : Nat} {a b c : World} (h : Keep8 B a b) (k : Keep8 B b c) : Keep8 B a c := ⟨h.s0, Nat.le_trans h.s1 k.s1, fun i hi => (k.low i hi).trans (h.low i hi), fun i x hx hn => k.keep i x (h.keep i x hx hn) hn⟩
theorem Keep8.of_below {B : Nat} {w w' : World} (h : Below w.heap.size w w') (hB : B ≤ w.heap.size) : Keep8 B w w' := ⟨hB, h.size, fun k hk => h.block k (Nat.lt_of_lt_of_le hk hB), fun k x hx _ => (h.block k (lt_of_block hx)).trans hx⟩
theorem Keep8.next {B : Nat} {W0 w w' : World} (h : Keep8 B W0 w) (hb : Below w.heap.size w w') : Keep8 B W0 w' := h.trans (Keep8.of_below hb (Nat.le_trans h.s0 h.s1))
theorem Keep8.base {B B' : Nat} {W0 w w' : World} (h : Keep8 B W0 w) (hb : Below B' w w') (hB : W0.heap.size ≤ B') : Keep8 B W0 w' :=
  ⟨h.s0, Nat.le_trans h.s1 hb.size, fun k hk => (hb.block k (Nat.lt_of_lt_of_le hk (Nat.le_trans h.s0 hB))).trans (h.low k hk), fun k x hx hn => (hb.block k (Nat.lt_of_lt_of_le (lt_of_block hx) hB)).trans (h.keep k x hx hn)⟩
def Off8 (W0 : World) (b : Nat) : Prop := ∀ x, W0.heap[b]? = some x → ¬ Not8 x
theorem Off8.of_le {W0 : World} {b : Nat} (h : W0.heap.size ≤ b) : Off8 W0 b := fun x hx => by have := lt_of_block hx; omega
theorem Off8.ne {W0 : World} {b k : Nat} {x : Obj} (h : Off8 W0 b) (hk : W0.heap[k]? = some x) (hn : Not8 x) : k ≠ b := fun e => by subst e; exact h x hk hn
theorem Off8.early {B b : Nat} {W0 W1 : World} (h : Off8 W1 b) (hk : Keep8 B W0 W1) : Off8 W0 b := fun x hx hn => h x (hk.keep b x hx hn) hn
theorem Keep8.wk {B base b : Nat} {W0 w w' : World} (h : Keep8 B W0 w) (hk : WK base b w w') (hb : Off8 W0 b) (hB : B ≤ base) : Keep8 B W0 w' :=
  ⟨h.s0, Nat.le_trans h.s1 hk.bel.size, fun k hk2 => (hk.bel.block k (Nat.lt_of_lt_of_le hk2 hB)).trans (h.low k hk2), fun k x hx hn => hk.keep k x (h.keep k x hx hn) (hb.ne hx hn) hn⟩
structure FSem (B : Nat) (W0 : World) (v : FVal) (f : FSpec) : Prop where
  key : v.key = f.key
  must : v.must = f.must
  ksz : f.key.size < 65536
  ee : ∀ args w, (callFunc v.ef args).run Tryz.prog w = .ok (.enter v.ef args) w
  em : ∀ args w, (callFunc v.mf args).run Tryz.prog w = .ok (.enter v.mf args) w
  ep : ∀ args w, (callFunc v.pf args).run Tryz.prog w = .ok (.enter v.pf args) w
  empty : ∀ w, Keep8 B W0 w → Calls Tryz.prog v.ef v.ec w fun e w' => e = .returned (.bool f.empty) ∧ Below w.heap.size w w'
  may : ∀ w, Keep8 B W0 w → Calls Tryz.prog v.mf v.mc w fun e w' => e = .returned (.bool f.may) ∧ Below w.heap.size w w'
  put : f.may = true → f.empty = false → ∀ w b base s, Keep8 B W0 w → Off8 W0 b → PTab B w → B ≤ base → WrB w b base s → s.size + f.bytes.size ≤ 60000000000000 →
    Calls Tryz.prog v.pf (#[.pointer (some ⟨b, 0, none⟩)] ++ v.pc) w fun e w' => e = .returned (.tuple #[]) ∧ WrB w' b base (s ++ f.bytes) ∧ WK base b w w'
theorem FSem.later {B : Nat} {W0 W1 : World} {v : FVal} {f : FSpec} (h : FSem B W0 v f) (hk : Keep8 B W0 W1) : FSem B W1 v f :=
  ⟨h.key, h.must, h.ksz, h.ee, h.em, h.ep, fun w hw => h.empty w (hk.trans hw), fun w hw => h.may w (hk.trans hw), fun h1 h2 w b base s hw hb => h.put h1 h2 w b base s (hk.trans hw) (hb.early hk)⟩
def spth (l : List FSpec) (i : Nat) : FSpec := l.getD i ⟨ByteArray.empty, false, false, false, ByteArray.empty⟩
theorem spth_eq (l : List FSpec) (i : Nat) (h : i < l.length) : spth l i = l[i] := by unfold spth; rw [List.getD_eq_getElem?_getD, List.getElem?_eq_getElem h]; rfl
def FSems (B : Nat) (W0 : World) (l : List FVal) (fs : List FSpec) : Prop := len fs = len l ∧ ∀ i, i < len l → FSem B W0 (fth l i) (spth fs i)
theorem FSems.later {B : Nat} {W0 W1 : World} {l : List FVal} {fs : List FSpec} (h : FSems B W0 l fs) (hk : Keep8 B W0 W1) : FSems B W1 l fs := ⟨h.1, fun i hi => (h.2 i hi).later hk⟩
def SaysF (w : World) (l : List FVal) (g : Nat) (lb : Array Value) (p : Nat → Bool) : Prop :=
  (∀ args w', (callFunc g args).run Tryz.prog w' = .ok (.enter g args) w') ∧ ∀ i, i < len l → ∀ w', Below w.heap.size w w' → Calls Tryz.prog g (#[(fth l i).val] ++ lb) w' fun e w'' => e = .returned (.bool (p i)) ∧ Below w'.heap.size w' w''
def IdxOut (n : Nat) (p : Nat → Bool) (w : World) (e : Ending) (w' : World) : Prop :=
  ∃ r : Int, e = .returned (.int .i64 r) ∧ ((r = -1 ∧ ∀ i, i < n → p i = false) ∨ ∃ k : Nat, k < n ∧ r = k ∧ p k = true ∧ ∀ i, i < k → p i = false) ∧ Below w.heap.size w w'
set_option maxRecDepth 100000 in
set_option maxHeartbeats 4000000 in
theorem idxf_any (a : Option Addr) (c : Nat) (l : List FVal) (g : Nat) (lb : Array Value) (p : Nat → Bool) (w : World) (hl : Flds w a l) (hn : len l ≤ 1000) (hp : SaysF w l g lb p) :
    Calls Tryz.prog 202 #[.slice a (len l) c, .func (.func g) #[] lb] w (IdxOut (len l) p w) := by
  have HL := Lib.hid hl
  have HP := Lib.hid hp.2
  have eg := hp.1
  clear hl hp
  go_enter Tryz.func202, Tryz.ntmps202
  go_wp2
  go_loopg [8] (len l) (fun g i wr => ∃ m : Nat, g + m = len l ∧ i = .int .i64 m ∧ Hid (∀ i, i < m → p i = false) ∧ Hid (Below w.heap.size w wr))
  case atStart => exact ⟨0, rfl, rfl, fun i hi => by omega, Below.refl _ _⟩
  case round =>
    obtain ⟨m, hm, rfl, HN, HB⟩ := hrel
    by_cases hlt : m < len l
    · obtain ⟨b, off, rfl, c0, c1, c2, c3, c4, c5⟩ := (HL.out.below HB.out) m hlt
      have i1 : (m : Int) < len l := by omega
      have hcall := HP.out m hlt wr HB.out
      unfold FVal.val at hcall
      have HC := Lib.hid hcall
      clear hcall
      generalize fth l m = v at c0 c1 c2 c3 c4 c5 HC
      go_wp2_with fail
      refine HC.out.mono ?_
      rintro e w1 ⟨rfl, hb⟩
      have HB1 : Hid (Below w.heap.size w w1) := Lib.hid (bnext HB.out hb)
      clear hb c0 c1 c2 c3 c4 c5
      cases hpm : p m with
      | true =>
        go_wp2
        go_ret
        exact ⟨m, rfl, .inr ⟨m, hlt, rfl, hpm, HN.out⟩, HB1.out⟩
      | false =>
        have HN2 : Hid (∀ i, i < m + 1 → p i = false) := Lib.hid (fun i hi => by
          by_cases e : i = m
          · subst e; exact hpm
          · exact HN.out i (by omega))
        clear hpm
        go_wp2
        go_roundg (len l - (m + 1))
        case rel => exact ⟨m + 1, by omega, by go_num, HN2.out, HB1.out⟩
        case measure => omega
    · obtain rfl : m = len l := by omega
      have i1 : ¬ ((len l : Nat) : Int) < len l := by omega
      go_wp2
      go_ret
      exact ⟨-1, rfl, .inl ⟨rfl, HN.out⟩, HB.out⟩
theorem containsf_any (a : Option Addr) (c : Nat) (l : List FVal) (g : Nat) (lb : Array Value) (p : Nat → Bool) (w : World) (hl : Flds w a l) (hn : len l ≤ 1000) (hp : SaysF w l g lb p) :
    Calls Tryz.prog 170 #[.slice a (len l) c, .func (.func g) #[] lb] w fun e w' => ∃ b, e = .returned (.bool b) ∧ (b = true ↔ ∃ i, i < len l ∧ p i = true) ∧ Below w.heap.size w w' := by
  have H := Lib.hid (idxf_any a c l g lb p w hl hn hp)
  clear hl hp
  go_enter Tryz.func170, Tryz.ntmps170
  go_wp2_with fail
  refine H.out.mono ?_
  rintro e w1 ⟨r, rfl, hr, hb⟩
  have HB := Lib.hid hb
  clear hb
  rcases hr with ⟨rfl, hall⟩ | ⟨k, hk, rfl, hpk, -⟩
  · have HA := Lib.hid hall
    clear hall
    go_wp2
    go_ret
    exact ⟨false, rfl, ⟨fun h => (by cases h), fun ⟨i, hi, h⟩ => by rw [HA.out i hi] at h; cases h⟩, HB.out⟩
  · have HK := Lib.hid hpk
    clear hpk
    go_wp2
    go_ret
    exact ⟨true, rfl, ⟨fun _ => ⟨k, hk, HK.out⟩, fun _ => rfl⟩, HB.out⟩
end Go.Proofs.YtihiaopilnjonaaGreatDoor
namespace Go.Proofs.YtihiaopilnjonaaGreatDoor
open Go.RowKit
set_option linter.unusedSimpArgs false
set_option linter.unusedVariables false
structure Chg (rb tb : Nat) (w w' : World) : Prop where
  os : w'.os = w.os
  tape : w'.tape = w.tape
  output : w'.output = w.output
  size : w.heap.size ≤ w'.heap.size
  block : ∀ i, i < w.heap.size → i ≠ rb → i ≠ tb → w'.heap[i]? = w.heap[i]?
theorem Chg.refl (rb tb : Nat) (w : World) : Chg rb tb w w := ⟨rfl, rfl, rfl, Nat.le_refl _, fun _ _ _ _ => rfl⟩
theorem Chg.trans {rb tb : Nat} {a b c : World} (h : Chg rb tb a b) (k : Chg rb tb b c) : Chg rb tb a c :=
  ⟨k.os.trans h.os, k.tape.trans h.tape, k.output.trans h.output, Nat.le_trans h.size k.size, fun i hi h1 h2 => (k.block i (Nat.lt_of_lt_of_le hi h.size) h1 h2).trans (h.block i hi h1 h2)⟩
theorem Chg.of_below {rb tb : Nat} {w w' : World} (h : Below w.heap.size w w') : Chg rb tb w w' := ⟨h.os, h.tape, h.output, h.size, fun i hi _ _ => h.block i hi⟩
theorem Chg.of_ext {rb tb : Nat} {w w' : World} (h : ExtB (some rb) w w') : Chg rb tb w w' := ⟨h.os, h.tape, h.output, h.size, fun i hi h1 _ => h.block i hi (by simpa using h1)⟩
theorem Chg.next {rb tb : Nat} {a b c : World} (h : Chg rb tb a b) (k : Below b.heap.size b c) : Chg rb tb a c := h.trans (Chg.of_below k)
theorem Chg.ext {rb tb : Nat} {a b c : World} (h : Chg rb tb a b) (k : ExtB (some rb) b c) : Chg rb tb a c := h.trans (Chg.of_ext k)
theorem Chg.set {rb tb : Nat} {a b : World} (h : Chg rb tb a b) (o : Nat) (v : Value) : Chg rb tb a (b.setCell ⟨tb, o, none⟩ v) :=
  ⟨h.os, h.tape, h.output, by simpa using h.size, fun i hi h1 h2 => by rw [Below.heap_setCell _ _ _ _ h2]; exact h.block i hi h1 h2⟩
theorem Chg.setNew {rb tb : Nat} {a b : World} (h : Chg rb tb a b) {p : Addr} (hp : a.heap.size ≤ p.block) (v : Value) : Chg rb tb a (b.setCell p v) :=
  ⟨h.os, h.tape, h.output, by simpa using h.size, fun i hi h1 h2 => by rw [Below.heap_setCell _ _ _ _ (by omega)]; exact h.block i hi h1 h2⟩
theorem Chg.inner {rb tb tb' : Nat} {a b c : World} (h : Chg rb tb a b) (k : Chg rb tb' b c) (ht : a.heap.size ≤ tb') : Chg rb tb a c :=
  ⟨k.os.trans h.os, k.tape.trans h.tape, k.output.trans h.output, Nat.le_trans h.size k.size, fun i hi h1 h2 => (k.block i (Nat.lt_of_lt_of_le hi h.size) h1 (by omega)).trans (h.block i hi h1 h2)⟩
def Off (rb tb : Nat) (a : Option Addr) : Prop := ∀ b off, a = some ⟨b, off, none⟩ → rb < b ∧ tb < b
def Tx (w : World) (a : Option Addr) (l : List ByteArray) : Prop := Txs w a l ∧ ∀ b off, a = some ⟨b, off, none⟩ → ∃ cs, w.heap[b]? = some (.cells cs 9 (0, 0))
def Ux (w : World) (a : Option Addr) (l : List Int) : Prop := U64s w a l ∧ ∀ b off, a = some ⟨b, off, none⟩ → ∃ cs, w.heap[b]? = some (.cells cs 23 (0, 0))
theorem Tx.keep {w w' : World} {a : Option Addr} {l : List ByteArray} (h : Tx w a l) (hb : ∀ b off cs, a = some ⟨b, off, none⟩ → w.heap[b]? = some (.cells cs 9 (0, 0)) → w'.heap[b]? = w.heap[b]?) : Tx w' a l := by
  refine ⟨fun i hi => ?_, fun b off e => ?_⟩
  · obtain ⟨b, off, rfl, h1⟩ := h.1 i hi
    obtain ⟨cs, h2⟩ := h.2 b off rfl
    exact ⟨b, off, rfl, by rw [World.cell?_of_block (w := w) (hb b off cs rfl h2)]; exact h1⟩
  · obtain ⟨cs, h2⟩ := h.2 b off e
    exact ⟨cs, (hb b off cs e h2).trans h2⟩
theorem Ux.keep {w w' : World} {a : Option Addr} {l : List Int} (h : Ux w a l) (hb : ∀ b off cs, a = some ⟨b, off, none⟩ → w.heap[b]? = some (.cells cs 23 (0, 0)) → w'.heap[b]? = w.heap[b]?) : Ux w' a l := by
  refine ⟨fun i hi => ?_, fun b off e => ?_⟩
  · obtain ⟨b, off, rfl, h1⟩ := h.1 i hi
    obtain ⟨cs, h2⟩ := h.2 b off rfl
    exact ⟨b, off, rfl, by rw [World.cell?_of_block (w := w) (hb b off cs rfl h2)]; exact h1⟩
  · obtain ⟨cs, h2⟩ := h.2 b off e
    exact ⟨cs, (hb b off cs e h2).trans h2⟩
theorem Tx.chg {rb tb : Nat} {w w' : World} {a : Option Addr} {l : List ByteArray} (h : Tx w a l) (ho : Off rb tb a) (hc : Chg rb tb w w') : Tx w' a l :=
  h.keep fun b off cs e h2 => hc.block b (lt_of_block h2) (by have := (ho b off e).1; omega) (by have := (ho b off e).2; omega)
theorem Ux.chg {rb tb : Nat} {w w' : World} {a : Option Addr} {l : List Int} (h : Ux w a l) (ho : Off rb tb a) (hc : Chg rb tb w w') : Ux w' a l :=
  h.keep fun b off cs e h2 => hc.block b (lt_of_block h2) (by have := (ho b off e).1; omega) (by have := (ho b off e).2; omega)
theorem Tx.ext {row : Option Nat} {w w' : World} {a : Option Addr} {l : List ByteArray} (h : Tx w a l) (hE : ExtB row w w') (hr : ∀ k, row = some k → ∃ cs T, w.heap[k]? = some (.cells cs T (0, 0)) ∧ T ≠ 9) : Tx w' a l :=
  h.keep fun b off cs e h2 => hE.block b (lt_of_block h2) (fun e2 => by obtain ⟨cs', T, h3, h4⟩ := hr b e2.symm; rw [h2] at h3; cases h3; exact h4 rfl)
theorem Revs.chg {rb tb : Nat} {w w' : World} {a : Option Addr} {l : List Rev} (h : Revs w a l) (ho : Off rb tb a) (hc : Chg rb tb w w') : Revs w' a l := fun i hi => by
  obtain ⟨b, off, rfl, h1⟩ := h i hi
  have hb := hc.block b (lt_of_cell h1.c0) (by have := (ho b off rfl).1; omega) (by have := (ho b off rfl).2; omega)
  have e : ∀ q, w'.cell? ⟨b, q, none⟩ = w.cell? ⟨b, q, none⟩ := fun q => World.cell?_of_block (w := w) hb
  obtain ⟨c0, c1, c2, c3, c4, c5, c6, c7, c8, c9, c10⟩ := h1
  exact ⟨b, off, rfl, by constructor <;> (rw [e]; assumption)⟩
def lth (l : List RevD) (i : Nat) : RevD := l.getD i ⟨0, 0, false, 0, [], [], ⟨#[]⟩, 0, 0, 0, 0⟩
structure RevIs (rb tb : Nat) (w : World) (r : Rev) (d : RevD) : Prop where
  pos : r.pos = d.pos
  L : r.L = d.L
  signed : r.signed = d.signed
  idx : r.idx = d.idx
  wn : r.wn = len d.ws
  ws : Tx w r.wa d.ws
  wo : Off rb tb r.wa
  pn : r.pn = len d.ps
  ps : Tx w r.pa d.ps
  po : Off rb tb r.pa
  root : r.root = d.root
  wt : r.wt = d.wt
  first : r.first = d.first
  life : r.life = d.life
  keys : r.keys = d.keys
theorem RevIs.chg {rb tb : Nat} {w w' : World} {r : Rev} {d : RevD} (h : RevIs rb tb w r d) (hc : Chg rb tb w w') : RevIs rb tb w' r d :=
  ⟨h.pos, h.L, h.signed, h.idx, h.wn, h.ws.chg h.wo hc, h.wo, h.pn, h.ps.chg h.po hc, h.po, h.root, h.wt, h.first, h.life, h.keys⟩
theorem RevIs.ext {rb tb : Nat} {row : Option Nat} {w w' : World} {r : Rev} {d : RevD} (h : RevIs rb tb w r d) (hE : ExtB row w w') (hr : ∀ k, row = some k → ∃ cs T, w.heap[k]? = some (.cells cs T (0, 0)) ∧ T ≠ 9) : RevIs rb tb w' r d :=
  ⟨h.pos, h.L, h.signed, h.idx, h.wn, h.ws.ext hE hr, h.wo, h.pn, h.ps.ext hE hr, h.po, h.root, h.wt, h.first, h.life, h.keys⟩
theorem RevIs.outer {rb tb xb : Nat} {w : World} {r : Rev} {d : RevD} (h : RevIs rb xb w r d) (hx : tb ≤ xb) : RevIs rb tb w r d :=
  ⟨h.pos, h.L, h.signed, h.idx, h.wn, h.ws, fun b off e => ⟨(h.wo b off e).1, Nat.lt_of_le_of_lt hx (h.wo b off e).2⟩, h.pn, h.ps, fun b off e => ⟨(h.po b off e).1, Nat.lt_of_le_of_lt hx (h.po b off e).2⟩, h.root, h.wt, h.first, h.life, h.keys⟩
def HoldsD (rb tb : Nat) (w : World) (v : Value) : DV → Prop
  | .num n => v = .int .u64 n
  | .flag q => v = .bool q
  | .str s => v = .string s
  | .strs l => ∃ a c, v = .slice a (len l) c ∧ (len l = 0 → a = none ∧ c = 0) ∧ Off rb tb a ∧ Tx w a l
  | .nums l => ∃ a c, v = .slice a (len l) c ∧ (len l = 0 → a = none ∧ c = 0) ∧ Off rb tb a ∧ Ux w a l
  | .revs l => ∃ a c, v = .slice a (len l) c ∧ (len l = 0 → a = none ∧ c = 0) ∧ Off rb tb a ∧ ∃ rs : List Rev, len rs = len l ∧ Revs w a rs ∧ ∀ i, i < len l → RevIs rb tb w (rnth rs i) (lth l i)
theorem HoldsD.chg {rb tb : Nat} {w w' : World} {v : Value} {d : DV} (h : HoldsD rb tb w v d) (hc : Chg rb tb w w') : HoldsD rb tb w' v d := by
  cases d with
  | num n => exact h
  | flag q => exact h
  | str s => exact h
  | strs l => obtain ⟨a, c, h1, h2, h3, h4⟩ := h; exact ⟨a, c, h1, h2, h3, h4.chg h3 hc⟩
  | nums l => obtain ⟨a, c, h1, h2, h3, h4⟩ := h; exact ⟨a, c, h1, h2, h3, h4.chg h3 hc⟩
  | revs l => obtain ⟨a, c, h1, h2, h3, rs, h4, h5, h6⟩ := h; exact ⟨a, c, h1, h2, h3, rs, h4, h5.chg h3 hc, fun i hi => (h6 i hi).chg hc⟩
def RecAt (rb tb : Nat) (T : TypeId) (n : Nat) (w : World) (x : Rcd) : Prop :=
  ∃ cs : Array Value, w.heap[tb]? = some (.cells cs T (0, 0)) ∧ cs.size = n ∧ ∀ i, i < n → ∃ v, cs[i]? = some v ∧ HoldsD rb tb w v (x i)
theorem RecAt.keep {rb tb : Nat} {T : TypeId} {n : Nat} {w w' : World} {x : Rcd} (h : RecAt rb tb T n w x) (hb : w'.heap[tb]? = w.heap[tb]?) (hc : Chg rb tb w w') : RecAt rb tb T n w' x := by
  obtain ⟨cs, h1, h2, h3⟩ := h
  refine ⟨cs, hb.trans h1, h2, fun i hi => ?_⟩
  obtain ⟨v, h4, h5⟩ := h3 i hi
  exact ⟨v, h4, h5.chg hc⟩
theorem RecAt.lt {rb tb : Nat} {T : TypeId} {n : Nat} {w : World} {x : Rcd} (h : RecAt rb tb T n w x) : tb < w.heap.size := by
  obtain ⟨cs, h1, _⟩ := h; exact lt_of_block h1
theorem RecAt.below {rb tb : Nat} {T : TypeId} {n : Nat} {w w' : World} {x : Rcd} (h : RecAt rb tb T n w x) (hb : Below w.heap.size w w') : RecAt rb tb T n w' x := h.keep (hb.block _ h.lt) (Chg.of_below hb)
theorem RecAt.ext {rb tb : Nat} {T : TypeId} {n : Nat} {w w' : World} {x : Rcd} (h : RecAt rb tb T n w x) (hE : ExtB (some rb) w w') (hne : tb ≠ rb) : RecAt rb tb T n w' x := h.keep (hE.block _ h.lt (by simpa using hne)) (Chg.of_ext hE)
theorem RecAt.get {rb tb : Nat} {T : TypeId} {n : Nat} {w : World} {x : Rcd} (h : RecAt rb tb T n w x) {o : Nat} (ho : o < n) : ∃ v, w.cell? ⟨tb, o, none⟩ = some v ∧ HoldsD rb tb w v (x o) := by
  obtain ⟨cs, h1, h2, h3⟩ := h
  obtain ⟨v, h4, h5⟩ := h3 o ho
  exact ⟨v, by rw [block_cell h1]; exact h4, h5⟩
theorem RecAt.free {rb tb : Nat} {T : TypeId} {n : Nat} {w : World} {x : Rcd} (h : RecAt rb tb T n w x) (o : Nat) : w.frozen? ⟨tb, o, none⟩ = false := by
  obtain ⟨cs, h1, _⟩ := h; exact block_free h1 o
theorem RecAt.set {rb tb : Nat} {T : TypeId} {n : Nat} {w : World} {x : Rcd} (h : RecAt rb tb T n w x) {o : Nat} (ho : o < n) {v : Value} {d : DV} (hv : HoldsD rb tb w v d) : RecAt rb tb T n (w.setCell ⟨tb, o, none⟩ v) (upd x o d) := by
  obtain ⟨cs, h1, h2, h3⟩ := h
  have hc : Chg rb tb w (w.setCell ⟨tb, o, none⟩ v) := (Chg.refl rb tb w).set o v
  refine ⟨_, block_setCell h1 v, by simpa using h2, fun i hi => ?_⟩
  by_cases e : i = o
  · subst e
    exact ⟨v, by rw [Array.getElem?_setIfInBounds_self_of_lt (by omega)], by rw [upd_at]; exact hv.chg hc⟩
  · obtain ⟨u, h4, h5⟩ := h3 i hi
    exact ⟨u, by rw [Array.getElem?_setIfInBounds_ne (fun e2 => e e2.symm)]; exact h4, by rw [upd_ne e]; exact h5.chg hc⟩
theorem RecAt.put {rb tb : Nat} {T : TypeId} {n : Nat} {w w' : World} {x : Rcd} {cs : Array Value} (h1 : w.heap[tb]? = some (.cells cs T (0, 0))) (h : RecAt rb tb T n w x) {o : Nat} (ho : o < n) {v : Value} {d : DV} (hc : Chg rb tb w w') (h2 : w'.heap[tb]? = some (.cells (cs.setIfInBounds o v) T (0, 0))) (hv : HoldsD rb tb w' v d) : RecAt rb tb T n w' (upd x o d) := by
  obtain ⟨cs', h1', h2', h3⟩ := h
  rw [h1] at h1'
  cases h1'
  refine ⟨_, h2, by simpa using h2', fun i hi => ?_⟩
  by_cases e : i = o
  · subst e
    exact ⟨v, by rw [Array.getElem?_setIfInBounds_self_of_lt (by omega)], by rw [upd_at]; exact hv⟩
  · obtain ⟨u, h4, h5⟩ := h3 i hi
    exact ⟨u, by rw [Array.getElem?_setIfInBounds_ne (fun e2 => e e2.symm)]; exact h4, by rw [upd_ne e]; exact h5.chg hc⟩
def ThAt (tb : Nat) (T : TypeId) (n : Nat) (w : World) : Prop := ∃ cs, w.heap[tb]? = some (.cells cs T (0, 0)) ∧ cs.size = n
theorem RecAt.thAt {rb tb : Nat} {T : TypeId} {n : Nat} {w : World} {x : Rcd} (h : RecAt rb tb T n w x) : ThAt tb T n w := by
  obtain ⟨cs, h1, h2, _⟩ := h; exact ⟨cs, h1, h2⟩
def GetIs (res : Except Flt (Rcd × Nat)) (rb tb : Nat) (T : TypeId) (n : Nat) (s : ByteArray) (w : World) (e : Ending) (w' : World) : Prop :=
  Chg rb tb w w' ∧ match res with
    | .ok x => e = .returned (.tuple #[]) ∧ RdB w' rb s x.2 10240 ∧ x.2 ≤ s.size ∧ RecAt rb tb T n w' x.1
    | .error f => ∃ fb, e = .panicked (stopC fb) ∧ FltB w' fb f.1 f.2 ∧ ThAt tb T n w'
theorem getIs_ok {x : Rcd × Nat} {rb tb : Nat} {T : TypeId} {n : Nat} {s : ByteArray} {w w' : World} {e : Ending} (h : GetIs (.ok x) rb tb T n s w e w') : e = .returned (.tuple #[]) ∧ RdB w' rb s x.2 10240 ∧ x.2 ≤ s.size ∧ RecAt rb tb T n w' x.1 ∧ Chg rb tb w w' := ⟨h.2.1, h.2.2.1, h.2.2.2.1, h.2.2.2.2, h.1⟩
theorem getIs_err {f : Flt} {rb tb : Nat} {T : TypeId} {n : Nat} {s : ByteArray} {w w' : World} {e : Ending} (h : GetIs (.error f) rb tb T n s w e w') : ∃ fb, e = .panicked (stopC fb) ∧ FltB w' fb f.1 f.2 ∧ Chg rb tb w w' := by
  obtain ⟨h1, fb, h2, h3, h4⟩ := h; exact ⟨fb, h2, h3, h1⟩
theorem getIs_th {f : Flt} {rb tb : Nat} {T : TypeId} {n : Nat} {s : ByteArray} {w w' : World} {e : Ending} (h : GetIs (.error f) rb tb T n s w e w') : ThAt tb T n w' := by
  obtain ⟨h1, fb, h2, h3, h4⟩ := h; exact h4
def fresh (x0 : Rcd) (g : GSpec) (x : Rcd) : Prop := ∀ i, i ∈ g.offs → x i = x0 i
theorem RdEnv.chg {B : Nat} {w w' : World} {qb rb tb : Nat} {s : ByteArray} {a a' : Nat} (h : RdEnv B w qb rb s a) (hc : Chg rb tb w w') (hqt : qb ≠ tb) (hBt : B ≤ tb) (hr : RdB w' rb s a' 10240) (ha : a' ≤ s.size) : RdEnv B w' qb rb s a' := by
  refine ⟨(hc.block _ (lt_of_block h.q) h.ne hqt).trans h.q, hr, ?_, h.bq, h.br, h.ne, ha, h.sz⟩
  have key : ∀ g l, TabAt B w g l → TabAt B w' g l := fun g l ⟨t, tq, rc, h1, h2, h3, h4, h5⟩ => by
    have e : ∀ b, b < B → w'.heap[b]? = w.heap[b]? := fun b hb => hc.block b (by omega) (by have := h.br; omega) (by omega)
    refine ⟨t, tq, rc, h1, h2, Nat.le_trans h3 hc.size, by rw [World.cell?_of_block (w := w) (e g h1)]; exact h4, fun i hi => ?_⟩
    obtain ⟨b, off, e2, hr⟩ := h5 i hi
    cases e2
    have e3 : ∀ q, w'.cell? ⟨t, q, none⟩ = w.cell? ⟨t, q, none⟩ := fun q => World.cell?_of_block (w := w) (e t h2)
    obtain ⟨c0, c1, c2, c3⟩ := hr
    exact ⟨t, tq, rfl, by constructor <;> (rw [e3]; assumption)⟩
  exact ⟨key _ _ h.tabs.nums, key _ _ h.tabs.lists, key _ _ h.tabs.bins, key _ _ h.tabs.strs, key _ _ h.tabs.pairs⟩
structure GSem (B qb rb tb : Nat) (x0 : Rcd) (T : TypeId) (n : Nat) (s : ByteArray) (W0 : World) (v : FVal) (g : GSpec) : Prop where
  key : v.key = g.key
  must : v.must = g.must
  ee : ∀ args w, (callFunc v.ef args).run Tryz.prog w = .ok (.enter v.ef args) w
  eg : ∀ args w, (callFunc v.gf args).run Tryz.prog w = .ok (.enter v.gf args) w
  empty : ∀ w x, Chg rb tb W0 w → RecAt rb tb T n w x → Kd x0 x → Calls Tryz.prog v.ef v.ec w fun e w' => e = .returned (.bool (g.empty x)) ∧ Below w.heap.size w w'
  read : ∀ w x a, Chg rb tb W0 w → RecAt rb tb T n w x → RdEnv B w qb rb s a → fresh x0 g x → Kd x0 x → Calls Tryz.prog v.gf (#[.pointer (some ⟨qb, 0, none⟩)] ++ v.gc) w (GetIs (g.read x a) rb tb T n s w)
theorem GSem.later {B qb rb tb : Nat} {x0 : Rcd} {T : TypeId} {n : Nat} {s : ByteArray} {W0 W1 : World} {v : FVal} {g : GSpec} (h : GSem B qb rb tb x0 T n s W0 v g) (hk : Chg rb tb W0 W1) : GSem B qb rb tb x0 T n s W1 v g :=
  ⟨h.key, h.must, h.ee, h.eg, fun w x hw => h.empty w x (hk.trans hw), fun w x a hw => h.read w x a (hk.trans hw)⟩
def GSems (B qb rb tb : Nat) (x0 : Rcd) (T : TypeId) (n : Nat) (s : ByteArray) (W0 : World) (l : List FVal) (gs : List GSpec) : Prop := len gs = len l ∧ ∀ i, i < len l → GSem B qb rb tb x0 T n s W0 (fth l i) (gth gs i)
theorem GSems.later {B qb rb tb : Nat} {x0 : Rcd} {T : TypeId} {n : Nat} {s : ByteArray} {W0 W1 : World} {l : List FVal} {gs : List GSpec} (h : GSems B qb rb tb x0 T n s W0 l gs) (hk : Chg rb tb W0 W1) : GSems B qb rb tb x0 T n s W1 l gs := ⟨h.1, fun i hi => (h.2 i hi).later hk⟩
end Go.Proofs.YtihiaopilnjonaaGreatDoor
namespace Go.Proofs.YtihiaopilnjonaaGreatDoor
open Go.RowKit
set_option linter.unusedSimpArgs false
set_option linter.unusedVariables false
theorem of_drewE {row : Option Nat} {w w1 : World} (h : ExtB row w.drew w1) : ExtB row w w1 := ExtB_trans _ _ _ _ (ext_extB (bdrew (Below.refl _ _))) h
theorem wp_of_callR {P : Program} {o : Oper} {a : Act} {w : World} {f : FuncId} {args : Array Value} {R : Value → World → Prop} {K : Act → World → Prop} {Q : Exit → Act → World → Prop} (h : (execOp a.eval o).run P w = .ok (.enter f args) w)
    (hc : Calls P f args w (fun e w' => ∃ v, e = .returned v ∧ R v w')) (hK : ∀ v w', R v w' → K (a.put o.dst v) w') : o.wp P a w K Q := by
  unfold Oper.wp; rw [h]
  exact hc.mono fun e w' ⟨v, he, hR⟩ => by subst he; exact hK v w' hR
theorem wp_of_panicR {P : Program} {o : Oper} {a : Act} {w : World} {f : FuncId} {args : Array Value} {R : Nat → World → Prop} {K : Act → World → Prop} {Q : Exit → Act → World → Prop} (h : (execOp a.eval o).run P w = .ok (.enter f args) w)
    (hc : Calls P f args w (fun e w' => ∃ fb, e = .panicked (stopC fb) ∧ R fb w')) (hK : ∀ fb w', R fb w' → Q (.panic (stopC fb)) a w') : o.wp P a w K Q := by
  unfold Oper.wp; rw [h]
  exact hc.mono fun e w' ⟨v, he, hR⟩ => by subst he; exact hK v w' hR
set_option maxRecDepth 100000 in
set_option maxHeartbeats 2000000 in
theorem num3_any (B qb rb tb o bx : Nat) (T : TypeId) (n : Nat) (s key : ByteArray) (a : Nat) (x : Rcd) (w : World) (h1 : w.heap[bx]? = some (.cells #[.pointer (some ⟨tb, o, none⟩)] 177 (0, 0))) (hbr : bx ≠ rb) (htr : tb ≠ rb) (ho : o < n)
    (hx : RecAt rb tb T n w x) (h : RdEnv B w qb rb s a) : Calls Tryz.prog 186 #[.pointer (some ⟨qb, 0, none⟩), .pointer (some ⟨bx, 0, none⟩)] w (GetIs ((gnum s key o).read x a) rb tb T n s w) := by
  have H := Lib.hid h
  have HX := Lib.hid hx
  have hqr := h.ne
  have c0 : w.cell? ⟨qb, 0, none⟩ = some (.pointer (some ⟨rb, 0, none⟩)) := block_cell h.q 0
  have c1 : w.cell? ⟨bx, 0, none⟩ = some (.pointer (some ⟨tb, o, none⟩)) := block_cell h1 0
  clear h1 hx h
  cases hr : tkR 0 s a with
  | error f =>
    have HR : Hid ((gnum s key o).read x a = .error f) := Lib.hid (by simp only [gnum, rnum, hr])
    have HN : Hid (∀ w', Below w.heap.size w w' → Calls Tryz.prog 152 #[.pointer (some ⟨rb, 0, none⟩)] w' (fun e w2 => ∃ u, e = .returned u ∧ ((∃ fb, u = .tuple #[.int .u64 0, .iface 127 (.pointer (some ⟨fb, 0, none⟩))] ∧ FltB w2 fb f.1 f.2 ∧ fb ≠ rb) ∧ ExtB (some rb) w' w2))) := Lib.hid (fun w' hb => (Num_tk w' B qb rb s a (H.out.below hb)).mono fun e w2 hh => by rw [hr] at hh; obtain ⟨fb, h1, h2, h3, h4⟩ := tkIs_err hh; exact ⟨_, h1, ⟨fb, rfl, h2, by have := lt_of_block H.out.r; have := hb.size; omega⟩, h3⟩)
    clear hr
    go_enter Tryz.func186, Tryz.ntmps186
    refine wp_region_tail 10 5 (some rb) (phis [fun u _ => u = (.pointer (some ⟨tb, o, none⟩)), fun u _ => u = (.pointer (some ⟨qb, 0, none⟩)), fun u _ => u = (.pointer (some ⟨qb, 0, none⟩)), fun u _ => u = (.pointer (some ⟨qb, 0, none⟩)), fun u _ => u = (.pointer (some ⟨rb, 0, none⟩)), fun u w' => ∃ fb, u = .tuple #[.int .u64 0, .iface 127 (.pointer (some ⟨fb, 0, none⟩))] ∧ FltB w' fb f.1 f.2 ∧ fb ≠ rb, fun u _ => u = (.int .u64 0), fun u w' => ∃ fb, u = .iface 127 (.pointer (some ⟨fb, 0, none⟩)) ∧ FltB w' fb f.1 f.2 ∧ fb ≠ rb, fun _ _ => False, fun u _ => u = (.pointer (some ⟨tb, o, none⟩))]) rfl (by kernel_rfl) (by kernel_rfl) (mono_of ⟨mono_eq, mono_eq, mono_eq, mono_eq, mono_eq, ?m5, mono_eq, ?m7, mono_eq, mono_eq, trivial⟩) (steps_of 10 ⟨?s0, ?s1, ?s2, ?s3, ?s4, ?s5, ?s6, ?s7, ?s8, ?s9, trivial⟩) ?_
    case m5 =>
      exact ⟨fun u w1 w2 h ⟨fb, h1, h2, h3⟩ => ⟨fb, h1, h2.below h, h3⟩, fun hn => absurd rfl hn⟩
    case m7 =>
      exact ⟨fun u w1 w2 h ⟨fb, h1, h2, h3⟩ => ⟨fb, h1, h2.below h, h3⟩, fun _ u w1 w2 h ⟨fb, h1, h2, h3⟩ => ⟨fb, h1, extB_block h (fun e => h3 (Option.some.inj e)) h2, h3⟩⟩
    case s0 =>
      refine step_val (v := (.pointer (some ⟨tb, o, none⟩))) (fun av wv hE hS hO hD => ?_) (fun _ => rfl)
      have h1 : av.eval (.tmp 1) = (.pointer (some ⟨bx, 0, none⟩)) := hO.2.2 1 rfl
      have f1 := (ev_form av 1).symm.trans h1
      have c1 := extB_cell hE (fun e => hbr (Option.some.inj e)) c1
      have c0 := extB_cell hE (fun e => hqr (Option.some.inj e)) c0
      refine ⟨rfl, ?_⟩
      simp [go_sem, f1, c1, c0]
    case s1 =>
      refine step_val (v := (.pointer (some ⟨qb, 0, none⟩))) (fun av wv hE hS hO hD => ?_) (fun _ => rfl)
      have h0 : av.eval (.tmp 0) = (.pointer (some ⟨qb, 0, none⟩)) := hO.2.2 0 rfl
      have f0 := (ev_form av 0).symm.trans h0
      refine ⟨rfl, ?_⟩
      simp [go_sem, f0]
    case s2 =>
      refine step_val (v := (.pointer (some ⟨qb, 0, none⟩))) (fun av wv hE hS hO hD => ?_) (fun _ => rfl)
      have d4 : av.eval (.tmp 4) = (.pointer (some ⟨qb, 0, none⟩)) := hD.1 rfl _ rfl
      have f4 := (ev_form av 4).symm.trans d4
      refine ⟨rfl, ?_⟩
      simp [go_sem, f4]
    case s3 =>
      refine step_val (v := (.pointer (some ⟨qb, 0, none⟩))) (fun av wv hE hS hO hD => ?_) (fun _ => rfl)
      have d5 : av.eval (.tmp 5) = (.pointer (some ⟨qb, 0, none⟩)) := hD.1 rfl _ rfl
      have f5 := (ev_form av 5).symm.trans d5
      refine ⟨rfl, ?_⟩
      simp [go_sem, f5]
    case s4 =>
      refine step_val (v := (.pointer (some ⟨rb, 0, none⟩))) (fun av wv hE hS hO hD => ?_) (fun _ => rfl)
      have d6 : av.eval (.tmp 6) = (.pointer (some ⟨qb, 0, none⟩)) := hD.1 rfl _ rfl
      have f6 := (ev_form av 6).symm.trans d6
      have c1 := extB_cell hE (fun e => hbr (Option.some.inj e)) c1
      have c0 := extB_cell hE (fun e => hqr (Option.some.inj e)) c0
      refine ⟨rfl, ?_⟩
      simp [go_sem, f6, c1, c0]
    case s5 =>
      refine step_wp (fun av wv hE hS hO hD => ?_)
      have d7 : av.eval (.tmp 7) = (.pointer (some ⟨rb, 0, none⟩)) := hD.1 rfl _ rfl
      have f7 := (ev_form av 7).symm.trans d7
      refine ⟨rfl, ?_⟩
      refine wp_of_callR (f := 152) (args := #[.pointer (some ⟨rb, 0, none⟩)]) (by simp [go_sem, f7]) (HN.out wv (bnext (bdrew (Below.refl _ _)) (hS rfl))) (fun u w2 ⟨h1, h3⟩ => ⟨u, rfl, es_sp h3, h1⟩)
    case s6 =>
      refine step_wp (fun av wv hE hS hO hD => ?_)
      have d8 : (fun u w' => ∃ fb, u = .tuple #[.int .u64 0, .iface 127 (.pointer (some ⟨fb, 0, none⟩))] ∧ FltB w' fb f.1 f.2 ∧ fb ≠ rb) (av.eval (.tmp 8)) wv := hD.1 rfl _ rfl
      refine ⟨rfl, ?_⟩
      obtain ⟨fb, hu8, -, -⟩ := d8
      have f8 := (ev_form av 8).symm.trans hu8
      exact wp_of_run (v := .int .u64 0) (by simp [go_sem, f8]) ⟨_, rfl, es_of_ext (Ext_refl _), rfl⟩
    case s7 =>
      refine step_wp (fun av wv hE hS hO hD => ?_)
      have d8 : (fun u w' => ∃ fb, u = .tuple #[.int .u64 0, .iface 127 (.pointer (some ⟨fb, 0, none⟩))] ∧ FltB w' fb f.1 f.2 ∧ fb ≠ rb) (av.eval (.tmp 8)) wv := hD.1 rfl _ rfl
      refine ⟨rfl, ?_⟩
      obtain ⟨fb, hu8, hf8, hn8⟩ := d8
      have f8 := (ev_form av 8).symm.trans hu8
      exact wp_of_run (v := .iface 127 (.pointer (some ⟨fb, 0, none⟩))) (by simp [go_sem, f8]) ⟨_, rfl, es_of_ext (Ext_refl _), fb, rfl, hf8, hn8⟩
    case s8 =>
      refine step_wp (fun av wv hE hS hO hD => ?_)
      have d9 : av.eval (.tmp 9) = (.int .u64 0) := hD.1 rfl _ rfl
      have f9 := (ev_form av 9).symm.trans d9
      have d10 : (fun u w' => ∃ fb, u = .iface 127 (.pointer (some ⟨fb, 0, none⟩)) ∧ FltB w' fb f.1 f.2 ∧ fb ≠ rb) (av.eval (.tmp 10)) wv := hD.2.1 rfl _ rfl
      refine ⟨rfl, ?_⟩
      obtain ⟨fb, hu10, hf, hn8⟩ := d10
      have f10 := (ev_form av 10).symm.trans hu10
      refine wp_of_panic (chain := stopC fb) (by simp [go_sem, f9, f10]) ((wholeu_no 0 fb wv).mono (fun e w2 ⟨h1, h2⟩ => ⟨h1, by rw [h2]; exact Below.refl _ _⟩)) (fun w2 hb => ?_)
      exact ⟨hO.1, by rw [HR.out]; exact ⟨(Chg.of_ext (of_drewE hE)).next hb, fb, rfl, hf.below hb, ((HX.out.ext (of_drewE hE) htr).below hb).thAt⟩⟩
    case s9 =>
      refine step_val (v := (.pointer (some ⟨tb, o, none⟩))) (fun av wv hE hS hO hD => ?_) (fun _ => rfl)
      have d3 : av.eval (.tmp 3) = (.pointer (some ⟨tb, o, none⟩)) := hD.1 rfl _ rfl
      have f3 := (ev_form av 3).symm.trans d3
      refine ⟨rfl, ?_⟩
      simp [go_sem, f3]
    intro a' w' hE hO hall
    have hA := act_of_outer (ds := [3, 4, 5, 6, 7, 8, 9, 10, 11, 12]) rfl hO (by kernel_rfl)
    have e3 : (fun u _ => u = (.pointer (some ⟨tb, o, none⟩))) (a'.eval (.tmp 3)) w' := hall.1 _ rfl
    have e4 : (fun u _ => u = (.pointer (some ⟨qb, 0, none⟩))) (a'.eval (.tmp 4)) w' := hall.2.1 _ rfl
    have e5 : (fun u _ => u = (.pointer (some ⟨qb, 0, none⟩))) (a'.eval (.tmp 5)) w' := hall.2.2.1 _ rfl
    have e6 : (fun u _ => u = (.pointer (some ⟨qb, 0, none⟩))) (a'.eval (.tmp 6)) w' := hall.2.2.2.1 _ rfl
    have e7 : (fun u _ => u = (.pointer (some ⟨rb, 0, none⟩))) (a'.eval (.tmp 7)) w' := hall.2.2.2.2.1 _ rfl
    have e8 : (fun u w' => ∃ fb, u = .tuple #[.int .u64 0, .iface 127 (.pointer (some ⟨fb, 0, none⟩))] ∧ FltB w' fb f.1 f.2 ∧ fb ≠ rb) (a'.eval (.tmp 8)) w' := hall.2.2.2.2.2.1 _ rfl
    have e9 : (fun u _ => u = (.int .u64 0)) (a'.eval (.tmp 9)) w' := hall.2.2.2.2.2.2.1 _ rfl
    have e10 : (fun u w' => ∃ fb, u = .iface 127 (.pointer (some ⟨fb, 0, none⟩)) ∧ FltB w' fb f.1 f.2 ∧ fb ≠ rb) (a'.eval (.tmp 10)) w' := hall.2.2.2.2.2.2.2.1 _ rfl
    have e11 : (fun _ _ => False) (a'.eval (.tmp 11)) w' := hall.2.2.2.2.2.2.2.2.1 _ rfl
    have e12 : (fun u _ => u = (.pointer (some ⟨tb, o, none⟩))) (a'.eval (.tmp 12)) w' := hall.2.2.2.2.2.2.2.2.2.1 _ rfl
    obtain ⟨v8, hv8⟩ : ∃ v, a'.eval (.tmp 8) = v := ⟨_, rfl⟩
    rw [hv8] at e8
    obtain ⟨v10, hv10⟩ : ∃ v, a'.eval (.tmp 10) = v := ⟨_, rfl⟩
    rw [hv10] at e10
    obtain ⟨v11, hv11⟩ : ∃ v, a'.eval (.tmp 11) = v := ⟨_, rfl⟩
    rw [hv11] at e11
    simp only [List.foldl_cons, List.foldl_nil, Act.put, List.setIfInBounds_toArray, List.set_cons_succ, List.set_cons_zero, e3, e4, e5, e6, e7, hv8, e9, hv10, hv11, e12] at hA
    clear hO hall e3 e4 e5 e6 e7 hv8 e9 hv10 hv11 e12
    subst hA
    exact e11.elim
  | ok y =>
    have HR : Hid ((gnum s key o).read x a = .ok (upd x o (.num y.1), y.2.2)) := Lib.hid (by simp only [gnum, rnum, hr])
    have HN : Hid (∀ w', Below w.heap.size w w' → Calls Tryz.prog 152 #[.pointer (some ⟨rb, 0, none⟩)] w' (fun e w2 => ∃ u, e = .returned u ∧ (u = .tuple #[.int .u64 y.1, .nilIface] ∧ RdB w2 rb s y.2.2 10240 ∧ ExtB (some rb) w' w2))) := Lib.hid (fun w' hb => (Num_tk w' B qb rb s a (H.out.below hb)).mono fun e w2 hh => by rw [hr] at hh; obtain ⟨h1, h2, h3⟩ := tkIs_ok hh; exact ⟨_, h1, rfl, h2, h3⟩)
    have hle : y.2.2 ≤ s.size := (tkR_bd (by decide) hr).1
    clear hr
    go_enter Tryz.func186, Tryz.ntmps186
    refine wp_region_tail 10 5 (some rb) (phis [fun u _ => u = (.pointer (some ⟨tb, o, none⟩)), fun u _ => u = (.pointer (some ⟨qb, 0, none⟩)), fun u _ => u = (.pointer (some ⟨qb, 0, none⟩)), fun u _ => u = (.pointer (some ⟨qb, 0, none⟩)), fun u _ => u = (.pointer (some ⟨rb, 0, none⟩)), fun u w' => u = .tuple #[.int .u64 y.1, .nilIface] ∧ RdB w' rb s y.2.2 10240, fun u _ => u = (.int .u64 y.1), fun u _ => u = (.nilIface), fun u _ => u = (.int .u64 y.1), fun u _ => u = (.pointer (some ⟨tb, o, none⟩))]) rfl (by kernel_rfl) (by kernel_rfl) (mono_of ⟨mono_eq, mono_eq, mono_eq, mono_eq, mono_eq, ?m5, mono_eq, mono_eq, mono_eq, mono_eq, trivial⟩) (steps_of 10 ⟨?s0, ?s1, ?s2, ?s3, ?s4, ?s5, ?s6, ?s7, ?s8, ?s9, trivial⟩) ?_
    case m5 =>
      exact ⟨fun u w1 w2 h ⟨h1, h2⟩ => ⟨h1, h2.below h⟩, fun hn => absurd rfl hn⟩
    case s0 =>
      refine step_val (v := (.pointer (some ⟨tb, o, none⟩))) (fun av wv hE hS hO hD => ?_) (fun _ => rfl)
      have h1 : av.eval (.tmp 1) = (.pointer (some ⟨bx, 0, none⟩)) := hO.2.2 1 rfl
      have f1 := (ev_form av 1).symm.trans h1
      have c1 := extB_cell hE (fun e => hbr (Option.some.inj e)) c1
      have c0 := extB_cell hE (fun e => hqr (Option.some.inj e)) c0
      refine ⟨rfl, ?_⟩
      simp [go_sem, f1, c1, c0]
    case s1 =>
      refine step_val (v := (.pointer (some ⟨qb, 0, none⟩))) (fun av wv hE hS hO hD => ?_) (fun _ => rfl)
      have h0 : av.eval (.tmp 0) = (.pointer (some ⟨qb, 0, none⟩)) := hO.2.2 0 rfl
      have f0 := (ev_form av 0).symm.trans h0
      refine ⟨rfl, ?_⟩
      simp [go_sem, f0]
    case s2 =>
      refine step_val (v := (.pointer (some ⟨qb, 0, none⟩))) (fun av wv hE hS hO hD => ?_) (fun _ => rfl)
      have d4 : av.eval (.tmp 4) = (.pointer (some ⟨qb, 0, none⟩)) := hD.1 rfl _ rfl
      have f4 := (ev_form av 4).symm.trans d4
      refine ⟨rfl, ?_⟩
      simp [go_sem, f4]
    case s3 =>
      refine step_val (v := (.pointer (some ⟨qb, 0, none⟩))) (fun av wv hE hS hO hD => ?_) (fun _ => rfl)
      have d5 : av.eval (.tmp 5) = (.pointer (some ⟨qb, 0, none⟩)) := hD.1 rfl _ rfl
      have f5 := (ev_form av 5).symm.trans d5
      refine ⟨rfl, ?_⟩
      simp [go_sem, f5]
    case s4 =>
      refine step_val (v := (.pointer (some ⟨rb, 0, none⟩))) (fun av wv hE hS hO hD => ?_) (fun _ => rfl)
      have d6 : av.eval (.tmp 6) = (.pointer (some ⟨qb, 0, none⟩)) := hD.1 rfl _ rfl
      have f6 := (ev_form av 6).symm.trans d6
      have c1 := extB_cell hE (fun e => hbr (Option.some.inj e)) c1
      have c0 := extB_cell hE (fun e => hqr (Option.some.inj e)) c0
      refine ⟨rfl, ?_⟩
      simp [go_sem, f6, c1, c0]
    case s5 =>
      refine step_wp (fun av wv hE hS hO hD => ?_)
      have d7 : av.eval (.tmp 7) = (.pointer (some ⟨rb, 0, none⟩)) := hD.1 rfl _ rfl
      have f7 := (ev_form av 7).symm.trans d7
      refine ⟨rfl, ?_⟩
      refine wp_of_callR (f := 152) (args := #[.pointer (some ⟨rb, 0, none⟩)]) (by simp [go_sem, f7]) (HN.out wv (bnext (bdrew (Below.refl _ _)) (hS rfl))) (fun u w2 ⟨h1, h2, h3⟩ => ⟨u, rfl, es_sp h3, h1, h2⟩)
    case s6 =>
      refine step_wp (fun av wv hE hS hO hD => ?_)
      have d8 : (fun u w' => u = .tuple #[.int .u64 y.1, .nilIface] ∧ RdB w' rb s y.2.2 10240) (av.eval (.tmp 8)) wv := hD.1 rfl _ rfl
      refine ⟨rfl, ?_⟩
      have f8 := (ev_form av 8).symm.trans d8.1
      exact wp_of_run (v := .int .u64 y.1) (by simp [go_sem, f8]) ⟨_, rfl, es_of_ext (Ext_refl _), rfl⟩
    case s7 =>
      refine step_wp (fun av wv hE hS hO hD => ?_)
      have d8 : (fun u w' => u = .tuple #[.int .u64 y.1, .nilIface] ∧ RdB w' rb s y.2.2 10240) (av.eval (.tmp 8)) wv := hD.1 rfl _ rfl
      refine ⟨rfl, ?_⟩
      have f8 := (ev_form av 8).symm.trans d8.1
      exact wp_of_run (v := .nilIface) (by simp [go_sem, f8]) ⟨_, rfl, es_of_ext (Ext_refl _), rfl⟩
    case s8 =>
      refine step_wp (fun av wv hE hS hO hD => ?_)
      have d9 : av.eval (.tmp 9) = (.int .u64 y.1) := hD.1 rfl _ rfl
      have f9 := (ev_form av 9).symm.trans d9
      have d10 : av.eval (.tmp 10) = (.nilIface) := hD.2.1 rfl _ rfl
      have f10 := (ev_form av 10).symm.trans d10
      refine ⟨rfl, ?_⟩
      refine wp_of_call (v := .int .u64 y.1) (by simp [go_sem, f9, f10]) ((wholeu_ok y.1 wv).mono (fun e w2 ⟨h1, h2⟩ => ⟨h1, by rw [h2]; exact Below.refl _ _⟩)) (fun w2 hb => ⟨_, rfl, es_of_ext hb, rfl⟩)
    case s9 =>
      refine step_val (v := (.pointer (some ⟨tb, o, none⟩))) (fun av wv hE hS hO hD => ?_) (fun _ => rfl)
      have d3 : av.eval (.tmp 3) = (.pointer (some ⟨tb, o, none⟩)) := hD.1 rfl _ rfl
      have f3 := (ev_form av 3).symm.trans d3
      refine ⟨rfl, ?_⟩
      simp [go_sem, f3]
    intro a' w' hE hO hall
    have hA := act_of_outer (ds := [3, 4, 5, 6, 7, 8, 9, 10, 11, 12]) rfl hO (by kernel_rfl)
    have e3 : (fun u _ => u = (.pointer (some ⟨tb, o, none⟩))) (a'.eval (.tmp 3)) w' := hall.1 _ rfl
    have e4 : (fun u _ => u = (.pointer (some ⟨qb, 0, none⟩))) (a'.eval (.tmp 4)) w' := hall.2.1 _ rfl
    have e5 : (fun u _ => u = (.pointer (some ⟨qb, 0, none⟩))) (a'.eval (.tmp 5)) w' := hall.2.2.1 _ rfl
    have e6 : (fun u _ => u = (.pointer (some ⟨qb, 0, none⟩))) (a'.eval (.tmp 6)) w' := hall.2.2.2.1 _ rfl
    have e7 : (fun u _ => u = (.pointer (some ⟨rb, 0, none⟩))) (a'.eval (.tmp 7)) w' := hall.2.2.2.2.1 _ rfl
    have e8 : (fun u w' => u = .tuple #[.int .u64 y.1, .nilIface] ∧ RdB w' rb s y.2.2 10240) (a'.eval (.tmp 8)) w' := hall.2.2.2.2.2.1 _ rfl
    have e9 : (fun u _ => u = (.int .u64 y.1)) (a'.eval (.tmp 9)) w' := hall.2.2.2.2.2.2.1 _ rfl
    have e10 : (fun u _ => u = (.nilIface)) (a'.eval (.tmp 10)) w' := hall.2.2.2.2.2.2.2.1 _ rfl
    have e11 : (fun u _ => u = (.int .u64 y.1)) (a'.eval (.tmp 11)) w' := hall.2.2.2.2.2.2.2.2.1 _ rfl
    have e12 : (fun u _ => u = (.pointer (some ⟨tb, o, none⟩))) (a'.eval (.tmp 12)) w' := hall.2.2.2.2.2.2.2.2.2.1 _ rfl
    obtain ⟨v8, hv8⟩ : ∃ v, a'.eval (.tmp 8) = v := ⟨_, rfl⟩
    rw [hv8] at e8
    simp only [List.foldl_cons, List.foldl_nil, Act.put, List.setIfInBounds_toArray, List.set_cons_succ, List.set_cons_zero, e3, e4, e5, e6, e7, hv8, e9, e10, e11, e12] at hA
    clear hO hall e3 e4 e5 e6 e7 hv8 e9 e10 e11 e12
    subst hA
    have HRD := Lib.hid e8.2
    have hX2 := HX.out.ext (of_drewE hE) htr
    obtain ⟨u, hu, -⟩ := hX2.get ho
    have hfz := hX2.free o
    have HX2 := Lib.hid hX2
    have HE := Lib.hid (of_drewE hE)
    have e81 := e8.1
    clear hE hX2 e8
    subst e81
    go_wp2
    go_end0
    rw [HR.out]
    exact ⟨(Chg.of_ext HE.out).set o _, rfl, block_setCell_ne HRD.out (by exact fun e => htr e.symm) _, hle, HX2.out.set ho rfl⟩
set_option maxRecDepth 100000 in
set_option maxHeartbeats 2000000 in
theorem flag3_any (B qb rb tb o bx : Nat) (T : TypeId) (n : Nat) (s key : ByteArray) (a : Nat) (x : Rcd) (w : World) (h1 : w.heap[bx]? = some (.cells #[.pointer (some ⟨tb, o, none⟩)] 179 (0, 0))) (hbr : bx ≠ rb) (htr : tb ≠ rb) (ho : o < n)
    (hx : RecAt rb tb T n w x) (h : RdEnv B w qb rb s a) : Calls Tryz.prog 189 #[.pointer (some ⟨qb, 0, none⟩), .pointer (some ⟨bx, 0, none⟩)] w (GetIs ((gflag s key o).read x a) rb tb T n s w) := by
  have H := Lib.hid h
  have HX := Lib.hid hx
  have hqr := h.ne
  have c0 : w.cell? ⟨qb, 0, none⟩ = some (.pointer (some ⟨rb, 0, none⟩)) := block_cell h.q 0
  have c1 : w.cell? ⟨bx, 0, none⟩ = some (.pointer (some ⟨tb, o, none⟩)) := block_cell h1 0
  clear h1 hx h
  cases hr : tkR 0 s a with
  | error f =>
    have HR : Hid ((gflag s key o).read x a = .error f) := Lib.hid (by simp only [gflag, rnum, hr])
    have HN : Hid (∀ w', Below w.heap.size w w' → Calls Tryz.prog 152 #[.pointer (some ⟨rb, 0, none⟩)] w' (fun e w2 => ∃ u, e = .returned u ∧ ((∃ fb, u = .tuple #[.int .u64 0, .iface 127 (.pointer (some ⟨fb, 0, none⟩))] ∧ FltB w2 fb f.1 f.2 ∧ fb ≠ rb) ∧ ExtB (some rb) w' w2))) := Lib.hid (fun w' hb => (Num_tk w' B qb rb s a (H.out.below hb)).mono fun e w2 hh => by rw [hr] at hh; obtain ⟨fb, h1, h2, h3, h4⟩ := tkIs_err hh; exact ⟨_, h1, ⟨fb, rfl, h2, by have := lt_of_block H.out.r; have := hb.size; omega⟩, h3⟩)
    clear hr
    go_enter Tryz.func189, Tryz.ntmps189
    refine wp_region_tail 11 5 (some rb) (phis [fun u _ => u = (.pointer (some ⟨tb, o, none⟩)), fun u _ => u = (.pointer (some ⟨qb, 0, none⟩)), fun u _ => u = (.pointer (some ⟨qb, 0, none⟩)), fun u _ => u = (.pointer (some ⟨qb, 0, none⟩)), fun u _ => u = (.pointer (some ⟨rb, 0, none⟩)), fun u w' => ∃ fb, u = .tuple #[.int .u64 0, .iface 127 (.pointer (some ⟨fb, 0, none⟩))] ∧ FltB w' fb f.1 f.2 ∧ fb ≠ rb, fun u _ => u = (.int .u64 0), fun u w' => ∃ fb, u = .iface 127 (.pointer (some ⟨fb, 0, none⟩)) ∧ FltB w' fb f.1 f.2 ∧ fb ≠ rb, fun _ _ => False, fun _ _ => True, fun u _ => u = (.pointer (some ⟨tb, o, none⟩))]) rfl (by kernel_rfl) (by kernel_rfl) (mono_of ⟨mono_eq, mono_eq, mono_eq, mono_eq, mono_eq, ?m5, mono_eq, ?m7, mono_eq, mono_eq, mono_eq, trivial⟩) (steps_of 11 ⟨?s0, ?s1, ?s2, ?s3, ?s4, ?s5, ?s6, ?s7, ?s8, ?s9, ?s10, trivial⟩) ?_
    case m5 =>
      exact ⟨fun u w1 w2 h ⟨fb, h1, h2, h3⟩ => ⟨fb, h1, h2.below h, h3⟩, fun hn => absurd rfl hn⟩
    case m7 =>
      exact ⟨fun u w1 w2 h ⟨fb, h1, h2, h3⟩ => ⟨fb, h1, h2.below h, h3⟩, fun _ u w1 w2 h ⟨fb, h1, h2, h3⟩ => ⟨fb, h1, extB_block h (fun e => h3 (Option.some.inj e)) h2, h3⟩⟩
    case s0 =>
      refine step_val (v := (.pointer (some ⟨tb, o, none⟩))) (fun av wv hE hS hO hD => ?_) (fun _ => rfl)
      have h1 : av.eval (.tmp 1) = (.pointer (some ⟨bx, 0, none⟩)) := hO.2.2 1 rfl
      have f1 := (ev_form av 1).symm.trans h1
      have c1 := extB_cell hE (fun e => hbr (Option.some.inj e)) c1
      have c0 := extB_cell hE (fun e => hqr (Option.some.inj e)) c0
      refine ⟨rfl, ?_⟩
      simp [go_sem, f1, c1, c0]
    case s1 =>
      refine step_val (v := (.pointer (some ⟨qb, 0, none⟩))) (fun av wv hE hS hO hD => ?_) (fun _ => rfl)
      have h0 : av.eval (.tmp 0) = (.pointer (some ⟨qb, 0, none⟩)) := hO.2.2 0 rfl
      have f0 := (ev_form av 0).symm.trans h0
      refine ⟨rfl, ?_⟩
      simp [go_sem, f0]
    case s2 =>
      refine step_val (v := (.pointer (some ⟨qb, 0, none⟩))) (fun av wv hE hS hO hD => ?_) (fun _ => rfl)
      have d4 : av.eval (.tmp 4) = (.pointer (some ⟨qb, 0, none⟩)) := hD.1 rfl _ rfl
      have f4 := (ev_form av 4).symm.trans d4
      refine ⟨rfl, ?_⟩
      simp [go_sem, f4]
    case s3 =>
      refine step_val (v := (.pointer (some ⟨qb, 0, none⟩))) (fun av wv hE hS hO hD => ?_) (fun _ => rfl)
      have d5 : av.eval (.tmp 5) = (.pointer (some ⟨qb, 0, none⟩)) := hD.1 rfl _ rfl
      have f5 := (ev_form av 5).symm.trans d5
      refine ⟨rfl, ?_⟩
      simp [go_sem, f5]
    case s4 =>
      refine step_val (v := (.pointer (some ⟨rb, 0, none⟩))) (fun av wv hE hS hO hD => ?_) (fun _ => rfl)
      have d6 : av.eval (.tmp 6) = (.pointer (some ⟨qb, 0, none⟩)) := hD.1 rfl _ rfl
      have f6 := (ev_form av 6).symm.trans d6
      have c1 := extB_cell hE (fun e => hbr (Option.some.inj e)) c1
      have c0 := extB_cell hE (fun e => hqr (Option.some.inj e)) c0
      refine ⟨rfl, ?_⟩
      simp [go_sem, f6, c1, c0]
    case s5 =>
      refine step_wp (fun av wv hE hS hO hD => ?_)
      have d7 : av.eval (.tmp 7) = (.pointer (some ⟨rb, 0, none⟩)) := hD.1 rfl _ rfl
      have f7 := (ev_form av 7).symm.trans d7
      refine ⟨rfl, ?_⟩
      refine wp_of_callR (f := 152) (args := #[.pointer (some ⟨rb, 0, none⟩)]) (by simp [go_sem, f7]) (HN.out wv (bnext (bdrew (Below.refl _ _)) (hS rfl))) (fun u w2 ⟨h1, h3⟩ => ⟨u, rfl, es_sp h3, h1⟩)
    case s6 =>
      refine step_wp (fun av wv hE hS hO hD => ?_)
      have d8 : (fun u w' => ∃ fb, u = .tuple #[.int .u64 0, .iface 127 (.pointer (some ⟨fb, 0, none⟩))] ∧ FltB w' fb f.1 f.2 ∧ fb ≠ rb) (av.eval (.tmp 8)) wv := hD.1 rfl _ rfl
      refine ⟨rfl, ?_⟩
      obtain ⟨fb, hu8, -, -⟩ := d8
      have f8 := (ev_form av 8).symm.trans hu8
      exact wp_of_run (v := .int .u64 0) (by simp [go_sem, f8]) ⟨_, rfl, es_of_ext (Ext_refl _), rfl⟩
    case s7 =>
      refine step_wp (fun av wv hE hS hO hD => ?_)
      have d8 : (fun u w' => ∃ fb, u = .tuple #[.int .u64 0, .iface 127 (.pointer (some ⟨fb, 0, none⟩))] ∧ FltB w' fb f.1 f.2 ∧ fb ≠ rb) (av.eval (.tmp 8)) wv := hD.1 rfl _ rfl
      refine ⟨rfl, ?_⟩
      obtain ⟨fb, hu8, hf8, hn8⟩ := d8
      have f8 := (ev_form av 8).symm.trans hu8
      exact wp_of_run (v := .iface 127 (.pointer (some ⟨fb, 0, none⟩))) (by simp [go_sem, f8]) ⟨_, rfl, es_of_ext (Ext_refl _), fb, rfl, hf8, hn8⟩
    case s8 =>
      refine step_wp (fun av wv hE hS hO hD => ?_)
      have d9 : av.eval (.tmp 9) = (.int .u64 0) := hD.1 rfl _ rfl
      have f9 := (ev_form av 9).symm.trans d9
      have d10 : (fun u w' => ∃ fb, u = .iface 127 (.pointer (some ⟨fb, 0, none⟩)) ∧ FltB w' fb f.1 f.2 ∧ fb ≠ rb) (av.eval (.tmp 10)) wv := hD.2.1 rfl _ rfl
      refine ⟨rfl, ?_⟩
      obtain ⟨fb, hu10, hf, hn8⟩ := d10
      have f10 := (ev_form av 10).symm.trans hu10
      refine wp_of_panic (chain := stopC fb) (by simp [go_sem, f9, f10]) ((wholeu_no 0 fb wv).mono (fun e w2 ⟨h1, h2⟩ => ⟨h1, by rw [h2]; exact Below.refl _ _⟩)) (fun w2 hb => ?_)
      exact ⟨hO.1, by rw [HR.out]; exact ⟨(Chg.of_ext (of_drewE hE)).next hb, fb, rfl, hf.below hb, ((HX.out.ext (of_drewE hE) htr).below hb).thAt⟩⟩
    case s9 =>
      refine step_wp (fun av wv hE hS hO hD => ?_)
      have d11 : (fun _ _ => False) (av.eval (.tmp 11)) wv := hD.1 rfl _ rfl
      refine ⟨rfl, ?_⟩
      exact d11.elim
    case s10 =>
      refine step_val (v := (.pointer (some ⟨tb, o, none⟩))) (fun av wv hE hS hO hD => ?_) (fun _ => rfl)
      have d3 : av.eval (.tmp 3) = (.pointer (some ⟨tb, o, none⟩)) := hD.1 rfl _ rfl
      have f3 := (ev_form av 3).symm.trans d3
      refine ⟨rfl, ?_⟩
      simp [go_sem, f3]
    intro a' w' hE hO hall
    have hA := act_of_outer (ds := [3, 4, 5, 6, 7, 8, 9, 10, 11, 12, 13]) rfl hO (by kernel_rfl)
    have e3 : (fun u _ => u = (.pointer (some ⟨tb, o, none⟩))) (a'.eval (.tmp 3)) w' := hall.1 _ rfl
    have e4 : (fun u _ => u = (.pointer (some ⟨qb, 0, none⟩))) (a'.eval (.tmp 4)) w' := hall.2.1 _ rfl
    have e5 : (fun u _ => u = (.pointer (some ⟨qb, 0, none⟩))) (a'.eval (.tmp 5)) w' := hall.2.2.1 _ rfl
    have e6 : (fun u _ => u = (.pointer (some ⟨qb, 0, none⟩))) (a'.eval (.tmp 6)) w' := hall.2.2.2.1 _ rfl
    have e7 : (fun u _ => u = (.pointer (some ⟨rb, 0, none⟩))) (a'.eval (.tmp 7)) w' := hall.2.2.2.2.1 _ rfl
    have e8 : (fun u w' => ∃ fb, u = .tuple #[.int .u64 0, .iface 127 (.pointer (some ⟨fb, 0, none⟩))] ∧ FltB w' fb f.1 f.2 ∧ fb ≠ rb) (a'.eval (.tmp 8)) w' := hall.2.2.2.2.2.1 _ rfl
    have e9 : (fun u _ => u = (.int .u64 0)) (a'.eval (.tmp 9)) w' := hall.2.2.2.2.2.2.1 _ rfl
    have e10 : (fun u w' => ∃ fb, u = .iface 127 (.pointer (some ⟨fb, 0, none⟩)) ∧ FltB w' fb f.1 f.2 ∧ fb ≠ rb) (a'.eval (.tmp 10)) w' := hall.2.2.2.2.2.2.2.1 _ rfl
    have e11 : (fun _ _ => False) (a'.eval (.tmp 11)) w' := hall.2.2.2.2.2.2.2.2.1 _ rfl
    have e12 : (fun _ _ => True) (a'.eval (.tmp 12)) w' := hall.2.2.2.2.2.2.2.2.2.1 _ rfl
    have e13 : (fun u _ => u = (.pointer (some ⟨tb, o, none⟩))) (a'.eval (.tmp 13)) w' := hall.2.2.2.2.2.2.2.2.2.2.1 _ rfl
    obtain ⟨v8, hv8⟩ : ∃ v, a'.eval (.tmp 8) = v := ⟨_, rfl⟩
    rw [hv8] at e8
    obtain ⟨v10, hv10⟩ : ∃ v, a'.eval (.tmp 10) = v := ⟨_, rfl⟩
    rw [hv10] at e10
    obtain ⟨v11, hv11⟩ : ∃ v, a'.eval (.tmp 11) = v := ⟨_, rfl⟩
    rw [hv11] at e11
    obtain ⟨v12, hv12⟩ : ∃ v, a'.eval (.tmp 12) = v := ⟨_, rfl⟩
    rw [hv12] at e12
    simp only [List.foldl_cons, List.foldl_nil, Act.put, List.setIfInBounds_toArray, List.set_cons_succ, List.set_cons_zero, e3, e4, e5, e6, e7, hv8, e9, hv10, hv11, hv12, e13] at hA
    clear hO hall e3 e4 e5 e6 e7 hv8 e9 hv10 hv11 hv12 e13
    subst hA
    exact e11.elim
  | ok y =>
    have HR : Hid ((gflag s key o).read x a = .ok (upd x o (.flag (y.1 == 1)), y.2.2)) := Lib.hid (by simp only [gflag, rnum, hr])
    have HN : Hid (∀ w', Below w.heap.size w w' → Calls Tryz.prog 152 #[.pointer (some ⟨rb, 0, none⟩)] w' (fun e w2 => ∃ u, e = .returned u ∧ (u = .tuple #[.int .u64 y.1, .nilIface] ∧ RdB w2 rb s y.2.2 10240 ∧ ExtB (some rb) w' w2))) := Lib.hid (fun w' hb => (Num_tk w' B qb rb s a (H.out.below hb)).mono fun e w2 hh => by rw [hr] at hh; obtain ⟨h1, h2, h3⟩ := tkIs_ok hh; exact ⟨_, h1, rfl, h2, h3⟩)
    have hle : y.2.2 ≤ s.size := (tkR_bd (by decide) hr).1
    clear hr
    go_enter Tryz.func189, Tryz.ntmps189
    refine wp_region_tail 11 5 (some rb) (phis [fun u _ => u = (.pointer (some ⟨tb, o, none⟩)), fun u _ => u = (.pointer (some ⟨qb, 0, none⟩)), fun u _ => u = (.pointer (some ⟨qb, 0, none⟩)), fun u _ => u = (.pointer (some ⟨qb, 0, none⟩)), fun u _ => u = (.pointer (some ⟨rb, 0, none⟩)), fun u w' => u = .tuple #[.int .u64 y.1, .nilIface] ∧ RdB w' rb s y.2.2 10240, fun u _ => u = (.int .u64 y.1), fun u _ => u = (.nilIface), fun u _ => u = (.int .u64 y.1), fun u _ => u = (.bool (y.1 == 1)), fun u _ => u = (.pointer (some ⟨tb, o, none⟩))]) rfl (by kernel_rfl) (by kernel_rfl) (mono_of ⟨mono_eq, mono_eq, mono_eq, mono_eq, mono_eq, ?m5, mono_eq, mono_eq, mono_eq, mono_eq, mono_eq, trivial⟩) (steps_of 11 ⟨?s0, ?s1, ?s2, ?s3, ?s4, ?s5, ?s6, ?s7, ?s8, ?s9, ?s10, trivial⟩) ?_
    case m5 =>
      exact ⟨fun u w1 w2 h ⟨h1, h2⟩ => ⟨h1, h2.below h⟩, fun hn => absurd rfl hn⟩
    case s0 =>
      refine step_val (v := (.pointer (some ⟨tb, o, none⟩))) (fun av wv hE hS hO hD => ?_) (fun _ => rfl)
      have h1 : av.eval (.tmp 1) = (.pointer (some ⟨bx, 0, none⟩)) := hO.2.2 1 rfl
      have f1 := (ev_form av 1).symm.trans h1
      have c1 := extB_cell hE (fun e => hbr (Option.some.inj e)) c1
      have c0 := extB_cell hE (fun e => hqr (Option.some.inj e)) c0
      refine ⟨rfl, ?_⟩
      simp [go_sem, f1, c1, c0]
    case s1 =>
      refine step_val (v := (.pointer (some ⟨qb, 0, none⟩))) (fun av wv hE hS hO hD => ?_) (fun _ => rfl)
      have h0 : av.eval (.tmp 0) = (.pointer (some ⟨qb, 0, none⟩)) := hO.2.2 0 rfl
      have f0 := (ev_form av 0).symm.trans h0
      refine ⟨rfl, ?_⟩
      simp [go_sem, f0]
    case s2 =>
      refine step_val (v := (.pointer (some ⟨qb, 0, none⟩))) (fun av wv hE hS hO hD => ?_) (fun _ => rfl)
      have d4 : av.eval (.tmp 4) = (.pointer (some ⟨qb, 0, none⟩)) := hD.1 rfl _ rfl
      have f4 := (ev_form av 4).symm.trans d4
      refine ⟨rfl, ?_⟩
      simp [go_sem, f4]
    case s3 =>
      refine step_val (v := (.pointer (some ⟨qb, 0, none⟩))) (fun av wv hE hS hO hD => ?_) (fun _ => rfl)
      have d5 : av.eval (.tmp 5) = (.pointer (some ⟨qb, 0, none⟩)) := hD.1 rfl _ rfl
      have f5 := (ev_form av 5).symm.trans d5
      refine ⟨rfl, ?_⟩
      simp [go_sem, f5]
    case s4 =>
      refine step_val (v := (.pointer (some ⟨rb, 0, none⟩))) (fun av wv hE hS hO hD => ?_) (fun _ => rfl)
      have d6 : av.eval (.tmp 6) = (.pointer (some ⟨qb, 0, none⟩)) := hD.1 rfl _ rfl
      have f6 := (ev_form av 6).symm.trans d6
      have c1 := extB_cell hE (fun e => hbr (Option.some.inj e)) c1
      have c0 := extB_cell hE (fun e => hqr (Option.some.inj e)) c0
      refine ⟨rfl, ?_⟩
      simp [go_sem, f6, c1, c0]
    case s5 =>
      refine step_wp (fun av wv hE hS hO hD => ?_)
      have d7 : av.eval (.tmp 7) = (.pointer (some ⟨rb, 0, none⟩)) := hD.1 rfl _ rfl
      have f7 := (ev_form av 7).symm.trans d7
      refine ⟨rfl, ?_⟩
      refine wp_of_callR (f := 152) (args := #[.pointer (some ⟨rb, 0, none⟩)]) (by simp [go_sem, f7]) (HN.out wv (bnext (bdrew (Below.refl _ _)) (hS rfl))) (fun u w2 ⟨h1, h2, h3⟩ => ⟨u, rfl, es_sp h3, h1, h2⟩)
    case s6 =>
      refine step_wp (fun av wv hE hS hO hD => ?_)
      have d8 : (fun u w' => u = .tuple #[.int .u64 y.1, .nilIface] ∧ RdB w' rb s y.2.2 10240) (av.eval (.tmp 8)) wv := hD.1 rfl _ rfl
      refine ⟨rfl, ?_⟩
      have f8 := (ev_form av 8).symm.trans d8.1
      exact wp_of_run (v := .int .u64 y.1) (by simp [go_sem, f8]) ⟨_, rfl, es_of_ext (Ext_refl _), rfl⟩
    case s7 =>
      refine step_wp (fun av wv hE hS hO hD => ?_)
      have d8 : (fun u w' => u = .tuple #[.int .u64 y.1, .nilIface] ∧ RdB w' rb s y.2.2 10240) (av.eval (.tmp 8)) wv := hD.1 rfl _ rfl
      refine ⟨rfl, ?_⟩
      have f8 := (ev_form av 8).symm.trans d8.1
      exact wp_of_run (v := .nilIface) (by simp [go_sem, f8]) ⟨_, rfl, es_of_ext (Ext_refl _), rfl⟩
    case s8 =>
      refine step_wp (fun av wv hE hS hO hD => ?_)
      have d9 : av.eval (.tmp 9) = (.int .u64 y.1) := hD.1 rfl _ rfl
      have f9 := (ev_form av 9).symm.trans d9
      have d10 : av.eval (.tmp 10) = (.nilIface) := hD.2.1 rfl _ rfl
      have f10 := (ev_form av 10).symm.trans d10
      refine ⟨rfl, ?_⟩
      refine wp_of_call (v := .int .u64 y.1) (by simp [go_sem, f9, f10]) ((wholeu_ok y.1 wv).mono (fun e w2 ⟨h1, h2⟩ => ⟨h1, by rw [h2]; exact Below.refl _ _⟩)) (fun w2 hb => ⟨_, rfl, es_of_ext hb, rfl⟩)
    case s9 =>
      refine step_val (v := (.bool (y.1 == 1))) (fun av wv hE hS hO hD => ?_) (fun _ => rfl)
      have d11 : av.eval (.tmp 11) = (.int .u64 y.1) := hD.1 rfl _ rfl
      have f11 := (ev_form av 11).symm.trans d11
      refine ⟨rfl, ?_⟩
      simp [go_sem, f11]
    case s10 =>
      refine step_val (v := (.pointer (some ⟨tb, o, none⟩))) (fun av wv hE hS hO hD => ?_) (fun _ => rfl)
      have d3 : av.eval (.tmp 3) = (.pointer (some ⟨tb, o, none⟩)) := hD.1 rfl _ rfl
      have f3 := (ev_form av 3).symm.trans d3
      refine ⟨rfl, ?_⟩
      simp [go_sem, f3]
    intro a' w' hE hO hall
    have hA := act_of_outer (ds := [3, 4, 5, 6, 7, 8, 9, 10, 11, 12, 13]) rfl hO (by kernel_rfl)
    have e3 : (fun u _ => u = (.pointer (some ⟨tb, o, none⟩))) (a'.eval (.tmp 3)) w' := hall.1 _ rfl
    have e4 : (fun u _ => u = (.pointer (some ⟨qb, 0, none⟩))) (a'.eval (.tmp 4)) w' := hall.2.1 _ rfl
    have e5 : (fun u _ => u = (.pointer (some ⟨qb, 0, none⟩))) (a'.eval (.tmp 5)) w' := hall.2.2.1 _ rfl
    have e6 : (fun u _ => u = (.pointer (some ⟨qb, 0, none⟩))) (a'.eval (.tmp 6)) w' := hall.2.2.2.1 _ rfl
    have e7 : (fun u _ => u = (.pointer (some ⟨rb, 0, none⟩))) (a'.eval (.tmp 7)) w' := hall.2.2.2.2.1 _ rfl
    have e8 : (fun u w' => u = .tuple #[.int .u64 y.1, .nilIface] ∧ RdB w' rb s y.2.2 10240) (a'.eval (.tmp 8)) w' := hall.2.2.2.2.2.1 _ rfl
    have e9 : (fun u _ => u = (.int .u64 y.1)) (a'.eval (.tmp 9)) w' := hall.2.2.2.2.2.2.1 _ rfl
    have e10 : (fun u _ => u = (.nilIface)) (a'.eval (.tmp 10)) w' := hall.2.2.2.2.2.2.2.1 _ rfl
    have e11 : (fun u _ => u = (.int .u64 y.1)) (a'.eval (.tmp 11)) w' := hall.2.2.2.2.2.2.2.2.1 _ rfl
    have e12 : (fun u _ => u = (.bool (y.1 == 1))) (a'.eval (.tmp 12)) w' := hall.2.2.2.2.2.2.2.2.2.1 _ rfl
    have e13 : (fun u _ => u = (.pointer (some ⟨tb, o, none⟩))) (a'.eval (.tmp 13)) w' := hall.2.2.2.2.2.2.2.2.2.2.1 _ rfl
    obtain ⟨v8, hv8⟩ : ∃ v, a'.eval (.tmp 8) = v := ⟨_, rfl⟩
    rw [hv8] at e8
    simp only [List.foldl_cons, List.foldl_nil, Act.put, List.setIfInBounds_toArray, List.set_cons_succ, List.set_cons_zero, e3, e4, e5, e6, e7, hv8, e9, e10, e11, e12, e13] at hA
    clear hO hall e3 e4 e5 e6 e7 hv8 e9 e10 e11 e12 e13
    subst hA
    have HRD := Lib.hid e8.2
    have hX2 := HX.out.ext (of_drewE hE) htr
    obtain ⟨u, hu, -⟩ := hX2.get ho
    have hfz := hX2.free o
    have HX2 := Lib.hid hX2
    have HE := Lib.hid (of_drewE hE)
    have e81 := e8.1
    clear hE hX2 e8
    subst e81
    go_wp2
    go_end0
    rw [HR.out]
    exact ⟨(Chg.of_ext HE.out).set o _, rfl, block_setCell_ne HRD.out (by exact fun e => htr e.symm) _, hle, HX2.out.set ho rfl⟩
theorem rdig_le {s : ByteArray} {a : Nat} {y : ByteArray × Nat} (h : rdig s a = .ok y) : y.2 ≤ s.size := by
  unfold rdig at h
  split at h
  · cases h
  · next x hx =>
    split at h
    · cases h; exact (tkR_bd (by decide) hx).1
    · cases h
set_option maxRecDepth 100000 in
set_option maxHeartbeats 2000000 in
theorem digest4_any (B qb rb tb o bx : Nat) (T : TypeId) (n : Nat) (s key : ByteArray) (a : Nat) (x : Rcd) (w : World) (h1 : w.heap[bx]? = some (.cells #[.pointer (some ⟨tb, o, none⟩)] 181 (0, 0))) (hbr : bx ≠ rb) (htr : tb ≠ rb) (ho : o < n)
    (hx : RecAt rb tb T n w x) (h : RdEnv B w qb rb s a) : Calls Tryz.prog 194 #[.pointer (some ⟨qb, 0, none⟩), .pointer (some ⟨bx, 0, none⟩)] w (GetIs ((gdig s key o).read x a) rb tb T n s w) := by
  have H := Lib.hid h
  have HX := Lib.hid hx
  have hqr := h.ne
  have c0 : w.cell? ⟨qb, 0, none⟩ = some (.pointer (some ⟨rb, 0, none⟩)) := block_cell h.q 0
  have c1 : w.cell? ⟨bx, 0, none⟩ = some (.pointer (some ⟨tb, o, none⟩)) := block_cell h1 0
  clear h1 hx h
  cases hr : rdig s a with
  | error f =>
    have HR : Hid ((gdig s key o).read x a = .error f) := Lib.hid (by simp only [gdig, hr])
    have HN : Hid (∀ w', Below w.heap.size w w' → Calls Tryz.prog 195 #[.pointer (some ⟨qb, 0, none⟩)] w' (fun e w2 => ∃ fb, e = .panicked (stopC fb) ∧ (FltB w2 fb f.1 f.2 ∧ ExtB (some rb) w' w2))) := Lib.hid (fun w' hb => (dgRead_any B qb rb s a w' (H.out.below hb)).mono fun e w2 hh => by rw [hr] at hh; obtain ⟨fb, h1, h2, h3⟩ := vIs_err hh; exact ⟨fb, h1, h2, h3⟩)
    clear hr
    go_enter Tryz.func194, Tryz.ntmps194
    refine wp_region_tail 4 2 (some rb) (phis [fun u _ => u = (.pointer (some ⟨tb, o, none⟩)), fun u _ => u = (.pointer (some ⟨qb, 0, none⟩)), fun _ _ => False, fun u _ => u = (.pointer (some ⟨tb, o, none⟩))]) rfl (by kernel_rfl) (by kernel_rfl) (mono_of ⟨mono_eq, mono_eq, mono_eq, mono_eq, trivial⟩) (steps_of 4 ⟨?s0, ?s1, ?s2, ?s3, trivial⟩) ?_
    case s0 =>
      refine step_val (v := (.pointer (some ⟨tb, o, none⟩))) (fun av wv hE hS hO hD => ?_) (fun _ => rfl)
      have h1 : av.eval (.tmp 1) = (.pointer (some ⟨bx, 0, none⟩)) := hO.2.2 1 rfl
      have f1 := (ev_form av 1).symm.trans h1
      have c1 := extB_cell hE (fun e => hbr (Option.some.inj e)) c1
      have c0 := extB_cell hE (fun e => hqr (Option.some.inj e)) c0
      refine ⟨rfl, ?_⟩
      simp [go_sem, f1, c1, c0]
    case s1 =>
      refine step_val (v := (.pointer (some ⟨qb, 0, none⟩))) (fun av wv hE hS hO hD => ?_) (fun _ => rfl)
      have h0 : av.eval (.tmp 0) = (.pointer (some ⟨qb, 0, none⟩)) := hO.2.2 0 rfl
      have f0 := (ev_form av 0).symm.trans h0
      refine ⟨rfl, ?_⟩
      simp [go_sem, f0]
    case s2 =>
      refine step_wp (fun av wv hE hS hO hD => ?_)
      have d4 : av.eval (.tmp 4) = (.pointer (some ⟨qb, 0, none⟩)) := hD.1 rfl _ rfl
      have f4 := (ev_form av 4).symm.trans d4
      refine ⟨rfl, ?_⟩
      refine wp_of_panicR (f := 195) (args := #[.pointer (some ⟨qb, 0, none⟩)]) (by simp [go_sem, f4]) (HN.out wv (bnext (bdrew (Below.refl _ _)) (hS rfl))) (fun fb w2 ⟨hf, hE2⟩ => ?_)
      exact ⟨hO.1, by rw [HR.out]; exact ⟨(Chg.of_ext (of_drewE hE)).ext hE2, fb, rfl, hf, ((HX.out.ext (of_drewE hE) htr).ext hE2 htr).thAt⟩⟩
    case s3 =>
      refine step_val (v := (.pointer (some ⟨tb, o, none⟩))) (fun av wv hE hS hO hD => ?_) (fun _ => rfl)
      have d3 : av.eval (.tmp 3) = (.pointer (some ⟨tb, o, none⟩)) := hD.1 rfl _ rfl
      have f3 := (ev_form av 3).symm.trans d3
      refine ⟨rfl, ?_⟩
      simp [go_sem, f3]
    intro a' w' hE hO hall
    have hA := act_of_outer (ds := [3, 4, 5, 6]) rfl hO (by kernel_rfl)
    have e3 : (fun u _ => u = (.pointer (some ⟨tb, o, none⟩))) (a'.eval (.tmp 3)) w' := hall.1 _ rfl
    have e4 : (fun u _ => u = (.pointer (some ⟨qb, 0, none⟩))) (a'.eval (.tmp 4)) w' := hall.2.1 _ rfl
    have e5 : (fun _ _ => False) (a'.eval (.tmp 5)) w' := hall.2.2.1 _ rfl
    have e6 : (fun u _ => u = (.pointer (some ⟨tb, o, none⟩))) (a'.eval (.tmp 6)) w' := hall.2.2.2.1 _ rfl
    obtain ⟨v5, hv5⟩ : ∃ v, a'.eval (.tmp 5) = v := ⟨_, rfl⟩
    rw [hv5] at e5
    simp only [List.foldl_cons, List.foldl_nil, Act.put, List.setIfInBounds_toArray, List.set_cons_succ, List.set_cons_zero, e3, e4, hv5, e6] at hA
    clear hO hall e3 e4 hv5 e6
    subst hA
    exact e5.elim
  | ok y =>
    have HR : Hid ((gdig s key o).read x a = .ok (upd x o (.str y.1), y.2)) := Lib.hid (by simp only [gdig, hr])
    have HN : Hid (∀ w', Below w.heap.size w w' → Calls Tryz.prog 195 #[.pointer (some ⟨qb, 0, none⟩)] w' (fun e w2 => ∃ u, e = .returned u ∧ (u = .string y.1 ∧ RdB w2 rb s y.2 10240 ∧ ExtB (some rb) w' w2))) := Lib.hid (fun w' hb => (dgRead_any B qb rb s a w' (H.out.below hb)).mono fun e w2 hh => by rw [hr] at hh; obtain ⟨h1, h2, h4, h3⟩ := vIs_ok hh; exact ⟨_, h1, rfl, h2, h3⟩)
    have hle : y.2 ≤ s.size := rdig_le hr
    clear hr
    go_enter Tryz.func194, Tryz.ntmps194
    refine wp_region_tail 4 2 (some rb) (phis [fun u _ => u = (.pointer (some ⟨tb, o, none⟩)), fun u _ => u = (.pointer (some ⟨qb, 0, none⟩)), fun u w' => u = .string y.1 ∧ RdB w' rb s y.2 10240, fun u _ => u = (.pointer (some ⟨tb, o, none⟩))]) rfl (by kernel_rfl) (by kernel_rfl) (mono_of ⟨mono_eq, mono_eq, ?m2, mono_eq, trivial⟩) (steps_of 4 ⟨?s0, ?s1, ?s2, ?s3, trivial⟩) ?_
    case m2 =>
      exact ⟨fun u w1 w2 h ⟨h1, h2⟩ => ⟨h1, h2.below h⟩, fun hn => absurd rfl hn⟩
    case s0 =>
      refine step_val (v := (.pointer (some ⟨tb, o, none⟩))) (fun av wv hE hS hO hD => ?_) (fun _ => rfl)
      have h1 : av.eval (.tmp 1) = (.pointer (some ⟨bx, 0, none⟩)) := hO.2.2 1 rfl
      have f1 := (ev_form av 1).symm.trans h1
      have c1 := extB_cell hE (fun e => hbr (Option.some.inj e)) c1
      have c0 := extB_cell hE (fun e => hqr (Option.some.inj e)) c0
      refine ⟨rfl, ?_⟩
      simp [go_sem, f1, c1, c0]
    case s1 =>
      refine step_val (v := (.pointer (some ⟨qb, 0, none⟩))) (fun av wv hE hS hO hD => ?_) (fun _ => rfl)
      have h0 : av.eval (.tmp 0) = (.pointer (some ⟨qb, 0, none⟩)) := hO.2.2 0 rfl
      have f0 := (ev_form av 0).symm.trans h0
      refine ⟨rfl, ?_⟩
      simp [go_sem, f0]
    case s2 =>
      refine step_wp (fun av wv hE hS hO hD => ?_)
      have d4 : av.eval (.tmp 4) = (.pointer (some ⟨qb, 0, none⟩)) := hD.1 rfl _ rfl
      have f4 := (ev_form av 4).symm.trans d4
      refine ⟨rfl, ?_⟩
      refine wp_of_callR (f := 195) (args := #[.pointer (some ⟨qb, 0, none⟩)]) (by simp [go_sem, f4]) (HN.out wv (bnext (bdrew (Below.refl _ _)) (hS rfl))) (fun u w2 ⟨h1, h2, h3⟩ => ⟨u, rfl, es_sp h3, h1, h2⟩)
    case s3 =>
      refine step_val (v := (.pointer (some ⟨tb, o, none⟩))) (fun av wv hE hS hO hD => ?_) (fun _ => rfl)
      have d3 : av.eval (.tmp 3) = (.pointer (some ⟨tb, o, none⟩)) := hD.1 rfl _ rfl
      have f3 := (ev_form av 3).symm.trans d3
      refine ⟨rfl, ?_⟩
      simp [go_sem, f3]
    intro a' w' hE hO hall
    have hA := act_of_outer (ds := [3, 4, 5, 6]) rfl hO (by kernel_rfl)
    have e3 : (fun u _ => u = (.pointer (some ⟨tb, o, none⟩))) (a'.eval (.tmp 3)) w' := hall.1 _ rfl
    have e4 : (fun u _ => u = (.pointer (some ⟨qb, 0, none⟩))) (a'.eval (.tmp 4)) w' := hall.2.1 _ rfl
    have e5 : (fun u w' => u = .string y.1 ∧ RdB w' rb s y.2 10240) (a'.eval (.tmp 5)) w' := hall.2.2.1 _ rfl
    have e6 : (fun u _ => u = (.pointer (some ⟨tb, o, none⟩))) (a'.eval (.tmp 6)) w' := hall.2.2.2.1 _ rfl
    obtain ⟨v5, hv5⟩ : ∃ v, a'.eval (.tmp 5) = v := ⟨_, rfl⟩
    rw [hv5] at e5
    simp only [List.foldl_cons, List.foldl_nil, Act.put, List.setIfInBounds_toArray, List.set_cons_succ, List.set_cons_zero, e3, e4, hv5, e6] at hA
    clear hO hall e3 e4 hv5 e6
    subst hA
    have HRD := Lib.hid e5.2
    have hX2 := HX.out.ext (of_drewE hE) htr
    obtain ⟨u, hu, -⟩ := hX2.get ho
    have hfz := hX2.free o
    have HX2 := Lib.hid hX2
    have HE := Lib.hid (of_drewE hE)
    have e51 := e5.1
    clear hE hX2 e5
    subst e51
    go_wp2
    go_end0
    rw [HR.out]
    exact ⟨(Chg.of_ext HE.out).set o _, rfl, block_setCell_ne HRD.out (by exact fun e => htr e.symm) _, hle, HX2.out.set ho rfl⟩
end Go.Proofs.YtihiaopilnjonaaGreatDoor
namespace Go.Proofs.YtihiaopilnjonaaGreatDoor
open Go.RowKit
set_option linter.unusedSimpArgs false
set_option linter.unusedVariables false
theorem extS_cell {VO : Nat → Option Nat} {w w1 : World} (h : ExtS VO w.drew w1) {b o : Nat} (hn : ∀ j, VO j ≠ some b) {v : Value} (hc : w.cell? ⟨b, o, none⟩ = some v) : w1.cell? ⟨b, o, none⟩ = some v := by
  rw [World.cell?_of_block (w := w) (h.block b (lt_of_cell hc) hn)]; exact hc
theorem told_none (w : World) : Calls Tryz.prog 31 #[.nilIface, .agg #[.int .i64 0, .int .i64 0]] w fun e w' => e = .returned (.bool true) ∧ Below w.heap.size w w' := by
  go_enter Tryz.func31, Tryz.ntmps31
  go_wp2
  go_ret
  exact ⟨rfl, by (repeat (first | exact Below.refl _ _ | assumption | (refine bdrew ?_) | (refine bdrewN ?_ _) | (refine balloc ?_ _) | (refine bset ?_ (by first | omega | (simp; done) | (simp; omega)) _) | (refine bnext ?_ (by assumption))))⟩
set_option maxRecDepth 100000 in
set_option maxHeartbeats 4000000 in
theorem told_fault (fb : Nat) (k : Int) (a : Nat) (w : World) (het : ErrType w) (h : FltB w fb k a) (hk : k ≠ 0) (hg : 0 < w.heap.size) : Calls Tryz.prog 31 #[.iface 127 (.pointer (some ⟨fb, 0, none⟩)), .agg #[.int .i64 k, .int .i64 a]] w fun e w' => e = .returned (.bool true) ∧ Below w.heap.size w w' := by
  have H := Lib.hid h
  have HET0 := Lib.hid het
  have hk1 : (k == 0) = false := by simpa using hk
  have hfl := lt_of_block h
  clear h het hk
  go_enter Tryz.func31, Tryz.ntmps31
  go_upto_region 4 with fail
  obtain ⟨b3, hb3⟩ : ∃ b3, w.heap.size = b3 := ⟨_, rfl⟩
  obtain ⟨W, hW⟩ : ∃ W, (w.alloc (.cells #[.int .i64 k, .int .i64 a] 63)).alloc (.cells #[.pointer none] 127) = W := ⟨_, rfl⟩
  have WB : Hid (Below w.heap.size w W) := Lib.hid (by rw [← hW]; exact balloc (balloc (Below.refl _ _) _) _)
  have W3 : Hid (W.heap[b3]? = some (.cells #[.int .i64 k, .int .i64 a] 63 (0, 0))) := Lib.hid (by rw [← hW, ← hb3]; exact block_alloc (heap_alloc_new _ _) _)
  obtain ⟨gb, hgb⟩ : ∃ gb, b3 + 1 = gb := ⟨_, rfl⟩
  have WG : Hid (W.heap[gb]? = some (.cells #[.pointer none] 127 (0, 0))) := Lib.hid (by rw [← hW, ← hgb]; exact alloc_new_at _ (by simp [hb3]))
  try rw [hW]
  try simp only [hb3, hgb]
  have hyg : fb ≠ gb := by omega
  have hzg : b3 ≠ gb := by omega
  have hgg : 0 ≠ gb := by omega
  have HET : Hid (ErrType W) := Lib.hid (HET0.out.below WB.out)
  have y0 : W.cell? ⟨fb, 0, none⟩ = some (.int .i64 k) := block_cell (H.out.below WB.out) 0
  have y1 : W.cell? ⟨fb, 1, none⟩ = some (.int .i64 a) := block_cell (H.out.below WB.out) 1
  have z0 : W.cell? ⟨b3, 0, none⟩ = some (.int .i64 k) := block_cell W3.out 0
  have z1 : W.cell? ⟨b3, 1, none⟩ = some (.int .i64 a) := block_cell W3.out 1
  have HGB : Hid (w.heap.size ≤ gb) := Lib.hid (by omega)
  clear hW hb3 hgb
  obtain ⟨VO, hVO⟩ : ∃ VO : Nat → Option Nat, VO = fun j => if j = 2 then some (gb) else none := ⟨_, rfl⟩
  have vok : VO 2 = some (gb) := by rw [hVO]; rfl
  have von : ∀ j, j ≠ 2 → VO j = none := fun j h1 => by rw [hVO]; simp [h1]
  have vob : ∀ j b, b ≠ gb → VO j ≠ some b := fun j b hb => by
    by_cases h : j = 2
    · subst h; rw [vok]; simp; exact fun e => hb e.symm
    · rw [von j h]; simp
  clear hVO
  have xrefl : ∀ j w, (fun (_ : Nat) (w1 w2 : World) => w1.heap[gb]? = some (.cells #[.pointer (some ⟨fb, 0, none⟩)] 127 (0, 0)) → w2.heap[gb]? = some (.cells #[.pointer (some ⟨fb, 0, none⟩)] 127 (0, 0))) j w w := fun j w h => h
  have voi : ∀ i j b, VO i = some b → VO j = some b → i = j := fun i j b h1 h2 => by
    by_cases e1 : i = 2
    · by_cases e2 : j = 2
      · rw [e1, e2]
      · rw [von j e2] at h2; cases h2
    · rw [von i e1] at h1; cases h1
  refine wp_region_tailV 17 VO voi (fun (_ : Nat) (w1 w2 : World) => w1.heap[gb]? = some (.cells #[.pointer (some ⟨fb, 0, none⟩)] 127 (0, 0)) → w2.heap[gb]? = some (.cells #[.pointer (some ⟨fb, 0, none⟩)] 127 (0, 0))) (fun _ => True) (fun _ _ _ _ _ => True) xrefl trivial (phis [fun u _ => u = (.iface 127 (.pointer (some ⟨fb, 0, none⟩))), fun u _ => u = (.iface 129 (.pointer (some ⟨gb, 0, none⟩))), fun u w' => u = .bool true ∧ w'.heap[gb]? = some (.cells #[.pointer (some ⟨fb, 0, none⟩)] 127 (0, 0)), fun u w' => u = .bool true ∧ w'.heap[gb]? = some (.cells #[.pointer (some ⟨fb, 0, none⟩)] 127 (0, 0)), fun u _ => u = (.pointer (some ⟨fb, 0, none⟩)), fun u _ => u = (.pointer (some ⟨fb, 0, none⟩)), fun u _ => u = (.agg #[.int .i64 k, .int .i64 a]), fun u _ => u = (.agg #[.int .i64 k, .int .i64 a]), fun u _ => u = (.bool true), fun u _ => u = (.bool true), fun u _ => u = (.bool true), fun u _ => u = (.iface 127 (.pointer (some ⟨fb, 0, none⟩))), fun u _ => u = (.pointer (some ⟨b3, 0, none⟩)), fun u _ => u = (.int .i64 k), fun u _ => u = (.iface 30 (.int .i64 k)), fun u _ => u = (.bool true), fun u _ => u = (.bool true)]) rfl (by kernel_rfl) (by kernel_rfl) (monoV_of ⟨monoV_eq, monoV_eq, ?m2, ?m3, monoV_eq, monoV_eq, monoV_eq, monoV_eq, monoV_eq, monoV_eq, monoV_eq, monoV_eq, monoV_eq, monoV_eq, monoV_eq, monoV_eq, monoV_eq, trivial⟩) (fun _ _ _ _ _ => trivial) (fun _ _ _ _ _ _ _ _ _ _ _ => trivial) (stepsV_of 17 ⟨?s0, ?s1, ?s2, ?s3, ?s4, ?s5, ?s6, ?s7, ?s8, ?s9, ?s10, ?s11, ?s12, ?s13, ?s14, ?s15, ?s16, trivial⟩) ?_
  case m2 =>
    exact fun j hj u w1 w2 he ⟨h1, h2⟩ => ⟨h1, he.2 h2⟩
  case m3 =>
    exact fun j hj u w1 w2 he ⟨h1, h2⟩ => ⟨h1, he.2 h2⟩
  case s0 =>
    refine stepV_val (v := (.iface 127 (.pointer (some ⟨fb, 0, none⟩)))) xrefl (fun _ _ _ _ => ⟨trivial, trivial⟩) (fun D av wv hE hO hD => ?_) (fun _ => rfl)
    have h0 : av.eval (.tmp 0) = (.iface 127 (.pointer (some ⟨fb, 0, none⟩))) := hO.2.2 0 rfl
    have f0 := (ev_form av 0).symm.trans h0
    refine ⟨rfl, ?_⟩
    simp [go_sem, f0]
  case s1 =>
    refine stepV_val (v := (.iface 129 (.pointer (some ⟨gb, 0, none⟩)))) xrefl (fun _ _ _ _ => ⟨trivial, trivial⟩) (fun D av wv hE hO hD => ?_) (fun _ => rfl)
    have h5 : av.eval (.tmp 5) = (.pointer (some ⟨gb, 0, none⟩)) := hO.2.2 5 rfl
    have f5 := (ev_form av 5).symm.trans h5
    refine ⟨rfl, ?_⟩
    simp [go_sem, f5]
  case s2 =>
    refine stepV_wp (fun D av wv hPP hE hO hD => ?_)
    have d20 : av.eval (.tmp 20) = (.iface 127 (.pointer (some ⟨fb, 0, none⟩))) := hD.1 rfl _ rfl
    have f20 := (ev_form av 20).symm.trans d20
    have d21 : av.eval (.tmp 21) = (.iface 129 (.pointer (some ⟨gb, 0, none⟩))) := hD.2.1 rfl _ rfl
    have f21 := (ev_form av 21).symm.trans d21
    refine ⟨rfl, ?_⟩
    have hg0 : wv.heap[gb]? = some (.cells #[.pointer none] 127 (0, 0)) := (hE.own gb vok (lt_of_block WG.out)).trans WG.out
    have het : ErrType wv := extS_cell hE.ext (fun j => vob j _ hgg) HET.out
    refine wp_of_callR (f := 71) (args := #[.iface 127 (.pointer (some ⟨fb, 0, none⟩)), .iface 129 (.pointer (some ⟨gb, 0, none⟩))]) (R := fun u w2 => (u = .bool true ∧ w2.heap[gb]? = some (.cells #[.pointer (some ⟨fb, 0, none⟩)] 127 (0, 0))) ∧ ExtB (some gb) wv w2) (by simp [go_sem, f20, f21]) ((as_fault fb gb none wv het hg0).mono (fun e w2 ⟨h1, h2, h3⟩ => ⟨_, h1, ⟨rfl, h3⟩, h2⟩)) (fun u w2 ⟨h1, h2⟩ => ⟨u, rfl, ⟨by rw [vok]; exact h2, fun _ => h1.2⟩, h1, fun _ _ _ _ _ => ⟨trivial, trivial⟩⟩)
  case s3 =>
    refine stepV_wp (fun D av wv hPP hE hO hD => ?_)
    have d22 : (fun u w' => u = .bool true ∧ w'.heap[gb]? = some (.cells #[.pointer (some ⟨fb, 0, none⟩)] 127 (0, 0))) (av.eval (.tmp 22)) wv := hD.1 rfl _ rfl
    refine ⟨rfl, ?_⟩
    obtain ⟨g1, g2⟩ := d22
    have f22 := (ev_form av 22).symm.trans g1
    exact wp_of_run (v := .bool true) (by simp [go_sem, f22]) ⟨_, rfl, esV_of_ext (Ext_refl _) (xrefl 0 _), ⟨rfl, g2⟩, fun _ _ _ _ _ => ⟨trivial, trivial⟩⟩
  case s4 =>
    refine stepV_val (v := (.pointer (some ⟨fb, 0, none⟩))) xrefl (fun _ _ _ _ => ⟨trivial, trivial⟩) (fun D av wv hE hO hD => ?_) (fun _ => rfl)
    have h5 : av.eval (.tmp 5) = (.pointer (some ⟨gb, 0, none⟩)) := hO.2.2 5 rfl
    have f5 := (ev_form av 5).symm.trans h5
    have d23 : (fun u w' => u = .bool true ∧ w'.heap[gb]? = some (.cells #[.pointer (some ⟨fb, 0, none⟩)] 127 (0, 0))) (av.eval (.tmp 23)) wv := hD.1 rfl _ rfl
    have g23 : av.eval (.tmp 23) = .bool true := d23.1
    have f23 := (ev_form av 23).symm.trans g23
    have y0 := extS_cell hE.ext (fun j => vob j _ hyg) y0
    have y1 := extS_cell hE.ext (fun j => vob j _ hyg) y1
    have z0 := extS_cell hE.ext (fun j => vob j _ hzg) z0
    have z1 := extS_cell hE.ext (fun j => vob j _ hzg) z1
    refine ⟨(wanted_of (d := 23) (b := true) (want := true) rfl rfl rfl g23), ?_⟩
    have q0 : wv.cell? ⟨gb, 0, none⟩ = some (.pointer (some ⟨fb, 0, none⟩)) := block_cell d23.2 0
    simp [go_sem, f5, q0]
  case s5 =>
    refine stepV_val (v := (.pointer (some ⟨fb, 0, none⟩))) xrefl (fun _ _ _ _ => ⟨trivial, trivial⟩) (fun D av wv hE hO hD => ?_) (fun _ => rfl)
    have d24 : av.eval (.tmp 24) = (.pointer (some ⟨fb, 0, none⟩)) := hD.1 rfl _ rfl
    have f24 := (ev_form av 24).symm.trans d24
    have d23 : (fun u w' => u = .bool true ∧ w'.heap[gb]? = some (.cells #[.pointer (some ⟨fb, 0, none⟩)] 127 (0, 0))) (av.eval (.tmp 23)) wv := hD.2.1 rfl _ rfl
    have g23 : av.eval (.tmp 23) = .bool true := d23.1
    have f23 := (ev_form av 23).symm.trans g23
    refine ⟨(wanted_of (d := 23) (b := true) (want := true) rfl rfl rfl g23), ?_⟩
    simp [go_sem, f24, f23]
  case s6 =>
    refine stepV_val (v := (.agg #[.int .i64 k, .int .i64 a])) xrefl (fun _ _ _ _ => ⟨trivial, trivial⟩) (fun D av wv hE hO hD => ?_) (fun _ => rfl)
    have d25 : av.eval (.tmp 25) = (.pointer (some ⟨fb, 0, none⟩)) := hD.1 rfl _ rfl
    have f25 := (ev_form av 25).symm.trans d25
    have d23 : (fun u w' => u = .bool true ∧ w'.heap[gb]? = some (.cells #[.pointer (some ⟨fb, 0, none⟩)] 127 (0, 0))) (av.eval (.tmp 23)) wv := hD.2.1 rfl _ rfl
    have g23 : av.eval (.tmp 23) = .bool true := d23.1
    have f23 := (ev_form av 23).symm.trans g23
    have y0 := extS_cell hE.ext (fun j => vob j _ hyg) y0
    have y1 := extS_cell hE.ext (fun j => vob j _ hyg) y1
    have z0 := extS_cell hE.ext (fun j => vob j _ hzg) z0
    have z1 := extS_cell hE.ext (fun j => vob j _ hzg) z1
    refine ⟨(wanted_of (d := 23) (b := true) (want := true) rfl rfl rfl g23), ?_⟩
    simp [go_sem, f25, f23, y0, y1, z0, z1]
  case s7 =>
    refine stepV_val (v := (.agg #[.int .i64 k, .int .i64 a])) xrefl (fun _ _ _ _ => ⟨trivial, trivial⟩) (fun D av wv hE hO hD => ?_) (fun _ => rfl)
    have h3 : av.eval (.tmp 3) = (.pointer (some ⟨b3, 0, none⟩)) := hO.2.2 3 rfl
    have f3 := (ev_form av 3).symm.trans h3
    have d23 : (fun u w' => u = .bool true ∧ w'.heap[gb]? = some (.cells #[.pointer (some ⟨fb, 0, none⟩)] 127 (0, 0))) (av.eval (.tmp 23)) wv := hD.1 rfl _ rfl
    have g23 : av.eval (.tmp 23) = .bool true := d23.1
    have f23 := (ev_form av 23).symm.trans g23
    have y0 := extS_cell hE.ext (fun j => vob j _ hyg) y0
    have y1 := extS_cell hE.ext (fun j => vob j _ hyg) y1
    have z0 := extS_cell hE.ext (fun j => vob j _ hzg) z0
    have z1 := extS_cell hE.ext (fun j => vob j _ hzg) z1
    refine ⟨(wanted_of (d := 23) (b := true) (want := true) rfl rfl rfl g23), ?_⟩
    simp [go_sem, f3, f23, y0, y1, z0, z1]
  case s8 =>
    refine stepV_val (v := (.bool true)) xrefl (fun _ _ _ _ => ⟨trivial, trivial⟩) (fun D av wv hE hO hD => ?_) (fun _ => rfl)
    have d26 : av.eval (.tmp 26) = (.agg #[.int .i64 k, .int .i64 a]) := hD.1 rfl _ rfl
    have f26 := (ev_form av 26).symm.trans d26
    have d27 : av.eval (.tmp 27) = (.agg #[.int .i64 k, .int .i64 a]) := hD.2.1 rfl _ rfl
    have f27 := (ev_form av 27).symm.trans d27
    have d23 : (fun u w' => u = .bool true ∧ w'.heap[gb]? = some (.cells #[.pointer (some ⟨fb, 0, none⟩)] 127 (0, 0))) (av.eval (.tmp 23)) wv := hD.2.2.1 rfl _ rfl
    have g23 : av.eval (.tmp 23) = .bool true := d23.1
    have f23 := (ev_form av 23).symm.trans g23
    refine ⟨(wanted_of (d := 23) (b := true) (want := true) rfl rfl rfl g23), ?_⟩
    simp [go_sem, f26, f27, f23]
  case s9 =>
    refine stepV_val (v := (.bool true)) xrefl (fun _ _ _ _ => ⟨trivial, trivial⟩) (fun D av wv hE hO hD => ?_) (fun _ => rfl)
    have d23 : (fun u w' => u = .bool true ∧ w'.heap[gb]? = some (.cells #[.pointer (some ⟨fb, 0, none⟩)] 127 (0, 0))) (av.eval (.tmp 23)) wv := hD.1 rfl _ rfl
    have g23 : av.eval (.tmp 23) = .bool true := d23.1
    have f23 := (ev_form av 23).symm.trans g23
    have d28 : av.eval (.tmp 28) = (.bool true) := hD.2.1 rfl _ rfl
    have f28 := (ev_form av 28).symm.trans d28
    refine ⟨rfl, ?_⟩
    simp [go_sem, f23, f28]
  case s10 =>
    refine stepV_val (v := (.bool true)) xrefl (fun _ _ _ _ => ⟨trivial, trivial⟩) (fun D av wv hE hO hD => ?_) (fun _ => rfl)
    have d29 : av.eval (.tmp 29) = (.bool true) := hD.1 rfl _ rfl
    have f29 := (ev_form av 29).symm.trans d29
    refine ⟨rfl, ?_⟩
    simp [go_sem, f29]
  case s11 =>
    refine stepV_val (v := (.iface 127 (.pointer (some ⟨fb, 0, none⟩)))) xrefl (fun _ _ _ _ => ⟨trivial, trivial⟩) (fun D av wv hE hO hD => ?_) (fun _ => rfl)
    have h0 : av.eval (.tmp 0) = (.iface 127 (.pointer (some ⟨fb, 0, none⟩))) := hO.2.2 0 rfl
    have f0 := (ev_form av 0).symm.trans h0
    have d30 : av.eval (.tmp 30) = (.bool true) := hD.1 rfl _ rfl
    have f30 := (ev_form av 30).symm.trans d30
    refine ⟨(wanted_of (d := 30) (b := true) (want := true) rfl rfl rfl d30), ?_⟩
    simp [go_sem, f0, f30]
  case s12 =>
    refine stepV_val (v := (.pointer (some ⟨b3, 0, none⟩))) xrefl (fun _ _ _ _ => ⟨trivial, trivial⟩) (fun D av wv hE hO hD => ?_) (fun _ => rfl)
    have h3 : av.eval (.tmp 3) = (.pointer (some ⟨b3, 0, none⟩)) := hO.2.2 3 rfl
    have f3 := (ev_form av 3).symm.trans h3
    have d30 : av.eval (.tmp 30) = (.bool true) := hD.1 rfl _ rfl
    have f30 := (ev_form av 30).symm.trans d30
    refine ⟨(wanted_of (d := 30) (b := true) (want := true) rfl rfl rfl d30), ?_⟩
    simp [go_sem, f3, f30]
  case s13 =>
    refine stepV_val (v := (.int .i64 k)) xrefl (fun _ _ _ _ => ⟨trivial, trivial⟩) (fun D av wv hE hO hD => ?_) (fun _ => rfl)
    have d32 : av.eval (.tmp 32) = (.pointer (some ⟨b3, 0, none⟩)) := hD.1 rfl _ rfl
    have f32 := (ev_form av 32).symm.trans d32
    have d30 : av.eval (.tmp 30) = (.bool true) := hD.2.1 rfl _ rfl
    have f30 := (ev_form av 30).symm.trans d30
    have y0 := extS_cell hE.ext (fun j => vob j _ hyg) y0
    have y1 := extS_cell hE.ext (fun j => vob j _ hyg) y1
    have z0 := extS_cell hE.ext (fun j => vob j _ hzg) z0
    have z1 := extS_cell hE.ext (fun j => vob j _ hzg) z1
    refine ⟨(wanted_of (d := 30) (b := true) (want := true) rfl rfl rfl d30), ?_⟩
    simp [go_sem, f32, f30, y0, y1, z0, z1]
  case s14 =>
    refine stepV_val (v := (.iface 30 (.int .i64 k))) xrefl (fun _ _ _ _ => ⟨trivial, trivial⟩) (fun D av wv hE hO hD => ?_) (fun _ => rfl)
    have d33 : av.eval (.tmp 33) = (.int .i64 k) := hD.1 rfl _ rfl
    have f33 := (ev_form av 33).symm.trans d33
    have d30 : av.eval (.tmp 30) = (.bool true) := hD.2.1 rfl _ rfl
    have f30 := (ev_form av 30).symm.trans d30
    refine ⟨(wanted_of (d := 30) (b := true) (want := true) rfl rfl rfl d30), ?_⟩
    simp [go_sem, f33, f30]
  case s15 =>
    refine stepV_wp (fun D av wv hPP hE hO hD => ?_)
    have d31 : av.eval (.tmp 31) = (.iface 127 (.pointer (some ⟨fb, 0, none⟩))) := hD.1 rfl _ rfl
    have f31 := (ev_form av 31).symm.trans d31
    have d34 : av.eval (.tmp 34) = (.iface 30 (.int .i64 k)) := hD.2.1 rfl _ rfl
    have f34 := (ev_form av 34).symm.trans d34
    have d30 : av.eval (.tmp 30) = (.bool true) := hD.2.2.1 rfl _ rfl
    have f30 := (ev_form av 30).symm.trans d30
    refine ⟨(wanted_of (d := 30) (b := true) (want := true) rfl rfl rfl d30), ?_⟩
    refine wp_of_callR (f := 72) (args := #[.iface 127 (.pointer (some ⟨fb, 0, none⟩)), .iface 30 (.int .i64 k)]) (R := fun u w2 => u = .bool true ∧ w2 = wv) (by simp [go_sem, f31, f34]) ((is_fault fb k k wv (extS_cell hE.ext (fun j => vob j _ hyg) y0)).mono (fun e w2 ⟨h1, h2⟩ => ⟨_, h1, by simp, h2⟩)) (fun u w2 ⟨h1, h2⟩ => ⟨u, rfl, esV_of_ext (by rw [h2]; exact Ext_refl _) (by rw [h2]; exact xrefl 0 _), h1, fun _ _ _ _ _ => ⟨trivial, trivial⟩⟩)
  case s16 =>
    refine stepV_val (v := (.bool true)) xrefl (fun _ _ _ _ => ⟨trivial, trivial⟩) (fun D av wv hE hO hD => ?_) (fun _ => rfl)
    have d30 : av.eval (.tmp 30) = (.bool true) := hD.1 rfl _ rfl
    have f30 := (ev_form av 30).symm.trans d30
    have d35 : av.eval (.tmp 35) = (.bool true) := hD.2.1 rfl _ rfl
    have f35 := (ev_form av 35).symm.trans d35
    refine ⟨rfl, ?_⟩
    simp [go_sem, f30, f35]
  intro a' w' hE _ hO hall _
  have hA := act_of_outer (ds := [20, 21, 22, 23, 24, 25, 26, 27, 28, 29, 30, 31, 32, 33, 34, 35, 36]) rfl hO (by kernel_rfl)
  have e20 : (fun u _ => u = (.iface 127 (.pointer (some ⟨fb, 0, none⟩)))) (a'.eval (.tmp 20)) w' := hall.1 _ rfl
  have e21 : (fun u _ => u = (.iface 129 (.pointer (some ⟨gb, 0, none⟩)))) (a'.eval (.tmp 21)) w' := hall.2.1 _ rfl
  have e22 : (fun u w' => u = .bool true ∧ w'.heap[gb]? = some (.cells #[.pointer (some ⟨fb, 0, none⟩)] 127 (0, 0))) (a'.eval (.tmp 22)) w' := hall.2.2.1 _ rfl
  have e23 : (fun u w' => u = .bool true ∧ w'.heap[gb]? = some (.cells #[.pointer (some ⟨fb, 0, none⟩)] 127 (0, 0))) (a'.eval (.tmp 23)) w' := hall.2.2.2.1 _ rfl
  have e24 : (fun u _ => u = (.pointer (some ⟨fb, 0, none⟩))) (a'.eval (.tmp 24)) w' := hall.2.2.2.2.1 _ rfl
  have e25 : (fun u _ => u = (.pointer (some ⟨fb, 0, none⟩))) (a'.eval (.tmp 25)) w' := hall.2.2.2.2.2.1 _ rfl
  have e26 : (fun u _ => u = (.agg #[.int .i64 k, .int .i64 a])) (a'.eval (.tmp 26)) w' := hall.2.2.2.2.2.2.1 _ rfl
  have e27 : (fun u _ => u = (.agg #[.int .i64 k, .int .i64 a])) (a'.eval (.tmp 27)) w' := hall.2.2.2.2.2.2.2.1 _ rfl
  have e28 : (fun u _ => u = (.bool true)) (a'.eval (.tmp 28)) w' := hall.2.2.2.2.2.2.2.2.1 _ rfl
  have e29 : (fun u _ => u = (.bool true)) (a'.eval (.tmp 29)) w' := hall.2.2.2.2.2.2.2.2.2.1 _ rfl
  have e30 : (fun u _ => u = (.bool true)) (a'.eval (.tmp 30)) w' := hall.2.2.2.2.2.2.2.2.2.2.1 _ rfl
  have e31 : (fun u _ => u = (.iface 127 (.pointer (some ⟨fb, 0, none⟩)))) (a'.eval (.tmp 31)) w' := hall.2.2.2.2.2.2.2.2.2.2.2.1 _ rfl
  have e32 : (fun u _ => u = (.pointer (some ⟨b3, 0, none⟩))) (a'.eval (.tmp 32)) w' := hall.2.2.2.2.2.2.2.2.2.2.2.2.1 _ rfl
  have e33 : (fun u _ => u = (.int .i64 k)) (a'.eval (.tmp 33)) w' := hall.2.2.2.2.2.2.2.2.2.2.2.2.2.1 _ rfl
  have e34 : (fun u _ => u = (.iface 30 (.int .i64 k))) (a'.eval (.tmp 34)) w' := hall.2.2.2.2.2.2.2.2.2.2.2.2.2.2.1 _ rfl
  have e35 : (fun u _ => u = (.bool true)) (a'.eval (.tmp 35)) w' := hall.2.2.2.2.2.2.2.2.2.2.2.2.2.2.2.1 _ rfl
  have e36 : (fun u _ => u = (.bool true)) (a'.eval (.tmp 36)) w' := hall.2.2.2.2.2.2.2.2.2.2.2.2.2.2.2.2.1 _ rfl
  obtain ⟨v22, hv22⟩ : ∃ v, a'.eval (.tmp 22) = v := ⟨_, rfl⟩
  rw [hv22] at e22
  obtain ⟨v23, hv23⟩ : ∃ v, a'.eval (.tmp 23) = v := ⟨_, rfl⟩
  rw [hv23] at e23
  simp only [List.foldl_cons, List.foldl_nil, Act.put, List.setIfInBounds_toArray, List.set_cons_succ, List.set_cons_zero, e20, e21, hv22, hv23, e24, e25, e26, e27, e28, e29, e30, e31, e32, e33, e34, e35, e36] at hA
  clear hO hall e20 e21 hv22 hv23 e24 e25 e26 e27 e28 e29 e30 e31 e32 e33 e34 e35 e36
  subst hA
  have HX : Hid (ExtS VO W w') := Lib.hid ⟨hE.os, hE.tape, hE.output, hE.size, hE.block⟩
  have HV : Hid (∀ j b, b ≠ gb → VO j ≠ some b) := Lib.hid vob
  clear hE vob von vok voi xrefl y0 y1 z0 z1
  go_wp2
  go_ret
  exact ⟨rfl, HX.out.os.trans WB.out.os, HX.out.tape.trans WB.out.tape, HX.out.output.trans WB.out.output, Nat.le_trans WB.out.size HX.out.size, fun i hi => (HX.out.block i (Nat.lt_of_lt_of_le hi WB.out.size) (fun j => HV.out j i (by have := HGB.out; omega))).trans (WB.out.block i hi)⟩
end Go.Proofs.YtihiaopilnjonaaGreatDoor
namespace Go.Proofs
open Go.Shelf
def Tryz.lays105_ren : Go.Shelf.Ren := ⟨fun | 105 => 102 | 212 => 164 | 99 => 165 | 165 => 166 | 166 => 167 | 170 => 168 | 169 => 169 | 263 => 234 | 264 => 235 | 206 => 236 | 240 => 237 | 241 => 238 | 276 => 257 | 277 => 258 | n => n, fun | 9 => 9 | 3 => 3 | 4 => 4 | 20 => 20 | 0 => 0 | 46 => 251 | 109 => 252 | 5 => 5 | 72 => 257 | 76 => 259 | 51 => 315 | 146 => 316 | 53 => 23 | 148 => 318 | 70 => 255 | 37 => 106 | 75 => 59 | 127 => 320 | 164 => 211 | 80 => 144 | n => n, fun | n => n⟩
theorem Tryz.lays105 : Go.Proofs.Lays.n105 Tryz.prog Tryz.lays105_ren := {
  mixed := by kernel_rfl
  f99 := Tryz.func165.trans (congrArg some (by kernel_rfl))
  f105 := Tryz.func102.trans (congrArg some (by kernel_rfl))
  f165 := Tryz.func166.trans (congrArg some (by kernel_rfl))
  f166 := Tryz.func167.trans (congrArg some (by kernel_rfl))
  f169 := Tryz.func169.trans (congrArg some (by kernel_rfl))
  f170 := Tryz.func168.trans (congrArg some (by kernel_rfl))
  f206 := Tryz.func236.trans (congrArg some (by kernel_rfl))
  f212 := Tryz.func164.trans (congrArg some (by kernel_rfl))
  f240 := Tryz.func237.trans (congrArg some (by kernel_rfl))
  f241 := Tryz.func238.trans (congrArg some (by kernel_rfl))
  f263 := Tryz.func234.trans (congrArg some (by kernel_rfl))
  f264 := Tryz.func235.trans (congrArg some (by kernel_rfl))
  f276 := Tryz.func257.trans (congrArg some (by kernel_rfl))
  f277 := Tryz.func258.trans (congrArg some (by kernel_rfl))
  t0 := Tryz.underlying0
  a0 := Tryz.isAgg0
  z0 := Tryz.sizeOf0
  v0 := Tryz.zeroValue0
  t3 := Tryz.underlying3
  a3 := Tryz.isAgg3
  z3 := Tryz.sizeOf3
  v3 := Tryz.zeroValue3
  t4 := Tryz.underlying4
  a4 := Tryz.isAgg4
  z4 := Tryz.sizeOf4
  v4 := Tryz.zeroValue4
  t5 := Tryz.underlying5
  a5 := Tryz.isAgg5
  z5 := Tryz.sizeOf5
  v5 := Tryz.zeroValue5
  t9 := Tryz.underlying9
  a9 := Tryz.isAgg9
  z9 := Tryz.sizeOf9
  v9 := Tryz.zeroValue9
  t20 := Tryz.underlying20
  a20 := Tryz.isAgg20
  z20 := Tryz.sizeOf20
  v20 := Tryz.zeroValue20
  t37 := Tryz.underlying106
  a37 := Tryz.isAgg106
  z37 := Tryz.sizeOf106
  v37 := Tryz.zeroValue106
  t46 := Tryz.underlying251
  a46 := Tryz.isAgg251
  z46 := Tryz.sizeOf251
  v46 := Tryz.zeroValue251
  t51 := Tryz.underlying315
  a51 := Tryz.isAgg315
  z51 := Tryz.sizeOf315
  v51 := Tryz.zeroValue315
  t53 := Tryz.underlying23
  a53 := Tryz.isAgg23
  z53 := Tryz.sizeOf23
  v53 := Tryz.zeroValue23
  t70 := Tryz.underlying255
  a70 := Tryz.isAgg255
  z70 := Tryz.sizeOf255
  v70 := Tryz.zeroValue255
  t72 := Tryz.underlying257
  a72 := Tryz.isAgg257
  z72 := Tryz.sizeOf257
  v72 := Tryz.zeroValue257
  t75 := Tryz.underlying59
  a75 := Tryz.isAgg59
  z75 := Tryz.sizeOf59
  v75 := Tryz.zeroValue59
  t76 := Tryz.underlying259
  a76 := Tryz.isAgg259
  z76 := Tryz.sizeOf259
  v76 := Tryz.zeroValue259
  t109 := Tryz.underlying252
  a109 := Tryz.isAgg252
  z109 := Tryz.sizeOf252
  v109 := Tryz.zeroValue252
  t127 := Tryz.underlying320
  a127 := Tryz.isAgg320
  z127 := Tryz.sizeOf320
  v127 := Tryz.zeroValue320
  t146 := Tryz.underlying316
  a146 := Tryz.isAgg316
  z146 := Tryz.sizeOf316
  v146 := Tryz.zeroValue316
  t148 := Tryz.underlying318
  a148 := Tryz.isAgg318
  z148 := Tryz.sizeOf318
  v148 := Tryz.zeroValue318
  t164 := Tryz.underlying211
  a164 := Tryz.isAgg211
  z164 := Tryz.sizeOf211
  v164 := Tryz.zeroValue211 }
theorem Tryz.Builder_Extra_105 : Builder.Extra Tryz.prog Tryz.lays105_ren := {
  sizeBuilder := by kernel_rfl
  liesBuilder := by kernel_rfl
  t5 := Tryz.underlying5
  a5 := Tryz.isAgg5
  z5 := Tryz.sizeOf5
  v5 := Tryz.zeroValue5
  infoByte := by kernel_rfl
  cellsByte := by kernel_rfl
  sizeByte := by kernel_rfl
  neB5 := by decide }
open Go.RowKit Go.Lib in
theorem Tryz.strings_Repeat (s : ByteArray) (c : Nat) (w : World) (hc : c ≤ 9223372036854775807) (hlen : s.size * c ≤ 140737488355328) :
    Calls Tryz.prog 102 #[.string s, .int .i64 c] w fun e w' => e = .returned (.string ⟨(Lib.repeatL s.data.toList c).toArray⟩) ∧ Below w.heap.size w w' := Any.strings_Repeat Tryz.lays105 Tryz.Builder_Extra_105 s c w hc hlen
end Go.Proofs
namespace Go.Proofs.YtihiaopilnjonaaGreatDoor
open Go.RowKit
set_option linter.unusedSimpArgs false
set_option linter.unusedVariables false
def fullR : ByteArray := ⟨(Go.Lib.repeatL [114] 32).toArray⟩
theorem full_any (w : World) : Calls Tryz.prog 54 #[.string ⟨#[114]⟩] w fun e w' => e = .returned (.string fullR) ∧ Below w.heap.size w w' := by
  go_enter Tryz.func54, Tryz.ntmps54
  go_wp2_with fail
  refine (Tryz.strings_Repeat ⟨#[114]⟩ 32 _ (by decide) (by decide)).mono ?_
  rintro e w1 ⟨rfl, hb⟩
  go_wp2
  go_ret
  exact ⟨rfl, hb⟩
theorem conv_some (w : World) (B n cap : Nat) (h : ∀ j, j < n → ∃ v, w.cell? ⟨B, j, none⟩ = some (.int .u8 v)) : ∃ t : ByteArray, t.size = n ∧ (convert 106 9 (.slice (some ⟨B, 0, none⟩) n cap)).run Tryz.prog w = .ok (.string t) w := by
  have h' : ∀ j, ∃ v, j < n → w.cell? ⟨B, j, none⟩ = some (.int .u8 v) := fun j => by
    by_cases hj : j < n
    · obtain ⟨v, hv⟩ := h j hj; exact ⟨v, fun _ => hv⟩
    · exact ⟨0, fun h => absurd h hj⟩
  let f : Nat → Int := fun j => Classical.choose (h' j)
  have hf : ∀ j, j < n → w.cell? ⟨B, j, none⟩ = some (.int .u8 (f j)) := fun j => Classical.choose_spec (h' j)
  refine ⟨strOfNums ((List.range n).map f), by rw [strOfNums_size]; simp, ?_⟩
  exact run_convert_bytes_arg (P := Tryz.prog) w 106 5 Tryz.underlying106 Tryz.underlying5 B 0 n cap ((List.range n).map f) (by simp) (fun i hi => by
    rw [Nat.zero_add, hf i hi]
    simp [hi]) 9 Tryz.underlying9
theorem bworld_below (w : World) (e : TypeId) (s : ByteArray) : Below w.heap.size w (Lib.bytesWorld w e s) := by
  have h : Below w.heap.size w (w.drew.alloc (.cells (Lib.bytesCells w e s) e)) := ((Below.refl _ _).drew).alloc (by simp) _
  exact ⟨h.os, h.tape, h.output, by rw [Lib.bytesWorld_size]; omega, fun i hi => Lib.bytesWorld_at_old _ _ _ _ hi⟩
set_option maxRecDepth 100000 in
set_option maxHeartbeats 4000000 in
theorem turned_any (s : ByteArray) (a y st : Int) (w : World) (ha : 0 ≤ a ∧ a ≤ 65535) (hy : 0 ≤ y ∧ y ≤ 255) (hs : s.size ≤ 140737488355328) : Calls Tryz.prog 28 #[.string s, .agg #[.int .u16 a, .int .u8 y, .int .i64 st]] w fun e w' => ∃ t : ByteArray, e = .returned (.string t) ∧ t.size ≤ s.size ∧ Below w.heap.size w w' := by
  obtain ⟨tb, htb⟩ : ∃ tb, w.heap.size = tb := ⟨_, rfl⟩
  obtain ⟨n, hn⟩ : ∃ n, s.size = n := ⟨_, rfl⟩
  go_enter Tryz.func28, Tryz.ntmps28
  go_upto_region 1 with fail
  obtain ⟨V, hV⟩ : ∃ V, w.alloc (.cells #[.int .u16 a, .int .u8 y, .int .i64 st] 55) = V := ⟨_, rfl⟩
  rw [hV]
  have VB : Hid (Below w.heap.size w V) := Lib.hid (by rw [← hV]; exact balloc (Below.refl _ _) _)
  have VT : Hid (V.heap[tb]? = some (.cells #[.int .u16 a, .int .u8 y, .int .i64 st] 55 (0, 0))) := Lib.hid (by rw [← hV, ← htb]; exact heap_alloc_new _ _)
  have VS : Hid (V.heap.size = tb + 1) := Lib.hid (by rw [← hV, ← htb]; simp)
  clear hV
  have hc := Lib.run_convert_string_bytes (P := Tryz.prog) V 9 106 5 s Tryz.underlying9 Tryz.underlying106 Tryz.underlying5
  go_upto_region 2 with fail
  obtain ⟨cap, hcap⟩ : ∃ cap, grownCap V n 0 5 = cap := ⟨_, rfl⟩
  obtain ⟨W, hW⟩ : ∃ W, Lib.bytesWorld V 5 s = W := ⟨_, rfl⟩
  obtain ⟨B, hB⟩ : ∃ B, V.heap.size = B := ⟨_, rfl⟩
  obtain ⟨cs, hcs⟩ : ∃ cs, Lib.bytesCells V 5 s = cs := ⟨_, rfl⟩
  have HBK0 := Lib.bytesWorld_at_new V 5 s
  have HCE0 := fun j (hj : j < s.size) => Lib.bytesWorld_cell V 5 s j hj
  have WB : Hid (Below w.heap.size w W) := Lib.hid (by rw [← hW]; exact bnext VB.out (bworld_below V 5 s))
  have WT : Hid (W.heap[tb]? = some (.cells #[.int .u16 a, .int .u8 y, .int .i64 st] 55 (0, 0))) := Lib.hid (by rw [← hW]; exact ((bworld_below V 5 s).block tb (by have := VS.out; omega)).trans VT.out)
  have CAP : Hid (n ≤ cap) := Lib.hid (by rw [← hcap]; exact grownCap_ge _ _ _ _)
  simp only [hcap, hW, hB]
  rw [hW, hB] at HBK0
  rw [hcs] at HBK0
  have HCE : Hid (∀ j, j < s.size → cs[j]? = some (.int .u8 (byte s j))) := Lib.hid (fun j hj => by have := HCE0 j hj; rw [hW, hB] at this; exact (block_cell HBK0 j).symm.trans this)
  obtain ⟨fr, hfr⟩ : ∃ fr, (cs.size, cs.size + 1) = fr := ⟨_, rfl⟩
  rw [hfr] at HBK0
  have HFR : Hid (fr = (cs.size, cs.size + 1)) := Lib.hid hfr.symm
  have HBK := Lib.hid HBK0
  have htB : tb ≠ B := by have := VS.out; omega
  have HWB : Hid (w.heap.size ≤ B) := Lib.hid (by have := VS.out; omega)
  clear HBK0 HCE0 hc hW hcs hcap hfr
  rw [hn] at HCE
  have HN := Lib.hid hn
  clear hn
  by_cases h0 : n = 0
  · have hpos : decide (0 < n) = false := by simp; omega
    have H0 := Lib.hid h0
    clear h0
    go_upto_region 4 with fail
    obtain ⟨W2, hW2⟩ : ∃ W2, W = W2 := ⟨_, rfl⟩
    rw [hW2] at WB WT ⊢
    have W2B := WB
    have HT := Lib.hid (block_cell WT.out 2)
    have HC : Hid (∀ j, j < n → ∃ v, W2.cell? ⟨B, j, none⟩ = some (.int .u8 v)) := Lib.hid (fun j hj => absurd hj (by have := H0.out; omega))
    clear hW2
    rcases Int.lt_or_le st 0 with c1 | c1
    · have b1 : decide (0 ≤ st) = false := by simp; omega
      obtain ⟨t, ht, hcv⟩ := conv_some W2 B n cap HC.out
      have HCV := Lib.hid ht
      have q2 := HT.out
      clear ht
      go_wp2
      go_ret
      exact ⟨t, rfl, by rw [HCV.out, HN.out]; exact Nat.le_refl _, by have := W2B.out; exact this⟩
    · obtain ⟨m, rfl⟩ := Int.eq_ofNat_of_zero_le c1
      have b1 : decide (0 ≤ (m : Int)) = true := by simp
      by_cases c2 : m < n
      · have b2 : decide (m < n) = true := by simp; exact c2
        obtain ⟨t, ht, hcv⟩ := conv_some W2 B m cap (fun j hj => HC.out j (Nat.lt_trans hj c2))
        have HCV := Lib.hid ht
        have q2 := HT.out
        have c3 : m ≤ cap := by have := CAP.out; omega
        have c4 : (cap < m) = False := by simp; omega
        clear ht
        go_wp2
        go_ret
        exact ⟨t, rfl, by rw [HCV.out, HN.out]; omega, by have := W2B.out; exact this⟩
      · have b2 : decide (m < n) = false := by simp; omega
        obtain ⟨t, ht, hcv⟩ := conv_some W2 B n cap HC.out
        have HCV := Lib.hid ht
        have q2 := HT.out
        clear ht
        go_wp2
        go_ret
        exact ⟨t, rfl, by rw [HCV.out, HN.out]; exact Nat.le_refl _, by have := W2B.out; exact this⟩
  · have hpos : decide (0 < n) = true := by simp; omega
    obtain ⟨k, hk⟩ : ∃ k : Nat, a.toNat % n = k := ⟨_, rfl⟩
    have hkn : k < n := by rw [← hk]; exact Nat.mod_lt _ (by omega)
    have KK : Hid (a.tmod (n : Int) = (k : Int)) := Lib.hid (by rw [← hk]; exact (congrArg (fun z => Int.tmod z (n : Int)) (Int.toNat_of_nonneg ha.1).symm).trans (Int.ofNat_tmod _ _).symm)
    obtain ⟨x, hx⟩ : ∃ x, byte s k = x := ⟨_, rfl⟩
    have QK : Hid (cs[k]? = some (.int .u8 x)) := Lib.hid (by rw [← hx]; exact HCE.out k hkn)
    have FZ : Hid (W.frozen? ⟨B, k, none⟩ = false) := Lib.hid (by unfold World.frozen?; rw [HBK.out]; have := (Array.getElem?_eq_some_iff.1 QK.out).1; rw [HFR.out]; simp; omega)
    have hBl : B < W.heap.size := lt_of_block HBK.out
    have y0 : W.cell? ⟨tb, 0, none⟩ = some (.int .u16 a) := block_cell WT.out 0
    have y1 : W.cell? ⟨tb, 1, none⟩ = some (.int .u8 y) := block_cell WT.out 1
    obtain ⟨z, r4⟩ : ∃ z : Int, bits BinOp.xor IntKind.u8 x y = z := ⟨_, rfl⟩
    have q0 : W.cell? ⟨B, k, none⟩ = some (.int .u8 x) := (block_cell HBK.out k).trans QK.out
    have r0 : IntKind.i64.wrap a = a := wrap_small a ha.1 (by omega)
    have r1 : (n = 0) = False := by simp [h0]
    have r2 : a.tmod (n : Int) = (k : Int) := KK.out
    have r3 : (n ≤ k) = False := by simp; omega
    go_upto_region 3 with fail
    refine wp_region_tail 13 1000 (none) (phis [fun u _ => u = (.slice (some ⟨B, 0, none⟩) n cap), fun u _ => u = (.pointer (some ⟨tb, 0, none⟩)), fun u _ => u = (.int .u16 a), fun u _ => u = (.int .i64 a), fun u _ => u = (.slice (some ⟨B, 0, none⟩) n cap), fun u _ => u = (.int .i64 n), fun u _ => u = (.int .i64 k), fun u _ => u = (.pointer (some ⟨B, k, none⟩)), fun u _ => u = (.int .u8 x), fun u _ => u = (.pointer (some ⟨tb, 1, none⟩)), fun u _ => u = (.int .u8 y), fun u _ => u = (.int .u8 z), fun u _ => u = (.pointer (some ⟨B, k, none⟩))]) rfl (by kernel_rfl) (by kernel_rfl) (mono_of ⟨mono_eq, mono_eq, mono_eq, mono_eq, mono_eq, mono_eq, mono_eq, mono_eq, mono_eq, mono_eq, mono_eq, mono_eq, mono_eq, trivial⟩) (steps_of 13 ⟨?s0, ?s1, ?s2, ?s3, ?s4, ?s5, ?s6, ?s7, ?s8, ?s9, ?s10, ?s11, ?s12, trivial⟩) ?_
    case s0 =>
      refine step_val (v := (.slice (some ⟨B, 0, none⟩) n cap)) (fun av wv hE hS hO hD => ?_) (fun _ => rfl)
      have h5 : av.eval (.tmp 5) = (.slice (some ⟨B, 0, none⟩) n cap) := hO.2.2 5 rfl
      have f5 := (ev_form av 5).symm.trans h5
      refine ⟨rfl, ?_⟩
      simp [go_sem, f5, r0, r1, r2, r3, r4]
    case s1 =>
      refine step_val (v := (.pointer (some ⟨tb, 0, none⟩))) (fun av wv hE hS hO hD => ?_) (fun _ => rfl)
      have h3 : av.eval (.tmp 3) = (.pointer (some ⟨tb, 0, none⟩)) := hO.2.2 3 rfl
      have f3 := (ev_form av 3).symm.trans h3
      refine ⟨rfl, ?_⟩
      simp [go_sem, f3, r0, r1, r2, r3, r4]
    case s2 =>
      refine step_val (v := (.int .u16 a)) (fun av wv hE hS hO hD => ?_) (fun _ => rfl)
      have d12 : av.eval (.tmp 12) = (.pointer (some ⟨tb, 0, none⟩)) := hD.1 rfl _ rfl
      have f12 := (ev_form av 12).symm.trans d12
      have y0 := extB_cell hE (by simp) y0
      have y1 := extB_cell hE (by simp) y1
      have q0 := extB_cell hE (by simp) q0
      refine ⟨rfl, ?_⟩
      simp [go_sem, f12, y0, y1, q0, r0, r1, r2, r3, r4]
    case s3 =>
      refine step_val (v := (.int .i64 a)) (fun av wv hE hS hO hD => ?_) (fun _ => rfl)
      have d13 : av.eval (.tmp 13) = (.int .u16 a) := hD.1 rfl _ rfl
      have f13 := (ev_form av 13).symm.trans d13
      refine ⟨rfl, ?_⟩
      simp [go_sem, f13, r0, r1, r2, r3, r4]
    case s4 =>
      refine step_val (v := (.slice (some ⟨B, 0, none⟩) n cap)) (fun av wv hE hS hO hD => ?_) (fun _ => rfl)
      have h5 : av.eval (.tmp 5) = (.slice (some ⟨B, 0, none⟩) n cap) := hO.2.2 5 rfl
      have f5 := (ev_form av 5).symm.trans h5
      refine ⟨rfl, ?_⟩
      simp [go_sem, f5, r0, r1, r2, r3, r4]
    case s5 =>
      refine step_val (v := (.int .i64 n)) (fun av wv hE hS hO hD => ?_) (fun _ => rfl)
      have d15 : av.eval (.tmp 15) = (.slice (some ⟨B, 0, none⟩) n cap) := hD.1 rfl _ rfl
      have f15 := (ev_form av 15).symm.trans d15
      refine ⟨rfl, ?_⟩
      simp [go_sem, f15, r0, r1, r2, r3, r4]
    case s6 =>
      refine step_val (v := (.int .i64 k)) (fun av wv hE hS hO hD => ?_) (fun _ => rfl)
      have d14 : av.eval (.tmp 14) = (.int .i64 a) := hD.1 rfl _ rfl
      have f14 := (ev_form av 14).symm.trans d14
      have d16 : av.eval (.tmp 16) = (.int .i64 n) := hD.2.1 rfl _ rfl
      have f16 := (ev_form av 16).symm.trans d16
      refine ⟨rfl, ?_⟩
      simp [go_sem, f14, f16, r0, r1, r2, r3, r4]
    case s7 =>
      refine step_val (v := (.pointer (some ⟨B, k, none⟩))) (fun av wv hE hS hO hD => ?_) (fun _ => rfl)
      have d11 : av.eval (.tmp 11) = (.slice (some ⟨B, 0, none⟩) n cap) := hD.1 rfl _ rfl
      have f11 := (ev_form av 11).symm.trans d11
      have d17 : av.eval (.tmp 17) = (.int .i64 k) := hD.2.1 rfl _ rfl
      have f17 := (ev_form av 17).symm.trans d17
      refine ⟨rfl, ?_⟩
      simp [go_sem, f11, f17, r0, r1, r2, r3, r4]
    case s8 =>
      refine step_val (v := (.int .u8 x)) (fun av wv hE hS hO hD => ?_) (fun _ => rfl)
      have d18 : av.eval (.tmp 18) = (.pointer (some ⟨B, k, none⟩)) := hD.1 rfl _ rfl
      have f18 := (ev_form av 18).symm.trans d18
      have y0 := extB_cell hE (by simp) y0
      have y1 := extB_cell hE (by simp) y1
      have q0 := extB_cell hE (by simp) q0
      refine ⟨rfl, ?_⟩
      simp [go_sem, f18, y0, y1, q0, r0, r1, r2, r3, r4]
    case s9 =>
      refine step_val (v := (.pointer (some ⟨tb, 1, none⟩))) (fun av wv hE hS hO hD => ?_) (fun _ => rfl)
      have h3 : av.eval (.tmp 3) = (.pointer (some ⟨tb, 0, none⟩)) := hO.2.2 3 rfl
      have f3 := (ev_form av 3).symm.trans h3
      refine ⟨rfl, ?_⟩
      simp [go_sem, f3, r0, r1, r2, r3, r4]
    case s10 =>
      refine step_val (v := (.int .u8 y)) (fun av wv hE hS hO hD => ?_) (fun _ => rfl)
      have d20 : av.eval (.tmp 20) = (.pointer (some ⟨tb, 1, none⟩)) := hD.1 rfl _ rfl
      have f20 := (ev_form av 20).symm.trans d20
      have y0 := extB_cell hE (by simp) y0
      have y1 := extB_cell hE (by simp) y1
      have q0 := extB_cell hE (by simp) q0
      refine ⟨rfl, ?_⟩
      simp [go_sem, f20, y0, y1, q0, r0, r1, r2, r3, r4]
    case s11 =>
      refine step_val (v := (.int .u8 z)) (fun av wv hE hS hO hD => ?_) (fun _ => rfl)
      have d19 : av.eval (.tmp 19) = (.int .u8 x) := hD.1 rfl _ rfl
      have f19 := (ev_form av 19).symm.trans d19
      have d21 : av.eval (.tmp 21) = (.int .u8 y) := hD.2.1 rfl _ rfl
      have f21 := (ev_form av 21).symm.trans d21
      refine ⟨rfl, ?_⟩
      simp [go_sem, f19, f21, r0, r1, r2, r3, r4]
    case s12 =>
      refine step_val (v := (.pointer (some ⟨B, k, none⟩))) (fun av wv hE hS hO hD => ?_) (fun _ => rfl)
      have d11 : av.eval (.tmp 11) = (.slice (some ⟨B, 0, none⟩) n cap) := hD.1 rfl _ rfl
      have f11 := (ev_form av 11).symm.trans d11
      have d17 : av.eval (.tmp 17) = (.int .i64 k) := hD.2.1 rfl _ rfl
      have f17 := (ev_form av 17).symm.trans d17
      refine ⟨rfl, ?_⟩
      simp [go_sem, f11, f17, r0, r1, r2, r3, r4]
    intro a' w' hE hO hall
    have hA := act_of_outer (ds := [11, 12, 13, 14, 15, 16, 17, 18, 19, 20, 21, 22, 23]) rfl hO (by kernel_rfl)
    have e11 : (fun u _ => u = (.slice (some ⟨B, 0, none⟩) n cap)) (a'.eval (.tmp 11)) w' := hall.1 _ rfl
    have e12 : (fun u _ => u = (.pointer (some ⟨tb, 0, none⟩))) (a'.eval (.tmp 12)) w' := hall.2.1 _ rfl
    have e13 : (fun u _ => u = (.int .u16 a)) (a'.eval (.tmp 13)) w' := hall.2.2.1 _ rfl
    have e14 : (fun u _ => u = (.int .i64 a)) (a'.eval (.tmp 14)) w' := hall.2.2.2.1 _ rfl
    have e15 : (fun u _ => u = (.slice (some ⟨B, 0, none⟩) n cap)) (a'.eval (.tmp 15)) w' := hall.2.2.2.2.1 _ rfl
    have e16 : (fun u _ => u = (.int .i64 n)) (a'.eval (.tmp 16)) w' := hall.2.2.2.2.2.1 _ rfl
    have e17 : (fun u _ => u = (.int .i64 k)) (a'.eval (.tmp 17)) w' := hall.2.2.2.2.2.2.1 _ rfl
    have e18 : (fun u _ => u = (.pointer (some ⟨B, k, none⟩))) (a'.eval (.tmp 18)) w' := hall.2.2.2.2.2.2.2.1 _ rfl
    have e19 : (fun u _ => u = (.int .u8 x)) (a'.eval (.tmp 19)) w' := hall.2.2.2.2.2.2.2.2.1 _ rfl
    have e20 : (fun u _ => u = (.pointer (some ⟨tb, 1, none⟩))) (a'.eval (.tmp 20)) w' := hall.2.2.2.2.2.2.2.2.2.1 _ rfl
    have e21 : (fun u _ => u = (.int .u8 y)) (a'.eval (.tmp 21)) w' := hall.2.2.2.2.2.2.2.2.2.2.1 _ rfl
    have e22 : (fun u _ => u = (.int .u8 z)) (a'.eval (.tmp 22)) w' := hall.2.2.2.2.2.2.2.2.2.2.2.1 _ rfl
    have e23 : (fun u _ => u = (.pointer (some ⟨B, k, none⟩))) (a'.eval (.tmp 23)) w' := hall.2.2.2.2.2.2.2.2.2.2.2.2.1 _ rfl
    simp only [List.foldl_cons, List.foldl_nil, Act.put, List.setIfInBounds_toArray, List.set_cons_succ, List.set_cons_zero, e11, e12, e13, e14, e15, e16, e17, e18, e19, e20, e21, e22, e23] at hA
    clear hO hall e11 e12 e13 e14 e15 e16 e17 e18 e19 e20 e21 e22 e23
    subst hA
    have hE' := of_drew hE
    clear y0 y1 q0 r0 r1 r2 r3 r4 hE
    have HE := Lib.hid hE'
    have HB1 : Hid (w'.heap[B]? = some (.cells cs 5 fr)) := Lib.hid ((hE'.block B hBl).trans HBK.out)
    have p0 : w'.cell? ⟨B, k, none⟩ = some (.int .u8 x) := (block_cell HB1.out k).trans QK.out
    have p1 : w'.frozen? ⟨B, k, none⟩ = false := by have := FZ.out; unfold World.frozen? at this ⊢; rw [HB1.out]; rw [HBK.out] at this; exact this
    clear hE'
    go_upto_region 4 with fail
    obtain ⟨W2, hW2⟩ : ∃ W2, w'.setCell ⟨B, k, none⟩ (.int .u8 z) = W2 := ⟨_, rfl⟩
    rw [hW2]
    have W2B : Hid (Below w.heap.size w W2) := Lib.hid (by rw [← hW2]; exact bset (bnext WB.out HE.out) HWB.out _)
    have HT := Lib.hid (block_cell (show W2.heap[tb]? = _ by rw [← hW2]; exact block_setCell_ne ((HE.out.block tb (lt_of_block WT.out)).trans WT.out) htB _) 2)
    have HC : Hid (∀ j, j < n → ∃ v, W2.cell? ⟨B, j, none⟩ = some (.int .u8 v)) := Lib.hid (fun j hj => by
      have e := block_cell (show W2.heap[B]? = _ by rw [← hW2]; exact block_setCell HB1.out _) j
      rw [e, Array.getElem?_setIfInBounds]
      by_cases h : k = j
      · subst h
        have := (Array.getElem?_eq_some_iff.1 QK.out).1
        simp [this]
      · rw [if_neg h]; exact ⟨_, HCE.out j hj⟩)
    clear hW2 p0 p1
    rcases Int.lt_or_le st 0 with c1 | c1
    · have b1 : decide (0 ≤ st) = false := by simp; omega
      obtain ⟨t, ht, hcv⟩ := conv_some W2 B n cap HC.out
      have HCV := Lib.hid ht
      have q2 := HT.out
      clear ht
      go_wp2
      go_ret
      exact ⟨t, rfl, by rw [HCV.out, HN.out]; exact Nat.le_refl _, by have := W2B.out; exact this⟩
    · obtain ⟨m, rfl⟩ := Int.eq_ofNat_of_zero_le c1
      have b1 : decide (0 ≤ (m : Int)) = true := by simp
      by_cases c2 : m < n
      · have b2 : decide (m < n) = true := by simp; exact c2
        obtain ⟨t, ht, hcv⟩ := conv_some W2 B m cap (fun j hj => HC.out j (Nat.lt_trans hj c2))
        have HCV := Lib.hid ht
        have q2 := HT.out
        have c3 : m ≤ cap := by have := CAP.out; omega
        have c4 : (cap < m) = False := by simp; omega
        clear ht
        go_wp2
        go_ret
        exact ⟨t, rfl, by rw [HCV.out, HN.out]; omega, by have := W2B.out; exact this⟩
      · have b2 : decide (m < n) = false := by simp; omega
        obtain ⟨t, ht, hcv⟩ := conv_some W2 B n cap HC.out
        have HCV := Lib.hid ht
        have q2 := HT.out
        clear ht
        go_wp2
        go_ret
        exact ⟨t, rfl, by rw [HCV.out, HN.out]; exact Nat.le_refl _, by have := W2B.out; exact this⟩
end Go.Proofs.YtihiaopilnjonaaGreatDoor
namespace Go.Proofs.YtihiaopilnjonaaGreatDoor
open Go.RowKit
set_option linter.unusedSimpArgs false
set_option linter.unusedVariables false
theorem hi8_size (n : Int) (k : Nat) : (baL ((hiL n k).map toB)).size = k := by rw [baL_size, List.length_map, hiL_len]
set_option maxRecDepth 100000 in
theorem rone_any (n : Int) (w : World) (h0 : 0 ≤ n) (h1 : n ≤ 255) : Calls Tryz.prog 232 #[.int .u64 n] w fun e w' => e = .returned (.string (baL [toB n])) ∧ Below w.heap.size w w' := by
  have y0 : IntKind.u8.wrap n = n := IntWalk.u8_in _ (by omega)
  have y1 : n % 256 = n := by omega
  have hc : (convert 106 9 (.slice (some ⟨w.heap.size, 0, none⟩) 1 1)).run Tryz.prog (w.alloc (.cells #[.int .u8 n] 5)) = .ok (.string (baL [toB n])) (w.alloc (.cells #[.int .u8 n] 5)) :=
    run_convert_bytes_arg (P := Tryz.prog) _ 106 5 Tryz.underlying106 Tryz.underlying5 w.heap.size 0 1 1 [n] rfl (fun i hi => by
      obtain rfl : i = 0 := by omega
      exact block_cell (heap_alloc_new _ _) 0) 9 Tryz.underlying9
  go_enter Tryz.func232, Tryz.ntmps232
  go_wp2
  go_ret
  exact ⟨rfl, by (repeat (first | exact Below.refl _ _ | assumption | (refine bdrew ?_) | (refine bdrewN ?_ _) | (refine balloc ?_ _) | (refine bset ?_ (by first | omega | (simp; done) | (simp; omega)) _) | (refine bnext ?_ (by assumption))))⟩
set_option maxRecDepth 100000 in
set_option maxHeartbeats 2000000 in
theorem rbytes_any (n : Int) (k : Nat) (w : World) (hk : k ≤ 8) (h0 : 0 ≤ n) (h1 : n ≤ 18446744073709551615) : Calls Tryz.prog 233 #[.int .u64 n, .int .i64 k] w fun e w' => e = .returned (.string (baL ((hiL n k).map toB))) ∧ Below w.heap.size w w' := by
  go_enter Tryz.func233, Tryz.ntmps233
  go_wp2
  go_loopg [0, 5, 6] k (fun g nn s i wr => ∃ j : Nat, ∃ N : Int, ∃ b : ByteArray, g + j = k ∧ nn = .int .u64 N ∧ s = .string b ∧ i = .int .i64 j ∧ Hid (N = n / 256 ^ j ∧ 0 ≤ N ∧ N ≤ 18446744073709551615) ∧ Hid (b = baL ((hiL n j).map toB)) ∧ Hid (Below w.heap.size w wr))
  case atStart => exact ⟨0, n, _, rfl, rfl, rfl, rfl, ⟨by simp, h0, h1⟩, rfl, Below.refl _ _⟩
  case round =>
    obtain ⟨j, N, b, hj, rfl, rfl, rfl, HN, HS, HB⟩ := hrel
    by_cases hlt : j < k
    · have i1 : (j : Int) < k := by omega
      have hn0 := HN.out.2.1
      have hn1 := HN.out.2.2
      obtain ⟨x, hx⟩ : ∃ x, N % 256 = x := ⟨_, rfl⟩
      have hx0 : 0 ≤ x ∧ x ≤ 255 := by omega
      have y0 : N.tmod 256 = x := by rw [Int.tmod_eq_emod_of_nonneg hn0]; exact hx
      have y1 : IntKind.u8.wrap x = x := IntWalk.u8_in _ (by omega)
      have y2 : N.tdiv 256 = N / 256 := Int.tdiv_eq_ediv_of_nonneg hn0
      have y3 : x % 256 = x := by omega
      obtain ⟨M, hM⟩ : ∃ M, N / 256 = M := ⟨_, rfl⟩
      have hM0 : 0 ≤ M ∧ M ≤ 18446744073709551615 := by omega
      have HM : Hid (M = n / 256 ^ (j + 1)) := Lib.hid (by
        have hp : (0 : Int) < 256 ^ j := Int.pow_pos (by decide)
        rw [← hM, HN.out.1, Int.pow_succ, Int.ediv_ediv, if_neg (by omega), Int.sub_zero])
      have HX : Hid (baL ((hiL n (j + 1)).map toB) = baL [toB x] ++ b) := Lib.hid (by
        rw [hiL, List.map_cons, HS.out, ← baL_app, ← HN.out.1, hx]; rfl)
      have hbs : b.size = j := by rw [HS.out, hi8_size]
      have hbz : (baL [toB x]).size = 1 := rfl
      have hc := run_convert_bytes_arg (P := Tryz.prog) (wr.alloc (.cells #[.int .u8 x] 5)) 106 5 Tryz.underlying106 Tryz.underlying5 wr.heap.size 0 1 1 [x] rfl (fun i hi => by
        obtain rfl : i = 0 := by omega
        exact block_cell (heap_alloc_new _ _) 0) 9 Tryz.underlying9
      rw [show strOfNums [x] = baL [toB x] from rfl] at hc
      have HBB : Hid (Below w.heap.size w (wr.alloc (.cells #[.int .u8 x] 5))) := Lib.hid (balloc HB.out _)
      obtain ⟨z, hz⟩ : ∃ z, baL [toB x] = z := ⟨_, rfl⟩
      rw [hz] at hc hbz HX
      rw [hM] at y2
      clear hz HN HS
      go_wp2
      go_roundg (k - (j + 1))
      case rel => exact ⟨j + 1, M, z ++ b, by omega, by first | rfl | simp [hM], rfl, by go_num, ⟨HM.out, hM0⟩, HX.out.symm, HBB.out⟩
      case measure => omega
    · obtain rfl : j = k := by omega
      have i1 : ¬ (j : Int) < j := by omega
      go_wp2
      go_ret
      exact ⟨by rw [HS.out]; rfl, HB.out⟩
set_option maxRecDepth 100000 in
theorem rnum5_any (n : Int) (w : World) (h0 : 0 ≤ n) (h1 : n ≤ 18446744073709551615) : Calls Tryz.prog 158 #[.int .u64 n] w fun e w' => e = .returned (.string (baL (headP 0 n))) ∧ Below w.heap.size w w' := by
  have EQ := Lib.hid (headP0 n)
  by_cases c1 : n < 128
  · have EQ : Hid (headP 0 n = [toB n]) := Lib.hid (by rw [EQ.out, if_pos c1])
    go_enter Tryz.func158, Tryz.ntmps158
    go_wp2_with fail
    refine (rone_any (n) w (by omega) (by omega)).mono ?_
    rintro e w1 ⟨rfl, hb⟩
    have HB := Lib.hid hb
    clear hb
    go_wp2
    go_ret
    exact ⟨congrArg (fun s => Ending.returned (.string s)) (ba_ext (by rw [EQ.out])), HB.out⟩
  by_cases c2 : n < 256
  · have EQ : Hid (headP 0 n = toB 204 :: (hiL n 1).map toB) := Lib.hid (by rw [EQ.out, if_neg c1, if_pos c2])
    go_enter Tryz.func158, Tryz.ntmps158
    have zz := hi8_size n 1
    go_wp2_with fail
    refine (rbytes_any n 1 w (by decide) h0 h1).mono ?_
    rintro e w1 ⟨rfl, hb⟩
    have HB := Lib.hid hb
    clear hb
    go_wp2
    go_ret
    exact ⟨congrArg (fun s => Ending.returned (.string s)) (ba_ext (by rw [EQ.out]; simp [baL]; rfl)), HB.out⟩
  by_cases c3 : n < 65536
  · have EQ : Hid (headP 0 n = toB 205 :: (hiL n 2).map toB) := Lib.hid (by rw [EQ.out, if_neg c1, if_neg c2, if_pos c3])
    go_enter Tryz.func158, Tryz.ntmps158
    have zz := hi8_size n 2
    go_wp2_with fail
    refine (rbytes_any n 2 w (by decide) h0 h1).mono ?_
    rintro e w1 ⟨rfl, hb⟩
    have HB := Lib.hid hb
    clear hb
    go_wp2
    go_ret
    exact ⟨congrArg (fun s => Ending.returned (.string s)) (ba_ext (by rw [EQ.out]; simp [baL]; rfl)), HB.out⟩
  by_cases c4 : n < 4294967296
  · have EQ : Hid (headP 0 n = toB 206 :: (hiL n 4).map toB) := Lib.hid (by rw [EQ.out, if_neg c1, if_neg c2, if_neg c3, if_pos c4])
    go_enter Tryz.func158, Tryz.ntmps158
    have zz := hi8_size n 4
    go_wp2_with fail
    refine (rbytes_any n 4 w (by decide) h0 h1).mono ?_
    rintro e w1 ⟨rfl, hb⟩
    have HB := Lib.hid hb
    clear hb
    go_wp2
    go_ret
    exact ⟨congrArg (fun s => Ending.returned (.string s)) (ba_ext (by rw [EQ.out]; simp [baL]; rfl)), HB.out⟩
  have EQ : Hid (headP 0 n = toB 207 :: (hiL n 8).map toB) := Lib.hid (by rw [EQ.out, if_neg c1, if_neg c2, if_neg c3, if_neg c4])
  go_enter Tryz.func158, Tryz.ntmps158
  have zz := hi8_size n 8
  go_wp2_with fail
  refine (rbytes_any n 8 w (by decide) h0 h1).mono ?_
  rintro e w1 ⟨rfl, hb⟩
  have HB := Lib.hid hb
  clear hb
  go_wp2
  go_ret
  exact ⟨congrArg (fun s => Ending.returned (.string s)) (ba_ext (by rw [EQ.out]; simp [baL]; rfl)), HB.out⟩
set_option maxRecDepth 100000 in
set_option maxHeartbeats 2000000 in
theorem rhead_any (sort : Nat) (n : Int) (w : World) (hs1 : 1 ≤ sort) (hs5 : sort < 5) (h0 : 0 ≤ n) (hn : n < 65536) : Calls Tryz.prog 159 #[.int .i64 sort, .int .u64 n] w fun e w' => e = .returned (.string (baL (headP sort n))) ∧ Below w.heap.size w w' := by
  have h1 : n ≤ 18446744073709551615 := by omega
  have hs : sort = 1 ∨ sort = 2 ∨ sort = 3 ∨ sort = 4 := by omega
  rcases hs with rfl | rfl | rfl | rfl
  · have EQ := Lib.hid (headP1 hn)
    by_cases c1 : n < 256
    · have EQ : Hid (headP 1 n = toB 196 :: (hiL n 1).map toB) := Lib.hid (by rw [EQ.out, if_pos c1])
      show Calls Tryz.prog 159 #[.int .i64 1, .int .u64 n] w _
      go_enter Tryz.func159, Tryz.ntmps159
      have zz := hi8_size n 1
      go_wp2_with fail
      refine (rbytes_any n 1 w (by decide) h0 h1).mono ?_
      rintro e w1 ⟨rfl, hb⟩
      have HB := Lib.hid hb
      clear hb
      go_wp2
      go_ret
      exact ⟨congrArg (fun s => Ending.returned (.string s)) (ba_ext (by rw [EQ.out]; simp [baL]; rfl)), HB.out⟩
    have EQ : Hid (headP 1 n = toB 197 :: (hiL n 2).map toB) := Lib.hid (by rw [EQ.out, if_neg c1])
    show Calls Tryz.prog 159 #[.int .i64 1, .int .u64 n] w _
    go_enter Tryz.func159, Tryz.ntmps159
    have zz := hi8_size n 2
    go_wp2_with fail
    refine (rbytes_any n 2 w (by decide) h0 h1).mono ?_
    rintro e w1 ⟨rfl, hb⟩
    have HB := Lib.hid hb
    clear hb
    go_wp2
    go_ret
    exact ⟨congrArg (fun s => Ending.returned (.string s)) (ba_ext (by rw [EQ.out]; simp [baL]; rfl)), HB.out⟩
  · have EQ := Lib.hid (headP2 hn)
    by_cases c1 : n < 32
    · have EQ : Hid (headP 2 n = [toB (160 + n)]) := Lib.hid (by rw [EQ.out, if_pos c1])
      show Calls Tryz.prog 159 #[.int .i64 2, .int .u64 n] w _
      go_enter Tryz.func159, Tryz.ntmps159
      go_wp2_with fail
      refine (rone_any (160 + n) w (by omega) (by omega)).mono ?_
      rintro e w1 ⟨rfl, hb⟩
      have HB := Lib.hid hb
      clear hb
      go_wp2
      go_ret
      exact ⟨congrArg (fun s => Ending.returned (.string s)) (ba_ext (by rw [EQ.out])), HB.out⟩
    by_cases c2 : n < 256
    · have EQ : Hid (headP 2 n = toB 217 :: (hiL n 1).map toB) := Lib.hid (by rw [EQ.out, if_neg c1, if_pos c2])
      show Calls Tryz.prog 159 #[.int .i64 2, .int .u64 n] w _
      go_enter Tryz.func159, Tryz.ntmps159
      have zz := hi8_size n 1
      go_wp2_with fail
      refine (rbytes_any n 1 w (by decide) h0 h1).mono ?_
      rintro e w1 ⟨rfl, hb⟩
      have HB := Lib.hid hb
      clear hb
      go_wp2
      go_ret
      exact ⟨congrArg (fun s => Ending.returned (.string s)) (ba_ext (by rw [EQ.out]; simp [baL]; rfl)), HB.out⟩
    have EQ : Hid (headP 2 n = toB 218 :: (hiL n 2).map toB) := Lib.hid (by rw [EQ.out, if_neg c1, if_neg c2])
    show Calls Tryz.prog 159 #[.int .i64 2, .int .u64 n] w _
    go_enter Tryz.func159, Tryz.ntmps159
    have zz := hi8_size n 2
    go_wp2_with fail
    refine (rbytes_any n 2 w (by decide) h0 h1).mono ?_
    rintro e w1 ⟨rfl, hb⟩
    have HB := Lib.hid hb
    clear hb
    go_wp2
    go_ret
    exact ⟨congrArg (fun s => Ending.returned (.string s)) (ba_ext (by rw [EQ.out]; simp [baL]; rfl)), HB.out⟩
  · have EQ := Lib.hid (headP3 hn)
    by_cases c1 : n < 16
    · have EQ : Hid (headP 3 n = [toB (144 + n)]) := Lib.hid (by rw [EQ.out, if_pos c1])
      show Calls Tryz.prog 159 #[.int .i64 3, .int .u64 n] w _
      go_enter Tryz.func159, Tryz.ntmps159
      go_wp2_with fail
      refine (rone_any (144 + n) w (by omega) (by omega)).mono ?_
      rintro e w1 ⟨rfl, hb⟩
      have HB := Lib.hid hb
      clear hb
      go_wp2
      go_ret
      exact ⟨congrArg (fun s => Ending.returned (.string s)) (ba_ext (by rw [EQ.out])), HB.out⟩
    have EQ : Hid (headP 3 n = toB 220 :: (hiL n 2).map toB) := Lib.hid (by rw [EQ.out, if_neg c1])
    show Calls Tryz.prog 159 #[.int .i64 3, .int .u64 n] w _
    go_enter Tryz.func159, Tryz.ntmps159
    have zz := hi8_size n 2
    go_wp2_with fail
    refine (rbytes_any n 2 w (by decide) h0 h1).mono ?_
    rintro e w1 ⟨rfl, hb⟩
    have HB := Lib.hid hb
    clear hb
    go_wp2
    go_ret
    exact ⟨congrArg (fun s => Ending.returned (.string s)) (ba_ext (by rw [EQ.out]; simp [baL]; rfl)), HB.out⟩
  · have EQ := Lib.hid (headP4 hn)
    by_cases c1 : n < 16
    · have EQ : Hid (headP 4 n = [toB (128 + n)]) := Lib.hid (by rw [EQ.out, if_pos c1])
      show Calls Tryz.prog 159 #[.int .i64 4, .int .u64 n] w _
      go_enter Tryz.func159, Tryz.ntmps159
      go_wp2_with fail
      refine (rone_any (128 + n) w (by omega) (by omega)).mono ?_
      rintro e w1 ⟨rfl, hb⟩
      have HB := Lib.hid hb
      clear hb
      go_wp2
      go_ret
      exact ⟨congrArg (fun s => Ending.returned (.string s)) (ba_ext (by rw [EQ.out])), HB.out⟩
    have EQ : Hid (headP 4 n = toB 222 :: (hiL n 2).map toB) := Lib.hid (by rw [EQ.out, if_neg c1])
    show Calls Tryz.prog 159 #[.int .i64 4, .int .u64 n] w _
    go_enter Tryz.func159, Tryz.ntmps159
    have zz := hi8_size n 2
    go_wp2_with fail
    refine (rbytes_any n 2 w (by decide) h0 h1).mono ?_
    rintro e w1 ⟨rfl, hb⟩
    have HB := Lib.hid hb
    clear hb
    go_wp2
    go_ret
    exact ⟨congrArg (fun s => Ending.returned (.string s)) (ba_ext (by rw [EQ.out]; simp [baL]; rfl)), HB.out⟩
def Laid5 (b : ByteArray) (w : World) (e : Ending) (w' : World) : Prop := e = .returned (.tuple #[.string b, .int .i64 0]) ∧ Below w.heap.size w w'
set_option maxRecDepth 100000 in
theorem rlaidnum_any (n : Int) (t : ByteArray) (w : World) (h0 : 0 ≤ n) (h1 : n ≤ 18446744073709551615) : Calls Tryz.prog 97 #[.int .i64 0, .int .u64 n, .string t] w (Laid5 (numP n) w) := by
  have H := Lib.hid (rnum5_any n w h0 h1)
  have e : numP n = baL (headP 0 n) := by unfold numP laidP; exact ba_ext (by simp)
  rw [e]
  clear e
  go_enter Tryz.func97, Tryz.ntmps97
  go_wp2_with fail
  refine H.out.mono ?_
  rintro e w1 ⟨rfl, hb⟩
  have HB := Lib.hid hb
  clear hb
  go_wp2
  go_ret2
  exact ⟨rfl, HB.out⟩
set_option maxRecDepth 100000 in
theorem rlaidtext_any (sort : Nat) (n : Int) (t : ByteArray) (w : World) (hs : sort = 1 ∨ sort = 2) (ht : t.size < 65536) : Calls Tryz.prog 97 #[.int .i64 sort, .int .u64 n, .string t] w (Laid5 (laidP sort t.size t) w) := by
  have H := Lib.hid (rhead_any sort t.size w (by omega) (by omega) (by omega) (by omega))
  have e : laidP sort t.size t = baL (headP sort t.size) ++ t := by
    unfold laidP; rw [if_pos hs]
  rw [e]
  have hl := headP_len sort t.size
  have hz : (baL (headP sort t.size)).size ≤ 9 := by rw [baL_size]; exact hl
  have hw : IntKind.u64.wrap (t.size : Int) = t.size := IntWalk.u64_in _ (by omega)
  obtain ⟨z, hzz⟩ : ∃ z, baL (headP sort t.size) = z := ⟨_, rfl⟩
  rw [hzz] at H hz ⊢
  have hd : decide ((65536 : Int) ≤ (t.size : Int)) = false := decide_eq_false (by omega)
  have hi : (t.size : Int) ≤ 70000 := by omega
  clear e hl hzz ht
  rcases hs with rfl | rfl
  · show Calls Tryz.prog 97 #[.int .i64 1, .int .u64 n, .string t] w _
    go_enter Tryz.func97, Tryz.ntmps97
    go_wp2_with fail
    refine H.out.mono ?_
    rintro e w1 ⟨rfl, hb⟩
    have HB := Lib.hid hb
    clear hb
    go_wp2
    go_ret2
    exact ⟨rfl, HB.out⟩
  · show Calls Tryz.prog 97 #[.int .i64 2, .int .u64 n, .string t] w _
    go_enter Tryz.func97, Tryz.ntmps97
    go_wp2_with fail
    refine H.out.mono ?_
    rintro e w1 ⟨rfl, hb⟩
    have HB := Lib.hid hb
    clear hb
    go_wp2
    go_ret2
    exact ⟨rfl, HB.out⟩
set_option maxRecDepth 100000 in
theorem rlaidmany_any (sort n : Nat) (t : ByteArray) (w : World) (hs : sort = 3 ∨ sort = 4) (hn : n < 65536) : Calls Tryz.prog 97 #[.int .i64 sort, .int .u64 n, .string t] w (Laid5 (laidP sort n ByteArray.empty) w) := by
  have H := Lib.hid (rhead_any sort n w (by omega) (by omega) (by omega) (by omega))
  have e : laidP sort n ByteArray.empty = baL (headP sort n) := by
    unfold laidP; rw [if_neg (by omega)]; exact ba_ext (by simp)
  rw [e]
  have hw : IntKind.i64.wrap (n : Int) = n := IntWalk.i64_in _ (by omega)
  have hd : decide ((65536 : Int) ≤ (n : Int)) = false := decide_eq_false (by omega)
  clear e hn
  rcases hs with rfl | rfl
  · show Calls Tryz.prog 97 #[.int .i64 3, .int .u64 n, .string t] w _
    go_enter Tryz.func97, Tryz.ntmps97
    go_wp2_with fail
    refine H.out.mono ?_
    rintro e w1 ⟨rfl, hb⟩
    have HB := Lib.hid hb
    clear hb
    go_wp2
    go_ret2
    exact ⟨rfl, HB.out⟩
  · show Calls Tryz.prog 97 #[.int .i64 4, .int .u64 n, .string t] w _
    go_enter Tryz.func97, Tryz.ntmps97
    go_wp2_with fail
    refine H.out.mono ?_
    rintro e w1 ⟨rfl, hb⟩
    have HB := Lib.hid hb
    clear hb
    go_wp2
    go_ret2
    exact ⟨rfl, HB.out⟩
end Go.Proofs.YtihiaopilnjonaaGreatDoor
namespace Go.Proofs.YtihiaopilnjonaaGreatDoor
open Go.RowKit
set_option linter.unusedSimpArgs false
set_option linter.unusedVariables false
set_option maxRecDepth 100000 in
theorem says_all {B : Nat} {W0 w : World} {l : List FVal} {fs : List FSpec} (h : FSems B W0 l fs) (hk : Keep8 B W0 w) : SaysF w l 171 #[] (fun i => !(spth fs i).may) := by
  refine ⟨enters_of Tryz.func171 (by kernel_rfl) rfl, fun i hi w' hb => ?_⟩
  show Calls Tryz.prog 171 (#[(fth l i).val] ++ #[]) w' (fun e w'' => e = .returned (.bool (!(spth fs i).may)) ∧ Below w'.heap.size w' w'')
  have hs := h.2 i hi
  generalize fth l i = v at hs
  generalize spth fs i = f at hs
  have em := hs.em
  have HM : Hid (∀ x, Below w'.heap.size w' x → Calls Tryz.prog v.mf v.mc x fun e w' => e = .returned (.bool f.may) ∧ Below x.heap.size x w') := Lib.hid (fun x hx => hs.may x ((hk.next hb).next hx))
  clear hs
  show Calls Tryz.prog 171 #[v.val] w' _
  unfold FVal.val
  go_enter Tryz.func171, Tryz.ntmps171
  go_wp2_with fail
  refine (HM.out _ (balloc (Below.refl _ _) _)).mono ?_
  rintro e w1 ⟨rfl, hb1⟩
  have HB1 : Hid (Below w'.heap.size w' w1) := Lib.hid (bnext (balloc (Below.refl _ _) _) hb1)
  clear hb1
  go_wp2
  go_ret
  exact ⟨rfl, HB1.out⟩
set_option maxRecDepth 100000 in
theorem says_lay {B : Nat} {W0 w : World} {l : List FVal} {fs : List FSpec} (h : FSems B W0 l fs) (hk : Keep8 B W0 w) : SaysF w l 174 #[] (fun i => (spth fs i).empty) := by
  refine ⟨enters_of Tryz.func174 (by kernel_rfl) rfl, fun i hi w' hb => ?_⟩
  show Calls Tryz.prog 174 (#[(fth l i).val] ++ #[]) w' (fun e w'' => e = .returned (.bool ((spth fs i).empty)) ∧ Below w'.heap.size w' w'')
  have hs := h.2 i hi
  generalize fth l i = v at hs
  generalize spth fs i = f at hs
  have ee := hs.ee
  have HM : Hid (∀ x, Below w'.heap.size w' x → Calls Tryz.prog v.ef v.ec x fun e w' => e = .returned (.bool f.empty) ∧ Below x.heap.size x w') := Lib.hid (fun x hx => hs.empty x ((hk.next hb).next hx))
  clear hs
  show Calls Tryz.prog 174 #[v.val] w' _
  unfold FVal.val
  go_enter Tryz.func174, Tryz.ntmps174
  go_wp2_with fail
  refine (HM.out _ (balloc (Below.refl _ _) _)).mono ?_
  rintro e w1 ⟨rfl, hb1⟩
  have HB1 : Hid (Below w'.heap.size w' w1) := Lib.hid (bnext (balloc (Below.refl _ _) _) hb1)
  clear hb1
  go_wp2
  go_ret
  exact ⟨rfl, HB1.out⟩
set_option maxRecDepth 100000 in
theorem says_full {B : Nat} {W0 w : World} {l : List FVal} {fs : List FSpec} (h : FSems B W0 l fs) (hk : Keep8 B W0 w) : SaysF w l 179 #[] (fun i => !(spth fs i).empty) := by
  refine ⟨enters_of Tryz.func179 (by kernel_rfl) rfl, fun i hi w' hb => ?_⟩
  show Calls Tryz.prog 179 (#[(fth l i).val] ++ #[]) w' (fun e w'' => e = .returned (.bool (!(spth fs i).empty)) ∧ Below w'.heap.size w' w'')
  have hs := h.2 i hi
  generalize fth l i = v at hs
  generalize spth fs i = f at hs
  have ee := hs.ee
  have HM : Hid (∀ x, Below w'.heap.size w' x → Calls Tryz.prog v.ef v.ec x fun e w' => e = .returned (.bool f.empty) ∧ Below x.heap.size x w') := Lib.hid (fun x hx => hs.empty x ((hk.next hb).next hx))
  clear hs
  show Calls Tryz.prog 179 #[v.val] w' _
  unfold FVal.val
  go_enter Tryz.func179, Tryz.ntmps179
  go_wp2_with fail
  refine (HM.out _ (balloc (Below.refl _ _) _)).mono ?_
  rintro e w1 ⟨rfl, hb1⟩
  have HB1 : Hid (Below w'.heap.size w' w1) := Lib.hid (bnext (balloc (Below.refl _ _) _) hb1)
  clear hb1
  go_wp2
  go_ret
  exact ⟨rfl, HB1.out⟩
set_option maxRecDepth 100000 in
theorem says_must {B : Nat} {W0 w : World} {l : List FVal} {fs : List FSpec} (h : FSems B W0 l fs) : SaysF w l 177 #[] (fun i => (spth fs i).must) := by
  refine ⟨enters_of Tryz.func177 (by kernel_rfl) rfl, fun i hi w' hb => ?_⟩
  show Calls Tryz.prog 177 (#[(fth l i).val] ++ #[]) w' (fun e w'' => e = .returned (.bool ((spth fs i).must)) ∧ Below w'.heap.size w' w'')
  have hs := (h.2 i hi).must
  generalize fth l i = v at hs
  generalize spth fs i = f at hs
  show Calls Tryz.prog 177 #[v.val] w' _
  have HS := Lib.hid hs
  clear hs
  unfold FVal.val
  go_enter Tryz.func177, Tryz.ntmps177
  go_wp2
  go_ret
  exact ⟨ret_bool HS.out, by (repeat (first | exact Below.refl _ _ | assumption | (refine bdrew ?_) | (refine bdrewN ?_ _) | (refine balloc ?_ _) | (refine bset ?_ (by first | omega | (simp; done) | (simp; omega)) _) | (refine bnext ?_ (by assumption))))⟩
theorem allMay_iff (fs : List FSpec) (n : Nat) (h : len fs = n) : (allMay fs = false ↔ ∃ i, i < n ∧ (!(spth fs i).may) = true) := by
  unfold allMay
  subst h
  rw [List.all_eq_false]
  constructor
  · rintro ⟨x, hx, hm⟩
    obtain ⟨i, hi, rfl⟩ := List.getElem_of_mem hx
    exact ⟨i, hi, by rw [spth_eq fs i hi]; simpa using hm⟩
  · rintro ⟨i, hi, hm⟩
    have hi' : i < fs.length := hi
    exact ⟨fs[i], List.getElem_mem _, by rw [spth_eq fs i hi'] at hm; simpa using hm⟩
theorem all_any (B : Nat) (W0 : World) (a : Option Addr) (c : Nat) (l : List FVal) (fs : List FSpec) (w : World) (hl : Flds w a l) (hn : len l ≤ 1000) (hS : FSems B W0 l fs) (hk : Keep8 B W0 w) :
    Calls Tryz.prog 103 #[.slice a (len l) c] w fun e w' => e = .returned (.bool (allMay fs)) ∧ Below w.heap.size w w' := by
  have H := Lib.hid (containsf_any a c l 171 #[] _ w hl hn (says_all hS hk))
  have HI := Lib.hid (allMay_iff fs (len l) hS.1)
  clear hl hS hk
  go_enter Tryz.func103, Tryz.ntmps103
  go_wp2_with fail
  refine H.out.mono ?_
  rintro e w1 ⟨b, rfl, hb1, hb⟩
  have HB := Lib.hid hb
  have HE : Hid ((!b) = allMay fs) := Lib.hid (by
    have h := HI.out
    cases b with
    | true => rw [h.2 (hb1.1 rfl)]; rfl
    | false =>
      cases hm : allMay fs with
      | true => rfl
      | false => exact absurd (hb1.2 (h.1 hm)) (by decide))
  clear hb hb1
  go_wp2
  go_ret
  exact ⟨ret_bool HE.out, HB.out⟩
end Go.Proofs.YtihiaopilnjonaaGreatDoor
namespace Go.Proofs.YtihiaopilnjonaaGreatDoor
open Go.RowKit
set_option linter.unusedSimpArgs false
set_option linter.unusedVariables false
theorem info_field : (Tryz.prog.info? 172).map (fun i => (i.zero, i.size, i.bytes)) = some (some (.agg #[.string ByteArray.empty, .bool false, .nilFunc, .nilFunc, .nilFunc, .nilFunc]), 6, 56) := by kernel_rfl
theorem flds_news {w : World} {b off : Nat} {l : List FVal} (h : Flds w (some ⟨b, off, none⟩) l) : ∀ j u, (l.flatMap FVal.cells)[j]? = some u → w.cell? ((⟨b, off, none⟩ : Addr).add j) = some u := by
  intro j u hu
  have hj : j < (l.flatMap FVal.cells).length := (List.getElem?_eq_some_iff.1 hu).1
  rw [flat_length FVal.cells 6 FVal.cells_len] at hj
  have hi : j / 6 < l.length := by omega
  have e := flat_get FVal.cells 6 FVal.cells_len l (j / 6) (j % 6) hi (by omega)
  rw [show j / 6 * 6 + j % 6 = j by omega] at e
  rw [e] at hu
  obtain ⟨b', off', e2, c0, c1, c2, c3, c4, c5⟩ := h (j / 6) hi
  cases e2
  rw [fth_eq l _ hi] at c0 c1 c2 c3 c4 c5
  have ha : (⟨b, off, none⟩ : Addr).add j = ⟨b, off + j, none⟩ := by
    unfold Addr.add; split
    · rename_i h0; subst h0; rfl
    · rfl
  rw [ha]
  have hr : j % 6 = 0 ∨ j % 6 = 1 ∨ j % 6 = 2 ∨ j % 6 = 3 ∨ j % 6 = 4 ∨ j % 6 = 5 := by omega
  have hq : off + j = off + j / 6 * 6 + j % 6 := by omega
  rw [hq]
  rcases hr with h0 | h0 | h0 | h0 | h0 | h0 <;> rw [h0] at hu ⊢
  · rw [Nat.add_zero, c0]; exact hu
  · rw [c1]; exact hu
  · rw [c2]; exact hu
  · rw [c3]; exact hu
  · rw [c4]; exact hu
  · rw [c5]; exact hu
theorem flds_one (l : List FVal) : ∀ u ∈ l.flatMap FVal.cells, u.oneCell' = true := by
  intro u hu
  obtain ⟨v, _, hv⟩ := List.mem_flatMap.1 hu
  exact v.cells_one u hv
set_option maxRecDepth 100000 in
theorem clone_any (b off c : Nat) (l : List FVal) (w : World) (hl : Flds w (some ⟨b, off, none⟩) l) (hn : len l ≤ 1000) :
    Calls Tryz.prog 173 #[.slice (some ⟨b, off, none⟩) (len l) c] w fun e w' => ∃ v, e = .returned v ∧ w'.ownsRow w.heap.size 172 6 v (len l) (l.flatMap FVal.cells) ∧ Below w.heap.size w w' := by
  have HL := Lib.hid hl
  obtain ⟨i0, hi, hz0, hz1, hz2⟩ := info_parts info_field
  have HZ := Lib.hid hz0
  have E0 : Hid ((w.alloc (.cells #[] 172)).ownsRow w.heap.size 172 6 (.slice (some ⟨w.heap.size, 0, none⟩) 0 0) 0 []) := Lib.hid (World.ownsRow_lit w #[] 0 (Nat.le_refl _) (Nat.zero_le _) rfl)
  have heq : ∀ W, (binOp .eql 113 (.slice (some ⟨b, off, none⟩) (len l) c) (.slice none 0 0)).run Tryz.prog W = .ok (.bool false) W := fun W => Lib.run_eql_slice_nil W 113 172 (some ⟨b, off, none⟩) (len l) c 0 0 Tryz.underlying113
  clear hl hz0
  go_enter Tryz.func173, Tryz.ntmps173
  go_wp2_with (at_builtin; refine wpList_append_own _ rfl _ _ 113 rfl w.heap.size 172 i0 (.agg #[.string ByteArray.empty, .bool false, .nilFunc, .nilFunc, .nilFunc, .nilFunc]) 6 56 Tryz.underlying113 hi HZ.out hz1 hz2 rfl (by decide) _ 0 [] rfl E0.out ⟨b, off, none⟩ (len l) c (l.flatMap FVal.cells) rfl (flat_length FVal.cells 6 FVal.cells_len l) (flds_news (HL.out.below (balloc (Below.refl _ _) _))) (flds_one l) (by unfold maxLen; omega) (by omega) (by simp) ?_)
  intro v' w2 hown hgrow _
  have HB : Hid (Below w.heap.size w w2) := Lib.hid (grownBy_below (balloc (Below.refl _ _) _) hgrow (fun k hk => by simp [Value.ownBlock] at hk; omega))
  have HO : Hid (w2.ownsRow w.heap.size 172 6 v' (len l) (l.flatMap FVal.cells)) := Lib.hid (by simpa using hown)
  clear hown hgrow
  go_wp2
  go_ret
  exact ⟨_, rfl, HO.out, HB.out⟩
def RowC (w : World) (g n : Nat) (R : List FVal) : Prop := len R = n ∧ ∃ cur, w.heap[g]? = some (.cells cur 172 (0, 0)) ∧ n * 6 ≤ cur.size ∧ ∀ i, i < n → ∀ r, r < 6 → cur[i * 6 + r]? = (fth R i).cells[r]?
theorem RowC.of_own {w : World} {base n : Nat} {v : Value} {l : List FVal} (h : w.ownsRow base 172 6 v n (l.flatMap FVal.cells)) (hn : 0 < n) : ∃ g cap, v = .slice (some ⟨g, 0, none⟩) n cap ∧ base ≤ g ∧ n ≤ cap ∧ RowC w g n l := by
  have hl : len l = n := by have := h.1; rw [flat_length FVal.cells 6 FVal.cells_len] at this; rw [len_eq]; omega
  rcases h.2 with ⟨_, h0⟩ | ⟨g, cap, cur, rfl, hg, hh, hc1, hc2, hc3, hc4⟩
  · omega
  · refine ⟨g, cap, rfl, hg, hc1, hl, cur, hh, by omega, fun i hi r hr => ?_⟩
    have hil : i < l.length := by rw [← len_eq, hl]; exact hi
    have e := flat_get FVal.cells 6 FVal.cells_len l i r hil hr
    rw [fth_eq l i hil, ← e, ← hc4, List.getElem?_take, if_pos (by omega)]
    simp
theorem RowC.at {w : World} {g n : Nat} {R : List FVal} (h : RowC w g n R) {i : Nat} (hi : i < n) : FValAt w g (i * 6) (fth R i) := by
  obtain ⟨_, cur, h1, h2, h3⟩ := h
  have key : ∀ r, r < 6 → w.cell? ⟨g, i * 6 + r, none⟩ = (fth R i).cells[r]? := fun r hr => by rw [block_cell h1]; exact h3 i hi r hr
  exact ⟨key 0 (by decide), key 1 (by decide), key 2 (by decide), key 3 (by decide), key 4 (by decide), key 5 (by decide)⟩
theorem RowC.flds {w : World} {g n : Nat} {R : List FVal} (h : RowC w g n R) : Flds w (some ⟨g, 0, none⟩) R := fun i hi => ⟨g, 0, rfl, by rw [Nat.zero_add]; exact h.at (by rw [← h.1]; exact hi)⟩
theorem RowC.free {w : World} {g n : Nat} {R : List FVal} (h : RowC w g n R) (o : Nat) : w.frozen? ⟨g, o, none⟩ = false := by
  obtain ⟨_, cur, h1, _⟩ := h; exact block_free h1 o
theorem RowC.keep {w w' : World} {g n : Nat} {R : List FVal} (h : RowC w g n R) (hk : w'.heap[g]? = w.heap[g]?) : RowC w' g n R := by
  obtain ⟨h0, cur, h1, h2⟩ := h; exact ⟨h0, cur, hk.trans h1, h2⟩
theorem RowC.lt {w : World} {g n : Nat} {R : List FVal} (h : RowC w g n R) : g < w.heap.size := by
  obtain ⟨_, cur, h1, _⟩ := h; exact lt_of_block h1
def keptV (p : Nat → Bool) (l : List FVal) : Nat → List FVal
  | 0 => []
  | m + 1 => if p m then keptV p l m else keptV p l m ++ [fth l m]
theorem keptV_low {p : Nat → Bool} {l : List FVal} {k : Nat} (hk : k < len l) (h : ∀ i, i < k → p i = false) (hp : p k = true) : keptV p l (k + 1) = l.take k := by
  have key : ∀ m, m ≤ k → keptV p l m = l.take m := by
    intro m
    induction m with
    | zero => intro _; simp [keptV]
    | succ m ih =>
      intro hm
      have hm' : m < l.length := by have : k < l.length := hk; omega
      rw [keptV, h m (by omega), ih (by omega), List.take_succ_eq_append_getElem hm', fth_eq l m hm']; simp
  rw [keptV, if_pos hp, key k (Nat.le_refl _)]
theorem keptV_len (p : Nat → Bool) (l : List FVal) : ∀ m, len (keptV p l m) ≤ m
  | 0 => Nat.le_refl _
  | m + 1 => by
    have := keptV_len p l m
    rw [keptV]
    split
    · omega
    · rw [len_eq] at this ⊢; simp; omega
theorem fth_take {l : List FVal} {k t : Nat} (h : t < k) (hk : k ≤ len l) : fth (l.take k) t = fth l t := by
  have hk' : k ≤ l.length := hk
  rw [fth_eq _ t (by rw [List.length_take]; omega), fth_eq l t (by omega), List.getElem_take]
theorem fth_snoc {l : List FVal} {v : FVal} {t : Nat} (h : t < len l) : fth (l ++ [v]) t = fth l t := by
  have h' : t < l.length := h
  rw [fth_eq _ t (by simp; omega), fth_eq l t h', List.getElem_append_left h']
theorem fth_last (l : List FVal) (v : FVal) : fth (l ++ [v]) (len l) = v := by
  rw [len_eq, fth_eq _ l.length (by simp)]; simp
theorem fth_set {R : List FVal} {q t : Nat} {v : FVal} (hq : q < len R) : fth (R.set q v) t = if t = q then v else fth R t := by
  have hq' : q < R.length := hq
  by_cases e : t = q
  · subst e; rw [if_pos rfl, fth_eq _ t (by simpa using hq'), List.getElem_set_self]
  · rw [if_neg e]
    unfold fth
    rw [List.getD_eq_getElem?_getD, List.getD_eq_getElem?_getD, List.getElem?_set_ne (fun e2 => e e2.symm)]
structure DelSt (base : Nat) (p : Nat → Bool) (l : List FVal) (w : World) (g m q : Nat) (R : List FVal) (wr : World) : Prop where
  cnt : len (keptV p l m) = q
  lt : q < m
  low : ∀ t, t < q → fth R t = fth (keptV p l m) t
  high : ∀ t, m ≤ t → t < len l → fth R t = fth l t
  row : RowC wr g (len l) R
  bel : Below base w wr
theorem DelSt.below {base g m q : Nat} {p : Nat → Bool} {l R : List FVal} {w wr w' : World} (h : DelSt base p l w g m q R wr) (hb : Below wr.heap.size wr w') (hbw : base ≤ w.heap.size) : DelSt base p l w g m q R w' :=
  ⟨h.cnt, h.lt, h.low, h.high, h.row.keep (hb.block _ h.row.lt), h.bel.trans (hb.mono (Nat.le_trans hbw h.bel.size))⟩
abbrev setF (w : World) (g q : Nat) (v : FVal) : World :=
  (((((w.setCell ⟨g, q * 6, none⟩ (.string v.key)).setCell ⟨g, q * 6 + 1, none⟩ (.bool v.must)).setCell ⟨g, q * 6 + 2, none⟩ (.func (.func v.ef) #[] v.ec)).setCell ⟨g, q * 6 + 3, none⟩ (.func (.func v.mf) #[] v.mc)).setCell ⟨g, q * 6 + 4, none⟩ (.func (.func v.pf) #[] v.pc)).setCell ⟨g, q * 6 + 5, none⟩ (.func (.func v.gf) #[] v.gc)
theorem RowC.put {w : World} {g n q : Nat} {R : List FVal} (h : RowC w g n R) (hq : q < n) (v : FVal) : RowC (setF w g q v) g n (R.set q v) := by
  obtain ⟨h0, cur, h1, h2, h3⟩ := h
  refine ⟨by rw [len_eq, List.length_set, ← len_eq]; exact h0, _, block_setCell (block_setCell (block_setCell (block_setCell (block_setCell (block_setCell h1 _) _) _) _) _) _, by simpa using h2, fun i hi r hr => ?_⟩
  rw [fth_set (by omega)]
  by_cases e : i = q
  · subst e
    rw [if_pos rfl]
    have hs : i * 6 + 5 < cur.size := by omega
    have hr' : r = 0 ∨ r = 1 ∨ r = 2 ∨ r = 3 ∨ r = 4 ∨ r = 5 := by omega
    rcases hr' with rfl | rfl | rfl | rfl | rfl | rfl
    · simp only [Nat.add_zero]
      rw [Array.getElem?_setIfInBounds_ne (by omega), Array.getElem?_setIfInBounds_ne (by omega), Array.getElem?_setIfInBounds_ne (by omega), Array.getElem?_setIfInBounds_ne (by omega), Array.getElem?_setIfInBounds_ne (by omega), Array.getElem?_setIfInBounds_self_of_lt (by omega)]; rfl
    · rw [Array.getElem?_setIfInBounds_ne (by omega), Array.getElem?_setIfInBounds_ne (by omega), Array.getElem?_setIfInBounds_ne (by omega), Array.getElem?_setIfInBounds_ne (by omega), Array.getElem?_setIfInBounds_self_of_lt (by simp; omega)]; rfl
    · rw [Array.getElem?_setIfInBounds_ne (by omega), Array.getElem?_setIfInBounds_ne (by omega), Array.getElem?_setIfInBounds_ne (by omega), Array.getElem?_setIfInBounds_self_of_lt (by simp; omega)]; rfl
    · rw [Array.getElem?_setIfInBounds_ne (by omega), Array.getElem?_setIfInBounds_ne (by omega), Array.getElem?_setIfInBounds_self_of_lt (by simp; omega)]; rfl
    · rw [Array.getElem?_setIfInBounds_ne (by omega), Array.getElem?_setIfInBounds_self_of_lt (by simp; omega)]; rfl
    · rw [Array.getElem?_setIfInBounds_self_of_lt (by simp; omega)]; rfl
  · rw [if_neg e, Array.getElem?_setIfInBounds_ne (by omega), Array.getElem?_setIfInBounds_ne (by omega), Array.getElem?_setIfInBounds_ne (by omega), Array.getElem?_setIfInBounds_ne (by omega), Array.getElem?_setIfInBounds_ne (by omega), Array.getElem?_setIfInBounds_ne (by omega)]
    exact h3 i hi r hr
theorem setF_below {base g q : Nat} {a w : World} (h : Below base a w) (hg : base ≤ g) (v : FVal) : Below base a (setF w g q v) :=
  (((((h.setCell hg _).setCell hg _).setCell hg _).setCell hg _).setCell hg _).setCell hg _
theorem DelSt.put {base g m q : Nat} {p : Nat → Bool} {l R : List FVal} {w wr : World} (h : DelSt base p l w g m q R wr) (hm : m < len l) (hp : p m = false) (hg : base ≤ g) : DelSt base p l w g (m + 1) (q + 1) (R.set q (fth l m)) (setF wr g q (fth l m)) := by
  obtain ⟨a1, a2, a3, a4, a5, a6⟩ := h
  have hR := a5.1
  have e : keptV p l (m + 1) = keptV p l m ++ [fth l m] := by rw [keptV, if_neg (by rw [hp]; decide)]
  refine ⟨by rw [e, ← a1, len_eq, len_eq]; simp, by omega, fun t ht => ?_, fun t h1 h2 => ?_, a5.put (by omega) _, setF_below a6 hg _⟩
  · rw [fth_set (by omega), e]
    by_cases et : t = q
    · subst et; rw [if_pos rfl, ← a1, fth_last]
    · rw [if_neg et, fth_snoc (by omega)]; exact a3 t (by omega)
  · rw [fth_set (by omega), if_neg (by omega)]; exact a4 t (by omega) h2
theorem below_sc {B b : Nat} {a : World} (hb : B ≤ b) : ∀ (vs : List Value) (o : Nat) (w : World), Below B a w → Below B a (w.setCells b o vs)
  | [], _, _, h => h
  | v :: r, o, w, h => below_sc hb r (o + 1) _ (h.setCell hb v)
theorem cells_sc {b : Nat} {T : TypeId} {fr : Nat × Nat} : ∀ (vs : List Value) (o : Nat) (w : World) (cur : Array Value), w.heap[b]? = some (.cells cur T fr) → ∃ cur', (w.setCells b o vs).heap[b]? = some (.cells cur' T fr)
  | [], _, _, cur, h => ⟨cur, h⟩
  | v :: r, o, w, cur, h => cells_sc r (o + 1) _ _ (block_setCell h v)
theorem clear_row {w : World} {g n q c : Nat} {R : List FVal} (h : RowC w g n R) (hq : q < n) (ty : TypeId) : ∃ w7, (Builtin.clear_ #[113] ty #[.slice (some ⟨g, q * 6, none⟩) (n - q) c]).run Tryz.prog w = .ok (.tuple #[]) w7 ∧ (∀ t, t < q → FValAt w7 g (t * 6) (fth R t)) ∧ (∀ base a, base ≤ g → Below base a w → Below base a w7) ∧ ∃ cur, w7.heap[g]? = some (.cells cur 172 (0, 0)) := by
  obtain ⟨zs, hzs⟩ : ∃ zs, (Builtin.zeroCells (Value.agg #[.string ⟨#[]⟩, .bool false, .nilFunc, .nilFunc, .nilFunc, .nilFunc]).cells (n - q)).toList = zs := ⟨_, rfl⟩
  have hzl : zs.length = (n - q) * 6 := by rw [← hzs]; simp [Builtin.zeroCells, Value.cells]
  have hz1 : ∀ u ∈ zs, u.oneCell' = true := by
    intro u hu
    rw [← hzs] at hu
    simp [Builtin.zeroCells, Value.cells] at hu
    obtain ⟨i, hi, rfl⟩ := hu
    have : i % 6 = 0 ∨ i % 6 = 1 ∨ i % 6 = 2 ∨ i % 6 = 3 ∨ i % 6 = 4 ∨ i % 6 = 5 := by omega
    rcases this with e | e | e | e | e | e <;> simp [e] <;> rfl
  have hc : ∀ j, j < zs.length → (w.cell? ⟨g, q * 6 + j, none⟩).isSome = true := fun j hj => by
    obtain ⟨_, cur, h1, h2, _⟩ := h
    rw [block_cell h1, Array.getElem?_eq_getElem (by omega)]; rfl
  have hst := run_storeCells_cells (P := Tryz.prog) g (q * 6) zs 0 w (by simpa using hc) (fun j _ => h.free _) hz1
  simp only [Nat.add_zero] at hst
  refine ⟨w.setCells g (q * 6) zs, ?_, fun t ht => ?_, fun base a hb hbel => below_sc hb zs (q * 6) w hbel, by obtain ⟨_, cur, h, _⟩ := h; exact cells_sc zs (q * 6) w cur h⟩
  · obtain ⟨m, hm⟩ : ∃ m, n - q = m + 1 := ⟨n - q - 1, by omega⟩
    rw [hm] at hzs ⊢
    simp [Builtin.clear_, run_underlying Tryz.underlying113, Tryz.zeroValue172, hzs, hst]
  · obtain ⟨c0, c1, c2, c3, c4, c5⟩ := h.at (i := t) (by omega)
    have e : ∀ o, o < q * 6 → (w.setCells g (q * 6) zs).cell? ⟨g, o, none⟩ = w.cell? ⟨g, o, none⟩ := fun o ho => World.cell?_setCells_out g zs (q * 6) w ⟨g, o, none⟩ (fun _ _ => .inl ho)
    exact ⟨(e _ (by omega)).trans c0, (e _ (by omega)).trans c1, (e _ (by omega)).trans c2, (e _ (by omega)).trans c3, (e _ (by omega)).trans c4, (e _ (by omega)).trans c5⟩
def DelOut (base : Nat) (p : Nat → Bool) (l : List FVal) (w : World) (e : Ending) (w' : World) : Prop :=
  ∃ g cap, e = .returned (.slice (some ⟨g, 0, none⟩) (len (keptV p l (len l))) cap) ∧ Flds w' (some ⟨g, 0, none⟩) (keptV p l (len l)) ∧ Below base w w' ∧ base ≤ g ∧ ∃ cur, w'.heap[g]? = some (.cells cur 172 (0, 0))
set_option maxRecDepth 100000 in
set_option maxHeartbeats 4000000 in
theorem delf_any (base : Nat) (v : Value) (l : List FVal) (g0 : Nat) (lb : Array Value) (p : Nat → Bool) (w : World) (hown : w.ownsRow base 172 6 v (len l) (l.flatMap FVal.cells)) (hn : len l ≤ 1000) (h0 : 0 < len l) (hbw : base ≤ w.heap.size)
    (eg : ∀ args w', (callFunc g0 args).run Tryz.prog w' = .ok (.enter g0 args) w') (hp : ∀ i, i < len l → ∀ w', Below base w w' → Calls Tryz.prog g0 (#[(fth l i).val] ++ lb) w' fun e w'' => e = .returned (.bool (p i)) ∧ Below w'.heap.size w' w'') :
    Calls Tryz.prog 172 #[v, .func (.func g0) #[] lb] w (DelOut base p l w) := by
  obtain ⟨g, cap, rfl, hg, hcap, hrow⟩ := RowC.of_own hown h0
  have HROW := Lib.hid hrow
  have HP := Lib.hid hp
  have HI := Lib.hid (idxf_any (some ⟨g, 0, none⟩) cap l g0 lb p w hrow.flds hn ⟨eg, fun i hi w' hb => hp i hi w' (hb.mono hbw)⟩)
  clear hown hrow hp
  go_enter Tryz.func172, Tryz.ntmps172
  go_wp2_with fail
  refine HI.out.mono ?_
  rintro e w1 ⟨r, rfl, hr, hb⟩
  have HB1 := Lib.hid hb
  have HROW1 := Lib.hid (HROW.out.keep (hb.block _ HROW.out.lt))
  clear hb HROW
  rcases hr with ⟨rfl, hall⟩ | ⟨k, hk, rfl, hpk, hlow⟩
  · have HK : Hid (keptV p l (len l) = l) := Lib.hid (by
      have key : ∀ m, m ≤ len l → keptV p l m = l.take m := by
        intro m
        induction m with
        | zero => intro _; simp [keptV]
        | succ m ih =>
          intro hm
          have hm' : m < l.length := hm
          rw [keptV, hall m hm, ih (by omega), List.take_succ_eq_append_getElem hm', fth_eq l m hm']; simp
      rw [key _ (Nat.le_refl _)]; exact take_len l)
    clear hall
    go_wp2
    go_ret
    exact ⟨g, cap, by rw [HK.out]; rfl, by rw [HK.out]; exact HROW1.out.flds, HB1.out.mono hbw, hg, by obtain ⟨_, cur, h, _⟩ := HROW1.out; exact ⟨cur, h⟩⟩
  · have HPK := Lib.hid hpk
    have HLOW := Lib.hid hlow
    clear hpk hlow
    go_wp2
    have ST : Hid (DelSt base p l w g (k + 1) k l w1) := Lib.hid (by
      have e := keptV_low hk HLOW.out HPK.out
      have hk' : k < l.length := hk
      refine ⟨by rw [e, len_eq, List.length_take]; omega, Nat.lt_succ_self _, fun t ht => by rw [e, fth_take ht (Nat.le_of_lt hk)], fun t _ _ => rfl, HROW1.out, HB1.out.mono hbw⟩)
    clear HROW1 HI HLOW HPK
    go_loopg [5, 6] (len l - (k + 1)) (fun gg i j wr => ∃ m q : Nat, ∃ R : List FVal, gg + m = len l ∧ i = .int .i64 q ∧ j = .int .i64 m ∧ Hid (DelSt base p l w g m q R wr))
    case atStart => exact ⟨k + 1, k, l, by omega, rfl, by first | rfl | simp, ST.out⟩
    case round =>
      clear ST
      obtain ⟨m, q, R, hm, rfl, rfl, HST⟩ := hrel
      have hqm := HST.out.lt
      by_cases hlt : m < len l
      · have i1 : (m : Int) < len l := by omega
        obtain ⟨c0, c1, c2, c3, c4, c5⟩ := HST.out.row.at hlt
        rw [HST.out.high m (Nat.le_refl _) hlt] at c0 c1 c2 c3 c4 c5
        have hcall := HP.out m hlt
        unfold FVal.val at hcall
        obtain ⟨v, hv⟩ : ∃ v, fth l m = v := ⟨_, rfl⟩
        have HV := Lib.hid hv
        rw [hv] at c0 c1 c2 c3 c4 c5 hcall
        have HC := Lib.hid hcall
        clear hcall hv
        go_wp2_with fail
        refine (HC.out _ (HST.out.bel.trans (Below.mono (balloc (Below.refl _ _) _) (Nat.le_trans hbw HST.out.bel.size)))).mono ?_
        rintro e w5 ⟨rfl, hb5⟩
        have HST5 : Hid (DelSt base p l w g m q R w5) := Lib.hid (HST.out.below (bnext (balloc (Below.refl _ _) _) hb5) hbw)
        have HBX : Hid (w5.heap[wr.heap.size]? = some (.cells #[.string v.key, .bool v.must, .func (.func v.ef) #[] v.ec, .func (.func v.mf) #[] v.mc, .func (.func v.pf) #[] v.pc, .func (.func v.gf) #[] v.gc] 172 (0, 0))) := Lib.hid ((hb5.block _ (by simp)).trans (heap_alloc_new _ _))
        clear hb5 c0 c1 c2 c3 c4 c5 HC HST
        cases hpm : p m with
        | true =>
          have HST6 : Hid (DelSt base p l w g (m + 1) q R w5) := Lib.hid (by
            obtain ⟨a1, a2, a3, a4, a5, a6⟩ := HST5.out
            have e : keptV p l (m + 1) = keptV p l m := by rw [keptV, if_pos hpm]
            exact ⟨by rw [e]; exact a1, by omega, fun t ht => by rw [e]; exact a3 t ht, fun t h1 h2 => a4 t (by omega) h2, a5, a6⟩)
          clear hpm HST5 HBX
          go_wp2
          go_roundg (len l - (m + 1))
          case rel => exact ⟨m + 1, q, R, by omega, rfl, by go_num, HST6.out⟩
          case measure => omega
        | false =>
          have hqn : q < len l := by omega
          obtain ⟨d0, d1, d2, d3, d4, d5⟩ := HST5.out.row.at hqn
          have hfr := HST5.out.row.free
          have bx : ∀ o, w5.cell? ⟨wr.heap.size, o, none⟩ = _ := block_cell HBX.out
          have iq : (q : Int) < len l := by omega
          have HST6 : Hid (DelSt base p l w g (m + 1) (q + 1) (R.set q v) (setF w5 g q v)) := Lib.hid (by
            rw [← HV.out]; exact HST5.out.put hlt hpm hg)
          clear hpm HST5 HBX
          go_wp2_with fail
          clear d0 d1 d2 d3 d4 d5 hfr bx
          go_roundg (len l - (m + 1))
          case rel => exact ⟨m + 1, q + 1, R.set q v, by omega, by go_num, by go_num, HST6.out⟩
          case measure => omega
      · obtain rfl : m = len l := by omega
        have i1 : ¬ ((len l : Nat) : Int) < len l := by omega
        obtain ⟨w7, hcl, hfl, hb7, hc7⟩ := clear_row (c := cap - q) HST.out.row HST.out.lt 0
        have HFL : Hid (Flds w7 (some ⟨g, 0, none⟩) (keptV p l (len l))) := Lib.hid (fun i hi => ⟨g, 0, rfl, by
          rw [HST.out.cnt] at hi
          rw [Nat.zero_add, ← HST.out.low i hi]; exact hfl i hi⟩)
        have HB7 := Lib.hid (hb7 base w hg HST.out.bel)
        have HC7 := Lib.hid hc7
        have HCN := Lib.hid HST.out.cnt
        clear hfl hb7 hc7 HST
        go_wp2
        go_ret
        exact ⟨g, cap, by rw [HCN.out]; rfl, HFL.out, HB7.out, hg, HC7.out⟩
end Go.Proofs.YtihiaopilnjonaaGreatDoor

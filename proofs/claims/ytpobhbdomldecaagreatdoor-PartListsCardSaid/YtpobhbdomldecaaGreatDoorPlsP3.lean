/- Parts of the proof, one behind the other. -/
import Derived.Test.YtpobhbdomldecaaGreatDoorPlsP2
import Derived.Great.Walk
import Derived.Laws.AppendOwn
import Derived.Laws.MakeOwn
import Derived.BigQuiet
import Derived.IntWalk
import Derived.WalkMore
import Derived.Lib.ConvBytes
import Derived.Lib.Strings
import Derived.Defers
import Derived.Recover
import Derived.LaidEql
import Derived.Stop.Asserts
import Derived.RowKitTokens
import Derived.Lib.AppendStr
namespace Go.Proofs.YtpobhbdomldecaaGreatDoor
open Go.RowKit Go.Great
set_option linter.unusedSimpArgs false
set_option linter.unusedVariables false
theorem idx_str (s : ByteArray) (i : Nat) (x : Int) (hx : x = (i : Int)) (h : i < s.size) (w : World) : (Instr.index 9 (.string s) (.int .i64 x)).run Tryz.prog w = .ok (.int .u8 (wI (bW (bth s.data.toList i)))) w := by
  subst hx
  have h2 : i < s.data.toList.length := by rw [data_size]; exact h
  have e : (s[i]).toNat = (bth s.data.toList i).toNat := by
    unfold bth
    rw [List.getD_eq_getElem?_getD, List.getElem?_eq_getElem h2]
    rfl
  have e3 : ((s[i]).toNat : Int) = wI (bW (bth s.data.toList i)) := by rw [e, wI_bW]
  rw [run_index_string (P := Tryz.prog) (w := w) 9 s .i64 ((i : Nat) : Int) Tryz.underlying9, dif_pos ⟨by omega, by omega⟩]
  have e4 : ∀ (k : Nat) (hk : k < s.size), k = i → ((s[k]'hk).toNat : Int) = wI (bW (bth s.data.toList i)) := fun k hk he => by subst he; exact e3
  rw [e4 _ _ (Int.toNat_natCast i)]
theorem bv_not2 (x : W32) : bits .xor .u32 (if IntKind.u32.signed = true then -1 else IntKind.u32.max) (wI x) = wI (~~~ x) := bv_not x
theorem wpList_build_ofR {P : Program} {ops : Array Oper} {rest : List Oper} {o : Oper} {a : Act} {w : World} {Q : Exit → Act → World → Prop} (hg : o.guard = none) (t : TypeId) (parts : Array (Nat × Operand)) (ho : o.op = .build t parts) (cs : Array Value)
    (hf : P.built t (parts.map fun (i, x) => (i, a.eval x)).toList = some cs) (h : wpList P ops Q rest (a.put o.dst (.agg cs)) w) : wpList P ops Q (o :: rest) a w :=
  wpList_build hg t parts ho (by rw [hf]; rfl) (by rw [hf]; exact h)
def Ev (a : Act) (n : Nat) (l : List (Nat × Value)) : Prop := a.tmps.size = n ∧ a.defers = [] ∧ ∀ p ∈ l, a.eval (.tmp p.1) = p.2
theorem Ev.put {a : Act} {n : Nat} {l : List (Nat × Value)} (h : Ev a n l) (d : Nat) (v : Value) (hd : d < n) (hf : l.all (fun p => p.1 != d) = true) : Ev (a.put (some d) v) n ((d, v) :: l) := by
  refine ⟨by simp [Act.put, h.1], h.2.1, ?_⟩
  intro p hp
  rcases List.mem_cons.1 hp with rfl | hp
  · exact eval_put_same (by rw [h.1]; exact hd)
  · have h1 := List.all_eq_true.1 hf p hp
    rw [eval_put_ne (by simpa using h1)]
    exact h.2.2 p hp
theorem Ev.at {a : Act} {n : Nat} {l : List (Nat × Value)} (h : Ev a n l) (k d : Nat) (v : Value) (hk : l[k]? = some (d, v)) : a.eval (.tmp d) = v := h.2.2 (d, v) (List.mem_of_getElem? hk)
theorem Ev.atf {a : Act} {n : Nat} {l : List (Nat × Value)} (h : Ev a n l) (k d : Nat) (v : Value) (hk : l[k]? = some (d, v)) : a.tmps[d]?.getD undef = v := (ev_form a d).symm.trans (h.at k d v hk)
theorem wp_of_act {P : Program} {c : Code} {Q : Exit → Act → World → Prop} {a : Act} {w : World} (h : ∀ a0 : Act, a0 = a → Code.wp P c Q a0 w) : Code.wp P c Q a w := h a rfl
def zero8R : List W32 := List.replicate 8 0
structure BlkAt (pb rb : Nat) (A9 : Array Value) (w wr : World) : Prop where
  below : Below w.heap.size w wr
  p : wr.heap[pb]? = some (.cells A9 222 (0, 0))
  r : wr.heap[rb]? = some (.cells (wsC zero8R) 222 (0, 0))
theorem BlkAt.next {pb rb : Nat} {A9 : Array Value} {w wr w' : World} (h : BlkAt pb rb A9 w wr) (hb : Below wr.heap.size wr w') : BlkAt pb rb A9 w w' :=
  ⟨bnext h.below hb, (hb.block _ (lt_of_block h.p)).trans h.p, (hb.block _ (lt_of_block h.r)).trans h.r⟩
theorem BlkAt.set {pb rb b o : Nat} {A9 : Array Value} {w wr : World} {v : Value} (h : BlkAt pb rb A9 w wr) (h0 : w.heap.size ≤ b) (h1 : pb ≠ b) (h2 : rb ≠ b) : BlkAt pb rb A9 w (wr.setCell ⟨b, o, none⟩ v) :=
  ⟨bset h.below h0 _, block_setCell_ne h.p h1 _, block_setCell_ne h.r h2 _⟩
set_option maxRecDepth 100000 in
set_option maxHeartbeats 4000000 in
theorem rconsts_any (w : World) : Calls Tryz.prog 258 #[] w fun e w' => e = .returned (.agg (wsC kW)) ∧ Below w.heap.size w w' := by
  go_enter Tryz.func258, Tryz.ntmps258
  go_upto_region 1 with fail
  obtain ⟨b, hb⟩ : ∃ b, w.heap.size = b := ⟨_, rfl⟩
  show Code.wp _ _ _ _ (w.alloc (.cells (wsC zeroW) 294))
  obtain ⟨V, hV⟩ : ∃ V, w.alloc (.cells (wsC zeroW) 294) = V := ⟨_, rfl⟩
  have HV : Hid (V.heap[b]? = some (.cells (wsC zeroW) 294 (0, 0))) := Lib.hid (by rw [← hV, ← hb]; exact heap_alloc_new _ _)
  have HS : Hid (Below w.heap.size w V) := Lib.hid (by rw [← hV]; exact balloc (Below.refl _ _) _)
  have HBW : Hid (w.heap.size ≤ b) := Lib.hid (Nat.le_of_eq hb)
  rw [hV, hb]
  clear hV hb
  apply wp_region_lit
  refine wpList_build rfl 294 _ rfl (by as_aux_lemma => kernel_rfl) ?_
  refine wpList_store_row rfl 294 _ _ rfl b (wsC kW) rfl (by as_aux_lemma => kernel_rfl) 294 (wsC zeroW) HV.out (by as_aux_lemma => kernel_rfl) (by as_aux_lemma => kernel_rfl) (by as_aux_lemma => kernel_rfl) ?_
  apply wpList_nil
  obtain ⟨U, hU⟩ : ∃ U, V.setRow b (wsC kW) = U := ⟨_, rfl⟩
  have HU : Hid (U.heap[b]? = some (.cells (wsC kW) 294 (0, 0))) := Lib.hid (by rw [← hU]; exact setRow_heap V b _ _ _ _ HV.out)
  have HUB : Hid (Below w.heap.size w U) := Lib.hid (by
    rw [← hU]
    exact ⟨HS.out.os, HS.out.tape, HS.out.output, by rw [setRow_size]; exact HS.out.size, fun i hi => by rw [setRow_other _ _ _ _ (show i ≠ b by have := HBW.out; omega)]; exact HS.out.block i hi⟩)
  rw [hU]
  rename_i Q' K hK
  refine hK _ _ ?_
  apply wp_ret
  refine bodyPost_ret (v := .agg (wsC kW)) ?_ rfl ?_
  · exact results_cell_row rfl _ _ b 294 (wsC kW) (0, 0) _ rfl HU.out rfl rfl (by as_aux_lemma => kernel_rfl)
  · exact ⟨rfl, HUB.out⟩
attribute [local go_sem] bv_xor bv_and bv_or bv_add bv_addm
set_option maxRecDepth 100000 in
set_option maxHeartbeats 8000000 in
theorem rblock_any (v : St8) (s : ByteArray) (w : World) (hs : s.size = 64) :
    Calls Tryz.prog 188 #[.agg (wsC (stL v)), .string s] w fun e w' => e = .returned (.agg (wsC (stL (pressW v s.data.toList)))) ∧ Below w.heap.size w w' := by
  have HS := Lib.hid hs
  obtain ⟨A9, hA9⟩ : ∃ A9, wsC (stL v) = A9 := ⟨_, rfl⟩
  have HA9 := Lib.hid hA9
  rw [hA9]
  clear hs hA9
  go_enter Tryz.func188, Tryz.ntmps188
  go_upto_region 3 with fail
  obtain ⟨pb, hpb⟩ : ∃ pb, w.heap.size = pb := ⟨_, rfl⟩
  obtain ⟨rb, hrb⟩ : ∃ rb, pb + 1 = rb := ⟨_, rfl⟩
  obtain ⟨wb, hwb⟩ : ∃ wb, rb + 1 = wb := ⟨_, rfl⟩
  have e1 : w.heap.size + 1 = rb := by omega
  have e2 : w.heap.size + 1 + 1 = wb := by omega
  rw [e2, e1, hpb]
  obtain ⟨L, hL⟩ : ∃ L, s.data.toList = L := ⟨_, rfl⟩
  have HLL := Lib.hid hL
  have HLN : Hid (L.length = 64) := Lib.hid (by rw [← hL, data_size]; exact HS.out)
  have HNE : Hid (w.heap.size ≤ pb ∧ w.heap.size ≤ rb ∧ w.heap.size ≤ wb ∧ pb ≠ wb ∧ rb ≠ wb ∧ pb < wb ∧ rb < wb) := Lib.hid (by omega)
  change Code.wp _ _ _ _ (((w.alloc (.cells A9 222)).alloc (.cells (wsC zero8R) 222)).alloc (.cells (wsC zeroW) 294))
  obtain ⟨U, hU⟩ : ∃ U, (((w.alloc (.cells A9 222)).alloc (.cells (wsC zero8R) 222)).alloc (.cells (wsC zeroW) 294)) = U := ⟨_, rfl⟩
  rw [hU]
  have HB0 : Hid (BlkAt pb rb A9 w U) := Lib.hid ⟨by rw [← hU]; exact balloc (balloc (balloc (Below.refl _ _) _) _) _, by rw [← hU]; exact block_alloc (block_alloc (alloc_new_at _ hpb) _) _, by rw [← hU]; exact block_alloc (alloc_new_at _ (by rw [alloc_size _ rfl]; omega)) _⟩
  have HW0 : Hid (U.heap[wb]? = some (.cells (wsC (headZ L 0)) 294 (0, 0))) := Lib.hid (by rw [← hU]; exact alloc_new_at _ (by rw [alloc_size _ (alloc_size _ rfl)]; omega))
  clear hU e1 e2 hwb hrb hpb
  go_loopg [6] 16 (fun g i wr => ∃ m : Nat, g + m = 16 ∧ i = .int .i64 m ∧ Hid (wr.heap[wb]? = some (.cells (wsC (headZ L m)) 294 (0, 0))) ∧ Hid (BlkAt pb rb A9 w wr))
  case atStart => exact ⟨0, rfl, rfl, HW0, HB0⟩
  case round =>
    clear HW0 HB0
    obtain ⟨m, hm, rfl, HW, HB⟩ := hrel
    by_cases hlt : m < 16
    · have i1 : (m : Int) < 16 := by omega
      have i4 : IntKind.i64.wrap (4 * ((m : Nat) : Int)) = 4 * ((m : Nat) : Int) := IntWalk.i64_in _ (by omega)
      have i5 : IntKind.i64.wrap (4 * ((m : Nat) : Int) + 1) = 4 * ((m : Nat) : Int) + 1 := IntWalk.i64_in _ (by omega)
      have i6 : IntKind.i64.wrap (4 * ((m : Nat) : Int) + 2) = 4 * ((m : Nat) : Int) + 2 := IntWalk.i64_in _ (by omega)
      have i7 : IntKind.i64.wrap (4 * ((m : Nat) : Int) + 3) = 4 * ((m : Nat) : Int) + 3 := IntWalk.i64_in _ (by omega)
      have m64 : ¬ (64 : Int) ≤ (m : Int) := by omega
      have m65 : ¬ 64 ≤ m := by omega
      obtain ⟨B0, hB0⟩ : ∃ B, bW (bth L (4 * m)) = B := ⟨_, rfl⟩
      obtain ⟨B1, hB1⟩ : ∃ B, bW (bth L (4 * m + 1)) = B := ⟨_, rfl⟩
      obtain ⟨B2, hB2⟩ : ∃ B, bW (bth L (4 * m + 2)) = B := ⟨_, rfl⟩
      obtain ⟨B3, hB3⟩ : ∃ B, bW (bth L (4 * m + 3)) = B := ⟨_, rfl⟩
      have hs4 := HS.out
      have x0 : ∀ wv : World, (Instr.index 9 (.string s) (.int .i64 (4 * ((m : Nat) : Int)))).run Tryz.prog wv = .ok (.int .u8 (wI B0)) wv := fun wv => by rw [idx_str s (4 * m) _ (by omega) (by omega), HLL.out, hB0]
      have x1 : ∀ wv : World, (Instr.index 9 (.string s) (.int .i64 (4 * ((m : Nat) : Int) + 1))).run Tryz.prog wv = .ok (.int .u8 (wI B1)) wv := fun wv => by rw [idx_str s (4 * m + 1) _ (by omega) (by omega), HLL.out, hB1]
      have x2 : ∀ wv : World, (Instr.index 9 (.string s) (.int .i64 (4 * ((m : Nat) : Int) + 2))).run Tryz.prog wv = .ok (.int .u8 (wI B2)) wv := fun wv => by rw [idx_str s (4 * m + 2) _ (by omega) (by omega), HLL.out, hB2]
      have x3 : ∀ wv : World, (Instr.index 9 (.string s) (.int .i64 (4 * ((m : Nat) : Int) + 3))).run Tryz.prog wv = .ok (.int .u8 (wI B3)) wv := fun wv => by rw [idx_str s (4 * m + 3) _ (by omega) (by omega), HLL.out, hB3]
      have HW4 : Hid (B0 <<< 24 ||| B1 <<< 16 ||| B2 <<< 8 ||| B3 = w4 (bth L (4 * m)) (bth L (4 * m + 1)) (bth L (4 * m + 2)) (bth L (4 * m + 3))) := Lib.hid (by rw [← hB0, ← hB1, ← hB2, ← hB3]; rfl)
      clear hB0 hB1 hB2 hB3 hs4
      go_upto_region 5 with fail
      refine wp_region_tail 31 1000 (none) (phis [fun u _ => u = (.int .i64 (m : Nat)), fun u _ => u = (.string s), fun u _ => u = (.int .i64 (m : Nat)), fun u _ => u = (.int .i64 (4 * ((m : Nat) : Int))), fun u _ => u = (.int .u8 (wI B0)), fun u _ => u = (.int .u32 (wI B0)), fun u _ => u = (.int .u32 (wI (B0 <<< 24))), fun u _ => u = (.string s), fun u _ => u = (.int .i64 (m : Nat)), fun u _ => u = (.int .i64 (4 * ((m : Nat) : Int))), fun u _ => u = (.int .i64 (4 * ((m : Nat) : Int) + 1)), fun u _ => u = (.int .u8 (wI B1)), fun u _ => u = (.int .u32 (wI B1)), fun u _ => u = (.int .u32 (wI (B1 <<< 16))), fun u _ => u = (.int .u32 (wI (B0 <<< 24 ||| B1 <<< 16))), fun u _ => u = (.string s), fun u _ => u = (.int .i64 (m : Nat)), fun u _ => u = (.int .i64 (4 * ((m : Nat) : Int))), fun u _ => u = (.int .i64 (4 * ((m : Nat) : Int) + 2)), fun u _ => u = (.int .u8 (wI B2)), fun u _ => u = (.int .u32 (wI B2)), fun u _ => u = (.int .u32 (wI (B2 <<< 8))), fun u _ => u = (.int .u32 (wI (B0 <<< 24 ||| B1 <<< 16 ||| B2 <<< 8))), fun u _ => u = (.string s), fun u _ => u = (.int .i64 (m : Nat)), fun u _ => u = (.int .i64 (4 * ((m : Nat) : Int))), fun u _ => u = (.int .i64 (4 * ((m : Nat) : Int) + 3)), fun u _ => u = (.int .u8 (wI B3)), fun u _ => u = (.int .u32 (wI B3)), fun u _ => u = (.int .u32 (wI (B0 <<< 24 ||| B1 <<< 16 ||| B2 <<< 8 ||| B3))), fun u _ => u = (.pointer (some ⟨wb, m, none⟩))]) rfl (by kernel_rfl) (by kernel_rfl) (mono_of ⟨mono_eq, mono_eq, mono_eq, mono_eq, mono_eq, mono_eq, mono_eq, mono_eq, mono_eq, mono_eq, mono_eq, mono_eq, mono_eq, mono_eq, mono_eq, mono_eq, mono_eq, mono_eq, mono_eq, mono_eq, mono_eq, mono_eq, mono_eq, mono_eq, mono_eq, mono_eq, mono_eq, mono_eq, mono_eq, mono_eq, mono_eq, trivial⟩) (steps_of 31 ⟨?s0, ?s1, ?s2, ?s3, ?s4, ?s5, ?s6, ?s7, ?s8, ?s9, ?s10, ?s11, ?s12, ?s13, ?s14, ?s15, ?s16, ?s17, ?s18, ?s19, ?s20, ?s21, ?s22, ?s23, ?s24, ?s25, ?s26, ?s27, ?s28, ?s29, ?s30, trivial⟩) ?_
      case s0 =>
        refine step_val (v := (.int .i64 (m : Nat))) (fun av wv hE hS hO hD => ?_) (fun _ => rfl)
        have h6 : av.eval (.tmp 6) = (.int .i64 (m : Nat)) := hO.2.2 6 rfl
        have f6 := (ev_form av 6).symm.trans h6
        refine ⟨rfl, ?_⟩
        simp [go_sem, f6, wI_wrap, wI_mod, bv_shl24, bv_shl16, bv_shl8, bv_or, m64, m65, x0, x1, x2, x3, i4, i5, i6, i7]
      case s1 =>
        refine step_val (v := (.string s)) (fun av wv hE hS hO hD => ?_) (fun _ => rfl)
        have h1 : av.eval (.tmp 1) = (.string s) := hO.2.2 1 rfl
        have f1 := (ev_form av 1).symm.trans h1
        refine ⟨rfl, ?_⟩
        simp [go_sem, f1, wI_wrap, wI_mod, bv_shl24, bv_shl16, bv_shl8, bv_or, m64, m65, x0, x1, x2, x3, i4, i5, i6, i7]
      case s2 =>
        refine step_val (v := (.int .i64 (m : Nat))) (fun av wv hE hS hO hD => ?_) (fun _ => rfl)
        have h6 : av.eval (.tmp 6) = (.int .i64 (m : Nat)) := hO.2.2 6 rfl
        have f6 := (ev_form av 6).symm.trans h6
        refine ⟨rfl, ?_⟩
        simp [go_sem, f6, wI_wrap, wI_mod, bv_shl24, bv_shl16, bv_shl8, bv_or, m64, m65, x0, x1, x2, x3, i4, i5, i6, i7]
      case s3 =>
        refine step_val (v := (.int .i64 (4 * ((m : Nat) : Int)))) (fun av wv hE hS hO hD => ?_) (fun _ => rfl)
        have d28 : av.eval (.tmp 28) = (.int .i64 (m : Nat)) := hD.1 rfl _ rfl
        have f28 := (ev_form av 28).symm.trans d28
        refine ⟨rfl, ?_⟩
        simp [go_sem, f28, wI_wrap, wI_mod, bv_shl24, bv_shl16, bv_shl8, bv_or, m64, m65, x0, x1, x2, x3, i4, i5, i6, i7]
      case s4 =>
        refine step_val (v := (.int .u8 (wI B0))) (fun av wv hE hS hO hD => ?_) (fun _ => rfl)
        have d27 : av.eval (.tmp 27) = (.string s) := hD.1 rfl _ rfl
        have f27 := (ev_form av 27).symm.trans d27
        have d29 : av.eval (.tmp 29) = (.int .i64 (4 * ((m : Nat) : Int))) := hD.2.1 rfl _ rfl
        have f29 := (ev_form av 29).symm.trans d29
        refine ⟨rfl, ?_⟩
        simp [go_sem, f27, f29, wI_wrap, wI_mod, bv_shl24, bv_shl16, bv_shl8, bv_or, m64, m65, x0, x1, x2, x3, i4, i5, i6, i7]
      case s5 =>
        refine step_val (v := (.int .u32 (wI B0))) (fun av wv hE hS hO hD => ?_) (fun _ => rfl)
        have d30 : av.eval (.tmp 30) = (.int .u8 (wI B0)) := hD.1 rfl _ rfl
        have f30 := (ev_form av 30).symm.trans d30
        refine ⟨rfl, ?_⟩
        simp [go_sem, f30, wI_wrap, wI_mod, bv_shl24, bv_shl16, bv_shl8, bv_or, m64, m65, x0, x1, x2, x3, i4, i5, i6, i7]
      case s6 =>
        refine step_val (v := (.int .u32 (wI (B0 <<< 24)))) (fun av wv hE hS hO hD => ?_) (fun _ => rfl)
        have d31 : av.eval (.tmp 31) = (.int .u32 (wI B0)) := hD.1 rfl _ rfl
        have f31 := (ev_form av 31).symm.trans d31
        refine ⟨rfl, ?_⟩
        simp [go_sem, f31, wI_wrap, wI_mod, bv_shl24, bv_shl16, bv_shl8, bv_or, m64, m65, x0, x1, x2, x3, i4, i5, i6, i7]
      case s7 =>
        refine step_val (v := (.string s)) (fun av wv hE hS hO hD => ?_) (fun _ => rfl)
        have h1 : av.eval (.tmp 1) = (.string s) := hO.2.2 1 rfl
        have f1 := (ev_form av 1).symm.trans h1
        refine ⟨rfl, ?_⟩
        simp [go_sem, f1, wI_wrap, wI_mod, bv_shl24, bv_shl16, bv_shl8, bv_or, m64, m65, x0, x1, x2, x3, i4, i5, i6, i7]
      case s8 =>
        refine step_val (v := (.int .i64 (m : Nat))) (fun av wv hE hS hO hD => ?_) (fun _ => rfl)
        have h6 : av.eval (.tmp 6) = (.int .i64 (m : Nat)) := hO.2.2 6 rfl
        have f6 := (ev_form av 6).symm.trans h6
        refine ⟨rfl, ?_⟩
        simp [go_sem, f6, wI_wrap, wI_mod, bv_shl24, bv_shl16, bv_shl8, bv_or, m64, m65, x0, x1, x2, x3, i4, i5, i6, i7]
      case s9 =>
        refine step_val (v := (.int .i64 (4 * ((m : Nat) : Int)))) (fun av wv hE hS hO hD => ?_) (fun _ => rfl)
        have d34 : av.eval (.tmp 34) = (.int .i64 (m : Nat)) := hD.1 rfl _ rfl
        have f34 := (ev_form av 34).symm.trans d34
        refine ⟨rfl, ?_⟩
        simp [go_sem, f34, wI_wrap, wI_mod, bv_shl24, bv_shl16, bv_shl8, bv_or, m64, m65, x0, x1, x2, x3, i4, i5, i6, i7]
      case s10 =>
        refine step_val (v := (.int .i64 (4 * ((m : Nat) : Int) + 1))) (fun av wv hE hS hO hD => ?_) (fun _ => rfl)
        have d35 : av.eval (.tmp 35) = (.int .i64 (4 * ((m : Nat) : Int))) := hD.1 rfl _ rfl
        have f35 := (ev_form av 35).symm.trans d35
        refine ⟨rfl, ?_⟩
        simp [go_sem, f35, wI_wrap, wI_mod, bv_shl24, bv_shl16, bv_shl8, bv_or, m64, m65, x0, x1, x2, x3, i4, i5, i6, i7]
      case s11 =>
        refine step_val (v := (.int .u8 (wI B1))) (fun av wv hE hS hO hD => ?_) (fun _ => rfl)
        have d33 : av.eval (.tmp 33) = (.string s) := hD.1 rfl _ rfl
        have f33 := (ev_form av 33).symm.trans d33
        have d36 : av.eval (.tmp 36) = (.int .i64 (4 * ((m : Nat) : Int) + 1)) := hD.2.1 rfl _ rfl
        have f36 := (ev_form av 36).symm.trans d36
        refine ⟨rfl, ?_⟩
        simp [go_sem, f33, f36, wI_wrap, wI_mod, bv_shl24, bv_shl16, bv_shl8, bv_or, m64, m65, x0, x1, x2, x3, i4, i5, i6, i7]
      case s12 =>
        refine step_val (v := (.int .u32 (wI B1))) (fun av wv hE hS hO hD => ?_) (fun _ => rfl)
        have d37 : av.eval (.tmp 37) = (.int .u8 (wI B1)) := hD.1 rfl _ rfl
        have f37 := (ev_form av 37).symm.trans d37
        refine ⟨rfl, ?_⟩
        simp [go_sem, f37, wI_wrap, wI_mod, bv_shl24, bv_shl16, bv_shl8, bv_or, m64, m65, x0, x1, x2, x3, i4, i5, i6, i7]
      case s13 =>
        refine step_val (v := (.int .u32 (wI (B1 <<< 16)))) (fun av wv hE hS hO hD => ?_) (fun _ => rfl)
        have d38 : av.eval (.tmp 38) = (.int .u32 (wI B1)) := hD.1 rfl _ rfl
        have f38 := (ev_form av 38).symm.trans d38
        refine ⟨rfl, ?_⟩
        simp [go_sem, f38, wI_wrap, wI_mod, bv_shl24, bv_shl16, bv_shl8, bv_or, m64, m65, x0, x1, x2, x3, i4, i5, i6, i7]
      case s14 =>
        refine step_val (v := (.int .u32 (wI (B0 <<< 24 ||| B1 <<< 16)))) (fun av wv hE hS hO hD => ?_) (fun _ => rfl)
        have d32 : av.eval (.tmp 32) = (.int .u32 (wI (B0 <<< 24))) := hD.1 rfl _ rfl
        have f32 := (ev_form av 32).symm.trans d32
        have d39 : av.eval (.tmp 39) = (.int .u32 (wI (B1 <<< 16))) := hD.2.1 rfl _ rfl
        have f39 := (ev_form av 39).symm.trans d39
        refine ⟨rfl, ?_⟩
        simp [go_sem, f32, f39, wI_wrap, wI_mod, bv_shl24, bv_shl16, bv_shl8, bv_or, m64, m65, x0, x1, x2, x3, i4, i5, i6, i7]
      case s15 =>
        refine step_val (v := (.string s)) (fun av wv hE hS hO hD => ?_) (fun _ => rfl)
        have h1 : av.eval (.tmp 1) = (.string s) := hO.2.2 1 rfl
        have f1 := (ev_form av 1).symm.trans h1
        refine ⟨rfl, ?_⟩
        simp [go_sem, f1, wI_wrap, wI_mod, bv_shl24, bv_shl16, bv_shl8, bv_or, m64, m65, x0, x1, x2, x3, i4, i5, i6, i7]
      case s16 =>
        refine step_val (v := (.int .i64 (m : Nat))) (fun av wv hE hS hO hD => ?_) (fun _ => rfl)
        have h6 : av.eval (.tmp 6) = (.int .i64 (m : Nat)) := hO.2.2 6 rfl
        have f6 := (ev_form av 6).symm.trans h6
        refine ⟨rfl, ?_⟩
        simp [go_sem, f6, wI_wrap, wI_mod, bv_shl24, bv_shl16, bv_shl8, bv_or, m64, m65, x0, x1, x2, x3, i4, i5, i6, i7]
      case s17 =>
        refine step_val (v := (.int .i64 (4 * ((m : Nat) : Int)))) (fun av wv hE hS hO hD => ?_) (fun _ => rfl)
        have d42 : av.eval (.tmp 42) = (.int .i64 (m : Nat)) := hD.1 rfl _ rfl
        have f42 := (ev_form av 42).symm.trans d42
        refine ⟨rfl, ?_⟩
        simp [go_sem, f42, wI_wrap, wI_mod, bv_shl24, bv_shl16, bv_shl8, bv_or, m64, m65, x0, x1, x2, x3, i4, i5, i6, i7]
      case s18 =>
        refine step_val (v := (.int .i64 (4 * ((m : Nat) : Int) + 2))) (fun av wv hE hS hO hD => ?_) (fun _ => rfl)
        have d43 : av.eval (.tmp 43) = (.int .i64 (4 * ((m : Nat) : Int))) := hD.1 rfl _ rfl
        have f43 := (ev_form av 43).symm.trans d43
        refine ⟨rfl, ?_⟩
        simp [go_sem, f43, wI_wrap, wI_mod, bv_shl24, bv_shl16, bv_shl8, bv_or, m64, m65, x0, x1, x2, x3, i4, i5, i6, i7]
      case s19 =>
        refine step_val (v := (.int .u8 (wI B2))) (fun av wv hE hS hO hD => ?_) (fun _ => rfl)
        have d41 : av.eval (.tmp 41) = (.string s) := hD.1 rfl _ rfl
        have f41 := (ev_form av 41).symm.trans d41
        have d44 : av.eval (.tmp 44) = (.int .i64 (4 * ((m : Nat) : Int) + 2)) := hD.2.1 rfl _ rfl
        have f44 := (ev_form av 44).symm.trans d44
        refine ⟨rfl, ?_⟩
        simp [go_sem, f41, f44, wI_wrap, wI_mod, bv_shl24, bv_shl16, bv_shl8, bv_or, m64, m65, x0, x1, x2, x3, i4, i5, i6, i7]
      case s20 =>
        refine step_val (v := (.int .u32 (wI B2))) (fun av wv hE hS hO hD => ?_) (fun _ => rfl)
        have d45 : av.eval (.tmp 45) = (.int .u8 (wI B2)) := hD.1 rfl _ rfl
        have f45 := (ev_form av 45).symm.trans d45
        refine ⟨rfl, ?_⟩
        simp [go_sem, f45, wI_wrap, wI_mod, bv_shl24, bv_shl16, bv_shl8, bv_or, m64, m65, x0, x1, x2, x3, i4, i5, i6, i7]
      case s21 =>
        refine step_val (v := (.int .u32 (wI (B2 <<< 8)))) (fun av wv hE hS hO hD => ?_) (fun _ => rfl)
        have d46 : av.eval (.tmp 46) = (.int .u32 (wI B2)) := hD.1 rfl _ rfl
        have f46 := (ev_form av 46).symm.trans d46
        refine ⟨rfl, ?_⟩
        simp [go_sem, f46, wI_wrap, wI_mod, bv_shl24, bv_shl16, bv_shl8, bv_or, m64, m65, x0, x1, x2, x3, i4, i5, i6, i7]
      case s22 =>
        refine step_val (v := (.int .u32 (wI (B0 <<< 24 ||| B1 <<< 16 ||| B2 <<< 8)))) (fun av wv hE hS hO hD => ?_) (fun _ => rfl)
        have d40 : av.eval (.tmp 40) = (.int .u32 (wI (B0 <<< 24 ||| B1 <<< 16))) := hD.1 rfl _ rfl
        have f40 := (ev_form av 40).symm.trans d40
        have d47 : av.eval (.tmp 47) = (.int .u32 (wI (B2 <<< 8))) := hD.2.1 rfl _ rfl
        have f47 := (ev_form av 47).symm.trans d47
        refine ⟨rfl, ?_⟩
        simp [go_sem, f40, f47, wI_wrap, wI_mod, bv_shl24, bv_shl16, bv_shl8, bv_or, m64, m65, x0, x1, x2, x3, i4, i5, i6, i7]
      case s23 =>
        refine step_val (v := (.string s)) (fun av wv hE hS hO hD => ?_) (fun _ => rfl)
        have h1 : av.eval (.tmp 1) = (.string s) := hO.2.2 1 rfl
        have f1 := (ev_form av 1).symm.trans h1
        refine ⟨rfl, ?_⟩
        simp [go_sem, f1, wI_wrap, wI_mod, bv_shl24, bv_shl16, bv_shl8, bv_or, m64, m65, x0, x1, x2, x3, i4, i5, i6, i7]
      case s24 =>
        refine step_val (v := (.int .i64 (m : Nat))) (fun av wv hE hS hO hD => ?_) (fun _ => rfl)
        have h6 : av.eval (.tmp 6) = (.int .i64 (m : Nat)) := hO.2.2 6 rfl
        have f6 := (ev_form av 6).symm.trans h6
        refine ⟨rfl, ?_⟩
        simp [go_sem, f6, wI_wrap, wI_mod, bv_shl24, bv_shl16, bv_shl8, bv_or, m64, m65, x0, x1, x2, x3, i4, i5, i6, i7]
      case s25 =>
        refine step_val (v := (.int .i64 (4 * ((m : Nat) : Int)))) (fun av wv hE hS hO hD => ?_) (fun _ => rfl)
        have d50 : av.eval (.tmp 50) = (.int .i64 (m : Nat)) := hD.1 rfl _ rfl
        have f50 := (ev_form av 50).symm.trans d50
        refine ⟨rfl, ?_⟩
        simp [go_sem, f50, wI_wrap, wI_mod, bv_shl24, bv_shl16, bv_shl8, bv_or, m64, m65, x0, x1, x2, x3, i4, i5, i6, i7]
      case s26 =>
        refine step_val (v := (.int .i64 (4 * ((m : Nat) : Int) + 3))) (fun av wv hE hS hO hD => ?_) (fun _ => rfl)
        have d51 : av.eval (.tmp 51) = (.int .i64 (4 * ((m : Nat) : Int))) := hD.1 rfl _ rfl
        have f51 := (ev_form av 51).symm.trans d51
        refine ⟨rfl, ?_⟩
        simp [go_sem, f51, wI_wrap, wI_mod, bv_shl24, bv_shl16, bv_shl8, bv_or, m64, m65, x0, x1, x2, x3, i4, i5, i6, i7]
      case s27 =>
        refine step_val (v := (.int .u8 (wI B3))) (fun av wv hE hS hO hD => ?_) (fun _ => rfl)
        have d49 : av.eval (.tmp 49) = (.string s) := hD.1 rfl _ rfl
        have f49 := (ev_form av 49).symm.trans d49
        have d52 : av.eval (.tmp 52) = (.int .i64 (4 * ((m : Nat) : Int) + 3)) := hD.2.1 rfl _ rfl
        have f52 := (ev_form av 52).symm.trans d52
        refine ⟨rfl, ?_⟩
        simp [go_sem, f49, f52, wI_wrap, wI_mod, bv_shl24, bv_shl16, bv_shl8, bv_or, m64, m65, x0, x1, x2, x3, i4, i5, i6, i7]
      case s28 =>
        refine step_val (v := (.int .u32 (wI B3))) (fun av wv hE hS hO hD => ?_) (fun _ => rfl)
        have d53 : av.eval (.tmp 53) = (.int .u8 (wI B3)) := hD.1 rfl _ rfl
        have f53 := (ev_form av 53).symm.trans d53
        refine ⟨rfl, ?_⟩
        simp [go_sem, f53, wI_wrap, wI_mod, bv_shl24, bv_shl16, bv_shl8, bv_or, m64, m65, x0, x1, x2, x3, i4, i5, i6, i7]
      case s29 =>
        refine step_val (v := (.int .u32 (wI (B0 <<< 24 ||| B1 <<< 16 ||| B2 <<< 8 ||| B3)))) (fun av wv hE hS hO hD => ?_) (fun _ => rfl)
        have d48 : av.eval (.tmp 48) = (.int .u32 (wI (B0 <<< 24 ||| B1 <<< 16 ||| B2 <<< 8))) := hD.1 rfl _ rfl
        have f48 := (ev_form av 48).symm.trans d48
        have d54 : av.eval (.tmp 54) = (.int .u32 (wI B3)) := hD.2.1 rfl _ rfl
        have f54 := (ev_form av 54).symm.trans d54
        refine ⟨rfl, ?_⟩
        simp [go_sem, f48, f54, wI_wrap, wI_mod, bv_shl24, bv_shl16, bv_shl8, bv_or, m64, m65, x0, x1, x2, x3, i4, i5, i6, i7]
      case s30 =>
        refine step_val (v := (.pointer (some ⟨wb, m, none⟩))) (fun av wv hE hS hO hD => ?_) (fun _ => rfl)
        have h5 : av.eval (.tmp 5) = (.pointer (some ⟨wb, 0, none⟩)) := hO.2.2 5 rfl
        have f5 := (ev_form av 5).symm.trans h5
        have d26 : av.eval (.tmp 26) = (.int .i64 (m : Nat)) := hD.1 rfl _ rfl
        have f26 := (ev_form av 26).symm.trans d26
        refine ⟨rfl, ?_⟩
        simp [go_sem, f5, f26, wI_wrap, wI_mod, bv_shl24, bv_shl16, bv_shl8, bv_or, m64, m65, x0, x1, x2, x3, i4, i5, i6, i7]
      intro a' w' hE hO hall
      have hA := act_of_outer (ds := [26, 27, 28, 29, 30, 31, 32, 33, 34, 35, 36, 37, 38, 39, 40, 41, 42, 43, 44, 45, 46, 47, 48, 49, 50, 51, 52, 53, 54, 55, 56]) rfl hO (by kernel_rfl)
      have e26 : (fun u _ => u = (.int .i64 (m : Nat))) (a'.eval (.tmp 26)) w' := hall.1 _ rfl
      have e27 : (fun u _ => u = (.string s)) (a'.eval (.tmp 27)) w' := hall.2.1 _ rfl
      have e28 : (fun u _ => u = (.int .i64 (m : Nat))) (a'.eval (.tmp 28)) w' := hall.2.2.1 _ rfl
      have e29 : (fun u _ => u = (.int .i64 (4 * ((m : Nat) : Int)))) (a'.eval (.tmp 29)) w' := hall.2.2.2.1 _ rfl
      have e30 : (fun u _ => u = (.int .u8 (wI B0))) (a'.eval (.tmp 30)) w' := hall.2.2.2.2.1 _ rfl
      have e31 : (fun u _ => u = (.int .u32 (wI B0))) (a'.eval (.tmp 31)) w' := hall.2.2.2.2.2.1 _ rfl
      have e32 : (fun u _ => u = (.int .u32 (wI (B0 <<< 24)))) (a'.eval (.tmp 32)) w' := hall.2.2.2.2.2.2.1 _ rfl
      have e33 : (fun u _ => u = (.string s)) (a'.eval (.tmp 33)) w' := hall.2.2.2.2.2.2.2.1 _ rfl
      have e34 : (fun u _ => u = (.int .i64 (m : Nat))) (a'.eval (.tmp 34)) w' := hall.2.2.2.2.2.2.2.2.1 _ rfl
      have e35 : (fun u _ => u = (.int .i64 (4 * ((m : Nat) : Int)))) (a'.eval (.tmp 35)) w' := hall.2.2.2.2.2.2.2.2.2.1 _ rfl
      have e36 : (fun u _ => u = (.int .i64 (4 * ((m : Nat) : Int) + 1))) (a'.eval (.tmp 36)) w' := hall.2.2.2.2.2.2.2.2.2.2.1 _ rfl
      have e37 : (fun u _ => u = (.int .u8 (wI B1))) (a'.eval (.tmp 37)) w' := hall.2.2.2.2.2.2.2.2.2.2.2.1 _ rfl
      have e38 : (fun u _ => u = (.int .u32 (wI B1))) (a'.eval (.tmp 38)) w' := hall.2.2.2.2.2.2.2.2.2.2.2.2.1 _ rfl
      have e39 : (fun u _ => u = (.int .u32 (wI (B1 <<< 16)))) (a'.eval (.tmp 39)) w' := hall.2.2.2.2.2.2.2.2.2.2.2.2.2.1 _ rfl
      have e40 : (fun u _ => u = (.int .u32 (wI (B0 <<< 24 ||| B1 <<< 16)))) (a'.eval (.tmp 40)) w' := hall.2.2.2.2.2.2.2.2.2.2.2.2.2.2.1 _ rfl
      have e41 : (fun u _ => u = (.string s)) (a'.eval (.tmp 41)) w' := hall.2.2.2.2.2.2.2.2.2.2.2.2.2.2.2.1 _ rfl
      have e42 : (fun u _ => u = (.int .i64 (m : Nat))) (a'.eval (.tmp 42)) w' := hall.2.2.2.2.2.2.2.2.2.2.2.2.2.2.2.2.1 _ rfl
      have e43 : (fun u _ => u = (.int .i64 (4 * ((m : Nat) : Int)))) (a'.eval (.tmp 43)) w' := hall.2.2.2.2.2.2.2.2.2.2.2.2.2.2.2.2.2.1 _ rfl
      have e44 : (fun u _ => u = (.int .i64 (4 * ((m : Nat) : Int) + 2))) (a'.eval (.tmp 44)) w' := hall.2.2.2.2.2.2.2.2.2.2.2.2.2.2.2.2.2.2.1 _ rfl
      have e45 : (fun u _ => u = (.int .u8 (wI B2))) (a'.eval (.tmp 45)) w' := hall.2.2.2.2.2.2.2.2.2.2.2.2.2.2.2.2.2.2.2.1 _ rfl
      have e46 : (fun u _ => u = (.int .u32 (wI B2))) (a'.eval (.tmp 46)) w' := hall.2.2.2.2.2.2.2.2.2.2.2.2.2.2.2.2.2.2.2.2.1 _ rfl
      have e47 : (fun u _ => u = (.int .u32 (wI (B2 <<< 8)))) (a'.eval (.tmp 47)) w' := hall.2.2.2.2.2.2.2.2.2.2.2.2.2.2.2.2.2.2.2.2.2.1 _ rfl
      have e48 : (fun u _ => u = (.int .u32 (wI (B0 <<< 24 ||| B1 <<< 16 ||| B2 <<< 8)))) (a'.eval (.tmp 48)) w' := hall.2.2.2.2.2.2.2.2.2.2.2.2.2.2.2.2.2.2.2.2.2.2.1 _ rfl
      have e49 : (fun u _ => u = (.string s)) (a'.eval (.tmp 49)) w' := hall.2.2.2.2.2.2.2.2.2.2.2.2.2.2.2.2.2.2.2.2.2.2.2.1 _ rfl
      have e50 : (fun u _ => u = (.int .i64 (m : Nat))) (a'.eval (.tmp 50)) w' := hall.2.2.2.2.2.2.2.2.2.2.2.2.2.2.2.2.2.2.2.2.2.2.2.2.1 _ rfl
      have e51 : (fun u _ => u = (.int .i64 (4 * ((m : Nat) : Int)))) (a'.eval (.tmp 51)) w' := hall.2.2.2.2.2.2.2.2.2.2.2.2.2.2.2.2.2.2.2.2.2.2.2.2.2.1 _ rfl
      have e52 : (fun u _ => u = (.int .i64 (4 * ((m : Nat) : Int) + 3))) (a'.eval (.tmp 52)) w' := hall.2.2.2.2.2.2.2.2.2.2.2.2.2.2.2.2.2.2.2.2.2.2.2.2.2.2.1 _ rfl
      have e53 : (fun u _ => u = (.int .u8 (wI B3))) (a'.eval (.tmp 53)) w' := hall.2.2.2.2.2.2.2.2.2.2.2.2.2.2.2.2.2.2.2.2.2.2.2.2.2.2.2.1 _ rfl
      have e54 : (fun u _ => u = (.int .u32 (wI B3))) (a'.eval (.tmp 54)) w' := hall.2.2.2.2.2.2.2.2.2.2.2.2.2.2.2.2.2.2.2.2.2.2.2.2.2.2.2.2.1 _ rfl
      have e55 : (fun u _ => u = (.int .u32 (wI (B0 <<< 24 ||| B1 <<< 16 ||| B2 <<< 8 ||| B3)))) (a'.eval (.tmp 55)) w' := hall.2.2.2.2.2.2.2.2.2.2.2.2.2.2.2.2.2.2.2.2.2.2.2.2.2.2.2.2.2.1 _ rfl
      have e56 : (fun u _ => u = (.pointer (some ⟨wb, m, none⟩))) (a'.eval (.tmp 56)) w' := hall.2.2.2.2.2.2.2.2.2.2.2.2.2.2.2.2.2.2.2.2.2.2.2.2.2.2.2.2.2.2.1 _ rfl
      simp only [List.foldl_cons, List.foldl_nil, Act.put, List.setIfInBounds_toArray, List.set_cons_succ, List.set_cons_zero, e26, e27, e28, e29, e30, e31, e32, e33, e34, e35, e36, e37, e38, e39, e40, e41, e42, e43, e44, e45, e46, e47, e48, e49, e50, e51, e52, e53, e54, e55, e56] at hA
      clear hO hall e26 e27 e28 e29 e30 e31 e32 e33 e34 e35 e36 e37 e38 e39 e40 e41 e42 e43 e44 e45 e46 e47 e48 e49 e50 e51 e52 e53 e54 e55 e56
      subst hA
      have hEw := of_drew hE
      have HW1 := Lib.hid ((hEw.block _ (lt_of_block HW.out)).trans HW.out)
      have HB1 := Lib.hid (HB.out.next hEw)
      have cw : w'.cell? ⟨wb, m, none⟩ = some (.int .u32 (wI (wth (headZ L m) m))) := by rw [block_cell HW1.out, wsC_at _ _ (by rw [headZ_len _ _ (by omega)]; omega)]
      have cf : w'.frozen? ⟨wb, m, none⟩ = false := block_free HW1.out m
      have cl : wb < w'.heap.size := lt_of_block HW1.out
      have HW2 : Hid ((w'.setCell ⟨wb, m, none⟩ (.int .u32 (wI (B0 <<< 24 ||| B1 <<< 16 ||| B2 <<< 8 ||| B3)))).heap[wb]? = some (.cells (wsC (headZ L (m + 1))) 294 (0, 0))) := Lib.hid (by
        have := block_setCell HW1.out (o := m) (.int .u32 (wI (B0 <<< 24 ||| B1 <<< 16 ||| B2 <<< 8 ||| B3)))
        rw [HW4.out] at this ⊢
        rw [wsC_set, headZ_next _ _ (by omega)] at this
        exact this)
      have HB2 : Hid (BlkAt pb rb A9 w (w'.setCell ⟨wb, m, none⟩ (.int .u32 (wI (B0 <<< 24 ||| B1 <<< 16 ||| B2 <<< 8 ||| B3))))) := Lib.hid (HB1.out.set HNE.out.2.2.1 HNE.out.2.2.2.1 HNE.out.2.2.2.2.1)
      clear hE hEw x0 x1 x2 x3 i4 i5 i6 i7 m64 m65
      go_wp2
      go_roundg (16 - (m + 1))
      case rel => exact ⟨m + 1, by omega, by go_num, HW2, HB2⟩
      case measure => omega
    · obtain rfl : m = 16 := by omega
      have i1 : ¬ ((16 : Nat) : Int) < 16 := by decide
      rw [headZ_more] at HW
      go_upto_region 7 with fail
      go_loopg [7, 8, 9] 48 (fun g i _ _ wr => ∃ j : Nat, g + j = 48 ∧ i = .int .i64 ((16 + j : Nat) : Int) ∧ Hid (wr.heap[wb]? = some (.cells (wsC (moreZ L j)) 294 (0, 0))) ∧ Hid (BlkAt pb rb A9 w wr))
      case atStart => exact ⟨0, rfl, rfl, HW, HB⟩
      case round =>
        clear HW HB
        obtain ⟨j, hj, rfl, HW, HB⟩ := hrel
        by_cases hlt : j < 48
        · obtain ⟨t, ht⟩ : ∃ t, 16 + j = t := ⟨_, rfl⟩
          rw [ht]
          have i1 : (t : Int) < 64 := by omega
          obtain ⟨p15, hp15⟩ : ∃ p, t = p + 15 := ⟨t - 15, by omega⟩
          obtain ⟨p2, hp2⟩ : ∃ p, t = p + 2 := ⟨t - 2, by omega⟩
          obtain ⟨p16, hp16⟩ : ∃ p, t = p + 16 := ⟨t - 16, by omega⟩
          obtain ⟨p7, hp7⟩ : ∃ p, t = p + 7 := ⟨t - 7, by omega⟩
          have k15 : IntKind.i64.wrap (((t : Nat) : Int) - 15) = ((p15 : Nat) : Int) := by rw [IntWalk.i64_in _ (by omega)]; omega
          have k2 : IntKind.i64.wrap (((t : Nat) : Int) - 2) = ((p2 : Nat) : Int) := by rw [IntWalk.i64_in _ (by omega)]; omega
          have k16 : IntKind.i64.wrap (((t : Nat) : Int) - 16) = ((p16 : Nat) : Int) := by rw [IntWalk.i64_in _ (by omega)]; omega
          have k7 : IntKind.i64.wrap (((t : Nat) : Int) - 7) = ((p7 : Nat) : Int) := by rw [IntWalk.i64_in _ (by omega)]; omega
          have b15 : ¬ (64 : Int) ≤ (p15 : Int) := by omega
          have b15n : ¬ 64 ≤ p15 := by omega
          have b2 : ¬ (64 : Int) ≤ (p2 : Int) := by omega
          have b2n : ¬ 64 ≤ p2 := by omega
          have b16 : ¬ (64 : Int) ≤ (p16 : Int) := by omega
          have b16n : ¬ 64 ≤ p16 := by omega
          have b7 : ¬ (64 : Int) ≤ (p7 : Int) := by omega
          have b7n : ¬ 64 ≤ p7 := by omega
          have bt : ¬ (64 : Int) ≤ (t : Int) := by omega
          have btn : ¬ 64 ≤ t := by omega
          have hml := moreZ_len L j (by omega)
          have HNX : Hid (nextW (moreW (headW L 16) j) (16 + j) = wth (moreZ L j) p16 + s0W (wth (moreZ L j) p15) + wth (moreZ L j) p7 + s1W (wth (moreZ L j) p2)) := Lib.hid (by
            unfold nextW
            rw [moreZ_at _ _ p16 (by omega), moreZ_at _ _ p15 (by omega), moreZ_at _ _ p7 (by omega), moreZ_at _ _ p2 (by omega), ht, show t - 16 = p16 by omega, show t - 15 = p15 by omega, show t - 7 = p7 by omega, show t - 2 = p2 by omega])
          obtain ⟨W, hW⟩ : ∃ W, wr = W := ⟨_, rfl⟩
          rw [hW] at HW HB ⊢
          obtain ⟨X15, hX15⟩ : ∃ X, wth (moreZ L j) p15 = X := ⟨_, rfl⟩
          obtain ⟨X2, hX2⟩ : ∃ X, wth (moreZ L j) p2 = X := ⟨_, rfl⟩
          obtain ⟨X16, hX16⟩ : ∃ X, wth (moreZ L j) p16 = X := ⟨_, rfl⟩
          obtain ⟨X7, hX7⟩ : ∃ X, wth (moreZ L j) p7 = X := ⟨_, rfl⟩
          have HC : Hid (∀ W9 : World, W9.heap[wb]? = some (.cells (wsC (moreZ L j)) 294 (0, 0)) → W9.cell? ⟨wb, p15, none⟩ = some (.int .u32 (wI X15)) ∧ W9.cell? ⟨wb, p2, none⟩ = some (.int .u32 (wI X2)) ∧ W9.cell? ⟨wb, p16, none⟩ = some (.int .u32 (wI X16)) ∧ W9.cell? ⟨wb, p7, none⟩ = some (.int .u32 (wI X7)) ∧ W9.cell? ⟨wb, t, none⟩ = some (.int .u32 (wI (wth (moreZ L j) t)))) := Lib.hid (fun W9 h9 => by
            refine ⟨?_, ?_, ?_, ?_, ?_⟩
            · rw [block_cell h9, wsC_at _ _ (by rw [hml]; omega), hX15]
            · rw [block_cell h9, wsC_at _ _ (by rw [hml]; omega), hX2]
            · rw [block_cell h9, wsC_at _ _ (by rw [hml]; omega), hX16]
            · rw [block_cell h9, wsC_at _ _ (by rw [hml]; omega), hX7]
            · rw [block_cell h9, wsC_at _ _ (by rw [hml]; omega)])
          rw [hX15, hX2, hX16, hX7] at HNX
          have HT := Lib.hid ht
          have bs3 : (wI X15).fdiv 8 = wI (X15 >>> 3) := bv_shr X15 3
          have bs3m : wI X15 / 8 = wI (X15 >>> 3) := bv_shrm X15 3
          have bs10 : (wI X2).fdiv 1024 = wI (X2 >>> 10) := bv_shr X2 10
          have bs10m : wI X2 / 1024 = wI (X2 >>> 10) := bv_shrm X2 10
          have c15 := (HC.out W HW.out).1
          clear hX15 hX2 hX16 hX7 hW hp15 hp2 hp16 hp7 hml ht
          go_upto_region 9 with fail
          refine wp_region_tail 17 1000 (none) (phis [fun u _ => u = (.int .i64 (t : Nat)), fun u _ => u = (.int .i64 (p15 : Nat)), fun u _ => u = (.pointer (some ⟨wb, p15, none⟩)), fun u _ => u = (.int .u32 (wI X15)), fun u _ => u = (.int .u32 (wI (rotr X15 7))), fun u _ => u = (.int .i64 (t : Nat)), fun u _ => u = (.int .i64 (p15 : Nat)), fun u _ => u = (.pointer (some ⟨wb, p15, none⟩)), fun u _ => u = (.int .u32 (wI X15)), fun u _ => u = (.int .u32 (wI (rotr X15 18))), fun u _ => u = (.int .u32 (wI (rotr X15 7 ^^^ rotr X15 18))), fun u _ => u = (.int .i64 (t : Nat)), fun u _ => u = (.int .i64 (p15 : Nat)), fun u _ => u = (.pointer (some ⟨wb, p15, none⟩)), fun u _ => u = (.int .u32 (wI X15)), fun u _ => u = (.int .u32 (wI (X15 >>> 3))), fun u _ => u = (.int .u32 (wI (rotr X15 7 ^^^ rotr X15 18 ^^^ X15 >>> 3)))]) rfl (by kernel_rfl) (by kernel_rfl) (mono_of ⟨mono_eq, mono_eq, mono_eq, mono_eq, mono_eq, mono_eq, mono_eq, mono_eq, mono_eq, mono_eq, mono_eq, mono_eq, mono_eq, mono_eq, mono_eq, mono_eq, mono_eq, trivial⟩) (steps_of 17 ⟨?s0, ?s1, ?s2, ?s3, ?s4, ?s5, ?s6, ?s7, ?s8, ?s9, ?s10, ?s11, ?s12, ?s13, ?s14, ?s15, ?s16, trivial⟩) ?_
          case s0 =>
            refine step_val (v := (.int .i64 (t : Nat))) (fun av wv hE hS hO hD => ?_) (fun _ => rfl)
            have h7 : av.eval (.tmp 7) = (.int .i64 (t : Nat)) := hO.2.2 7 rfl
            have f7 := (ev_form av 7).symm.trans h7
            refine ⟨rfl, ?_⟩
            simp [go_sem, f7, k15, b15, b15n, bv_xor, bv_shrm, bs3, bs3m]
          case s1 =>
            refine step_val (v := (.int .i64 (p15 : Nat))) (fun av wv hE hS hO hD => ?_) (fun _ => rfl)
            have d61 : av.eval (.tmp 61) = (.int .i64 (t : Nat)) := hD.1 rfl _ rfl
            have f61 := (ev_form av 61).symm.trans d61
            refine ⟨rfl, ?_⟩
            simp [go_sem, f61, k15, b15, b15n, bv_xor, bv_shrm, bs3, bs3m]
          case s2 =>
            refine step_val (v := (.pointer (some ⟨wb, p15, none⟩))) (fun av wv hE hS hO hD => ?_) (fun _ => rfl)
            have h5 : av.eval (.tmp 5) = (.pointer (some ⟨wb, 0, none⟩)) := hO.2.2 5 rfl
            have f5 := (ev_form av 5).symm.trans h5
            have d62 : av.eval (.tmp 62) = (.int .i64 (p15 : Nat)) := hD.1 rfl _ rfl
            have f62 := (ev_form av 62).symm.trans d62
            refine ⟨rfl, ?_⟩
            simp [go_sem, f5, f62, k15, b15, b15n, bv_xor, bv_shrm, bs3, bs3m]
          case s3 =>
            refine step_val (v := (.int .u32 (wI X15))) (fun av wv hE hS hO hD => ?_) (fun _ => rfl)
            have d63 : av.eval (.tmp 63) = (.pointer (some ⟨wb, p15, none⟩)) := hD.1 rfl _ rfl
            have f63 := (ev_form av 63).symm.trans d63
            have c15 := extB_cell hE (by simp) c15
            refine ⟨rfl, ?_⟩
            simp [go_sem, f63, c15, k15, b15, b15n, bv_xor, bv_shrm, bs3, bs3m]
          case s4 =>
            refine step_wp (fun av wv hE hS hO hD => ?_)
            have d64 : av.eval (.tmp 64) = (.int .u32 (wI X15)) := hD.1 rfl _ rfl
            have f64 := (ev_form av 64).symm.trans d64
            refine ⟨rfl, ?_⟩
            refine wp_of_call (v := .int .u32 (wI (rotr X15 7))) (by simp [go_sem, f64]) ((rturned_any X15 7 wv (by decide) (by decide)).mono (fun e w2 ⟨h1, h2⟩ => ⟨h1, h2.below _⟩)) (fun w2 hb => ⟨_, rfl, es_of_ext hb, rfl⟩)
          case s5 =>
            refine step_val (v := (.int .i64 (t : Nat))) (fun av wv hE hS hO hD => ?_) (fun _ => rfl)
            have h7 : av.eval (.tmp 7) = (.int .i64 (t : Nat)) := hO.2.2 7 rfl
            have f7 := (ev_form av 7).symm.trans h7
            refine ⟨rfl, ?_⟩
            simp [go_sem, f7, k15, b15, b15n, bv_xor, bv_shrm, bs3, bs3m]
          case s6 =>
            refine step_val (v := (.int .i64 (p15 : Nat))) (fun av wv hE hS hO hD => ?_) (fun _ => rfl)
            have d66 : av.eval (.tmp 66) = (.int .i64 (t : Nat)) := hD.1 rfl _ rfl
            have f66 := (ev_form av 66).symm.trans d66
            refine ⟨rfl, ?_⟩
            simp [go_sem, f66, k15, b15, b15n, bv_xor, bv_shrm, bs3, bs3m]
          case s7 =>
            refine step_val (v := (.pointer (some ⟨wb, p15, none⟩))) (fun av wv hE hS hO hD => ?_) (fun _ => rfl)
            have h5 : av.eval (.tmp 5) = (.pointer (some ⟨wb, 0, none⟩)) := hO.2.2 5 rfl
            have f5 := (ev_form av 5).symm.trans h5
            have d67 : av.eval (.tmp 67) = (.int .i64 (p15 : Nat)) := hD.1 rfl _ rfl
            have f67 := (ev_form av 67).symm.trans d67
            refine ⟨rfl, ?_⟩
            simp [go_sem, f5, f67, k15, b15, b15n, bv_xor, bv_shrm, bs3, bs3m]
          case s8 =>
            refine step_val (v := (.int .u32 (wI X15))) (fun av wv hE hS hO hD => ?_) (fun _ => rfl)
            have d68 : av.eval (.tmp 68) = (.pointer (some ⟨wb, p15, none⟩)) := hD.1 rfl _ rfl
            have f68 := (ev_form av 68).symm.trans d68
            have c15 := extB_cell hE (by simp) c15
            refine ⟨rfl, ?_⟩
            simp [go_sem, f68, c15, k15, b15, b15n, bv_xor, bv_shrm, bs3, bs3m]
          case s9 =>
            refine step_wp (fun av wv hE hS hO hD => ?_)
            have d69 : av.eval (.tmp 69) = (.int .u32 (wI X15)) := hD.1 rfl _ rfl
            have f69 := (ev_form av 69).symm.trans d69
            refine ⟨rfl, ?_⟩
            refine wp_of_call (v := .int .u32 (wI (rotr X15 18))) (by simp [go_sem, f69]) ((rturned_any X15 18 wv (by decide) (by decide)).mono (fun e w2 ⟨h1, h2⟩ => ⟨h1, h2.below _⟩)) (fun w2 hb => ⟨_, rfl, es_of_ext hb, rfl⟩)
          case s10 =>
            refine step_val (v := (.int .u32 (wI (rotr X15 7 ^^^ rotr X15 18)))) (fun av wv hE hS hO hD => ?_) (fun _ => rfl)
            have d65 : av.eval (.tmp 65) = (.int .u32 (wI (rotr X15 7))) := hD.1 rfl _ rfl
            have f65 := (ev_form av 65).symm.trans d65
            have d70 : av.eval (.tmp 70) = (.int .u32 (wI (rotr X15 18))) := hD.2.1 rfl _ rfl
            have f70 := (ev_form av 70).symm.trans d70
            refine ⟨rfl, ?_⟩
            simp [go_sem, f65, f70, k15, b15, b15n, bv_xor, bv_shrm, bs3, bs3m]
          case s11 =>
            refine step_val (v := (.int .i64 (t : Nat))) (fun av wv hE hS hO hD => ?_) (fun _ => rfl)
            have h7 : av.eval (.tmp 7) = (.int .i64 (t : Nat)) := hO.2.2 7 rfl
            have f7 := (ev_form av 7).symm.trans h7
            refine ⟨rfl, ?_⟩
            simp [go_sem, f7, k15, b15, b15n, bv_xor, bv_shrm, bs3, bs3m]
          case s12 =>
            refine step_val (v := (.int .i64 (p15 : Nat))) (fun av wv hE hS hO hD => ?_) (fun _ => rfl)
            have d72 : av.eval (.tmp 72) = (.int .i64 (t : Nat)) := hD.1 rfl _ rfl
            have f72 := (ev_form av 72).symm.trans d72
            refine ⟨rfl, ?_⟩
            simp [go_sem, f72, k15, b15, b15n, bv_xor, bv_shrm, bs3, bs3m]
          case s13 =>
            refine step_val (v := (.pointer (some ⟨wb, p15, none⟩))) (fun av wv hE hS hO hD => ?_) (fun _ => rfl)
            have h5 : av.eval (.tmp 5) = (.pointer (some ⟨wb, 0, none⟩)) := hO.2.2 5 rfl
            have f5 := (ev_form av 5).symm.trans h5
            have d73 : av.eval (.tmp 73) = (.int .i64 (p15 : Nat)) := hD.1 rfl _ rfl
            have f73 := (ev_form av 73).symm.trans d73
            refine ⟨rfl, ?_⟩
            simp [go_sem, f5, f73, k15, b15, b15n, bv_xor, bv_shrm, bs3, bs3m]
          case s14 =>
            refine step_val (v := (.int .u32 (wI X15))) (fun av wv hE hS hO hD => ?_) (fun _ => rfl)
            have d74 : av.eval (.tmp 74) = (.pointer (some ⟨wb, p15, none⟩)) := hD.1 rfl _ rfl
            have f74 := (ev_form av 74).symm.trans d74
            have c15 := extB_cell hE (by simp) c15
            refine ⟨rfl, ?_⟩
            simp [go_sem, f74, c15, k15, b15, b15n, bv_xor, bv_shrm, bs3, bs3m]
          case s15 =>
            refine step_wp (fun av wv hE hS hO hD => ?_)
            have d75 : av.eval (.tmp 75) = (.int .u32 (wI X15)) := hD.1 rfl _ rfl
            have f75 := (ev_form av 75).symm.trans d75
            refine ⟨rfl, ?_⟩
            exact wp_of_run (v := .int .u32 (wI (X15 >>> 3))) (by simp [go_sem, f75]; exact bs3m) ⟨_, rfl, es_of_ext (Ext_refl _), rfl⟩
          case s16 =>
            refine step_val (v := (.int .u32 (wI (rotr X15 7 ^^^ rotr X15 18 ^^^ X15 >>> 3)))) (fun av wv hE hS hO hD => ?_) (fun _ => rfl)
            have d71 : av.eval (.tmp 71) = (.int .u32 (wI (rotr X15 7 ^^^ rotr X15 18))) := hD.1 rfl _ rfl
            have f71 := (ev_form av 71).symm.trans d71
            have d76 : av.eval (.tmp 76) = (.int .u32 (wI (X15 >>> 3))) := hD.2.1 rfl _ rfl
            have f76 := (ev_form av 76).symm.trans d76
            refine ⟨rfl, ?_⟩
            simp [go_sem, f71, f76, k15, b15, b15n, bv_xor, bv_shrm, bs3, bs3m]
          intro a' w' hE hO hall
          have hA := act_of_outer (ds := [61, 62, 63, 64, 65, 66, 67, 68, 69, 70, 71, 72, 73, 74, 75, 76, 77]) rfl hO (by kernel_rfl)
          have e61 : (fun u _ => u = (.int .i64 (t : Nat))) (a'.eval (.tmp 61)) w' := hall.1 _ rfl
          have e62 : (fun u _ => u = (.int .i64 (p15 : Nat))) (a'.eval (.tmp 62)) w' := hall.2.1 _ rfl
          have e63 : (fun u _ => u = (.pointer (some ⟨wb, p15, none⟩))) (a'.eval (.tmp 63)) w' := hall.2.2.1 _ rfl
          have e64 : (fun u _ => u = (.int .u32 (wI X15))) (a'.eval (.tmp 64)) w' := hall.2.2.2.1 _ rfl
          have e65 : (fun u _ => u = (.int .u32 (wI (rotr X15 7)))) (a'.eval (.tmp 65)) w' := hall.2.2.2.2.1 _ rfl
          have e66 : (fun u _ => u = (.int .i64 (t : Nat))) (a'.eval (.tmp 66)) w' := hall.2.2.2.2.2.1 _ rfl
          have e67 : (fun u _ => u = (.int .i64 (p15 : Nat))) (a'.eval (.tmp 67)) w' := hall.2.2.2.2.2.2.1 _ rfl
          have e68 : (fun u _ => u = (.pointer (some ⟨wb, p15, none⟩))) (a'.eval (.tmp 68)) w' := hall.2.2.2.2.2.2.2.1 _ rfl
          have e69 : (fun u _ => u = (.int .u32 (wI X15))) (a'.eval (.tmp 69)) w' := hall.2.2.2.2.2.2.2.2.1 _ rfl
          have e70 : (fun u _ => u = (.int .u32 (wI (rotr X15 18)))) (a'.eval (.tmp 70)) w' := hall.2.2.2.2.2.2.2.2.2.1 _ rfl
          have e71 : (fun u _ => u = (.int .u32 (wI (rotr X15 7 ^^^ rotr X15 18)))) (a'.eval (.tmp 71)) w' := hall.2.2.2.2.2.2.2.2.2.2.1 _ rfl
          have e72 : (fun u _ => u = (.int .i64 (t : Nat))) (a'.eval (.tmp 72)) w' := hall.2.2.2.2.2.2.2.2.2.2.2.1 _ rfl
          have e73 : (fun u _ => u = (.int .i64 (p15 : Nat))) (a'.eval (.tmp 73)) w' := hall.2.2.2.2.2.2.2.2.2.2.2.2.1 _ rfl
          have e74 : (fun u _ => u = (.pointer (some ⟨wb, p15, none⟩))) (a'.eval (.tmp 74)) w' := hall.2.2.2.2.2.2.2.2.2.2.2.2.2.1 _ rfl
          have e75 : (fun u _ => u = (.int .u32 (wI X15))) (a'.eval (.tmp 75)) w' := hall.2.2.2.2.2.2.2.2.2.2.2.2.2.2.1 _ rfl
          have e76 : (fun u _ => u = (.int .u32 (wI (X15 >>> 3)))) (a'.eval (.tmp 76)) w' := hall.2.2.2.2.2.2.2.2.2.2.2.2.2.2.2.1 _ rfl
          have e77 : (fun u _ => u = (.int .u32 (wI (rotr X15 7 ^^^ rotr X15 18 ^^^ X15 >>> 3)))) (a'.eval (.tmp 77)) w' := hall.2.2.2.2.2.2.2.2.2.2.2.2.2.2.2.2.1 _ rfl
          simp only [List.foldl_cons, List.foldl_nil, Act.put, List.setIfInBounds_toArray, List.set_cons_succ, List.set_cons_zero, e61, e62, e63, e64, e65, e66, e67, e68, e69, e70, e71, e72, e73, e74, e75, e76, e77] at hA
          clear hO hall e61 e62 e63 e64 e65 e66 e67 e68 e69 e70 e71 e72 e73 e74 e75 e76 e77
          subst hA
          have hX := of_drew hE
          have HW := Lib.hid ((hX.block _ (lt_of_block HW.out)).trans HW.out)
          have HB := Lib.hid (HB.out.next hX)
          clear hE hX c15
          obtain ⟨W2, hW2⟩ : ∃ W2, w' = W2 := ⟨_, rfl⟩
          rw [hW2] at HW HB ⊢
          clear hW2 w'
          obtain ⟨Y15, hY15⟩ : ∃ Y, rotr X15 7 ^^^ rotr X15 18 ^^^ X15 >>> 3 = Y := ⟨_, rfl⟩
          rw [hY15]
          have HY15 := Lib.hid hY15
          clear hY15
          have c2 := (HC.out W2 HW.out).2.1
          go_upto_region 10 with fail
          refine wp_region_tail 17 1000 (none) (phis [fun u _ => u = (.int .i64 (t : Nat)), fun u _ => u = (.int .i64 (p2 : Nat)), fun u _ => u = (.pointer (some ⟨wb, p2, none⟩)), fun u _ => u = (.int .u32 (wI X2)), fun u _ => u = (.int .u32 (wI (rotr X2 17))), fun u _ => u = (.int .i64 (t : Nat)), fun u _ => u = (.int .i64 (p2 : Nat)), fun u _ => u = (.pointer (some ⟨wb, p2, none⟩)), fun u _ => u = (.int .u32 (wI X2)), fun u _ => u = (.int .u32 (wI (rotr X2 19))), fun u _ => u = (.int .u32 (wI (rotr X2 17 ^^^ rotr X2 19))), fun u _ => u = (.int .i64 (t : Nat)), fun u _ => u = (.int .i64 (p2 : Nat)), fun u _ => u = (.pointer (some ⟨wb, p2, none⟩)), fun u _ => u = (.int .u32 (wI X2)), fun u _ => u = (.int .u32 (wI (X2 >>> 10))), fun u _ => u = (.int .u32 (wI (rotr X2 17 ^^^ rotr X2 19 ^^^ X2 >>> 10)))]) rfl (by kernel_rfl) (by kernel_rfl) (mono_of ⟨mono_eq, mono_eq, mono_eq, mono_eq, mono_eq, mono_eq, mono_eq, mono_eq, mono_eq, mono_eq, mono_eq, mono_eq, mono_eq, mono_eq, mono_eq, mono_eq, mono_eq, trivial⟩) (steps_of 17 ⟨?s0, ?s1, ?s2, ?s3, ?s4, ?s5, ?s6, ?s7, ?s8, ?s9, ?s10, ?s11, ?s12, ?s13, ?s14, ?s15, ?s16, trivial⟩) ?_
          case s0 =>
            refine step_val (v := (.int .i64 (t : Nat))) (fun av wv hE hS hO hD => ?_) (fun _ => rfl)
            have h7 : av.eval (.tmp 7) = (.int .i64 (t : Nat)) := hO.2.2 7 rfl
            have f7 := (ev_form av 7).symm.trans h7
            refine ⟨rfl, ?_⟩
            simp [go_sem, f7, k2, b2, b2n, bv_xor, bv_shrm, bs10, bs10m]
          case s1 =>
            refine step_val (v := (.int .i64 (p2 : Nat))) (fun av wv hE hS hO hD => ?_) (fun _ => rfl)
            have d78 : av.eval (.tmp 78) = (.int .i64 (t : Nat)) := hD.1 rfl _ rfl
            have f78 := (ev_form av 78).symm.trans d78
            refine ⟨rfl, ?_⟩
            simp [go_sem, f78, k2, b2, b2n, bv_xor, bv_shrm, bs10, bs10m]
          case s2 =>
            refine step_val (v := (.pointer (some ⟨wb, p2, none⟩))) (fun av wv hE hS hO hD => ?_) (fun _ => rfl)
            have h5 : av.eval (.tmp 5) = (.pointer (some ⟨wb, 0, none⟩)) := hO.2.2 5 rfl
            have f5 := (ev_form av 5).symm.trans h5
            have d79 : av.eval (.tmp 79) = (.int .i64 (p2 : Nat)) := hD.1 rfl _ rfl
            have f79 := (ev_form av 79).symm.trans d79
            refine ⟨rfl, ?_⟩
            simp [go_sem, f5, f79, k2, b2, b2n, bv_xor, bv_shrm, bs10, bs10m]
          case s3 =>
            refine step_val (v := (.int .u32 (wI X2))) (fun av wv hE hS hO hD => ?_) (fun _ => rfl)
            have d80 : av.eval (.tmp 80) = (.pointer (some ⟨wb, p2, none⟩)) := hD.1 rfl _ rfl
            have f80 := (ev_form av 80).symm.trans d80
            have c2 := extB_cell hE (by simp) c2
            refine ⟨rfl, ?_⟩
            simp [go_sem, f80, c2, k2, b2, b2n, bv_xor, bv_shrm, bs10, bs10m]
          case s4 =>
            refine step_wp (fun av wv hE hS hO hD => ?_)
            have d81 : av.eval (.tmp 81) = (.int .u32 (wI X2)) := hD.1 rfl _ rfl
            have f81 := (ev_form av 81).symm.trans d81
            refine ⟨rfl, ?_⟩
            refine wp_of_call (v := .int .u32 (wI (rotr X2 17))) (by simp [go_sem, f81]) ((rturned_any X2 17 wv (by decide) (by decide)).mono (fun e w2 ⟨h1, h2⟩ => ⟨h1, h2.below _⟩)) (fun w2 hb => ⟨_, rfl, es_of_ext hb, rfl⟩)
          case s5 =>
            refine step_val (v := (.int .i64 (t : Nat))) (fun av wv hE hS hO hD => ?_) (fun _ => rfl)
            have h7 : av.eval (.tmp 7) = (.int .i64 (t : Nat)) := hO.2.2 7 rfl
            have f7 := (ev_form av 7).symm.trans h7
            refine ⟨rfl, ?_⟩
            simp [go_sem, f7, k2, b2, b2n, bv_xor, bv_shrm, bs10, bs10m]
          case s6 =>
            refine step_val (v := (.int .i64 (p2 : Nat))) (fun av wv hE hS hO hD => ?_) (fun _ => rfl)
            have d83 : av.eval (.tmp 83) = (.int .i64 (t : Nat)) := hD.1 rfl _ rfl
            have f83 := (ev_form av 83).symm.trans d83
            refine ⟨rfl, ?_⟩
            simp [go_sem, f83, k2, b2, b2n, bv_xor, bv_shrm, bs10, bs10m]
          case s7 =>
            refine step_val (v := (.pointer (some ⟨wb, p2, none⟩))) (fun av wv hE hS hO hD => ?_) (fun _ => rfl)
            have h5 : av.eval (.tmp 5) = (.pointer (some ⟨wb, 0, none⟩)) := hO.2.2 5 rfl
            have f5 := (ev_form av 5).symm.trans h5
            have d84 : av.eval (.tmp 84) = (.int .i64 (p2 : Nat)) := hD.1 rfl _ rfl
            have f84 := (ev_form av 84).symm.trans d84
            refine ⟨rfl, ?_⟩
            simp [go_sem, f5, f84, k2, b2, b2n, bv_xor, bv_shrm, bs10, bs10m]
          case s8 =>
            refine step_val (v := (.int .u32 (wI X2))) (fun av wv hE hS hO hD => ?_) (fun _ => rfl)
            have d85 : av.eval (.tmp 85) = (.pointer (some ⟨wb, p2, none⟩)) := hD.1 rfl _ rfl
            have f85 := (ev_form av 85).symm.trans d85
            have c2 := extB_cell hE (by simp) c2
            refine ⟨rfl, ?_⟩
            simp [go_sem, f85, c2, k2, b2, b2n, bv_xor, bv_shrm, bs10, bs10m]
          case s9 =>
            refine step_wp (fun av wv hE hS hO hD => ?_)
            have d86 : av.eval (.tmp 86) = (.int .u32 (wI X2)) := hD.1 rfl _ rfl
            have f86 := (ev_form av 86).symm.trans d86
            refine ⟨rfl, ?_⟩
            refine wp_of_call (v := .int .u32 (wI (rotr X2 19))) (by simp [go_sem, f86]) ((rturned_any X2 19 wv (by decide) (by decide)).mono (fun e w2 ⟨h1, h2⟩ => ⟨h1, h2.below _⟩)) (fun w2 hb => ⟨_, rfl, es_of_ext hb, rfl⟩)
          case s10 =>
            refine step_val (v := (.int .u32 (wI (rotr X2 17 ^^^ rotr X2 19)))) (fun av wv hE hS hO hD => ?_) (fun _ => rfl)
            have d82 : av.eval (.tmp 82) = (.int .u32 (wI (rotr X2 17))) := hD.1 rfl _ rfl
            have f82 := (ev_form av 82).symm.trans d82
            have d87 : av.eval (.tmp 87) = (.int .u32 (wI (rotr X2 19))) := hD.2.1 rfl _ rfl
            have f87 := (ev_form av 87).symm.trans d87
            refine ⟨rfl, ?_⟩
            simp [go_sem, f82, f87, k2, b2, b2n, bv_xor, bv_shrm, bs10, bs10m]
          case s11 =>
            refine step_val (v := (.int .i64 (t : Nat))) (fun av wv hE hS hO hD => ?_) (fun _ => rfl)
            have h7 : av.eval (.tmp 7) = (.int .i64 (t : Nat)) := hO.2.2 7 rfl
            have f7 := (ev_form av 7).symm.trans h7
            refine ⟨rfl, ?_⟩
            simp [go_sem, f7, k2, b2, b2n, bv_xor, bv_shrm, bs10, bs10m]
          case s12 =>
            refine step_val (v := (.int .i64 (p2 : Nat))) (fun av wv hE hS hO hD => ?_) (fun _ => rfl)
            have d89 : av.eval (.tmp 89) = (.int .i64 (t : Nat)) := hD.1 rfl _ rfl
            have f89 := (ev_form av 89).symm.trans d89
            refine ⟨rfl, ?_⟩
            simp [go_sem, f89, k2, b2, b2n, bv_xor, bv_shrm, bs10, bs10m]
          case s13 =>
            refine step_val (v := (.pointer (some ⟨wb, p2, none⟩))) (fun av wv hE hS hO hD => ?_) (fun _ => rfl)
            have h5 : av.eval (.tmp 5) = (.pointer (some ⟨wb, 0, none⟩)) := hO.2.2 5 rfl
            have f5 := (ev_form av 5).symm.trans h5
            have d90 : av.eval (.tmp 90) = (.int .i64 (p2 : Nat)) := hD.1 rfl _ rfl
            have f90 := (ev_form av 90).symm.trans d90
            refine ⟨rfl, ?_⟩
            simp [go_sem, f5, f90, k2, b2, b2n, bv_xor, bv_shrm, bs10, bs10m]
          case s14 =>
            refine step_val (v := (.int .u32 (wI X2))) (fun av wv hE hS hO hD => ?_) (fun _ => rfl)
            have d91 : av.eval (.tmp 91) = (.pointer (some ⟨wb, p2, none⟩)) := hD.1 rfl _ rfl
            have f91 := (ev_form av 91).symm.trans d91
            have c2 := extB_cell hE (by simp) c2
            refine ⟨rfl, ?_⟩
            simp [go_sem, f91, c2, k2, b2, b2n, bv_xor, bv_shrm, bs10, bs10m]
          case s15 =>
            refine step_wp (fun av wv hE hS hO hD => ?_)
            have d92 : av.eval (.tmp 92) = (.int .u32 (wI X2)) := hD.1 rfl _ rfl
            have f92 := (ev_form av 92).symm.trans d92
            refine ⟨rfl, ?_⟩
            exact wp_of_run (v := .int .u32 (wI (X2 >>> 10))) (by simp [go_sem, f92]; exact bs10m) ⟨_, rfl, es_of_ext (Ext_refl _), rfl⟩
          case s16 =>
            refine step_val (v := (.int .u32 (wI (rotr X2 17 ^^^ rotr X2 19 ^^^ X2 >>> 10)))) (fun av wv hE hS hO hD => ?_) (fun _ => rfl)
            have d88 : av.eval (.tmp 88) = (.int .u32 (wI (rotr X2 17 ^^^ rotr X2 19))) := hD.1 rfl _ rfl
            have f88 := (ev_form av 88).symm.trans d88
            have d93 : av.eval (.tmp 93) = (.int .u32 (wI (X2 >>> 10))) := hD.2.1 rfl _ rfl
            have f93 := (ev_form av 93).symm.trans d93
            refine ⟨rfl, ?_⟩
            simp [go_sem, f88, f93, k2, b2, b2n, bv_xor, bv_shrm, bs10, bs10m]
          intro a' w' hE hO hall
          have hA := act_of_outer (ds := [78, 79, 80, 81, 82, 83, 84, 85, 86, 87, 88, 89, 90, 91, 92, 93, 94]) rfl hO (by kernel_rfl)
          have e78 : (fun u _ => u = (.int .i64 (t : Nat))) (a'.eval (.tmp 78)) w' := hall.1 _ rfl
          have e79 : (fun u _ => u = (.int .i64 (p2 : Nat))) (a'.eval (.tmp 79)) w' := hall.2.1 _ rfl
          have e80 : (fun u _ => u = (.pointer (some ⟨wb, p2, none⟩))) (a'.eval (.tmp 80)) w' := hall.2.2.1 _ rfl
          have e81 : (fun u _ => u = (.int .u32 (wI X2))) (a'.eval (.tmp 81)) w' := hall.2.2.2.1 _ rfl
          have e82 : (fun u _ => u = (.int .u32 (wI (rotr X2 17)))) (a'.eval (.tmp 82)) w' := hall.2.2.2.2.1 _ rfl
          have e83 : (fun u _ => u = (.int .i64 (t : Nat))) (a'.eval (.tmp 83)) w' := hall.2.2.2.2.2.1 _ rfl
          have e84 : (fun u _ => u = (.int .i64 (p2 : Nat))) (a'.eval (.tmp 84)) w' := hall.2.2.2.2.2.2.1 _ rfl
          have e85 : (fun u _ => u = (.pointer (some ⟨wb, p2, none⟩))) (a'.eval (.tmp 85)) w' := hall.2.2.2.2.2.2.2.1 _ rfl
          have e86 : (fun u _ => u = (.int .u32 (wI X2))) (a'.eval (.tmp 86)) w' := hall.2.2.2.2.2.2.2.2.1 _ rfl
          have e87 : (fun u _ => u = (.int .u32 (wI (rotr X2 19)))) (a'.eval (.tmp 87)) w' := hall.2.2.2.2.2.2.2.2.2.1 _ rfl
          have e88 : (fun u _ => u = (.int .u32 (wI (rotr X2 17 ^^^ rotr X2 19)))) (a'.eval (.tmp 88)) w' := hall.2.2.2.2.2.2.2.2.2.2.1 _ rfl
          have e89 : (fun u _ => u = (.int .i64 (t : Nat))) (a'.eval (.tmp 89)) w' := hall.2.2.2.2.2.2.2.2.2.2.2.1 _ rfl
          have e90 : (fun u _ => u = (.int .i64 (p2 : Nat))) (a'.eval (.tmp 90)) w' := hall.2.2.2.2.2.2.2.2.2.2.2.2.1 _ rfl
          have e91 : (fun u _ => u = (.pointer (some ⟨wb, p2, none⟩))) (a'.eval (.tmp 91)) w' := hall.2.2.2.2.2.2.2.2.2.2.2.2.2.1 _ rfl
          have e92 : (fun u _ => u = (.int .u32 (wI X2))) (a'.eval (.tmp 92)) w' := hall.2.2.2.2.2.2.2.2.2.2.2.2.2.2.1 _ rfl
          have e93 : (fun u _ => u = (.int .u32 (wI (X2 >>> 10)))) (a'.eval (.tmp 93)) w' := hall.2.2.2.2.2.2.2.2.2.2.2.2.2.2.2.1 _ rfl
          have e94 : (fun u _ => u = (.int .u32 (wI (rotr X2 17 ^^^ rotr X2 19 ^^^ X2 >>> 10)))) (a'.eval (.tmp 94)) w' := hall.2.2.2.2.2.2.2.2.2.2.2.2.2.2.2.2.1 _ rfl
          simp only [List.foldl_cons, List.foldl_nil, Act.put, List.setIfInBounds_toArray, List.set_cons_succ, List.set_cons_zero, e78, e79, e80, e81, e82, e83, e84, e85, e86, e87, e88, e89, e90, e91, e92, e93, e94] at hA
          clear hO hall e78 e79 e80 e81 e82 e83 e84 e85 e86 e87 e88 e89 e90 e91 e92 e93 e94
          subst hA
          have hX := of_drew hE
          have HW := Lib.hid ((hX.block _ (lt_of_block HW.out)).trans HW.out)
          have HB := Lib.hid (HB.out.next hX)
          clear hE hX c2
          obtain ⟨W3, hW3⟩ : ∃ W3, w' = W3 := ⟨_, rfl⟩
          rw [hW3] at HW HB ⊢
          clear hW3 w'
          obtain ⟨Y2, hY2⟩ : ∃ Y, rotr X2 17 ^^^ rotr X2 19 ^^^ X2 >>> 10 = Y := ⟨_, rfl⟩
          rw [hY2]
          have HY2 := Lib.hid hY2
          clear hY2
          have c16 := (HC.out W3 HW.out).2.2.1
          have c7 := (HC.out W3 HW.out).2.2.2.1
          go_upto_region 11 with fail
          refine wp_region_tail 15 1000 (none) (phis [fun u _ => u = (.int .i64 (t : Nat)), fun u _ => u = (.int .i64 (t : Nat)), fun u _ => u = (.int .i64 (p16 : Nat)), fun u _ => u = (.pointer (some ⟨wb, p16, none⟩)), fun u _ => u = (.int .u32 (wI X16)), fun u _ => u = (.int .u32 (wI Y15)), fun u _ => u = (.int .u32 (wI (X16 + Y15))), fun u _ => u = (.int .i64 (t : Nat)), fun u _ => u = (.int .i64 (p7 : Nat)), fun u _ => u = (.pointer (some ⟨wb, p7, none⟩)), fun u _ => u = (.int .u32 (wI X7)), fun u _ => u = (.int .u32 (wI (X16 + Y15 + X7))), fun u _ => u = (.int .u32 (wI Y2)), fun u _ => u = (.int .u32 (wI (X16 + Y15 + X7 + Y2))), fun u _ => u = (.pointer (some ⟨wb, t, none⟩))]) rfl (by kernel_rfl) (by kernel_rfl) (mono_of ⟨mono_eq, mono_eq, mono_eq, mono_eq, mono_eq, mono_eq, mono_eq, mono_eq, mono_eq, mono_eq, mono_eq, mono_eq, mono_eq, mono_eq, mono_eq, trivial⟩) (steps_of 15 ⟨?s0, ?s1, ?s2, ?s3, ?s4, ?s5, ?s6, ?s7, ?s8, ?s9, ?s10, ?s11, ?s12, ?s13, ?s14, trivial⟩) ?_
          case s0 =>
            refine step_val (v := (.int .i64 (t : Nat))) (fun av wv hE hS hO hD => ?_) (fun _ => rfl)
            have h7 : av.eval (.tmp 7) = (.int .i64 (t : Nat)) := hO.2.2 7 rfl
            have f7 := (ev_form av 7).symm.trans h7
            refine ⟨rfl, ?_⟩
            simp [go_sem, f7, k16, k7, b16, b16n, b7, b7n, bt, btn, bv_add, bv_addm]
          case s1 =>
            refine step_val (v := (.int .i64 (t : Nat))) (fun av wv hE hS hO hD => ?_) (fun _ => rfl)
            have h7 : av.eval (.tmp 7) = (.int .i64 (t : Nat)) := hO.2.2 7 rfl
            have f7 := (ev_form av 7).symm.trans h7
            refine ⟨rfl, ?_⟩
            simp [go_sem, f7, k16, k7, b16, b16n, b7, b7n, bt, btn, bv_add, bv_addm]
          case s2 =>
            refine step_val (v := (.int .i64 (p16 : Nat))) (fun av wv hE hS hO hD => ?_) (fun _ => rfl)
            have d96 : av.eval (.tmp 96) = (.int .i64 (t : Nat)) := hD.1 rfl _ rfl
            have f96 := (ev_form av 96).symm.trans d96
            refine ⟨rfl, ?_⟩
            simp [go_sem, f96, k16, k7, b16, b16n, b7, b7n, bt, btn, bv_add, bv_addm]
          case s3 =>
            refine step_val (v := (.pointer (some ⟨wb, p16, none⟩))) (fun av wv hE hS hO hD => ?_) (fun _ => rfl)
            have h5 : av.eval (.tmp 5) = (.pointer (some ⟨wb, 0, none⟩)) := hO.2.2 5 rfl
            have f5 := (ev_form av 5).symm.trans h5
            have d97 : av.eval (.tmp 97) = (.int .i64 (p16 : Nat)) := hD.1 rfl _ rfl
            have f97 := (ev_form av 97).symm.trans d97
            refine ⟨rfl, ?_⟩
            simp [go_sem, f5, f97, k16, k7, b16, b16n, b7, b7n, bt, btn, bv_add, bv_addm]
          case s4 =>
            refine step_val (v := (.int .u32 (wI X16))) (fun av wv hE hS hO hD => ?_) (fun _ => rfl)
            have d98 : av.eval (.tmp 98) = (.pointer (some ⟨wb, p16, none⟩)) := hD.1 rfl _ rfl
            have f98 := (ev_form av 98).symm.trans d98
            have c16 := extB_cell hE (by simp) c16
            have c7 := extB_cell hE (by simp) c7
            refine ⟨rfl, ?_⟩
            simp [go_sem, f98, c16, c7, k16, k7, b16, b16n, b7, b7n, bt, btn, bv_add, bv_addm]
          case s5 =>
            refine step_val (v := (.int .u32 (wI Y15))) (fun av wv hE hS hO hD => ?_) (fun _ => rfl)
            have h8 : av.eval (.tmp 8) = (.int .u32 (wI Y15)) := hO.2.2 8 rfl
            have f8 := (ev_form av 8).symm.trans h8
            refine ⟨rfl, ?_⟩
            simp [go_sem, f8, k16, k7, b16, b16n, b7, b7n, bt, btn, bv_add, bv_addm]
          case s6 =>
            refine step_val (v := (.int .u32 (wI (X16 + Y15)))) (fun av wv hE hS hO hD => ?_) (fun _ => rfl)
            have d99 : av.eval (.tmp 99) = (.int .u32 (wI X16)) := hD.1 rfl _ rfl
            have f99 := (ev_form av 99).symm.trans d99
            have d100 : av.eval (.tmp 100) = (.int .u32 (wI Y15)) := hD.2.1 rfl _ rfl
            have f100 := (ev_form av 100).symm.trans d100
            refine ⟨rfl, ?_⟩
            simp [go_sem, f99, f100, k16, k7, b16, b16n, b7, b7n, bt, btn, bv_add, bv_addm]
          case s7 =>
            refine step_val (v := (.int .i64 (t : Nat))) (fun av wv hE hS hO hD => ?_) (fun _ => rfl)
            have h7 : av.eval (.tmp 7) = (.int .i64 (t : Nat)) := hO.2.2 7 rfl
            have f7 := (ev_form av 7).symm.trans h7
            refine ⟨rfl, ?_⟩
            simp [go_sem, f7, k16, k7, b16, b16n, b7, b7n, bt, btn, bv_add, bv_addm]
          case s8 =>
            refine step_val (v := (.int .i64 (p7 : Nat))) (fun av wv hE hS hO hD => ?_) (fun _ => rfl)
            have d102 : av.eval (.tmp 102) = (.int .i64 (t : Nat)) := hD.1 rfl _ rfl
            have f102 := (ev_form av 102).symm.trans d102
            refine ⟨rfl, ?_⟩
            simp [go_sem, f102, k16, k7, b16, b16n, b7, b7n, bt, btn, bv_add, bv_addm]
          case s9 =>
            refine step_val (v := (.pointer (some ⟨wb, p7, none⟩))) (fun av wv hE hS hO hD => ?_) (fun _ => rfl)
            have h5 : av.eval (.tmp 5) = (.pointer (some ⟨wb, 0, none⟩)) := hO.2.2 5 rfl
            have f5 := (ev_form av 5).symm.trans h5
            have d103 : av.eval (.tmp 103) = (.int .i64 (p7 : Nat)) := hD.1 rfl _ rfl
            have f103 := (ev_form av 103).symm.trans d103
            refine ⟨rfl, ?_⟩
            simp [go_sem, f5, f103, k16, k7, b16, b16n, b7, b7n, bt, btn, bv_add, bv_addm]
          case s10 =>
            refine step_val (v := (.int .u32 (wI X7))) (fun av wv hE hS hO hD => ?_) (fun _ => rfl)
            have d104 : av.eval (.tmp 104) = (.pointer (some ⟨wb, p7, none⟩)) := hD.1 rfl _ rfl
            have f104 := (ev_form av 104).symm.trans d104
            have c16 := extB_cell hE (by simp) c16
            have c7 := extB_cell hE (by simp) c7
            refine ⟨rfl, ?_⟩
            simp [go_sem, f104, c16, c7, k16, k7, b16, b16n, b7, b7n, bt, btn, bv_add, bv_addm]
          case s11 =>
            refine step_val (v := (.int .u32 (wI (X16 + Y15 + X7)))) (fun av wv hE hS hO hD => ?_) (fun _ => rfl)
            have d101 : av.eval (.tmp 101) = (.int .u32 (wI (X16 + Y15))) := hD.1 rfl _ rfl
            have f101 := (ev_form av 101).symm.trans d101
            have d105 : av.eval (.tmp 105) = (.int .u32 (wI X7)) := hD.2.1 rfl _ rfl
            have f105 := (ev_form av 105).symm.trans d105
            refine ⟨rfl, ?_⟩
            simp [go_sem, f101, f105, k16, k7, b16, b16n, b7, b7n, bt, btn, bv_add, bv_addm]
          case s12 =>
            refine step_val (v := (.int .u32 (wI Y2))) (fun av wv hE hS hO hD => ?_) (fun _ => rfl)
            have h9 : av.eval (.tmp 9) = (.int .u32 (wI Y2)) := hO.2.2 9 rfl
            have f9 := (ev_form av 9).symm.trans h9
            refine ⟨rfl, ?_⟩
            simp [go_sem, f9, k16, k7, b16, b16n, b7, b7n, bt, btn, bv_add, bv_addm]
          case s13 =>
            refine step_val (v := (.int .u32 (wI (X16 + Y15 + X7 + Y2)))) (fun av wv hE hS hO hD => ?_) (fun _ => rfl)
            have d106 : av.eval (.tmp 106) = (.int .u32 (wI (X16 + Y15 + X7))) := hD.1 rfl _ rfl
            have f106 := (ev_form av 106).symm.trans d106
            have d107 : av.eval (.tmp 107) = (.int .u32 (wI Y2)) := hD.2.1 rfl _ rfl
            have f107 := (ev_form av 107).symm.trans d107
            refine ⟨rfl, ?_⟩
            simp [go_sem, f106, f107, k16, k7, b16, b16n, b7, b7n, bt, btn, bv_add, bv_addm]
          case s14 =>
            refine step_val (v := (.pointer (some ⟨wb, t, none⟩))) (fun av wv hE hS hO hD => ?_) (fun _ => rfl)
            have h5 : av.eval (.tmp 5) = (.pointer (some ⟨wb, 0, none⟩)) := hO.2.2 5 rfl
            have f5 := (ev_form av 5).symm.trans h5
            have d95 : av.eval (.tmp 95) = (.int .i64 (t : Nat)) := hD.1 rfl _ rfl
            have f95 := (ev_form av 95).symm.trans d95
            refine ⟨rfl, ?_⟩
            simp [go_sem, f5, f95, k16, k7, b16, b16n, b7, b7n, bt, btn, bv_add, bv_addm]
          intro a' w' hE hO hall
          have hA := act_of_outer (ds := [95, 96, 97, 98, 99, 100, 101, 102, 103, 104, 105, 106, 107, 108, 109]) rfl hO (by kernel_rfl)
          have e95 : (fun u _ => u = (.int .i64 (t : Nat))) (a'.eval (.tmp 95)) w' := hall.1 _ rfl
          have e96 : (fun u _ => u = (.int .i64 (t : Nat))) (a'.eval (.tmp 96)) w' := hall.2.1 _ rfl
          have e97 : (fun u _ => u = (.int .i64 (p16 : Nat))) (a'.eval (.tmp 97)) w' := hall.2.2.1 _ rfl
          have e98 : (fun u _ => u = (.pointer (some ⟨wb, p16, none⟩))) (a'.eval (.tmp 98)) w' := hall.2.2.2.1 _ rfl
          have e99 : (fun u _ => u = (.int .u32 (wI X16))) (a'.eval (.tmp 99)) w' := hall.2.2.2.2.1 _ rfl
          have e100 : (fun u _ => u = (.int .u32 (wI Y15))) (a'.eval (.tmp 100)) w' := hall.2.2.2.2.2.1 _ rfl
          have e101 : (fun u _ => u = (.int .u32 (wI (X16 + Y15)))) (a'.eval (.tmp 101)) w' := hall.2.2.2.2.2.2.1 _ rfl
          have e102 : (fun u _ => u = (.int .i64 (t : Nat))) (a'.eval (.tmp 102)) w' := hall.2.2.2.2.2.2.2.1 _ rfl
          have e103 : (fun u _ => u = (.int .i64 (p7 : Nat))) (a'.eval (.tmp 103)) w' := hall.2.2.2.2.2.2.2.2.1 _ rfl
          have e104 : (fun u _ => u = (.pointer (some ⟨wb, p7, none⟩))) (a'.eval (.tmp 104)) w' := hall.2.2.2.2.2.2.2.2.2.1 _ rfl
          have e105 : (fun u _ => u = (.int .u32 (wI X7))) (a'.eval (.tmp 105)) w' := hall.2.2.2.2.2.2.2.2.2.2.1 _ rfl
          have e106 : (fun u _ => u = (.int .u32 (wI (X16 + Y15 + X7)))) (a'.eval (.tmp 106)) w' := hall.2.2.2.2.2.2.2.2.2.2.2.1 _ rfl
          have e107 : (fun u _ => u = (.int .u32 (wI Y2))) (a'.eval (.tmp 107)) w' := hall.2.2.2.2.2.2.2.2.2.2.2.2.1 _ rfl
          have e108 : (fun u _ => u = (.int .u32 (wI (X16 + Y15 + X7 + Y2)))) (a'.eval (.tmp 108)) w' := hall.2.2.2.2.2.2.2.2.2.2.2.2.2.1 _ rfl
          have e109 : (fun u _ => u = (.pointer (some ⟨wb, t, none⟩))) (a'.eval (.tmp 109)) w' := hall.2.2.2.2.2.2.2.2.2.2.2.2.2.2.1 _ rfl
          simp only [List.foldl_cons, List.foldl_nil, Act.put, List.setIfInBounds_toArray, List.set_cons_succ, List.set_cons_zero, e95, e96, e97, e98, e99, e100, e101, e102, e103, e104, e105, e106, e107, e108, e109] at hA
          clear hO hall e95 e96 e97 e98 e99 e100 e101 e102 e103 e104 e105 e106 e107 e108 e109
          subst hA
          have hX := of_drew hE
          have HW := Lib.hid ((hX.block _ (lt_of_block HW.out)).trans HW.out)
          have HB := Lib.hid (HB.out.next hX)
          clear hE hX c16 c7
          obtain ⟨W4, hW4⟩ : ∃ W4, w' = W4 := ⟨_, rfl⟩
          rw [hW4] at HW HB ⊢
          clear hW4 w'
          have c0 := (HC.out W4 HW.out).2.2.2.2
          have f0 : W4.frozen? ⟨wb, t, none⟩ = false := block_free HW.out t
          have l0 : wb < W4.heap.size := lt_of_block HW.out
          clear k15 k2 k16 k7 b15 b15n b2 b2n b16 b16n b7 b7n bt btn bs3 bs3m bs10 bs10m
          have iw : IntKind.i64.wrap (((t : Nat) : Int) + 1) = ((t : Nat) : Int) + 1 := IntWalk.i64_in _ (by omega)
          go_wp2
          go_roundg (48 - (j + 1))
          case rel => exact ⟨j + 1, by omega, by have := HT.out; congr 1; omega, Lib.hid (by
            have h9 := block_setCell HW.out (o := t) (wV (X16 + Y15 + X7 + Y2))
            rw [wsC_set] at h9
            rw [← moreZ_next L j hlt, HNX.out, HT.out]
            unfold s0W s1W
            rw [HY15.out, HY2.out]
            exact h9), Lib.hid (HB.out.set HNE.out.2.2.1 HNE.out.2.2.2.1 HNE.out.2.2.2.2.1)⟩
          case measure => omega
        · obtain rfl : j = 48 := by omega
          have i1 : ¬ ((16 + 48 : Nat) : Int) < 64 := by decide
          clear hj hlt i1
          obtain ⟨Ws, hWs⟩ : ∃ Ws, moreW (headW L 16) 48 = Ws := ⟨_, rfl⟩
          have HWL : Hid (Ws.length = 64) := Lib.hid (by rw [← hWs, moreW_len, headW_len])
          have HWS := Lib.hid hWs
          have HW : Hid (wr.heap[wb]? = some (.cells (wsC Ws) 294 (0, 0))) := Lib.hid (by
            have e9 : moreZ L 48 = Ws := by rw [← hWs]; unfold moreZ; rw [Nat.sub_self, List.replicate_zero, List.append_nil]
            rw [← e9]; exact HW.out)
          clear hWs
          have i1 : ¬ ((16 + 48 : Nat) : Int) < 64 := by decide
          go_upto_region 12 with fail
          go_wp2_with fail
          refine (rconsts_any wr).mono ?_
          rintro e w2 ⟨rfl, hb2⟩
          have HW2 := Lib.hid ((hb2.block _ (lt_of_block HW.out)).trans HW.out)
          have HB2 := Lib.hid (HB.out.next hb2)
          obtain ⟨KC, hKC⟩ : ∃ KC, wsC kW = KC := ⟨_, rfl⟩
          have HKC := Lib.hid hKC
          have HKS : Hid (KC.size = 64) := Lib.hid (by rw [← hKC]; rfl)
          have HON : Hid (KC.all (·.oneCell') = true) := Lib.hid (by rw [← hKC]; kernel_rfl)
          have HI : Hid ((Tryz.prog.info? 294).map (·.size) = some KC.size) := Lib.hid (by rw [HKS.out]; kernel_rfl)
          rw [hKC]
          clear hb2 hKC HW HB
          go_upto_region 13 with (first | (refine wpList_store_row ?_ 294 (.tmp 10) (.tmp 110) ?_ w2.heap.size KC ?_ ?_ 294 _ (heap_alloc_new _ _) HI.out ?_ HON.out ?_; rfl; rfl; rfl; rfl; (rw [HKS.out]; rfl); skip))
          have HKB : Hid (w.heap.size ≤ w2.heap.size ∧ pb < w2.heap.size ∧ rb < w2.heap.size ∧ wb < w2.heap.size) := Lib.hid ⟨HB2.out.below.size, lt_of_block HB2.out.p, lt_of_block HB2.out.r, lt_of_block HW2.out⟩
          change Code.wp _ _ _ _ ((w2.alloc (.cells (wsC zeroW) 294)).setRow w2.heap.size KC)
          obtain ⟨V, hV⟩ : ∃ V, (w2.alloc (.cells (wsC zeroW) 294)).setRow w2.heap.size KC = V := ⟨_, rfl⟩
          rw [hV]
          obtain ⟨kb, hkb⟩ : ∃ kb, w2.heap.size = kb := ⟨_, rfl⟩
          rw [hkb] at hV HKB ⊢
          have HVK : Hid (V.heap[kb]? = some (.cells (wsC kW) 294 (0, 0))) := Lib.hid (by rw [HKC.out, ← hV]; exact setRow_heap _ _ _ _ _ _ (by rw [← hkb]; exact heap_alloc_new _ _))
          have HVO : ∀ b c, b < kb → w2.heap[b]? = some c → V.heap[b]? = some c := fun b c hb hc => by
            rw [← hV, setRow_other _ _ _ _ (show b ≠ kb by omega)]
            exact block_alloc hc _
          have HVS : w2.heap.size ≤ V.heap.size := by rw [← hV, setRow_size]; exact (balloc (Below.refl _ w2) _).size
          have HVB : Hid (Below w.heap.size w V) := Lib.hid (by
            have h1 : Below w.heap.size w (w2.alloc (.cells (wsC zeroW) 294)) := balloc HB2.out.below _
            rw [← hV]
            exact ⟨h1.os, h1.tape, h1.output, by rw [setRow_size]; exact h1.size, fun i hi => by rw [setRow_other _ _ _ _ (show i ≠ kb by have := HKB.out; omega)]; exact h1.block i hi⟩)
          have HVW := Lib.hid (HVO wb _ HKB.out.2.2.2 HW2.out)
          have HVA : Hid (BlkAt pb rb A9 w V) := Lib.hid ⟨HVB.out, HVO pb _ HKB.out.2.1 HB2.out.p, HVO rb _ HKB.out.2.2.1 HB2.out.r⟩
          clear hV hkb HVO HVS HVB HB2 HW2 HI HON HKS
          have p0 : V.cell? ⟨pb, 0, none⟩ = some (.int .u32 (wI v.a)) := (block_cell HVA.out.p 0).trans (by rw [← HA9.out]; rfl)
          have p1 : V.cell? ⟨pb, 1, none⟩ = some (.int .u32 (wI v.b)) := (block_cell HVA.out.p 1).trans (by rw [← HA9.out]; rfl)
          have p2 : V.cell? ⟨pb, 2, none⟩ = some (.int .u32 (wI v.c)) := (block_cell HVA.out.p 2).trans (by rw [← HA9.out]; rfl)
          have p3 : V.cell? ⟨pb, 3, none⟩ = some (.int .u32 (wI v.d)) := (block_cell HVA.out.p 3).trans (by rw [← HA9.out]; rfl)
          refine wp_region_all 1000 (none) (phis [fun u _ => u = (.pointer (some ⟨pb, 0, none⟩)), fun u _ => u = (.int .u32 (wI v.a)), fun u _ => u = (.pointer (some ⟨pb, 1, none⟩)), fun u _ => u = (.int .u32 (wI v.b)), fun u _ => u = (.pointer (some ⟨pb, 2, none⟩)), fun u _ => u = (.int .u32 (wI v.c)), fun u _ => u = (.pointer (some ⟨pb, 3, none⟩)), fun u _ => u = (.int .u32 (wI v.d)), fun u _ => u = (.int .u32 (wI v.a)), fun u _ => u = (.int .u32 (wI v.b)), fun u _ => u = (.int .u32 (wI v.c)), fun u _ => u = (.int .u32 (wI v.d))]) rfl (by kernel_rfl) (mono_of ⟨mono_eq, mono_eq, mono_eq, mono_eq, mono_eq, mono_eq, mono_eq, mono_eq, mono_eq, mono_eq, mono_eq, mono_eq, trivial⟩) (steps_of 12 ⟨?s0, ?s1, ?s2, ?s3, ?s4, ?s5, ?s6, ?s7, ?s8, ?s9, ?s10, ?s11, trivial⟩) ?_
          case s0 =>
            refine step_val (v := (.pointer (some ⟨pb, 0, none⟩))) (fun av wv hE hS hO hD => ?_) (fun _ => rfl)
            have h2 : av.eval (.tmp 2) = (.pointer (some ⟨pb, 0, none⟩)) := hO.2.2 2 rfl
            have f2 := (ev_form av 2).symm.trans h2
            refine ⟨rfl, ?_⟩
            simp [go_sem, f2]
          case s1 =>
            refine step_val (v := (.int .u32 (wI v.a))) (fun av wv hE hS hO hD => ?_) (fun _ => rfl)
            have d111 : av.eval (.tmp 111) = (.pointer (some ⟨pb, 0, none⟩)) := hD.1 rfl _ rfl
            have f111 := (ev_form av 111).symm.trans d111
            have p0 := extB_cell hE (by simp) p0
            have p1 := extB_cell hE (by simp) p1
            have p2 := extB_cell hE (by simp) p2
            have p3 := extB_cell hE (by simp) p3
            refine ⟨rfl, ?_⟩
            simp [go_sem, f111, p0, p1, p2, p3]
          case s2 =>
            refine step_val (v := (.pointer (some ⟨pb, 1, none⟩))) (fun av wv hE hS hO hD => ?_) (fun _ => rfl)
            have h2 : av.eval (.tmp 2) = (.pointer (some ⟨pb, 0, none⟩)) := hO.2.2 2 rfl
            have f2 := (ev_form av 2).symm.trans h2
            refine ⟨rfl, ?_⟩
            simp [go_sem, f2]
          case s3 =>
            refine step_val (v := (.int .u32 (wI v.b))) (fun av wv hE hS hO hD => ?_) (fun _ => rfl)
            have d113 : av.eval (.tmp 113) = (.pointer (some ⟨pb, 1, none⟩)) := hD.1 rfl _ rfl
            have f113 := (ev_form av 113).symm.trans d113
            have p0 := extB_cell hE (by simp) p0
            have p1 := extB_cell hE (by simp) p1
            have p2 := extB_cell hE (by simp) p2
            have p3 := extB_cell hE (by simp) p3
            refine ⟨rfl, ?_⟩
            simp [go_sem, f113, p0, p1, p2, p3]
          case s4 =>
            refine step_val (v := (.pointer (some ⟨pb, 2, none⟩))) (fun av wv hE hS hO hD => ?_) (fun _ => rfl)
            have h2 : av.eval (.tmp 2) = (.pointer (some ⟨pb, 0, none⟩)) := hO.2.2 2 rfl
            have f2 := (ev_form av 2).symm.trans h2
            refine ⟨rfl, ?_⟩
            simp [go_sem, f2]
          case s5 =>
            refine step_val (v := (.int .u32 (wI v.c))) (fun av wv hE hS hO hD => ?_) (fun _ => rfl)
            have d115 : av.eval (.tmp 115) = (.pointer (some ⟨pb, 2, none⟩)) := hD.1 rfl _ rfl
            have f115 := (ev_form av 115).symm.trans d115
            have p0 := extB_cell hE (by simp) p0
            have p1 := extB_cell hE (by simp) p1
            have p2 := extB_cell hE (by simp) p2
            have p3 := extB_cell hE (by simp) p3
            refine ⟨rfl, ?_⟩
            simp [go_sem, f115, p0, p1, p2, p3]
          case s6 =>
            refine step_val (v := (.pointer (some ⟨pb, 3, none⟩))) (fun av wv hE hS hO hD => ?_) (fun _ => rfl)
            have h2 : av.eval (.tmp 2) = (.pointer (some ⟨pb, 0, none⟩)) := hO.2.2 2 rfl
            have f2 := (ev_form av 2).symm.trans h2
            refine ⟨rfl, ?_⟩
            simp [go_sem, f2]
          case s7 =>
            refine step_val (v := (.int .u32 (wI v.d))) (fun av wv hE hS hO hD => ?_) (fun _ => rfl)
            have d117 : av.eval (.tmp 117) = (.pointer (some ⟨pb, 3, none⟩)) := hD.1 rfl _ rfl
            have f117 := (ev_form av 117).symm.trans d117
            have p0 := extB_cell hE (by simp) p0
            have p1 := extB_cell hE (by simp) p1
            have p2 := extB_cell hE (by simp) p2
            have p3 := extB_cell hE (by simp) p3
            refine ⟨rfl, ?_⟩
            simp [go_sem, f117, p0, p1, p2, p3]
          case s8 =>
            refine step_val (v := (.int .u32 (wI v.a))) (fun av wv hE hS hO hD => ?_) (fun _ => rfl)
            have d112 : av.eval (.tmp 112) = (.int .u32 (wI v.a)) := hD.1 rfl _ rfl
            have f112 := (ev_form av 112).symm.trans d112
            refine ⟨rfl, ?_⟩
            simp [go_sem, f112]
          case s9 =>
            refine step_val (v := (.int .u32 (wI v.b))) (fun av wv hE hS hO hD => ?_) (fun _ => rfl)
            have d114 : av.eval (.tmp 114) = (.int .u32 (wI v.b)) := hD.1 rfl _ rfl
            have f114 := (ev_form av 114).symm.trans d114
            refine ⟨rfl, ?_⟩
            simp [go_sem, f114]
          case s10 =>
            refine step_val (v := (.int .u32 (wI v.c))) (fun av wv hE hS hO hD => ?_) (fun _ => rfl)
            have d116 : av.eval (.tmp 116) = (.int .u32 (wI v.c)) := hD.1 rfl _ rfl
            have f116 := (ev_form av 116).symm.trans d116
            refine ⟨rfl, ?_⟩
            simp [go_sem, f116]
          case s11 =>
            refine step_val (v := (.int .u32 (wI v.d))) (fun av wv hE hS hO hD => ?_) (fun _ => rfl)
            have d118 : av.eval (.tmp 118) = (.int .u32 (wI v.d)) := hD.1 rfl _ rfl
            have f118 := (ev_form av 118).symm.trans d118
            refine ⟨rfl, ?_⟩
            simp [go_sem, f118]
          intro a' w' hE hO hall
          have hA := act_of_outer (ds := [111, 112, 113, 114, 115, 116, 117, 118, 11, 12, 13, 14]) rfl hO (by kernel_rfl)
          have e111 : (fun u _ => u = (.pointer (some ⟨pb, 0, none⟩))) (a'.eval (.tmp 111)) w' := hall.1 _ rfl
          have e112 : (fun u _ => u = (.int .u32 (wI v.a))) (a'.eval (.tmp 112)) w' := hall.2.1 _ rfl
          have e113 : (fun u _ => u = (.pointer (some ⟨pb, 1, none⟩))) (a'.eval (.tmp 113)) w' := hall.2.2.1 _ rfl
          have e114 : (fun u _ => u = (.int .u32 (wI v.b))) (a'.eval (.tmp 114)) w' := hall.2.2.2.1 _ rfl
          have e115 : (fun u _ => u = (.pointer (some ⟨pb, 2, none⟩))) (a'.eval (.tmp 115)) w' := hall.2.2.2.2.1 _ rfl
          have e116 : (fun u _ => u = (.int .u32 (wI v.c))) (a'.eval (.tmp 116)) w' := hall.2.2.2.2.2.1 _ rfl
          have e117 : (fun u _ => u = (.pointer (some ⟨pb, 3, none⟩))) (a'.eval (.tmp 117)) w' := hall.2.2.2.2.2.2.1 _ rfl
          have e118 : (fun u _ => u = (.int .u32 (wI v.d))) (a'.eval (.tmp 118)) w' := hall.2.2.2.2.2.2.2.1 _ rfl
          have e11 : (fun u _ => u = (.int .u32 (wI v.a))) (a'.eval (.tmp 11)) w' := hall.2.2.2.2.2.2.2.2.1 _ rfl
          have e12 : (fun u _ => u = (.int .u32 (wI v.b))) (a'.eval (.tmp 12)) w' := hall.2.2.2.2.2.2.2.2.2.1 _ rfl
          have e13 : (fun u _ => u = (.int .u32 (wI v.c))) (a'.eval (.tmp 13)) w' := hall.2.2.2.2.2.2.2.2.2.2.1 _ rfl
          have e14 : (fun u _ => u = (.int .u32 (wI v.d))) (a'.eval (.tmp 14)) w' := hall.2.2.2.2.2.2.2.2.2.2.2.1 _ rfl
          simp only [List.foldl_cons, List.foldl_nil, Act.put, List.setIfInBounds_toArray, List.set_cons_succ, List.set_cons_zero, e111, e112, e113, e114, e115, e116, e117, e118, e11, e12, e13, e14] at hA
          clear hO hall e111 e112 e113 e114 e115 e116 e117 e118 e11 e12 e13 e14
          subst hA
          have hX := of_drew hE
          have HVK := Lib.hid ((hX.block _ (lt_of_block HVK.out)).trans HVK.out)
          have HVW := Lib.hid ((hX.block _ (lt_of_block HVW.out)).trans HVW.out)
          have HVA := Lib.hid (HVA.out.next hX)
          clear hE hX p0 p1 p2 p3
          obtain ⟨V2, hV2⟩ : ∃ V2, w' = V2 := ⟨_, rfl⟩
          rw [hV2] at HVK HVW HVA ⊢
          clear hV2 w'
          have p4 : V2.cell? ⟨pb, 4, none⟩ = some (.int .u32 (wI v.e)) := (block_cell HVA.out.p 4).trans (by rw [← HA9.out]; rfl)
          have p5 : V2.cell? ⟨pb, 5, none⟩ = some (.int .u32 (wI v.f)) := (block_cell HVA.out.p 5).trans (by rw [← HA9.out]; rfl)
          have p6 : V2.cell? ⟨pb, 6, none⟩ = some (.int .u32 (wI v.g)) := (block_cell HVA.out.p 6).trans (by rw [← HA9.out]; rfl)
          have p7 : V2.cell? ⟨pb, 7, none⟩ = some (.int .u32 (wI v.h)) := (block_cell HVA.out.p 7).trans (by rw [← HA9.out]; rfl)
          go_upto_region 14 with fail
          refine wp_region_all 1000 (none) (phis [fun u _ => u = (.pointer (some ⟨pb, 4, none⟩)), fun u _ => u = (.int .u32 (wI v.e)), fun u _ => u = (.pointer (some ⟨pb, 5, none⟩)), fun u _ => u = (.int .u32 (wI v.f)), fun u _ => u = (.pointer (some ⟨pb, 6, none⟩)), fun u _ => u = (.int .u32 (wI v.g)), fun u _ => u = (.pointer (some ⟨pb, 7, none⟩)), fun u _ => u = (.int .u32 (wI v.h)), fun u _ => u = (.int .u32 (wI v.e)), fun u _ => u = (.int .u32 (wI v.f)), fun u _ => u = (.int .u32 (wI v.g)), fun u _ => u = (.int .u32 (wI v.h))]) rfl (by kernel_rfl) (mono_of ⟨mono_eq, mono_eq, mono_eq, mono_eq, mono_eq, mono_eq, mono_eq, mono_eq, mono_eq, mono_eq, mono_eq, mono_eq, trivial⟩) (steps_of 12 ⟨?s0, ?s1, ?s2, ?s3, ?s4, ?s5, ?s6, ?s7, ?s8, ?s9, ?s10, ?s11, trivial⟩) ?_
          case s0 =>
            refine step_val (v := (.pointer (some ⟨pb, 4, none⟩))) (fun av wv hE hS hO hD => ?_) (fun _ => rfl)
            have h2 : av.eval (.tmp 2) = (.pointer (some ⟨pb, 0, none⟩)) := hO.2.2 2 rfl
            have f2 := (ev_form av 2).symm.trans h2
            refine ⟨rfl, ?_⟩
            simp [go_sem, f2]
          case s1 =>
            refine step_val (v := (.int .u32 (wI v.e))) (fun av wv hE hS hO hD => ?_) (fun _ => rfl)
            have d119 : av.eval (.tmp 119) = (.pointer (some ⟨pb, 4, none⟩)) := hD.1 rfl _ rfl
            have f119 := (ev_form av 119).symm.trans d119
            have p4 := extB_cell hE (by simp) p4
            have p5 := extB_cell hE (by simp) p5
            have p6 := extB_cell hE (by simp) p6
            have p7 := extB_cell hE (by simp) p7
            refine ⟨rfl, ?_⟩
            simp [go_sem, f119, p4, p5, p6, p7]
          case s2 =>
            refine step_val (v := (.pointer (some ⟨pb, 5, none⟩))) (fun av wv hE hS hO hD => ?_) (fun _ => rfl)
            have h2 : av.eval (.tmp 2) = (.pointer (some ⟨pb, 0, none⟩)) := hO.2.2 2 rfl
            have f2 := (ev_form av 2).symm.trans h2
            refine ⟨rfl, ?_⟩
            simp [go_sem, f2]
          case s3 =>
            refine step_val (v := (.int .u32 (wI v.f))) (fun av wv hE hS hO hD => ?_) (fun _ => rfl)
            have d121 : av.eval (.tmp 121) = (.pointer (some ⟨pb, 5, none⟩)) := hD.1 rfl _ rfl
            have f121 := (ev_form av 121).symm.trans d121
            have p4 := extB_cell hE (by simp) p4
            have p5 := extB_cell hE (by simp) p5
            have p6 := extB_cell hE (by simp) p6
            have p7 := extB_cell hE (by simp) p7
            refine ⟨rfl, ?_⟩
            simp [go_sem, f121, p4, p5, p6, p7]
          case s4 =>
            refine step_val (v := (.pointer (some ⟨pb, 6, none⟩))) (fun av wv hE hS hO hD => ?_) (fun _ => rfl)
            have h2 : av.eval (.tmp 2) = (.pointer (some ⟨pb, 0, none⟩)) := hO.2.2 2 rfl
            have f2 := (ev_form av 2).symm.trans h2
            refine ⟨rfl, ?_⟩
            simp [go_sem, f2]
          case s5 =>
            refine step_val (v := (.int .u32 (wI v.g))) (fun av wv hE hS hO hD => ?_) (fun _ => rfl)
            have d123 : av.eval (.tmp 123) = (.pointer (some ⟨pb, 6, none⟩)) := hD.1 rfl _ rfl
            have f123 := (ev_form av 123).symm.trans d123
            have p4 := extB_cell hE (by simp) p4
            have p5 := extB_cell hE (by simp) p5
            have p6 := extB_cell hE (by simp) p6
            have p7 := extB_cell hE (by simp) p7
            refine ⟨rfl, ?_⟩
            simp [go_sem, f123, p4, p5, p6, p7]
          case s6 =>
            refine step_val (v := (.pointer (some ⟨pb, 7, none⟩))) (fun av wv hE hS hO hD => ?_) (fun _ => rfl)
            have h2 : av.eval (.tmp 2) = (.pointer (some ⟨pb, 0, none⟩)) := hO.2.2 2 rfl
            have f2 := (ev_form av 2).symm.trans h2
            refine ⟨rfl, ?_⟩
            simp [go_sem, f2]
          case s7 =>
            refine step_val (v := (.int .u32 (wI v.h))) (fun av wv hE hS hO hD => ?_) (fun _ => rfl)
            have d125 : av.eval (.tmp 125) = (.pointer (some ⟨pb, 7, none⟩)) := hD.1 rfl _ rfl
            have f125 := (ev_form av 125).symm.trans d125
            have p4 := extB_cell hE (by simp) p4
            have p5 := extB_cell hE (by simp) p5
            have p6 := extB_cell hE (by simp) p6
            have p7 := extB_cell hE (by simp) p7
            refine ⟨rfl, ?_⟩
            simp [go_sem, f125, p4, p5, p6, p7]
          case s8 =>
            refine step_val (v := (.int .u32 (wI v.e))) (fun av wv hE hS hO hD => ?_) (fun _ => rfl)
            have d120 : av.eval (.tmp 120) = (.int .u32 (wI v.e)) := hD.1 rfl _ rfl
            have f120 := (ev_form av 120).symm.trans d120
            refine ⟨rfl, ?_⟩
            simp [go_sem, f120]
          case s9 =>
            refine step_val (v := (.int .u32 (wI v.f))) (fun av wv hE hS hO hD => ?_) (fun _ => rfl)
            have d122 : av.eval (.tmp 122) = (.int .u32 (wI v.f)) := hD.1 rfl _ rfl
            have f122 := (ev_form av 122).symm.trans d122
            refine ⟨rfl, ?_⟩
            simp [go_sem, f122]
          case s10 =>
            refine step_val (v := (.int .u32 (wI v.g))) (fun av wv hE hS hO hD => ?_) (fun _ => rfl)
            have d124 : av.eval (.tmp 124) = (.int .u32 (wI v.g)) := hD.1 rfl _ rfl
            have f124 := (ev_form av 124).symm.trans d124
            refine ⟨rfl, ?_⟩
            simp [go_sem, f124]
          case s11 =>
            refine step_val (v := (.int .u32 (wI v.h))) (fun av wv hE hS hO hD => ?_) (fun _ => rfl)
            have d126 : av.eval (.tmp 126) = (.int .u32 (wI v.h)) := hD.1 rfl _ rfl
            have f126 := (ev_form av 126).symm.trans d126
            refine ⟨rfl, ?_⟩
            simp [go_sem, f126]
          intro a' w' hE hO hall
          have hA := act_of_outer (ds := [119, 120, 121, 122, 123, 124, 125, 126, 15, 16, 17, 18]) rfl hO (by kernel_rfl)
          have e119 : (fun u _ => u = (.pointer (some ⟨pb, 4, none⟩))) (a'.eval (.tmp 119)) w' := hall.1 _ rfl
          have e120 : (fun u _ => u = (.int .u32 (wI v.e))) (a'.eval (.tmp 120)) w' := hall.2.1 _ rfl
          have e121 : (fun u _ => u = (.pointer (some ⟨pb, 5, none⟩))) (a'.eval (.tmp 121)) w' := hall.2.2.1 _ rfl
          have e122 : (fun u _ => u = (.int .u32 (wI v.f))) (a'.eval (.tmp 122)) w' := hall.2.2.2.1 _ rfl
          have e123 : (fun u _ => u = (.pointer (some ⟨pb, 6, none⟩))) (a'.eval (.tmp 123)) w' := hall.2.2.2.2.1 _ rfl
          have e124 : (fun u _ => u = (.int .u32 (wI v.g))) (a'.eval (.tmp 124)) w' := hall.2.2.2.2.2.1 _ rfl
          have e125 : (fun u _ => u = (.pointer (some ⟨pb, 7, none⟩))) (a'.eval (.tmp 125)) w' := hall.2.2.2.2.2.2.1 _ rfl
          have e126 : (fun u _ => u = (.int .u32 (wI v.h))) (a'.eval (.tmp 126)) w' := hall.2.2.2.2.2.2.2.1 _ rfl
          have e15 : (fun u _ => u = (.int .u32 (wI v.e))) (a'.eval (.tmp 15)) w' := hall.2.2.2.2.2.2.2.2.1 _ rfl
          have e16 : (fun u _ => u = (.int .u32 (wI v.f))) (a'.eval (.tmp 16)) w' := hall.2.2.2.2.2.2.2.2.2.1 _ rfl
          have e17 : (fun u _ => u = (.int .u32 (wI v.g))) (a'.eval (.tmp 17)) w' := hall.2.2.2.2.2.2.2.2.2.2.1 _ rfl
          have e18 : (fun u _ => u = (.int .u32 (wI v.h))) (a'.eval (.tmp 18)) w' := hall.2.2.2.2.2.2.2.2.2.2.2.1 _ rfl
          simp only [List.foldl_cons, List.foldl_nil, Act.put, List.setIfInBounds_toArray, List.set_cons_succ, List.set_cons_zero, e119, e120, e121, e122, e123, e124, e125, e126, e15, e16, e17, e18] at hA
          clear hO hall e119 e120 e121 e122 e123 e124 e125 e126 e15 e16 e17 e18
          subst hA
          have hX := of_drew hE
          have HVK := Lib.hid ((hX.block _ (lt_of_block HVK.out)).trans HVK.out)
          have HVW := Lib.hid ((hX.block _ (lt_of_block HVW.out)).trans HVW.out)
          have HVA := Lib.hid (HVA.out.next hX)
          clear hE hX p4 p5 p6 p7
          obtain ⟨V3, hV3⟩ : ∃ V3, w' = V3 := ⟨_, rfl⟩
          rw [hV3] at HVK HVW HVA ⊢
          clear hV3 w'
          go_upto_region 16 with fail
          go_loopg [19, 11, 12, 13, 14, 15, 16, 17, 18] 64 (fun g i xa xb xc xd xe xf xg xh wr => ∃ (m : Nat) (z8 : St8), g + m = 64 ∧ i = .int .i64 (m : Nat) ∧ xa = .int .u32 (wI z8.a) ∧ xb = .int .u32 (wI z8.b) ∧ xc = .int .u32 (wI z8.c) ∧ xd = .int .u32 (wI z8.d) ∧ xe = .int .u32 (wI z8.e) ∧ xf = .int .u32 (wI z8.f) ∧ xg = .int .u32 (wI z8.g) ∧ xh = .int .u32 (wI z8.h) ∧ Hid (roundsW kW Ws v m = z8) ∧ Hid (wr.heap[kb]? = some (.cells (wsC kW) 294 (0, 0))) ∧ Hid (wr.heap[wb]? = some (.cells (wsC Ws) 294 (0, 0))) ∧ Hid (BlkAt pb rb A9 w wr))
          case atStart => exact ⟨0, v, rfl, rfl, rfl, rfl, rfl, rfl, rfl, rfl, rfl, rfl, Lib.hid rfl, HVK, HVW, HVA⟩
          case round =>
            clear HVK HVW HVA
            obtain ⟨m, z8, hm, rfl, rfl, rfl, rfl, rfl, rfl, rfl, rfl, rfl, HZ, HVK, HVW, HVA⟩ := hrel
            by_cases hlt : m < 64
            · have i1 : (m : Int) < 64 := by omega
              have bm : ¬ (64 : Int) ≤ (m : Int) := by omega
              have bmn : ¬ 64 ≤ m := by omega
              obtain ⟨KM, hKM⟩ : ∃ X, wth kW m = X := ⟨_, rfl⟩
              obtain ⟨WM, hWM⟩ : ∃ X, wth Ws m = X := ⟨_, rfl⟩
              obtain ⟨W5, hW5⟩ : ∃ W5, wr = W5 := ⟨_, rfl⟩
              rw [hW5] at HVK HVW HVA ⊢
              clear hW5
              have ck : W5.cell? ⟨kb, m, none⟩ = some (.int .u32 (wI KM)) := by rw [block_cell HVK.out, wsC_at _ _ (show m < 64 from hlt), hKM]
              have cw : W5.cell? ⟨wb, m, none⟩ = some (.int .u32 (wI WM)) := by rw [block_cell HVW.out, wsC_at _ _ (by rw [HWL.out]; exact hlt), hWM]
              have HNZ : Hid (roundsW kW Ws v (m + 1) = stepW z8 KM WM) := Lib.hid (by rw [roundsW, HZ.out, hKM, hWM])
              clear hKM hWM
              go_upto_region 18 with fail
              refine wp_region_tail 27 1000 (none) (phis [fun u _ => u = (.int .u32 (wI z8.h)), fun u _ => u = (.int .i64 (m : Nat)), fun u _ => u = (.pointer (some ⟨kb, m, none⟩)), fun u _ => u = (.int .u32 (wI KM)), fun u _ => u = (.int .u32 (wI (z8.h + KM))), fun u _ => u = (.int .i64 (m : Nat)), fun u _ => u = (.pointer (some ⟨wb, m, none⟩)), fun u _ => u = (.int .u32 (wI WM)), fun u _ => u = (.int .u32 (wI (z8.h + KM + WM))), fun u _ => u = (.int .u32 (wI z8.e)), fun u _ => u = (.int .u32 (wI (rotr z8.e 6))), fun u _ => u = (.int .u32 (wI z8.e)), fun u _ => u = (.int .u32 (wI (rotr z8.e 11))), fun u _ => u = (.int .u32 (wI (rotr z8.e 6 ^^^ rotr z8.e 11))), fun u _ => u = (.int .u32 (wI z8.e)), fun u _ => u = (.int .u32 (wI (rotr z8.e 25))), fun u _ => u = (.int .u32 (wI (rotr z8.e 6 ^^^ rotr z8.e 11 ^^^ rotr z8.e 25))), fun u _ => u = (.int .u32 (wI (z8.h + KM + WM + (rotr z8.e 6 ^^^ rotr z8.e 11 ^^^ rotr z8.e 25)))), fun u _ => u = (.int .u32 (wI z8.e)), fun u _ => u = (.int .u32 (wI z8.f)), fun u _ => u = (.int .u32 (wI (z8.e &&& z8.f))), fun u _ => u = (.int .u32 (wI z8.e)), fun u _ => u = (.int .u32 (wI (~~~ z8.e))), fun u _ => u = (.int .u32 (wI z8.g)), fun u _ => u = (.int .u32 (wI (~~~ z8.e &&& z8.g))), fun u _ => u = (.int .u32 (wI (z8.e &&& z8.f ||| ~~~ z8.e &&& z8.g))), fun u _ => u = (.int .u32 (wI (z8.h + KM + WM + (rotr z8.e 6 ^^^ rotr z8.e 11 ^^^ rotr z8.e 25) + (z8.e &&& z8.f ||| ~~~ z8.e &&& z8.g))))]) rfl (by kernel_rfl) (by kernel_rfl) (mono_of ⟨mono_eq, mono_eq, mono_eq, mono_eq, mono_eq, mono_eq, mono_eq, mono_eq, mono_eq, mono_eq, mono_eq, mono_eq, mono_eq, mono_eq, mono_eq, mono_eq, mono_eq, mono_eq, mono_eq, mono_eq, mono_eq, mono_eq, mono_eq, mono_eq, mono_eq, mono_eq, mono_eq, trivial⟩) (steps_of 27 ⟨?s0, ?s1, ?s2, ?s3, ?s4, ?s5, ?s6, ?s7, ?s8, ?s9, ?s10, ?s11, ?s12, ?s13, ?s14, ?s15, ?s16, ?s17, ?s18, ?s19, ?s20, ?s21, ?s22, ?s23, ?s24, ?s25, ?s26, trivial⟩) ?_
              case s0 =>
                refine step_val (v := (.int .u32 (wI z8.h))) (fun av wv hE hS hO hD => ?_) (fun _ => rfl)
                have h18 : av.eval (.tmp 18) = (.int .u32 (wI z8.h)) := hO.2.2 18 rfl
                have f18 := (ev_form av 18).symm.trans h18
                refine ⟨rfl, ?_⟩
                simp [go_sem, f18, bv_add, bv_addm, bv_xor, bv_and, bv_or, bv_not2, bm, bmn]
              case s1 =>
                refine step_val (v := (.int .i64 (m : Nat))) (fun av wv hE hS hO hD => ?_) (fun _ => rfl)
                have h19 : av.eval (.tmp 19) = (.int .i64 (m : Nat)) := hO.2.2 19 rfl
                have f19 := (ev_form av 19).symm.trans h19
                refine ⟨rfl, ?_⟩
                simp [go_sem, f19, bv_add, bv_addm, bv_xor, bv_and, bv_or, bv_not2, bm, bmn]
              case s2 =>
                refine step_val (v := (.pointer (some ⟨kb, m, none⟩))) (fun av wv hE hS hO hD => ?_) (fun _ => rfl)
                have h10 : av.eval (.tmp 10) = (.pointer (some ⟨kb, 0, none⟩)) := hO.2.2 10 rfl
                have f10 := (ev_form av 10).symm.trans h10
                have d132 : av.eval (.tmp 132) = (.int .i64 (m : Nat)) := hD.1 rfl _ rfl
                have f132 := (ev_form av 132).symm.trans d132
                refine ⟨rfl, ?_⟩
                simp [go_sem, f10, f132, bv_add, bv_addm, bv_xor, bv_and, bv_or, bv_not2, bm, bmn]
              case s3 =>
                refine step_val (v := (.int .u32 (wI KM))) (fun av wv hE hS hO hD => ?_) (fun _ => rfl)
                have d133 : av.eval (.tmp 133) = (.pointer (some ⟨kb, m, none⟩)) := hD.1 rfl _ rfl
                have f133 := (ev_form av 133).symm.trans d133
                have ck := extB_cell hE (by simp) ck
                have cw := extB_cell hE (by simp) cw
                refine ⟨rfl, ?_⟩
                simp [go_sem, f133, ck, cw, bv_add, bv_addm, bv_xor, bv_and, bv_or, bv_not2, bm, bmn]
              case s4 =>
                refine step_val (v := (.int .u32 (wI (z8.h + KM)))) (fun av wv hE hS hO hD => ?_) (fun _ => rfl)
                have d131 : av.eval (.tmp 131) = (.int .u32 (wI z8.h)) := hD.1 rfl _ rfl
                have f131 := (ev_form av 131).symm.trans d131
                have d134 : av.eval (.tmp 134) = (.int .u32 (wI KM)) := hD.2.1 rfl _ rfl
                have f134 := (ev_form av 134).symm.trans d134
                refine ⟨rfl, ?_⟩
                simp [go_sem, f131, f134, bv_add, bv_addm, bv_xor, bv_and, bv_or, bv_not2, bm, bmn]
              case s5 =>
                refine step_val (v := (.int .i64 (m : Nat))) (fun av wv hE hS hO hD => ?_) (fun _ => rfl)
                have h19 : av.eval (.tmp 19) = (.int .i64 (m : Nat)) := hO.2.2 19 rfl
                have f19 := (ev_form av 19).symm.trans h19
                refine ⟨rfl, ?_⟩
                simp [go_sem, f19, bv_add, bv_addm, bv_xor, bv_and, bv_or, bv_not2, bm, bmn]
              case s6 =>
                refine step_val (v := (.pointer (some ⟨wb, m, none⟩))) (fun av wv hE hS hO hD => ?_) (fun _ => rfl)
                have h5 : av.eval (.tmp 5) = (.pointer (some ⟨wb, 0, none⟩)) := hO.2.2 5 rfl
                have f5 := (ev_form av 5).symm.trans h5
                have d136 : av.eval (.tmp 136) = (.int .i64 (m : Nat)) := hD.1 rfl _ rfl
                have f136 := (ev_form av 136).symm.trans d136
                refine ⟨rfl, ?_⟩
                simp [go_sem, f5, f136, bv_add, bv_addm, bv_xor, bv_and, bv_or, bv_not2, bm, bmn]
              case s7 =>
                refine step_val (v := (.int .u32 (wI WM))) (fun av wv hE hS hO hD => ?_) (fun _ => rfl)
                have d137 : av.eval (.tmp 137) = (.pointer (some ⟨wb, m, none⟩)) := hD.1 rfl _ rfl
                have f137 := (ev_form av 137).symm.trans d137
                have ck := extB_cell hE (by simp) ck
                have cw := extB_cell hE (by simp) cw
                refine ⟨rfl, ?_⟩
                simp [go_sem, f137, ck, cw, bv_add, bv_addm, bv_xor, bv_and, bv_or, bv_not2, bm, bmn]
              case s8 =>
                refine step_val (v := (.int .u32 (wI (z8.h + KM + WM)))) (fun av wv hE hS hO hD => ?_) (fun _ => rfl)
                have d135 : av.eval (.tmp 135) = (.int .u32 (wI (z8.h + KM))) := hD.1 rfl _ rfl
                have f135 := (ev_form av 135).symm.trans d135
                have d138 : av.eval (.tmp 138) = (.int .u32 (wI WM)) := hD.2.1 rfl _ rfl
                have f138 := (ev_form av 138).symm.trans d138
                refine ⟨rfl, ?_⟩
                simp [go_sem, f135, f138, bv_add, bv_addm, bv_xor, bv_and, bv_or, bv_not2, bm, bmn]
              case s9 =>
                refine step_val (v := (.int .u32 (wI z8.e))) (fun av wv hE hS hO hD => ?_) (fun _ => rfl)
                have h15 : av.eval (.tmp 15) = (.int .u32 (wI z8.e)) := hO.2.2 15 rfl
                have f15 := (ev_form av 15).symm.trans h15
                refine ⟨rfl, ?_⟩
                simp [go_sem, f15, bv_add, bv_addm, bv_xor, bv_and, bv_or, bv_not2, bm, bmn]
              case s10 =>
                refine step_wp (fun av wv hE hS hO hD => ?_)
                have d140 : av.eval (.tmp 140) = (.int .u32 (wI z8.e)) := hD.1 rfl _ rfl
                have f140 := (ev_form av 140).symm.trans d140
                refine ⟨rfl, ?_⟩
                refine wp_of_call (v := .int .u32 (wI (rotr z8.e 6))) (by simp [go_sem, f140]) ((rturned_any z8.e 6 wv (by decide) (by decide)).mono (fun e w2 ⟨h1, h2⟩ => ⟨h1, h2.below _⟩)) (fun w2 hb => ⟨_, rfl, es_of_ext hb, rfl⟩)
              case s11 =>
                refine step_val (v := (.int .u32 (wI z8.e))) (fun av wv hE hS hO hD => ?_) (fun _ => rfl)
                have h15 : av.eval (.tmp 15) = (.int .u32 (wI z8.e)) := hO.2.2 15 rfl
                have f15 := (ev_form av 15).symm.trans h15
                refine ⟨rfl, ?_⟩
                simp [go_sem, f15, bv_add, bv_addm, bv_xor, bv_and, bv_or, bv_not2, bm, bmn]
              case s12 =>
                refine step_wp (fun av wv hE hS hO hD => ?_)
                have d142 : av.eval (.tmp 142) = (.int .u32 (wI z8.e)) := hD.1 rfl _ rfl
                have f142 := (ev_form av 142).symm.trans d142
                refine ⟨rfl, ?_⟩
                refine wp_of_call (v := .int .u32 (wI (rotr z8.e 11))) (by simp [go_sem, f142]) ((rturned_any z8.e 11 wv (by decide) (by decide)).mono (fun e w2 ⟨h1, h2⟩ => ⟨h1, h2.below _⟩)) (fun w2 hb => ⟨_, rfl, es_of_ext hb, rfl⟩)
              case s13 =>
                refine step_val (v := (.int .u32 (wI (rotr z8.e 6 ^^^ rotr z8.e 11)))) (fun av wv hE hS hO hD => ?_) (fun _ => rfl)
                have d141 : av.eval (.tmp 141) = (.int .u32 (wI (rotr z8.e 6))) := hD.1 rfl _ rfl
                have f141 := (ev_form av 141).symm.trans d141
                have d143 : av.eval (.tmp 143) = (.int .u32 (wI (rotr z8.e 11))) := hD.2.1 rfl _ rfl
                have f143 := (ev_form av 143).symm.trans d143
                refine ⟨rfl, ?_⟩
                simp [go_sem, f141, f143, bv_add, bv_addm, bv_xor, bv_and, bv_or, bv_not2, bm, bmn]
              case s14 =>
                refine step_val (v := (.int .u32 (wI z8.e))) (fun av wv hE hS hO hD => ?_) (fun _ => rfl)
                have h15 : av.eval (.tmp 15) = (.int .u32 (wI z8.e)) := hO.2.2 15 rfl
                have f15 := (ev_form av 15).symm.trans h15
                refine ⟨rfl, ?_⟩
                simp [go_sem, f15, bv_add, bv_addm, bv_xor, bv_and, bv_or, bv_not2, bm, bmn]
              case s15 =>
                refine step_wp (fun av wv hE hS hO hD => ?_)
                have d145 : av.eval (.tmp 145) = (.int .u32 (wI z8.e)) := hD.1 rfl _ rfl
                have f145 := (ev_form av 145).symm.trans d145
                refine ⟨rfl, ?_⟩
                refine wp_of_call (v := .int .u32 (wI (rotr z8.e 25))) (by simp [go_sem, f145]) ((rturned_any z8.e 25 wv (by decide) (by decide)).mono (fun e w2 ⟨h1, h2⟩ => ⟨h1, h2.below _⟩)) (fun w2 hb => ⟨_, rfl, es_of_ext hb, rfl⟩)
              case s16 =>
                refine step_val (v := (.int .u32 (wI (rotr z8.e 6 ^^^ rotr z8.e 11 ^^^ rotr z8.e 25)))) (fun av wv hE hS hO hD => ?_) (fun _ => rfl)
                have d144 : av.eval (.tmp 144) = (.int .u32 (wI (rotr z8.e 6 ^^^ rotr z8.e 11))) := hD.1 rfl _ rfl
                have f144 := (ev_form av 144).symm.trans d144
                have d146 : av.eval (.tmp 146) = (.int .u32 (wI (rotr z8.e 25))) := hD.2.1 rfl _ rfl
                have f146 := (ev_form av 146).symm.trans d146
                refine ⟨rfl, ?_⟩
                simp [go_sem, f144, f146, bv_add, bv_addm, bv_xor, bv_and, bv_or, bv_not2, bm, bmn]
              case s17 =>
                refine step_val (v := (.int .u32 (wI (z8.h + KM + WM + (rotr z8.e 6 ^^^ rotr z8.e 11 ^^^ rotr z8.e 25))))) (fun av wv hE hS hO hD => ?_) (fun _ => rfl)
                have d139 : av.eval (.tmp 139) = (.int .u32 (wI (z8.h + KM + WM))) := hD.1 rfl _ rfl
                have f139 := (ev_form av 139).symm.trans d139
                have d147 : av.eval (.tmp 147) = (.int .u32 (wI (rotr z8.e 6 ^^^ rotr z8.e 11 ^^^ rotr z8.e 25))) := hD.2.1 rfl _ rfl
                have f147 := (ev_form av 147).symm.trans d147
                refine ⟨rfl, ?_⟩
                simp [go_sem, f139, f147, bv_add, bv_addm, bv_xor, bv_and, bv_or, bv_not2, bm, bmn]
              case s18 =>
                refine step_val (v := (.int .u32 (wI z8.e))) (fun av wv hE hS hO hD => ?_) (fun _ => rfl)
                have h15 : av.eval (.tmp 15) = (.int .u32 (wI z8.e)) := hO.2.2 15 rfl
                have f15 := (ev_form av 15).symm.trans h15
                refine ⟨rfl, ?_⟩
                simp [go_sem, f15, bv_add, bv_addm, bv_xor, bv_and, bv_or, bv_not2, bm, bmn]
              case s19 =>
                refine step_val (v := (.int .u32 (wI z8.f))) (fun av wv hE hS hO hD => ?_) (fun _ => rfl)
                have h16 : av.eval (.tmp 16) = (.int .u32 (wI z8.f)) := hO.2.2 16 rfl
                have f16 := (ev_form av 16).symm.trans h16
                refine ⟨rfl, ?_⟩
                simp [go_sem, f16, bv_add, bv_addm, bv_xor, bv_and, bv_or, bv_not2, bm, bmn]
              case s20 =>
                refine step_val (v := (.int .u32 (wI (z8.e &&& z8.f)))) (fun av wv hE hS hO hD => ?_) (fun _ => rfl)
                have d149 : av.eval (.tmp 149) = (.int .u32 (wI z8.e)) := hD.1 rfl _ rfl
                have f149 := (ev_form av 149).symm.trans d149
                have d150 : av.eval (.tmp 150) = (.int .u32 (wI z8.f)) := hD.2.1 rfl _ rfl
                have f150 := (ev_form av 150).symm.trans d150
                refine ⟨rfl, ?_⟩
                simp [go_sem, f149, f150, bv_add, bv_addm, bv_xor, bv_and, bv_or, bv_not2, bm, bmn]
              case s21 =>
                refine step_val (v := (.int .u32 (wI z8.e))) (fun av wv hE hS hO hD => ?_) (fun _ => rfl)
                have h15 : av.eval (.tmp 15) = (.int .u32 (wI z8.e)) := hO.2.2 15 rfl
                have f15 := (ev_form av 15).symm.trans h15
                refine ⟨rfl, ?_⟩
                simp [go_sem, f15, bv_add, bv_addm, bv_xor, bv_and, bv_or, bv_not2, bm, bmn]
              case s22 =>
                refine step_val (v := (.int .u32 (wI (~~~ z8.e)))) (fun av wv hE hS hO hD => ?_) (fun _ => rfl)
                have d152 : av.eval (.tmp 152) = (.int .u32 (wI z8.e)) := hD.1 rfl _ rfl
                have f152 := (ev_form av 152).symm.trans d152
                refine ⟨rfl, ?_⟩
                simp [go_sem, f152, bv_add, bv_addm, bv_xor, bv_and, bv_or, bv_not2, bm, bmn]
              case s23 =>
                refine step_val (v := (.int .u32 (wI z8.g))) (fun av wv hE hS hO hD => ?_) (fun _ => rfl)
                have h17 : av.eval (.tmp 17) = (.int .u32 (wI z8.g)) := hO.2.2 17 rfl
                have f17 := (ev_form av 17).symm.trans h17
                refine ⟨rfl, ?_⟩
                simp [go_sem, f17, bv_add, bv_addm, bv_xor, bv_and, bv_or, bv_not2, bm, bmn]
              case s24 =>
                refine step_val (v := (.int .u32 (wI (~~~ z8.e &&& z8.g)))) (fun av wv hE hS hO hD => ?_) (fun _ => rfl)
                have d153 : av.eval (.tmp 153) = (.int .u32 (wI (~~~ z8.e))) := hD.1 rfl _ rfl
                have f153 := (ev_form av 153).symm.trans d153
                have d154 : av.eval (.tmp 154) = (.int .u32 (wI z8.g)) := hD.2.1 rfl _ rfl
                have f154 := (ev_form av 154).symm.trans d154
                refine ⟨rfl, ?_⟩
                simp [go_sem, f153, f154, bv_add, bv_addm, bv_xor, bv_and, bv_or, bv_not2, bm, bmn]
              case s25 =>
                refine step_val (v := (.int .u32 (wI (z8.e &&& z8.f ||| ~~~ z8.e &&& z8.g)))) (fun av wv hE hS hO hD => ?_) (fun _ => rfl)
                have d151 : av.eval (.tmp 151) = (.int .u32 (wI (z8.e &&& z8.f))) := hD.1 rfl _ rfl
                have f151 := (ev_form av 151).symm.trans d151
                have d155 : av.eval (.tmp 155) = (.int .u32 (wI (~~~ z8.e &&& z8.g))) := hD.2.1 rfl _ rfl
                have f155 := (ev_form av 155).symm.trans d155
                refine ⟨rfl, ?_⟩
                simp [go_sem, f151, f155, bv_add, bv_addm, bv_xor, bv_and, bv_or, bv_not2, bm, bmn]
              case s26 =>
                refine step_val (v := (.int .u32 (wI (z8.h + KM + WM + (rotr z8.e 6 ^^^ rotr z8.e 11 ^^^ rotr z8.e 25) + (z8.e &&& z8.f ||| ~~~ z8.e &&& z8.g))))) (fun av wv hE hS hO hD => ?_) (fun _ => rfl)
                have d148 : av.eval (.tmp 148) = (.int .u32 (wI (z8.h + KM + WM + (rotr z8.e 6 ^^^ rotr z8.e 11 ^^^ rotr z8.e 25)))) := hD.1 rfl _ rfl
                have f148 := (ev_form av 148).symm.trans d148
                have d156 : av.eval (.tmp 156) = (.int .u32 (wI (z8.e &&& z8.f ||| ~~~ z8.e &&& z8.g))) := hD.2.1 rfl _ rfl
                have f156 := (ev_form av 156).symm.trans d156
                refine ⟨rfl, ?_⟩
                simp [go_sem, f148, f156, bv_add, bv_addm, bv_xor, bv_and, bv_or, bv_not2, bm, bmn]
              intro a' w' hE hO hall
              have hA := act_of_outer (ds := [131, 132, 133, 134, 135, 136, 137, 138, 139, 140, 141, 142, 143, 144, 145, 146, 147, 148, 149, 150, 151, 152, 153, 154, 155, 156, 157]) rfl hO (by kernel_rfl)
              have e131 : (fun u _ => u = (.int .u32 (wI z8.h))) (a'.eval (.tmp 131)) w' := hall.1 _ rfl
              have e132 : (fun u _ => u = (.int .i64 (m : Nat))) (a'.eval (.tmp 132)) w' := hall.2.1 _ rfl
              have e133 : (fun u _ => u = (.pointer (some ⟨kb, m, none⟩))) (a'.eval (.tmp 133)) w' := hall.2.2.1 _ rfl
              have e134 : (fun u _ => u = (.int .u32 (wI KM))) (a'.eval (.tmp 134)) w' := hall.2.2.2.1 _ rfl
              have e135 : (fun u _ => u = (.int .u32 (wI (z8.h + KM)))) (a'.eval (.tmp 135)) w' := hall.2.2.2.2.1 _ rfl
              have e136 : (fun u _ => u = (.int .i64 (m : Nat))) (a'.eval (.tmp 136)) w' := hall.2.2.2.2.2.1 _ rfl
              have e137 : (fun u _ => u = (.pointer (some ⟨wb, m, none⟩))) (a'.eval (.tmp 137)) w' := hall.2.2.2.2.2.2.1 _ rfl
              have e138 : (fun u _ => u = (.int .u32 (wI WM))) (a'.eval (.tmp 138)) w' := hall.2.2.2.2.2.2.2.1 _ rfl
              have e139 : (fun u _ => u = (.int .u32 (wI (z8.h + KM + WM)))) (a'.eval (.tmp 139)) w' := hall.2.2.2.2.2.2.2.2.1 _ rfl
              have e140 : (fun u _ => u = (.int .u32 (wI z8.e))) (a'.eval (.tmp 140)) w' := hall.2.2.2.2.2.2.2.2.2.1 _ rfl
              have e141 : (fun u _ => u = (.int .u32 (wI (rotr z8.e 6)))) (a'.eval (.tmp 141)) w' := hall.2.2.2.2.2.2.2.2.2.2.1 _ rfl
              have e142 : (fun u _ => u = (.int .u32 (wI z8.e))) (a'.eval (.tmp 142)) w' := hall.2.2.2.2.2.2.2.2.2.2.2.1 _ rfl
              have e143 : (fun u _ => u = (.int .u32 (wI (rotr z8.e 11)))) (a'.eval (.tmp 143)) w' := hall.2.2.2.2.2.2.2.2.2.2.2.2.1 _ rfl
              have e144 : (fun u _ => u = (.int .u32 (wI (rotr z8.e 6 ^^^ rotr z8.e 11)))) (a'.eval (.tmp 144)) w' := hall.2.2.2.2.2.2.2.2.2.2.2.2.2.1 _ rfl
              have e145 : (fun u _ => u = (.int .u32 (wI z8.e))) (a'.eval (.tmp 145)) w' := hall.2.2.2.2.2.2.2.2.2.2.2.2.2.2.1 _ rfl
              have e146 : (fun u _ => u = (.int .u32 (wI (rotr z8.e 25)))) (a'.eval (.tmp 146)) w' := hall.2.2.2.2.2.2.2.2.2.2.2.2.2.2.2.1 _ rfl
              have e147 : (fun u _ => u = (.int .u32 (wI (rotr z8.e 6 ^^^ rotr z8.e 11 ^^^ rotr z8.e 25)))) (a'.eval (.tmp 147)) w' := hall.2.2.2.2.2.2.2.2.2.2.2.2.2.2.2.2.1 _ rfl
              have e148 : (fun u _ => u = (.int .u32 (wI (z8.h + KM + WM + (rotr z8.e 6 ^^^ rotr z8.e 11 ^^^ rotr z8.e 25))))) (a'.eval (.tmp 148)) w' := hall.2.2.2.2.2.2.2.2.2.2.2.2.2.2.2.2.2.1 _ rfl
              have e149 : (fun u _ => u = (.int .u32 (wI z8.e))) (a'.eval (.tmp 149)) w' := hall.2.2.2.2.2.2.2.2.2.2.2.2.2.2.2.2.2.2.1 _ rfl
              have e150 : (fun u _ => u = (.int .u32 (wI z8.f))) (a'.eval (.tmp 150)) w' := hall.2.2.2.2.2.2.2.2.2.2.2.2.2.2.2.2.2.2.2.1 _ rfl
              have e151 : (fun u _ => u = (.int .u32 (wI (z8.e &&& z8.f)))) (a'.eval (.tmp 151)) w' := hall.2.2.2.2.2.2.2.2.2.2.2.2.2.2.2.2.2.2.2.2.1 _ rfl
              have e152 : (fun u _ => u = (.int .u32 (wI z8.e))) (a'.eval (.tmp 152)) w' := hall.2.2.2.2.2.2.2.2.2.2.2.2.2.2.2.2.2.2.2.2.2.1 _ rfl
              have e153 : (fun u _ => u = (.int .u32 (wI (~~~ z8.e)))) (a'.eval (.tmp 153)) w' := hall.2.2.2.2.2.2.2.2.2.2.2.2.2.2.2.2.2.2.2.2.2.2.1 _ rfl
              have e154 : (fun u _ => u = (.int .u32 (wI z8.g))) (a'.eval (.tmp 154)) w' := hall.2.2.2.2.2.2.2.2.2.2.2.2.2.2.2.2.2.2.2.2.2.2.2.1 _ rfl
              have e155 : (fun u _ => u = (.int .u32 (wI (~~~ z8.e &&& z8.g)))) (a'.eval (.tmp 155)) w' := hall.2.2.2.2.2.2.2.2.2.2.2.2.2.2.2.2.2.2.2.2.2.2.2.2.1 _ rfl
              have e156 : (fun u _ => u = (.int .u32 (wI (z8.e &&& z8.f ||| ~~~ z8.e &&& z8.g)))) (a'.eval (.tmp 156)) w' := hall.2.2.2.2.2.2.2.2.2.2.2.2.2.2.2.2.2.2.2.2.2.2.2.2.2.1 _ rfl
              have e157 : (fun u _ => u = (.int .u32 (wI (z8.h + KM + WM + (rotr z8.e 6 ^^^ rotr z8.e 11 ^^^ rotr z8.e 25) + (z8.e &&& z8.f ||| ~~~ z8.e &&& z8.g))))) (a'.eval (.tmp 157)) w' := hall.2.2.2.2.2.2.2.2.2.2.2.2.2.2.2.2.2.2.2.2.2.2.2.2.2.2.1 _ rfl
              simp only [List.foldl_cons, List.foldl_nil, Act.put, List.setIfInBounds_toArray, List.set_cons_succ, List.set_cons_zero, e131, e132, e133, e134, e135, e136, e137, e138, e139, e140, e141, e142, e143, e144, e145, e146, e147, e148, e149, e150, e151, e152, e153, e154, e155, e156, e157] at hA
              clear hO hall e131 e132 e133 e134 e135 e136 e137 e138 e139 e140 e141 e142 e143 e144 e145 e146 e147 e148 e149 e150 e151 e152 e153 e154 e155 e156 e157
              subst hA
              have hX := of_drew hE
              have HVK := Lib.hid ((hX.block _ (lt_of_block HVK.out)).trans HVK.out)
              have HVW := Lib.hid ((hX.block _ (lt_of_block HVW.out)).trans HVW.out)
              have HVA := Lib.hid (HVA.out.next hX)
              clear hE hX ck cw bm bmn
              obtain ⟨V4, hV4⟩ : ∃ V4, w' = V4 := ⟨_, rfl⟩
              rw [hV4] at HVK HVW HVA ⊢
              clear hV4 w'
              obtain ⟨XX, hXX⟩ : ∃ XX, z8.h + KM + WM + (rotr z8.e 6 ^^^ rotr z8.e 11 ^^^ rotr z8.e 25) + (z8.e &&& z8.f ||| ~~~ z8.e &&& z8.g) = XX := ⟨_, rfl⟩
              rw [hXX]
              have HXX := Lib.hid hXX
              clear hXX
              go_upto_region 19 with fail
              go_wp2_with fail
              refine (rturned_any z8.a 2 V4 (by decide) (by decide)).mono ?_
              rintro e wa ⟨rfl, ha⟩
              have Ha := Lib.hid ha
              clear ha
              go_wp2_with fail
              refine (rturned_any z8.a 13 wa (by decide) (by decide)).mono ?_
              rintro e wb9 ⟨rfl, hb⟩
              have Hb := Lib.hid hb
              clear hb
              go_wp2_with fail
              refine (rturned_any z8.a 22 wb9 (by decide) (by decide)).mono ?_
              rintro e wc9 ⟨rfl, hc⟩
              have hX : Below V4.heap.size V4 wc9 := ((Ha.out.below _).trans (Hb.out.below _)).trans (hc.below _)
              have HVK := Lib.hid ((hX.block _ (lt_of_block HVK.out)).trans HVK.out)
              have HVW := Lib.hid ((hX.block _ (lt_of_block HVW.out)).trans HVW.out)
              have HVA := Lib.hid (HVA.out.next hX)
              clear hX hc Ha Hb
              have HSA : Hid ((stepW z8 KM WM).a = XX + (rotr z8.a 2 ^^^ rotr z8.a 13 ^^^ rotr z8.a 22) + (z8.a &&& z8.b ||| z8.a &&& z8.c ||| z8.b &&& z8.c) ∧ (stepW z8 KM WM).a = XX + ((rotr z8.a 2 ^^^ rotr z8.a 13 ^^^ rotr z8.a 22) + (z8.a &&& z8.b ||| z8.a &&& z8.c ||| z8.b &&& z8.c))) := Lib.hid (by
                have e : xW z8 KM WM = XX := HXX.out
                have e2 : (stepW z8 KM WM).a = XX + ((rotr z8.a 2 ^^^ rotr z8.a 13 ^^^ rotr z8.a 22) + (z8.a &&& z8.b ||| z8.a &&& z8.c ||| z8.b &&& z8.c)) := by
                  show xW z8 KM WM + yW z8 = _
                  rw [e]; rfl
                exact ⟨by rw [e2, BitVec.add_assoc], e2⟩)
              have HSE : Hid ((stepW z8 KM WM).e = z8.d + XX) := Lib.hid (by
                have e : xW z8 KM WM = XX := HXX.out
                show z8.d + xW z8 KM WM = _
                rw [e])
              go_wp2
              go_roundg (64 - (m + 1))
              case rel => exact ⟨m + 1, stepW z8 KM WM, by omega, by go_num, by rw [HSA.out.2], rfl, rfl, rfl, by rw [HSE.out], rfl, rfl, rfl, HNZ, HVK, HVW, HVA⟩
              case measure => omega
            · obtain rfl : m = 64 := by omega
              have i1 : ¬ ((64 : Nat) : Int) < 64 := by decide
              go_upto_region 28 with fail
              have p0 : wr.cell? ⟨pb, 0, none⟩ = some (.int .u32 (wI v.a)) := (block_cell HVA.out.p 0).trans (by rw [← HA9.out]; rfl)
              have p1 : wr.cell? ⟨pb, 1, none⟩ = some (.int .u32 (wI v.b)) := (block_cell HVA.out.p 1).trans (by rw [← HA9.out]; rfl)
              have p2 : wr.cell? ⟨pb, 2, none⟩ = some (.int .u32 (wI v.c)) := (block_cell HVA.out.p 2).trans (by rw [← HA9.out]; rfl)
              have p3 : wr.cell? ⟨pb, 3, none⟩ = some (.int .u32 (wI v.d)) := (block_cell HVA.out.p 3).trans (by rw [← HA9.out]; rfl)
              have p4 : wr.cell? ⟨pb, 4, none⟩ = some (.int .u32 (wI v.e)) := (block_cell HVA.out.p 4).trans (by rw [← HA9.out]; rfl)
              have p5 : wr.cell? ⟨pb, 5, none⟩ = some (.int .u32 (wI v.f)) := (block_cell HVA.out.p 5).trans (by rw [← HA9.out]; rfl)
              have p6 : wr.cell? ⟨pb, 6, none⟩ = some (.int .u32 (wI v.g)) := (block_cell HVA.out.p 6).trans (by rw [← HA9.out]; rfl)
              have p7 : wr.cell? ⟨pb, 7, none⟩ = some (.int .u32 (wI v.h)) := (block_cell HVA.out.p 7).trans (by rw [← HA9.out]; rfl)
              clear HVK HVW hm hlt i1
              refine wp_of_act fun a0 ha0 => ?_
              have E0 : Ev a0 223 [(2, Value.pointer (some ⟨pb, 0, none⟩)), (4, Value.pointer (some ⟨rb, 0, none⟩)), (11, Value.int .u32 (wI z8.a)), (12, Value.int .u32 (wI z8.b)), (13, Value.int .u32 (wI z8.c)), (14, Value.int .u32 (wI z8.d)), (15, Value.int .u32 (wI z8.e)), (16, Value.int .u32 (wI z8.f)), (17, Value.int .u32 (wI z8.g)), (18, Value.int .u32 (wI z8.h))] := by
                refine ⟨by rw [ha0]; rfl, by rw [ha0], ?_⟩
                intro p hp
                simp only [List.mem_cons, List.not_mem_nil, or_false] at hp
                rw [ha0]
                rcases hp with rfl | rfl | rfl | rfl | rfl | rfl | rfl | rfl | rfl | rfl <;> rfl
              clear ha0
              apply wp_region_lit
              refine wpList_readTo rfl (some 190) rfl (Value.pointer (some ⟨pb, 0, none⟩)) ?_ ?_
              case refine_1 =>
                have g2 := E0.atf 0 2 _ rfl
                simp [go_sem, g2]
              have E1 := E0.put 190 (Value.pointer (some ⟨pb, 0, none⟩)) (by decide) rfl
              obtain ⟨a1, ha1⟩ : ∃ b : Act, a0.put (some 190) (Value.pointer (some ⟨pb, 0, none⟩)) = b := ⟨_, rfl⟩
              rw [ha1] at E1 ⊢
              clear ha1 E0
              refine wpList_readTo rfl (some 191) rfl (Value.int .u32 (wI v.a)) ?_ ?_
              case refine_1 =>
                have g190 := E1.atf 0 190 _ rfl
                simp [go_sem, g190, p0]
              have E2 := E1.put 191 (Value.int .u32 (wI v.a)) (by decide) rfl
              obtain ⟨a2, ha2⟩ : ∃ b : Act, a1.put (some 191) (Value.int .u32 (wI v.a)) = b := ⟨_, rfl⟩
              rw [ha2] at E2 ⊢
              clear ha2 E1
              refine wpList_readTo rfl (some 192) rfl (Value.int .u32 (wI z8.a)) ?_ ?_
              case refine_1 =>
                have g11 := E2.atf 4 11 _ rfl
                simp [go_sem, g11]
              have E3 := E2.put 192 (Value.int .u32 (wI z8.a)) (by decide) rfl
              obtain ⟨a3, ha3⟩ : ∃ b : Act, a2.put (some 192) (Value.int .u32 (wI z8.a)) = b := ⟨_, rfl⟩
              rw [ha3] at E3 ⊢
              clear ha3 E2
              refine wpList_readTo rfl (some 193) rfl (Value.int .u32 (wI (v.a + z8.a))) ?_ ?_
              case refine_1 =>
                have g191 := E3.atf 1 191 _ rfl
                have g192 := E3.atf 0 192 _ rfl
                simp [go_sem, g191, g192, bv_add, bv_addm]
              have E4 := E3.put 193 (Value.int .u32 (wI (v.a + z8.a))) (by decide) rfl
              obtain ⟨a4, ha4⟩ : ∃ b : Act, a3.put (some 193) (Value.int .u32 (wI (v.a + z8.a))) = b := ⟨_, rfl⟩
              rw [ha4] at E4 ⊢
              clear ha4 E3
              refine wpList_readTo rfl (some 194) rfl (Value.pointer (some ⟨pb, 1, none⟩)) ?_ ?_
              case refine_1 =>
                have g2 := E4.atf 4 2 _ rfl
                simp [go_sem, g2]
              have E5 := E4.put 194 (Value.pointer (some ⟨pb, 1, none⟩)) (by decide) rfl
              obtain ⟨a5, ha5⟩ : ∃ b : Act, a4.put (some 194) (Value.pointer (some ⟨pb, 1, none⟩)) = b := ⟨_, rfl⟩
              rw [ha5] at E5 ⊢
              clear ha5 E4
              refine wpList_readTo rfl (some 195) rfl (Value.int .u32 (wI v.b)) ?_ ?_
              case refine_1 =>
                have g194 := E5.atf 0 194 _ rfl
                simp [go_sem, g194, p1]
              have E6 := E5.put 195 (Value.int .u32 (wI v.b)) (by decide) rfl
              obtain ⟨a6, ha6⟩ : ∃ b : Act, a5.put (some 195) (Value.int .u32 (wI v.b)) = b := ⟨_, rfl⟩
              rw [ha6] at E6 ⊢
              clear ha6 E5
              refine wpList_readTo rfl (some 196) rfl (Value.int .u32 (wI z8.b)) ?_ ?_
              case refine_1 =>
                have g12 := E6.atf 9 12 _ rfl
                simp [go_sem, g12]
              have E7 := E6.put 196 (Value.int .u32 (wI z8.b)) (by decide) rfl
              obtain ⟨a7, ha7⟩ : ∃ b : Act, a6.put (some 196) (Value.int .u32 (wI z8.b)) = b := ⟨_, rfl⟩
              rw [ha7] at E7 ⊢
              clear ha7 E6
              refine wpList_readTo rfl (some 197) rfl (Value.int .u32 (wI (v.b + z8.b))) ?_ ?_
              case refine_1 =>
                have g195 := E7.atf 1 195 _ rfl
                have g196 := E7.atf 0 196 _ rfl
                simp [go_sem, g195, g196, bv_add, bv_addm]
              have E8 := E7.put 197 (Value.int .u32 (wI (v.b + z8.b))) (by decide) rfl
              obtain ⟨a8, ha8⟩ : ∃ b : Act, a7.put (some 197) (Value.int .u32 (wI (v.b + z8.b))) = b := ⟨_, rfl⟩
              rw [ha8] at E8 ⊢
              clear ha8 E7
              refine wpList_readTo rfl (some 198) rfl (Value.pointer (some ⟨pb, 2, none⟩)) ?_ ?_
              case refine_1 =>
                have g2 := E8.atf 8 2 _ rfl
                simp [go_sem, g2]
              have E9 := E8.put 198 (Value.pointer (some ⟨pb, 2, none⟩)) (by decide) rfl
              obtain ⟨a9, ha9⟩ : ∃ b : Act, a8.put (some 198) (Value.pointer (some ⟨pb, 2, none⟩)) = b := ⟨_, rfl⟩
              rw [ha9] at E9 ⊢
              clear ha9 E8
              refine wpList_readTo rfl (some 199) rfl (Value.int .u32 (wI v.c)) ?_ ?_
              case refine_1 =>
                have g198 := E9.atf 0 198 _ rfl
                simp [go_sem, g198, p2]
              have E10 := E9.put 199 (Value.int .u32 (wI v.c)) (by decide) rfl
              obtain ⟨a10, ha10⟩ : ∃ b : Act, a9.put (some 199) (Value.int .u32 (wI v.c)) = b := ⟨_, rfl⟩
              rw [ha10] at E10 ⊢
              clear ha10 E9
              refine wpList_readTo rfl (some 200) rfl (Value.int .u32 (wI z8.c)) ?_ ?_
              case refine_1 =>
                have g13 := E10.atf 14 13 _ rfl
                simp [go_sem, g13]
              have E11 := E10.put 200 (Value.int .u32 (wI z8.c)) (by decide) rfl
              obtain ⟨a11, ha11⟩ : ∃ b : Act, a10.put (some 200) (Value.int .u32 (wI z8.c)) = b := ⟨_, rfl⟩
              rw [ha11] at E11 ⊢
              clear ha11 E10
              refine wpList_readTo rfl (some 201) rfl (Value.int .u32 (wI (v.c + z8.c))) ?_ ?_
              case refine_1 =>
                have g199 := E11.atf 1 199 _ rfl
                have g200 := E11.atf 0 200 _ rfl
                simp [go_sem, g199, g200, bv_add, bv_addm]
              have E12 := E11.put 201 (Value.int .u32 (wI (v.c + z8.c))) (by decide) rfl
              obtain ⟨a12, ha12⟩ : ∃ b : Act, a11.put (some 201) (Value.int .u32 (wI (v.c + z8.c))) = b := ⟨_, rfl⟩
              rw [ha12] at E12 ⊢
              clear ha12 E11
              refine wpList_readTo rfl (some 202) rfl (Value.pointer (some ⟨pb, 3, none⟩)) ?_ ?_
              case refine_1 =>
                have g2 := E12.atf 12 2 _ rfl
                simp [go_sem, g2]
              have E13 := E12.put 202 (Value.pointer (some ⟨pb, 3, none⟩)) (by decide) rfl
              obtain ⟨a13, ha13⟩ : ∃ b : Act, a12.put (some 202) (Value.pointer (some ⟨pb, 3, none⟩)) = b := ⟨_, rfl⟩
              rw [ha13] at E13 ⊢
              clear ha13 E12
              refine wpList_readTo rfl (some 203) rfl (Value.int .u32 (wI v.d)) ?_ ?_
              case refine_1 =>
                have g202 := E13.atf 0 202 _ rfl
                simp [go_sem, g202, p3]
              have E14 := E13.put 203 (Value.int .u32 (wI v.d)) (by decide) rfl
              obtain ⟨a14, ha14⟩ : ∃ b : Act, a13.put (some 203) (Value.int .u32 (wI v.d)) = b := ⟨_, rfl⟩
              rw [ha14] at E14 ⊢
              clear ha14 E13
              refine wpList_readTo rfl (some 204) rfl (Value.int .u32 (wI z8.d)) ?_ ?_
              case refine_1 =>
                have g14 := E14.atf 19 14 _ rfl
                simp [go_sem, g14]
              have E15 := E14.put 204 (Value.int .u32 (wI z8.d)) (by decide) rfl
              obtain ⟨a15, ha15⟩ : ∃ b : Act, a14.put (some 204) (Value.int .u32 (wI z8.d)) = b := ⟨_, rfl⟩
              rw [ha15] at E15 ⊢
              clear ha15 E14
              refine wpList_readTo rfl (some 205) rfl (Value.int .u32 (wI (v.d + z8.d))) ?_ ?_
              case refine_1 =>
                have g203 := E15.atf 1 203 _ rfl
                have g204 := E15.atf 0 204 _ rfl
                simp [go_sem, g203, g204, bv_add, bv_addm]
              have E16 := E15.put 205 (Value.int .u32 (wI (v.d + z8.d))) (by decide) rfl
              obtain ⟨a16, ha16⟩ : ∃ b : Act, a15.put (some 205) (Value.int .u32 (wI (v.d + z8.d))) = b := ⟨_, rfl⟩
              rw [ha16] at E16 ⊢
              clear ha16 E15
              refine wpList_readTo rfl (some 206) rfl (Value.pointer (some ⟨pb, 4, none⟩)) ?_ ?_
              case refine_1 =>
                have g2 := E16.atf 16 2 _ rfl
                simp [go_sem, g2]
              have E17 := E16.put 206 (Value.pointer (some ⟨pb, 4, none⟩)) (by decide) rfl
              obtain ⟨a17, ha17⟩ : ∃ b : Act, a16.put (some 206) (Value.pointer (some ⟨pb, 4, none⟩)) = b := ⟨_, rfl⟩
              rw [ha17] at E17 ⊢
              clear ha17 E16
              refine wpList_readTo rfl (some 207) rfl (Value.int .u32 (wI v.e)) ?_ ?_
              case refine_1 =>
                have g206 := E17.atf 0 206 _ rfl
                simp [go_sem, g206, p4]
              have E18 := E17.put 207 (Value.int .u32 (wI v.e)) (by decide) rfl
              obtain ⟨a18, ha18⟩ : ∃ b : Act, a17.put (some 207) (Value.int .u32 (wI v.e)) = b := ⟨_, rfl⟩
              rw [ha18] at E18 ⊢
              clear ha18 E17
              refine wpList_readTo rfl (some 208) rfl (Value.int .u32 (wI z8.e)) ?_ ?_
              case refine_1 =>
                have g15 := E18.atf 24 15 _ rfl
                simp [go_sem, g15]
              have E19 := E18.put 208 (Value.int .u32 (wI z8.e)) (by decide) rfl
              obtain ⟨a19, ha19⟩ : ∃ b : Act, a18.put (some 208) (Value.int .u32 (wI z8.e)) = b := ⟨_, rfl⟩
              rw [ha19] at E19 ⊢
              clear ha19 E18
              refine wpList_readTo rfl (some 209) rfl (Value.int .u32 (wI (v.e + z8.e))) ?_ ?_
              case refine_1 =>
                have g207 := E19.atf 1 207 _ rfl
                have g208 := E19.atf 0 208 _ rfl
                simp [go_sem, g207, g208, bv_add, bv_addm]
              have E20 := E19.put 209 (Value.int .u32 (wI (v.e + z8.e))) (by decide) rfl
              obtain ⟨a20, ha20⟩ : ∃ b : Act, a19.put (some 209) (Value.int .u32 (wI (v.e + z8.e))) = b := ⟨_, rfl⟩
              rw [ha20] at E20 ⊢
              clear ha20 E19
              refine wpList_readTo rfl (some 210) rfl (Value.pointer (some ⟨pb, 5, none⟩)) ?_ ?_
              case refine_1 =>
                have g2 := E20.atf 20 2 _ rfl
                simp [go_sem, g2]
              have E21 := E20.put 210 (Value.pointer (some ⟨pb, 5, none⟩)) (by decide) rfl
              obtain ⟨a21, ha21⟩ : ∃ b : Act, a20.put (some 210) (Value.pointer (some ⟨pb, 5, none⟩)) = b := ⟨_, rfl⟩
              rw [ha21] at E21 ⊢
              clear ha21 E20
              refine wpList_readTo rfl (some 211) rfl (Value.int .u32 (wI v.f)) ?_ ?_
              case refine_1 =>
                have g210 := E21.atf 0 210 _ rfl
                simp [go_sem, g210, p5]
              have E22 := E21.put 211 (Value.int .u32 (wI v.f)) (by decide) rfl
              obtain ⟨a22, ha22⟩ : ∃ b : Act, a21.put (some 211) (Value.int .u32 (wI v.f)) = b := ⟨_, rfl⟩
              rw [ha22] at E22 ⊢
              clear ha22 E21
              refine wpList_readTo rfl (some 212) rfl (Value.int .u32 (wI z8.f)) ?_ ?_
              case refine_1 =>
                have g16 := E22.atf 29 16 _ rfl
                simp [go_sem, g16]
              have E23 := E22.put 212 (Value.int .u32 (wI z8.f)) (by decide) rfl
              obtain ⟨a23, ha23⟩ : ∃ b : Act, a22.put (some 212) (Value.int .u32 (wI z8.f)) = b := ⟨_, rfl⟩
              rw [ha23] at E23 ⊢
              clear ha23 E22
              refine wpList_readTo rfl (some 213) rfl (Value.int .u32 (wI (v.f + z8.f))) ?_ ?_
              case refine_1 =>
                have g211 := E23.atf 1 211 _ rfl
                have g212 := E23.atf 0 212 _ rfl
                simp [go_sem, g211, g212, bv_add, bv_addm]
              have E24 := E23.put 213 (Value.int .u32 (wI (v.f + z8.f))) (by decide) rfl
              obtain ⟨a24, ha24⟩ : ∃ b : Act, a23.put (some 213) (Value.int .u32 (wI (v.f + z8.f))) = b := ⟨_, rfl⟩
              rw [ha24] at E24 ⊢
              clear ha24 E23
              refine wpList_readTo rfl (some 214) rfl (Value.pointer (some ⟨pb, 6, none⟩)) ?_ ?_
              case refine_1 =>
                have g2 := E24.atf 24 2 _ rfl
                simp [go_sem, g2]
              have E25 := E24.put 214 (Value.pointer (some ⟨pb, 6, none⟩)) (by decide) rfl
              obtain ⟨a25, ha25⟩ : ∃ b : Act, a24.put (some 214) (Value.pointer (some ⟨pb, 6, none⟩)) = b := ⟨_, rfl⟩
              rw [ha25] at E25 ⊢
              clear ha25 E24
              refine wpList_readTo rfl (some 215) rfl (Value.int .u32 (wI v.g)) ?_ ?_
              case refine_1 =>
                have g214 := E25.atf 0 214 _ rfl
                simp [go_sem, g214, p6]
              have E26 := E25.put 215 (Value.int .u32 (wI v.g)) (by decide) rfl
              obtain ⟨a26, ha26⟩ : ∃ b : Act, a25.put (some 215) (Value.int .u32 (wI v.g)) = b := ⟨_, rfl⟩
              rw [ha26] at E26 ⊢
              clear ha26 E25
              refine wpList_readTo rfl (some 216) rfl (Value.int .u32 (wI z8.g)) ?_ ?_
              case refine_1 =>
                have g17 := E26.atf 34 17 _ rfl
                simp [go_sem, g17]
              have E27 := E26.put 216 (Value.int .u32 (wI z8.g)) (by decide) rfl
              obtain ⟨a27, ha27⟩ : ∃ b : Act, a26.put (some 216) (Value.int .u32 (wI z8.g)) = b := ⟨_, rfl⟩
              rw [ha27] at E27 ⊢
              clear ha27 E26
              refine wpList_readTo rfl (some 217) rfl (Value.int .u32 (wI (v.g + z8.g))) ?_ ?_
              case refine_1 =>
                have g215 := E27.atf 1 215 _ rfl
                have g216 := E27.atf 0 216 _ rfl
                simp [go_sem, g215, g216, bv_add, bv_addm]
              have E28 := E27.put 217 (Value.int .u32 (wI (v.g + z8.g))) (by decide) rfl
              obtain ⟨a28, ha28⟩ : ∃ b : Act, a27.put (some 217) (Value.int .u32 (wI (v.g + z8.g))) = b := ⟨_, rfl⟩
              rw [ha28] at E28 ⊢
              clear ha28 E27
              refine wpList_readTo rfl (some 218) rfl (Value.pointer (some ⟨pb, 7, none⟩)) ?_ ?_
              case refine_1 =>
                have g2 := E28.atf 28 2 _ rfl
                simp [go_sem, g2]
              have E29 := E28.put 218 (Value.pointer (some ⟨pb, 7, none⟩)) (by decide) rfl
              obtain ⟨a29, ha29⟩ : ∃ b : Act, a28.put (some 218) (Value.pointer (some ⟨pb, 7, none⟩)) = b := ⟨_, rfl⟩
              rw [ha29] at E29 ⊢
              clear ha29 E28
              refine wpList_readTo rfl (some 219) rfl (Value.int .u32 (wI v.h)) ?_ ?_
              case refine_1 =>
                have g218 := E29.atf 0 218 _ rfl
                simp [go_sem, g218, p7]
              have E30 := E29.put 219 (Value.int .u32 (wI v.h)) (by decide) rfl
              obtain ⟨a30, ha30⟩ : ∃ b : Act, a29.put (some 219) (Value.int .u32 (wI v.h)) = b := ⟨_, rfl⟩
              rw [ha30] at E30 ⊢
              clear ha30 E29
              refine wpList_readTo rfl (some 220) rfl (Value.int .u32 (wI z8.h)) ?_ ?_
              case refine_1 =>
                have g18 := E30.atf 39 18 _ rfl
                simp [go_sem, g18]
              have E31 := E30.put 220 (Value.int .u32 (wI z8.h)) (by decide) rfl
              obtain ⟨a31, ha31⟩ : ∃ b : Act, a30.put (some 220) (Value.int .u32 (wI z8.h)) = b := ⟨_, rfl⟩
              rw [ha31] at E31 ⊢
              clear ha31 E30
              refine wpList_readTo rfl (some 221) rfl (Value.int .u32 (wI (v.h + z8.h))) ?_ ?_
              case refine_1 =>
                have g219 := E31.atf 1 219 _ rfl
                have g220 := E31.atf 0 220 _ rfl
                simp [go_sem, g219, g220, bv_add, bv_addm]
              have E32 := E31.put 221 (Value.int .u32 (wI (v.h + z8.h))) (by decide) rfl
              obtain ⟨a32, ha32⟩ : ∃ b : Act, a31.put (some 221) (Value.int .u32 (wI (v.h + z8.h))) = b := ⟨_, rfl⟩
              rw [ha32] at E32 ⊢
              clear ha32 E31
              refine wpList_build_ofR rfl 222 _ rfl (wsC (stL (plusW v z8))) ?_ ?_
              case refine_1 =>
                have hb8 : ∀ x0 x1 x2 x3 x4 x5 x6 x7 : Value, x0 = .int .u32 (wI (v.a + z8.a)) → x1 = .int .u32 (wI (v.b + z8.b)) → x2 = .int .u32 (wI (v.c + z8.c)) → x3 = .int .u32 (wI (v.d + z8.d)) → x4 = .int .u32 (wI (v.e + z8.e)) → x5 = .int .u32 (wI (v.f + z8.f)) → x6 = .int .u32 (wI (v.g + z8.g)) → x7 = .int .u32 (wI (v.h + z8.h)) → Tryz.prog.built 222 [(0, x0), (1, x1), (2, x2), (3, x3), (4, x4), (5, x5), (6, x6), (7, x7)] = some (wsC (stL (plusW v z8))) := by
                  rintro _ _ _ _ _ _ _ _ rfl rfl rfl rfl rfl rfl rfl rfl
                  kernel_rfl
                simp only [List.map_toArray, List.map_cons, List.map_nil]
                exact hb8 _ _ _ _ _ _ _ _ (E32.at 28 193 _ rfl) (E32.at 24 197 _ rfl) (E32.at 20 201 _ rfl) (E32.at 16 205 _ rfl) (E32.at 12 209 _ rfl) (E32.at 8 213 _ rfl) (E32.at 4 217 _ rfl) (E32.at 0 221 _ rfl)
              have E33 := E32.put 222 (.agg (wsC (stL (plusW v z8)))) (by decide) rfl
              obtain ⟨a33, ha33⟩ : ∃ b : Act, a32.put (some 222) (.agg (wsC (stL (plusW v z8)))) = b := ⟨_, rfl⟩
              change wpList _ _ _ _ (a32.put (some 222) (.agg (wsC (stL (plusW v z8))))) _
              rw [ha33] at E33 ⊢
              clear ha33 E32
              refine wpList_store_row rfl 222 _ _ rfl rb (wsC (stL (plusW v z8))) (E33.at 34 4 _ rfl) (E33.at 0 222 _ rfl) 222 _ HVA.out.r (by kernel_rfl) rfl (by kernel_rfl) ?_
              apply wpList_nil
              obtain ⟨U, hU⟩ : ∃ U, wr.setRow rb (wsC (stL (plusW v z8))) = U := ⟨_, rfl⟩
              have HU : Hid (U.heap[rb]? = some (.cells (wsC (stL (plusW v z8))) 222 (0, 0))) := Lib.hid (by rw [← hU]; exact setRow_heap wr rb _ _ _ _ HVA.out.r)
              have HUB : Hid (Below w.heap.size w U) := Lib.hid (by
                rw [← hU]
                have h1 := HVA.out.below
                exact ⟨h1.os, h1.tape, h1.output, by rw [setRow_size]; exact h1.size, fun i hi => by rw [setRow_other _ _ _ _ (show i ≠ rb by have := HNE.out.2.1; omega)]; exact h1.block i hi⟩)
              rw [hU]
              clear hU
              rename_i hK
              refine hK _ _ ?_
              apply wp_ret
              refine bodyPost_ret (v := .agg (wsC (stL (plusW v z8)))) ?_ E33.2.1 ?_
              · exact results_cell_row rfl _ _ rb 222 (wsC (stL (plusW v z8))) (0, 0) _ (E33.at 34 4 _ rfl) HU.out rfl rfl (by as_aux_lemma => kernel_rfl)
              · refine ⟨?_, HUB.out⟩
                rw [HLL.out]
                unfold pressW
                rw [HWS.out, HZ.out]
end Go.Proofs.YtpobhbdomldecaaGreatDoor
namespace Go.Proofs.YtpobhbdomldecaaGreatDoor
open Go.RowKit Go.Great
set_option linter.unusedSimpArgs false
set_option linter.unusedVariables false
theorem blocksW_snoc (m : Nat) (v : St8) (l : List UInt8) : blocksW (m + 1) v l = pressW (blocksW m v l) ((l.drop (64 * m)).take 64) := by
  rw [blocksW_add m 1]; rfl
theorem info_b8R : (Tryz.prog.info? 5).map (fun i => (i.zero, i.size, i.bytes)) = some (some (.int .u8 0), 1, 1) := by kernel_rfl
def z32R : Array Value := madeCells (Value.int .u8 0).cells (32 * 1)
theorem make_z32R (W : World) : (Instr.makeSlice 41 (.int .i64 0) (.int .i64 32)).run Tryz.prog W = .ok (.slice (some ⟨W.heap.size, 0, none⟩) 0 32) (W.alloc (.cells z32R 5)) := by
  obtain ⟨i0, hi, hz0, hz1, hz2⟩ := info_parts info_b8R
  have hr := run_make (P := Tryz.prog) W 41 5 i0 (.int .u8 0) Tryz.underlying41 hi hz0 .i64 .i64 0 32 (by omega) (by omega) (by rw [hz2]; omega) (by omega)
  rw [hr, hz1]; rfl
theorem wsC8 (v : St8) : (wsC (stL v)).size = 8 := rfl
theorem wsC8_one (v : St8) : (wsC (stL v)).all (·.oneCell') = true := by kernel_rfl
set_option maxRecDepth 100000 in
set_option maxHeartbeats 8000000 in
theorem rsum_any (s : ByteArray) (w : World) (hs : s.size ≤ 1152921504606846976) :
    Calls Tryz.prog 137 #[.string s] w fun e w' => e = .returned (.string (shaP s)) ∧ Below w.heap.size w w' := by
  have HS := Lib.hid hs
  clear hs
  go_enter Tryz.func137, Tryz.ntmps137
  go_upto_region 2 with fail
  obtain ⟨nb, hnb⟩ : ∃ nb, w.heap.size = nb := ⟨_, rfl⟩
  have hC0 : (#[.int .u32 1779033703, .int .u32 3144134277, .int .u32 1013904242, .int .u32 2773480762, .int .u32 1359893119, .int .u32 2600822924, .int .u32 528734635, .int .u32 1541459225] : Array Value) = wsC (stL st0) := by kernel_rfl
  rw [hnb, hC0]
  obtain ⟨V, hV⟩ : ∃ V, w.alloc (.cells (wsC (stL st0)) 222) = V := ⟨_, rfl⟩
  rw [hV]
  have HNB : Hid (V.heap[nb]? = some (.cells (wsC (stL st0)) 222 (0, 0))) := Lib.hid (by rw [← hV]; exact alloc_new_at _ hnb)
  have HW : Hid (Below w.heap.size w V) := Lib.hid (by rw [← hV]; exact balloc (Below.refl _ w) _)
  have HNW : Hid (w.heap.size ≤ nb) := Lib.hid (Nat.le_of_eq hnb)
  clear hV hnb hC0
  go_wp2_with fail
  refine (rpadded_any s V HS.out).mono ?_
  rintro e w2 ⟨rfl, hb2⟩
  have HNB := Lib.hid ((hb2.block _ (lt_of_block HNB.out)).trans HNB.out)
  have HW := Lib.hid (bnext HW.out hb2)
  clear hb2
  obtain ⟨pl, hpl⟩ : ∃ pl, padW s.data.toList = pl := ⟨_, rfl⟩
  obtain ⟨PP, hPP⟩ : ∃ PP, padS s = PP := ⟨_, rfl⟩
  have HPL : Hid (PP.data.toList = pl) := Lib.hid (by rw [← hPP, ← hpl]; rfl)
  obtain ⟨N, hN⟩ : ∃ N, pl.length = 64 * N := ⟨pl.length / 64, by have := padW_len s.data.toList; rw [hpl] at this; omega⟩
  have HN := Lib.hid hN
  have HPS : Hid (PP.size = 64 * N) := Lib.hid (by rw [← hN, ← HPL.out, data_size])
  have HPB : Hid (64 * N ≤ 4611686018427387904) := Lib.hid (by
    rw [← hN, ← hpl]
    unfold padW zerosW num8
    simp only [List.length_append, List.length_replicate, List.length_map, List.length_range, List.length_singleton, data_size]
    have := HS.out
    omega)
  rw [hPP]
  have HPW := Lib.hid hpl
  clear hpl hPP hN
  go_upto_region 4 with fail
  go_loopg [5] N (fun g i wr => ∃ m c : Nat, g + m = N ∧ i = .int .i64 (c : Nat) ∧ Hid (c = 64 * m) ∧ Hid (wr.heap[nb]? = some (.cells (wsC (stL (blocksW m st0 pl))) 222 (0, 0))) ∧ Hid (Below w.heap.size w wr))
  case atStart => exact ⟨0, 0, rfl, rfl, Lib.hid rfl, HNB, HW⟩
  case round =>
    clear HNB HW
    obtain ⟨m, c, hm, rfl, HC, HNB, HW⟩ := hrel
    by_cases hlt : m < N
    · have hc64 := HC.out
      have hps := HPS.out
      have hpb := HPB.out
      have i1 : (c : Int) < (PP.size : Int) := by omega
      have s1 : IntKind.i64.wrap (((c : Nat) : Int) + 64) = ((c : Nat) : Int) + 64 := IntWalk.i64_in _ (by omega)
      obtain ⟨SB, hSB⟩ : ∃ SB, PP.extract c (c + 64) = SB := ⟨_, rfl⟩
      have HSB : Hid (SB.data.toList = (pl.drop c).take 64) := Lib.hid (by
        rw [← hSB, ← HPL.out]
        simp [ByteArray.data_extract, List.extract_eq_take_drop])
      have HSZ : Hid (SB.size = 64) := Lib.hid (by rw [← hSB, ByteArray.size_extract]; omega)
      obtain ⟨W, hW⟩ : ∃ W, wr = W := ⟨_, rfl⟩
      rw [hW] at HNB HW ⊢
      obtain ⟨v8, hv8⟩ : ∃ v8, blocksW m st0 pl = v8 := ⟨_, rfl⟩
      rw [hv8] at HNB
      have HV2 : Hid (blocksW (m + 1) st0 pl = pressW v8 SB.data.toList) := Lib.hid (by rw [blocksW_snoc, hv8, HSB.out, HC.out])
      obtain ⟨CV, hCV⟩ : ∃ CV, wsC (stL v8) = CV := ⟨_, rfl⟩
      obtain ⟨CV2, hCV2⟩ : ∃ CV2, wsC (stL (pressW v8 SB.data.toList)) = CV2 := ⟨_, rfl⟩
      have HRB : Hid (∀ w9 : World, Calls Tryz.prog 188 #[.agg CV, .string SB] w9 fun e w' => e = .returned (.agg CV2) ∧ Below w9.heap.size w9 w') := Lib.hid (fun w9 => by rw [← hCV, ← hCV2]; exact rblock_any v8 SB w9 HSZ.out)
      have HI : Hid ((Tryz.prog.info? 222).map (·.size) = some CV.size) := Lib.hid (by rw [← hCV, wsC8]; kernel_rfl)
      have HI2 : Hid ((Tryz.prog.info? 222).map (·.size) = some CV2.size) := Lib.hid (by rw [← hCV2, wsC8]; kernel_rfl)
      have HO2 : Hid (CV2.all (·.oneCell') = true) := Lib.hid (by rw [← hCV2]; exact wsC8_one _)
      have HE2 : Hid (CV.size = CV2.size) := Lib.hid (by rw [← hCV, ← hCV2, wsC8, wsC8])
      rw [hCV] at HNB
      have HCV2 := Lib.hid hCV2
      have s2 : (0 : Int) ≤ (c : Int) ∧ (c : Int) ≤ (c : Int) + 64 := by omega
      have s3 : (0 : Int) ≤ (c : Int) + 64 ∧ (c : Int) + 64 ≤ (PP.size : Int) := by omega
      have s4 : ((c : Int) + 64).toNat = c + 64 := by omega
      have s5 : PP.extract c (c + 64) = SB := hSB
      clear hCV hCV2 hW hv8 hc64 hps hpb hSB
      go_upto_region 6 with fail
      refine wp_region_tail 7 1000 (none) (phis [fun u _ => u = (.agg CV), fun u _ => u = (.string PP), fun u _ => u = (.int .i64 (c : Nat)), fun u _ => u = (.int .i64 (c : Nat)), fun u _ => u = (.int .i64 ((c : Nat) + 64)), fun u _ => u = (.string SB), fun u _ => u = (.agg CV2)]) rfl (by kernel_rfl) (by kernel_rfl) (mono_of ⟨mono_eq, mono_eq, mono_eq, mono_eq, mono_eq, mono_eq, mono_eq, trivial⟩) (steps_of 7 ⟨?s0, ?s1, ?s2, ?s3, ?s4, ?s5, ?s6, trivial⟩) ?_
      case s0 =>
        refine step_wp (fun av wv hE hS hO hD => ?_)
        have h3 : av.eval (.tmp 3) = (.pointer (some ⟨nb, 0, none⟩)) := hO.2.2 3 rfl
        have f3 := (ev_form av 3).symm.trans h3
        refine ⟨rfl, ?_⟩
        exact wp_load_row 222 _ rfl nb h3 222 CV (0, 0) _ (extB_block hE (by simp) HNB.out) Tryz.underlying222 rfl HI.out ⟨_, rfl, es_of_ext (Ext_refl _), rfl⟩
      case s1 =>
        refine step_val (v := (.string PP)) (fun av wv hE hS hO hD => ?_) (fun _ => rfl)
        have h4 : av.eval (.tmp 4) = (.string PP) := hO.2.2 4 rfl
        have f4 := (ev_form av 4).symm.trans h4
        refine ⟨rfl, ?_⟩
        simp [go_sem, f4, s1, s2, s3, s4, s5]
      case s2 =>
        refine step_val (v := (.int .i64 (c : Nat))) (fun av wv hE hS hO hD => ?_) (fun _ => rfl)
        have h5 : av.eval (.tmp 5) = (.int .i64 (c : Nat)) := hO.2.2 5 rfl
        have f5 := (ev_form av 5).symm.trans h5
        refine ⟨rfl, ?_⟩
        simp [go_sem, f5, s1, s2, s3, s4, s5]
      case s3 =>
        refine step_val (v := (.int .i64 (c : Nat))) (fun av wv hE hS hO hD => ?_) (fun _ => rfl)
        have h5 : av.eval (.tmp 5) = (.int .i64 (c : Nat)) := hO.2.2 5 rfl
        have f5 := (ev_form av 5).symm.trans h5
        refine ⟨rfl, ?_⟩
        simp [go_sem, f5, s1, s2, s3, s4, s5]
      case s4 =>
        refine step_val (v := (.int .i64 ((c : Nat) + 64))) (fun av wv hE hS hO hD => ?_) (fun _ => rfl)
        have d20 : av.eval (.tmp 20) = (.int .i64 (c : Nat)) := hD.1 rfl _ rfl
        have f20 := (ev_form av 20).symm.trans d20
        refine ⟨rfl, ?_⟩
        simp [go_sem, f20, s1, s2, s3, s4, s5]
      case s5 =>
        refine step_val (v := (.string SB)) (fun av wv hE hS hO hD => ?_) (fun _ => rfl)
        have d18 : av.eval (.tmp 18) = (.string PP) := hD.1 rfl _ rfl
        have f18 := (ev_form av 18).symm.trans d18
        have d19 : av.eval (.tmp 19) = (.int .i64 (c : Nat)) := hD.2.1 rfl _ rfl
        have f19 := (ev_form av 19).symm.trans d19
        have d21 : av.eval (.tmp 21) = (.int .i64 ((c : Nat) + 64)) := hD.2.2.1 rfl _ rfl
        have f21 := (ev_form av 21).symm.trans d21
        refine ⟨rfl, ?_⟩
        simp [go_sem, f18, f19, f21, s1, s2, s3, s4, s5]
      case s6 =>
        refine step_wp (fun av wv hE hS hO hD => ?_)
        have d17 : av.eval (.tmp 17) = (.agg CV) := hD.1 rfl _ rfl
        have f17 := (ev_form av 17).symm.trans d17
        have d22 : av.eval (.tmp 22) = (.string SB) := hD.2.1 rfl _ rfl
        have f22 := (ev_form av 22).symm.trans d22
        refine ⟨rfl, ?_⟩
        refine wp_of_call (v := .agg CV2) (by simp [go_sem, f17, f22]) (HRB.out wv) (fun w2 hb => ⟨_, rfl, es_of_ext hb, rfl⟩)
      intro a' w' hE hO hall
      have hA := act_of_outer (ds := [17, 18, 19, 20, 21, 22, 23]) rfl hO (by kernel_rfl)
      have e17 : (fun u _ => u = (.agg CV)) (a'.eval (.tmp 17)) w' := hall.1 _ rfl
      have e18 : (fun u _ => u = (.string PP)) (a'.eval (.tmp 18)) w' := hall.2.1 _ rfl
      have e19 : (fun u _ => u = (.int .i64 (c : Nat))) (a'.eval (.tmp 19)) w' := hall.2.2.1 _ rfl
      have e20 : (fun u _ => u = (.int .i64 (c : Nat))) (a'.eval (.tmp 20)) w' := hall.2.2.2.1 _ rfl
      have e21 : (fun u _ => u = (.int .i64 ((c : Nat) + 64))) (a'.eval (.tmp 21)) w' := hall.2.2.2.2.1 _ rfl
      have e22 : (fun u _ => u = (.string SB)) (a'.eval (.tmp 22)) w' := hall.2.2.2.2.2.1 _ rfl
      have e23 : (fun u _ => u = (.agg CV2)) (a'.eval (.tmp 23)) w' := hall.2.2.2.2.2.2.1 _ rfl
      simp only [List.foldl_cons, List.foldl_nil, Act.put, List.setIfInBounds_toArray, List.set_cons_succ, List.set_cons_zero, e17, e18, e19, e20, e21, e22, e23] at hA
      clear hO hall e17 e18 e19 e20 e21 e22 e23
      subst hA
      have hX := of_drew hE
      have HNB := Lib.hid ((hX.block _ (lt_of_block HNB.out)).trans HNB.out)
      have HW := Lib.hid (bnext HW.out hX)
      clear hE hX s1 s2 s3 s4 s5
      go_upto_region 5 with (first | (refine wpList_store_row ?_ 222 (.tmp 3) (.tmp 23) ?_ nb CV2 ?_ ?_ 222 _ HNB.out HI2.out ?_ HO2.out ?_; rfl; rfl; rfl; rfl; exact HE2.out; skip))
      have HNB2 : Hid ((w'.setRow nb CV2).heap[nb]? = some (.cells (wsC (stL (blocksW (m + 1) st0 pl))) 222 (0, 0))) := Lib.hid (by rw [HV2.out, HCV2.out]; exact setRow_heap _ _ _ _ _ _ HNB.out)
      have HW2 : Hid (Below w.heap.size w (w'.setRow nb CV2)) := Lib.hid (by
        have h1 := HW.out
        exact ⟨h1.os, h1.tape, h1.output, by rw [setRow_size]; exact h1.size, fun i hi => by rw [setRow_other _ _ _ _ (show i ≠ nb by have := HNW.out; omega)]; exact h1.block i hi⟩)
      have iw : IntKind.i64.wrap (((c : Nat) : Int) + 64) = ((c : Nat) : Int) + 64 := IntWalk.i64_in _ (by have := HC.out; have := HPB.out; omega)
      go_wp2
      go_roundg (N - (m + 1))
      case rel => exact ⟨m + 1, c + 64, by omega, by go_num, Lib.hid (by rw [HC.out]; omega), HNB2, HW2⟩
      case measure => omega
    · obtain rfl : m = N := by omega
      have i1 : ¬ (c : Int) < (PP.size : Int) := by have := HC.out; have := HPS.out; omega
      obtain ⟨z, hz⟩ : ∃ z, blocksW m st0 pl = z := ⟨_, rfl⟩
      have HZ : Hid (shaL s.data.toList = outW z) := Lib.hid (by
        unfold shaL foldW
        rw [HPW.out, HN.out, Nat.mul_div_cancel_left _ (by decide), hz])
      rw [hz] at HNB
      clear hz
      obtain ⟨i0, hi, hz0, hz1, hz2⟩ := info_parts info_b8R
      have HZ0 := Lib.hid hz0
      clear hz0 HPL HPB HPW HN hm
      have mk := make_z32R
      go_upto_region 10 with fail
      clear mk
      obtain ⟨ob, hob⟩ : ∃ ob, wr.heap.size = ob := ⟨_, rfl⟩
      rw [hob]
      obtain ⟨U, hU⟩ : ∃ U, wr.alloc (.cells z32R 5) = U := ⟨_, rfl⟩
      rw [hU]
      have HNB2 : Hid (U.heap[nb]? = some (.cells (wsC (stL z)) 222 (0, 0))) := Lib.hid (by rw [← hU]; exact block_alloc HNB.out _)
      have HUW : Hid (Below w.heap.size w U) := Lib.hid (by rw [← hU]; exact balloc HW.out _)
      have HLT : Hid (nb < ob ∧ w.heap.size ≤ ob) := Lib.hid ⟨by rw [← hob]; exact lt_of_block HNB.out, by rw [← hob]; exact HW.out.size⟩
      have HUO : Hid (U.ownsRow ob 5 1 (.slice (some ⟨ob, 0, none⟩) 0 32) (4 * 0) ((((stL z).take 0).map word4).flatten.map byV)) := Lib.hid ⟨by simp, .inr ⟨ob, 32, z32R, rfl, Nat.le_refl _, by rw [← hU]; exact alloc_new_at _ hob, by decide, by decide, size_madeCells _ _, by simp⟩⟩
      have HUOB : Hid (ob ≤ U.heap.size) := Lib.hid (by rw [← hU, ← hob]; simp)
      clear hU hob HNB HW
      go_loopg [7, 6] 8 (fun g i o wr => ∃ m : Nat, g + m = 8 ∧ i = .int .i64 m ∧ Hid (wr.ownsRow ob 5 1 o (4 * m) ((((stL z).take m).map word4).flatten.map byV)) ∧ Hid (wr.heap[nb]? = some (.cells (wsC (stL z)) 222 (0, 0))) ∧ Hid (Below w.heap.size w wr) ∧ Hid (ob ≤ wr.heap.size))
      case atStart => exact ⟨0, rfl, rfl, HUO, HNB2, HUW, HUOB⟩
      case round =>
        clear HUO HNB2 HUW HUOB
        obtain ⟨m, hm, rfl, HO, HNB, HW, HOB⟩ := hrel
        by_cases hlt : m < 8
        · have i1 : (m : Int) < 8 := by omega
          obtain ⟨X, hX⟩ : ∃ X, wth (stL z) m = X := ⟨_, rfl⟩
          have HX := Lib.hid hX
          obtain ⟨OV, hOV⟩ : ∃ OV, u6 = OV := ⟨_, rfl⟩
          rw [hOV] at HO ⊢
          obtain ⟨W, hW⟩ : ∃ W, wr = W := ⟨_, rfl⟩
          rw [hW] at HO HW HNB HOB ⊢
          have cx : W.cell? ⟨nb, m, none⟩ = some (.int .u32 (wI X)) := by
            rw [block_cell HNB.out, ← hX]
            exact wsC_at (stL z) m hlt
          have bi : ¬ (8 : Int) ≤ (m : Int) := by omega
          have bin : ¬ 8 ≤ m := by omega
          have v1 : IntKind.u8.wrap (wI X / 16777216) = wI X / 16777216 % 256 := IntKind.wrap_u8 _
          have v2 : IntKind.u8.wrap (wI X / 65536) = wI X / 65536 % 256 := IntKind.wrap_u8 _
          have v3 : IntKind.u8.wrap (wI X / 256) = wI X / 256 % 256 := IntKind.wrap_u8 _
          have v4 : IntKind.u8.wrap (wI X) = wI X % 256 := IntKind.wrap_u8 _
          clear hX hW hOV
          go_upto_region 11 with fail
          refine wp_region_tail 21 1000 (none) (phis [fun u _ => u = (OV), fun u _ => u = (.int .i64 (m : Nat)), fun u _ => u = (.pointer (some ⟨nb, m, none⟩)), fun u _ => u = (.int .u32 (wI X)), fun u _ => u = (.int .u32 (wI X / 16777216)), fun u _ => u = (.int .u8 (wI X / 16777216 % 256)), fun u _ => u = (.int .i64 (m : Nat)), fun u _ => u = (.pointer (some ⟨nb, m, none⟩)), fun u _ => u = (.int .u32 (wI X)), fun u _ => u = (.int .u32 (wI X / 65536)), fun u _ => u = (.int .u8 (wI X / 65536 % 256)), fun u _ => u = (.int .i64 (m : Nat)), fun u _ => u = (.pointer (some ⟨nb, m, none⟩)), fun u _ => u = (.int .u32 (wI X)), fun u _ => u = (.int .u32 (wI X / 256)), fun u _ => u = (.int .u8 (wI X / 256 % 256)), fun u _ => u = (.int .i64 (m : Nat)), fun u _ => u = (.pointer (some ⟨nb, m, none⟩)), fun u _ => u = (.int .u32 (wI X)), fun u _ => u = (.int .u8 (wI X % 256)), fun uu w' => ∃ c, uu = .slice (some ⟨c, 0, none⟩) 4 4 ∧ w'.heap[c]? = some (.cells #[.int .u8 (wI X / 16777216 % 256), .int .u8 (wI X / 65536 % 256), .int .u8 (wI X / 256 % 256), .int .u8 (wI X % 256)] 5 (0, 0))]) rfl (by kernel_rfl) (by kernel_rfl) (mono_of ⟨mono_eq, mono_eq, mono_eq, mono_eq, mono_eq, mono_eq, mono_eq, mono_eq, mono_eq, mono_eq, mono_eq, mono_eq, mono_eq, mono_eq, mono_eq, mono_eq, mono_eq, mono_eq, mono_eq, mono_eq, ?m20, trivial⟩) (steps_of 21 ⟨?s0, ?s1, ?s2, ?s3, ?s4, ?s5, ?s6, ?s7, ?s8, ?s9, ?s10, ?s11, ?s12, ?s13, ?s14, ?s15, ?s16, ?s17, ?s18, ?s19, ?s20, trivial⟩) ?_
          case m20 =>
            exact ⟨fun uu w1 w2 h ⟨c, h1, h2⟩ => ⟨c, h1, ext_block h h2⟩, fun _ uu w1 w2 h ⟨c, h1, h2⟩ => ⟨c, h1, extB_block h (by simp) h2⟩⟩
          case s0 =>
            refine step_val (v := (OV)) (fun av wv hE hS hO hD => ?_) (fun _ => rfl)
            have h6 : av.eval (.tmp 6) = (OV) := hO.2.2 6 rfl
            have f6 := (ev_form av 6).symm.trans h6
            refine ⟨rfl, ?_⟩
            simp [go_sem, f6, bi, bin, v1, v2, v3, v4]
          case s1 =>
            refine step_val (v := (.int .i64 (m : Nat))) (fun av wv hE hS hO hD => ?_) (fun _ => rfl)
            have h7 : av.eval (.tmp 7) = (.int .i64 (m : Nat)) := hO.2.2 7 rfl
            have f7 := (ev_form av 7).symm.trans h7
            refine ⟨rfl, ?_⟩
            simp [go_sem, f7, bi, bin, v1, v2, v3, v4]
          case s2 =>
            refine step_val (v := (.pointer (some ⟨nb, m, none⟩))) (fun av wv hE hS hO hD => ?_) (fun _ => rfl)
            have h3 : av.eval (.tmp 3) = (.pointer (some ⟨nb, 0, none⟩)) := hO.2.2 3 rfl
            have f3 := (ev_form av 3).symm.trans h3
            have d30 : av.eval (.tmp 30) = (.int .i64 (m : Nat)) := hD.1 rfl _ rfl
            have f30 := (ev_form av 30).symm.trans d30
            refine ⟨rfl, ?_⟩
            simp [go_sem, f3, f30, bi, bin, v1, v2, v3, v4]
          case s3 =>
            refine step_val (v := (.int .u32 (wI X))) (fun av wv hE hS hO hD => ?_) (fun _ => rfl)
            have d31 : av.eval (.tmp 31) = (.pointer (some ⟨nb, m, none⟩)) := hD.1 rfl _ rfl
            have f31 := (ev_form av 31).symm.trans d31
            have cx := extB_cell hE (by simp) cx
            refine ⟨rfl, ?_⟩
            simp [go_sem, f31, cx, bi, bin, v1, v2, v3, v4]
          case s4 =>
            refine step_val (v := (.int .u32 (wI X / 16777216))) (fun av wv hE hS hO hD => ?_) (fun _ => rfl)
            have d32 : av.eval (.tmp 32) = (.int .u32 (wI X)) := hD.1 rfl _ rfl
            have f32 := (ev_form av 32).symm.trans d32
            refine ⟨rfl, ?_⟩
            simp [go_sem, f32, bi, bin, v1, v2, v3, v4]
          case s5 =>
            refine step_val (v := (.int .u8 (wI X / 16777216 % 256))) (fun av wv hE hS hO hD => ?_) (fun _ => rfl)
            have d33 : av.eval (.tmp 33) = (.int .u32 (wI X / 16777216)) := hD.1 rfl _ rfl
            have f33 := (ev_form av 33).symm.trans d33
            refine ⟨rfl, ?_⟩
            simp [go_sem, f33, bi, bin, v1, v2, v3, v4]
          case s6 =>
            refine step_val (v := (.int .i64 (m : Nat))) (fun av wv hE hS hO hD => ?_) (fun _ => rfl)
            have h7 : av.eval (.tmp 7) = (.int .i64 (m : Nat)) := hO.2.2 7 rfl
            have f7 := (ev_form av 7).symm.trans h7
            refine ⟨rfl, ?_⟩
            simp [go_sem, f7, bi, bin, v1, v2, v3, v4]
          case s7 =>
            refine step_val (v := (.pointer (some ⟨nb, m, none⟩))) (fun av wv hE hS hO hD => ?_) (fun _ => rfl)
            have h3 : av.eval (.tmp 3) = (.pointer (some ⟨nb, 0, none⟩)) := hO.2.2 3 rfl
            have f3 := (ev_form av 3).symm.trans h3
            have d35 : av.eval (.tmp 35) = (.int .i64 (m : Nat)) := hD.1 rfl _ rfl
            have f35 := (ev_form av 35).symm.trans d35
            refine ⟨rfl, ?_⟩
            simp [go_sem, f3, f35, bi, bin, v1, v2, v3, v4]
          case s8 =>
            refine step_val (v := (.int .u32 (wI X))) (fun av wv hE hS hO hD => ?_) (fun _ => rfl)
            have d36 : av.eval (.tmp 36) = (.pointer (some ⟨nb, m, none⟩)) := hD.1 rfl _ rfl
            have f36 := (ev_form av 36).symm.trans d36
            have cx := extB_cell hE (by simp) cx
            refine ⟨rfl, ?_⟩
            simp [go_sem, f36, cx, bi, bin, v1, v2, v3, v4]
          case s9 =>
            refine step_val (v := (.int .u32 (wI X / 65536))) (fun av wv hE hS hO hD => ?_) (fun _ => rfl)
            have d37 : av.eval (.tmp 37) = (.int .u32 (wI X)) := hD.1 rfl _ rfl
            have f37 := (ev_form av 37).symm.trans d37
            refine ⟨rfl, ?_⟩
            simp [go_sem, f37, bi, bin, v1, v2, v3, v4]
          case s10 =>
            refine step_val (v := (.int .u8 (wI X / 65536 % 256))) (fun av wv hE hS hO hD => ?_) (fun _ => rfl)
            have d38 : av.eval (.tmp 38) = (.int .u32 (wI X / 65536)) := hD.1 rfl _ rfl
            have f38 := (ev_form av 38).symm.trans d38
            refine ⟨rfl, ?_⟩
            simp [go_sem, f38, bi, bin, v1, v2, v3, v4]
          case s11 =>
            refine step_val (v := (.int .i64 (m : Nat))) (fun av wv hE hS hO hD => ?_) (fun _ => rfl)
            have h7 : av.eval (.tmp 7) = (.int .i64 (m : Nat)) := hO.2.2 7 rfl
            have f7 := (ev_form av 7).symm.trans h7
            refine ⟨rfl, ?_⟩
            simp [go_sem, f7, bi, bin, v1, v2, v3, v4]
          case s12 =>
            refine step_val (v := (.pointer (some ⟨nb, m, none⟩))) (fun av wv hE hS hO hD => ?_) (fun _ => rfl)
            have h3 : av.eval (.tmp 3) = (.pointer (some ⟨nb, 0, none⟩)) := hO.2.2 3 rfl
            have f3 := (ev_form av 3).symm.trans h3
            have d40 : av.eval (.tmp 40) = (.int .i64 (m : Nat)) := hD.1 rfl _ rfl
            have f40 := (ev_form av 40).symm.trans d40
            refine ⟨rfl, ?_⟩
            simp [go_sem, f3, f40, bi, bin, v1, v2, v3, v4]
          case s13 =>
            refine step_val (v := (.int .u32 (wI X))) (fun av wv hE hS hO hD => ?_) (fun _ => rfl)
            have d41 : av.eval (.tmp 41) = (.pointer (some ⟨nb, m, none⟩)) := hD.1 rfl _ rfl
            have f41 := (ev_form av 41).symm.trans d41
            have cx := extB_cell hE (by simp) cx
            refine ⟨rfl, ?_⟩
            simp [go_sem, f41, cx, bi, bin, v1, v2, v3, v4]
          case s14 =>
            refine step_val (v := (.int .u32 (wI X / 256))) (fun av wv hE hS hO hD => ?_) (fun _ => rfl)
            have d42 : av.eval (.tmp 42) = (.int .u32 (wI X)) := hD.1 rfl _ rfl
            have f42 := (ev_form av 42).symm.trans d42
            refine ⟨rfl, ?_⟩
            simp [go_sem, f42, bi, bin, v1, v2, v3, v4]
          case s15 =>
            refine step_val (v := (.int .u8 (wI X / 256 % 256))) (fun av wv hE hS hO hD => ?_) (fun _ => rfl)
            have d43 : av.eval (.tmp 43) = (.int .u32 (wI X / 256)) := hD.1 rfl _ rfl
            have f43 := (ev_form av 43).symm.trans d43
            refine ⟨rfl, ?_⟩
            simp [go_sem, f43, bi, bin, v1, v2, v3, v4]
          case s16 =>
            refine step_val (v := (.int .i64 (m : Nat))) (fun av wv hE hS hO hD => ?_) (fun _ => rfl)
            have h7 : av.eval (.tmp 7) = (.int .i64 (m : Nat)) := hO.2.2 7 rfl
            have f7 := (ev_form av 7).symm.trans h7
            refine ⟨rfl, ?_⟩
            simp [go_sem, f7, bi, bin, v1, v2, v3, v4]
          case s17 =>
            refine step_val (v := (.pointer (some ⟨nb, m, none⟩))) (fun av wv hE hS hO hD => ?_) (fun _ => rfl)
            have h3 : av.eval (.tmp 3) = (.pointer (some ⟨nb, 0, none⟩)) := hO.2.2 3 rfl
            have f3 := (ev_form av 3).symm.trans h3
            have d45 : av.eval (.tmp 45) = (.int .i64 (m : Nat)) := hD.1 rfl _ rfl
            have f45 := (ev_form av 45).symm.trans d45
            refine ⟨rfl, ?_⟩
            simp [go_sem, f3, f45, bi, bin, v1, v2, v3, v4]
          case s18 =>
            refine step_val (v := (.int .u32 (wI X))) (fun av wv hE hS hO hD => ?_) (fun _ => rfl)
            have d46 : av.eval (.tmp 46) = (.pointer (some ⟨nb, m, none⟩)) := hD.1 rfl _ rfl
            have f46 := (ev_form av 46).symm.trans d46
            have cx := extB_cell hE (by simp) cx
            refine ⟨rfl, ?_⟩
            simp [go_sem, f46, cx, bi, bin, v1, v2, v3, v4]
          case s19 =>
            refine step_val (v := (.int .u8 (wI X % 256))) (fun av wv hE hS hO hD => ?_) (fun _ => rfl)
            have d47 : av.eval (.tmp 47) = (.int .u32 (wI X)) := hD.1 rfl _ rfl
            have f47 := (ev_form av 47).symm.trans d47
            refine ⟨rfl, ?_⟩
            simp [go_sem, f47, bi, bin, v1, v2, v3, v4]
          case s20 =>
            refine step_wp (fun av wv hE hS hO hD => ?_)
            have d34 : av.eval (.tmp 34) = (.int .u8 (wI X / 16777216 % 256)) := hD.1 rfl _ rfl
            have f34 := (ev_form av 34).symm.trans d34
            have d39 : av.eval (.tmp 39) = (.int .u8 (wI X / 65536 % 256)) := hD.2.1 rfl _ rfl
            have f39 := (ev_form av 39).symm.trans d39
            have d44 : av.eval (.tmp 44) = (.int .u8 (wI X / 256 % 256)) := hD.2.2.1 rfl _ rfl
            have f44 := (ev_form av 44).symm.trans d44
            have d48 : av.eval (.tmp 48) = (.int .u8 (wI X % 256)) := hD.2.2.2.1 rfl _ rfl
            have f48 := (ev_form av 48).symm.trans d48
            refine ⟨rfl, ?_⟩
            exact wp_of_run (v := .slice (some ⟨wv.heap.size, 0, none⟩) 4 4) (w' := wv.alloc (.cells #[.int .u8 (wI X / 16777216 % 256), .int .u8 (wI X / 65536 % 256), .int .u8 (wI X / 256 % 256), .int .u8 (wI X % 256)] 5)) (by simp [go_sem, f34, f39, f44, f48]) ⟨_, rfl, es_of_ext (balloc (Ext_refl _) _), wv.heap.size, rfl, heap_alloc_new _ _⟩
          intro a' w' hE hO hall
          have hA := act_of_outer (ds := [29, 30, 31, 32, 33, 34, 35, 36, 37, 38, 39, 40, 41, 42, 43, 44, 45, 46, 47, 48, 49]) rfl hO (by kernel_rfl)
          have e29 : (fun u _ => u = (OV)) (a'.eval (.tmp 29)) w' := hall.1 _ rfl
          have e30 : (fun u _ => u = (.int .i64 (m : Nat))) (a'.eval (.tmp 30)) w' := hall.2.1 _ rfl
          have e31 : (fun u _ => u = (.pointer (some ⟨nb, m, none⟩))) (a'.eval (.tmp 31)) w' := hall.2.2.1 _ rfl
          have e32 : (fun u _ => u = (.int .u32 (wI X))) (a'.eval (.tmp 32)) w' := hall.2.2.2.1 _ rfl
          have e33 : (fun u _ => u = (.int .u32 (wI X / 16777216))) (a'.eval (.tmp 33)) w' := hall.2.2.2.2.1 _ rfl
          have e34 : (fun u _ => u = (.int .u8 (wI X / 16777216 % 256))) (a'.eval (.tmp 34)) w' := hall.2.2.2.2.2.1 _ rfl
          have e35 : (fun u _ => u = (.int .i64 (m : Nat))) (a'.eval (.tmp 35)) w' := hall.2.2.2.2.2.2.1 _ rfl
          have e36 : (fun u _ => u = (.pointer (some ⟨nb, m, none⟩))) (a'.eval (.tmp 36)) w' := hall.2.2.2.2.2.2.2.1 _ rfl
          have e37 : (fun u _ => u = (.int .u32 (wI X))) (a'.eval (.tmp 37)) w' := hall.2.2.2.2.2.2.2.2.1 _ rfl
          have e38 : (fun u _ => u = (.int .u32 (wI X / 65536))) (a'.eval (.tmp 38)) w' := hall.2.2.2.2.2.2.2.2.2.1 _ rfl
          have e39 : (fun u _ => u = (.int .u8 (wI X / 65536 % 256))) (a'.eval (.tmp 39)) w' := hall.2.2.2.2.2.2.2.2.2.2.1 _ rfl
          have e40 : (fun u _ => u = (.int .i64 (m : Nat))) (a'.eval (.tmp 40)) w' := hall.2.2.2.2.2.2.2.2.2.2.2.1 _ rfl
          have e41 : (fun u _ => u = (.pointer (some ⟨nb, m, none⟩))) (a'.eval (.tmp 41)) w' := hall.2.2.2.2.2.2.2.2.2.2.2.2.1 _ rfl
          have e42 : (fun u _ => u = (.int .u32 (wI X))) (a'.eval (.tmp 42)) w' := hall.2.2.2.2.2.2.2.2.2.2.2.2.2.1 _ rfl
          have e43 : (fun u _ => u = (.int .u32 (wI X / 256))) (a'.eval (.tmp 43)) w' := hall.2.2.2.2.2.2.2.2.2.2.2.2.2.2.1 _ rfl
          have e44 : (fun u _ => u = (.int .u8 (wI X / 256 % 256))) (a'.eval (.tmp 44)) w' := hall.2.2.2.2.2.2.2.2.2.2.2.2.2.2.2.1 _ rfl
          have e45 : (fun u _ => u = (.int .i64 (m : Nat))) (a'.eval (.tmp 45)) w' := hall.2.2.2.2.2.2.2.2.2.2.2.2.2.2.2.2.1 _ rfl
          have e46 : (fun u _ => u = (.pointer (some ⟨nb, m, none⟩))) (a'.eval (.tmp 46)) w' := hall.2.2.2.2.2.2.2.2.2.2.2.2.2.2.2.2.2.1 _ rfl
          have e47 : (fun u _ => u = (.int .u32 (wI X))) (a'.eval (.tmp 47)) w' := hall.2.2.2.2.2.2.2.2.2.2.2.2.2.2.2.2.2.2.1 _ rfl
          have e48 : (fun u _ => u = (.int .u8 (wI X % 256))) (a'.eval (.tmp 48)) w' := hall.2.2.2.2.2.2.2.2.2.2.2.2.2.2.2.2.2.2.2.1 _ rfl
          have e49 : (fun uu w' => ∃ c, uu = .slice (some ⟨c, 0, none⟩) 4 4 ∧ w'.heap[c]? = some (.cells #[.int .u8 (wI X / 16777216 % 256), .int .u8 (wI X / 65536 % 256), .int .u8 (wI X / 256 % 256), .int .u8 (wI X % 256)] 5 (0, 0))) (a'.eval (.tmp 49)) w' := hall.2.2.2.2.2.2.2.2.2.2.2.2.2.2.2.2.2.2.2.2.1 _ rfl
          obtain ⟨v49, hv49⟩ : ∃ v, a'.eval (.tmp 49) = v := ⟨_, rfl⟩
          rw [hv49] at e49
          simp only [List.foldl_cons, List.foldl_nil, Act.put, List.setIfInBounds_toArray, List.set_cons_succ, List.set_cons_zero, e29, e30, e31, e32, e33, e34, e35, e36, e37, e38, e39, e40, e41, e42, e43, e44, e45, e46, e47, e48, hv49] at hA
          clear hO hall e29 e30 e31 e32 e33 e34 e35 e36 e37 e38 e39 e40 e41 e42 e43 e44 e45 e46 e47 e48 hv49
          subst hA
          have hX := of_drew hE
          have HO2 := Lib.hid (own_below HO.out hX)
          have HNB2 := Lib.hid ((hX.block _ (lt_of_block HNB.out)).trans HNB.out)
          have HW2 : Hid (Below w.heap.size w w') := Lib.hid (bnext HW.out hX)
          have HOB2 : Hid (ob ≤ w'.heap.size) := Lib.hid (Nat.le_trans HOB.out hX.size)
          obtain ⟨cb, rfl, hcb⟩ := e49
          have HCB := Lib.hid hcb
          clear hX hE cx bi bin v1 v2 v3 v4 HOB HNB HW hcb
          have hmm : 4 * m ≤ 32 := by omega
          simp only [List.drop_succ_cons, List.drop_zero]
          go_wp2_with (at_builtin; refine wpList_append_own _ rfl _ _ 41 rfl ob 5 i0 (.int .u8 0) 1 1 Tryz.underlying41 hi HZ0.out hz1 hz2 rfl (by decide) _ _ _ rfl HO2.out ⟨cb, 0, none⟩ 4 4 [.int .u8 (wI X / 16777216 % 256), .int .u8 (wI X / 65536 % 256), .int .u8 (wI X / 256 % 256), .int .u8 (wI X % 256)] rfl rfl (World.news_of_block HCB.out) (by intro u hu; simp at hu; rcases hu with rfl | rfl | rfl | rfl <;> rfl) (by unfold maxLen; omega) (by omega) HOB2.out ?_; intro v9 w4 hown2 hgrow2 _)
          have HO3 : Hid (w4.ownsRow ob 5 1 v9 (4 * (m + 1)) ((((stL z).take (m + 1)).map word4).flatten.map byV)) := Lib.hid (by
            rw [outW_snoc z m hlt, HX.out, List.map_append, ← word4_vals]
            exact hown2)
          have HNB3 : Hid (w4.heap[nb]? = some (.cells (wsC (stL z)) 222 (0, 0))) := Lib.hid ((hgrow2.block nb (lt_of_block HNB2.out) (fun e => by
            have := (HO2.out.lt nb e.symm).1
            have := HLT.out.1
            omega)).trans HNB2.out)
          have HW3 : Hid (Below w.heap.size w w4) := Lib.hid (grownBy_below HW2.out hgrow2 (fun k hk' => Nat.le_trans HLT.out.2 (HO2.out.lt k hk').1))
          have HOB3 : Hid (ob ≤ w4.heap.size) := Lib.hid (Nat.le_trans HOB2.out hgrow2.size)
          clear hown2 hgrow2
          go_wp2
          go_roundg (8 - (m + 1))
          case rel => exact ⟨m + 1, by omega, by go_num, HO3, HNB3, HW3, HOB3⟩
          case measure => omega
        · obtain rfl : m = 8 := by omega
          have i1 : ¬ ((8 : Nat) : Int) < 8 := by decide
          have HO2 : Hid (wr.ownsRow ob 5 1 u6 32 ((shaL s.data.toList).map byV)) := Lib.hid (by
            have h1 := HO.out
            rw [show (stL z).take 8 = stL z from rfl, outW_eq, ← HZ.out] at h1
            exact h1)
          have cv := conv_own HO2.out (shaL_len s.data.toList) (by decide)
          go_wp2
          go_ret
          exact ⟨rfl, HW.out⟩
end Go.Proofs.YtpobhbdomldecaaGreatDoor
namespace Go.Proofs.YtpobhbdomldecaaGreatDoor
open Go.RowKit
set_option linter.unusedSimpArgs false
set_option linter.unusedVariables false
theorem ofNat_byV (x : Nat) : Value.int .u8 ((x : Int) % 256) = byV (UInt8.ofNat x) := by
  unfold byV
  rw [UInt8.toNat_ofNat']
  congr 1
theorem num8_drop (N m : Nat) (h : m < 8) : (num8 N).drop (8 - (m + 1)) = UInt8.ofNat (N / 256 ^ m) :: (num8 N).drop (8 - m) := by
  have h8 : 8 - (m + 1) < (num8 N).length := by rw [num8_len]; omega
  rw [List.drop_eq_getElem_cons h8, show 8 - (m + 1) + 1 = 8 - m by omega]
  congr 1
  have h9 := num8_get N (8 - (m + 1)) (by omega)
  rw [List.getElem?_eq_getElem h8] at h9
  have h10 := Option.some.inj h9
  rw [h10, show 7 - (8 - (m + 1)) = m by omega]
set_option maxRecDepth 100000 in
set_option maxHeartbeats 4000000 in
theorem rnum_any (N : Nat) (w : World) (hN : N < 18446744073709551616) : Calls Tryz.prog 186 #[.int .u64 (N : Nat)] w fun e w' => e = .returned (.string (num8S N)) ∧ Below w.heap.size w w' := by
  have HN := Lib.hid hN
  clear hN
  go_enter Tryz.func186, Tryz.ntmps186
  go_upto_region 3 with fail
  go_loopg [4, 3, 0] 8 (fun g i x n wr => ∃ (m : Nat) (X : ByteArray), g + m = 8 ∧ i = .int .i64 m ∧ x = .string X ∧ n = .int .u64 ((N / 256 ^ m : Nat) : Int) ∧ Hid (X.data.toList = (num8 N).drop (8 - m)) ∧ Hid (Below w.heap.size w wr))
  case atStart => exact ⟨0, ⟨#[]⟩, rfl, rfl, rfl, by rw [Nat.pow_zero, Nat.div_one], Lib.hid (by rw [List.drop_of_length_le (by rw [num8_len]; decide)]), Lib.hid (Below.refl _ _)⟩
  case round =>
    obtain ⟨m, X, hm, rfl, rfl, rfl, HX, HW⟩ := hrel
    by_cases hlt : m < 8
    · have i1 : (m : Int) < 8 := by omega
      obtain ⟨x, hx⟩ : ∃ x, N / 256 ^ m = x := ⟨_, rfl⟩
      have HXX : Hid (N / 256 ^ (m + 1) = x / 256) := Lib.hid (by rw [Nat.pow_succ, ← Nat.div_div_eq_div_mul, hx])
      have hx6 : x < 18446744073709551616 := by rw [← hx]; exact Nat.lt_of_le_of_lt (Nat.div_le_self _ _) HN.out
      obtain ⟨b9, hb9⟩ : ∃ b9, UInt8.ofNat x = b9 := ⟨_, rfl⟩
      have HB9 : Hid (Value.int .u8 ((x : Int) % 256) = byV b9) := Lib.hid (by rw [ofNat_byV, hb9])
      have cv : (convert 41 9 (.slice (some ⟨wr.heap.size, 0, none⟩) 1 1)).run Tryz.prog (wr.alloc (.cells #[.int .u8 ((x : Int) % 256)] 5)) = .ok (.string ⟨#[b9]⟩) (wr.alloc (.cells #[.int .u8 ((x : Int) % 256)] 5)) := by
        rw [HB9.out]
        exact conv_new wr 5 1 1 [b9] rfl
      have HX2 : Hid (((⟨#[b9]⟩ : ByteArray) ++ X).data.toList = (num8 N).drop (8 - (m + 1))) := Lib.hid (by
        rw [app_data, HX.out, num8_drop N m hlt, hx, hb9]
        rfl)
      have q2 : 1 + X.size ≤ 9223372036854775807 := by
        have h1 := congrArg List.length HX.out
        rw [data_size, List.length_drop, num8_len] at h1
        omega
      rw [hx]
      have HE : Hid (((x : Nat) : Int) / 256 = ((N / 256 ^ (m + 1) : Nat) : Int)) := Lib.hid (by rw [HXX.out]; rfl)
      clear hx hb9
      go_wp2
      go_roundg (8 - (m + 1))
      case rel => exact ⟨m + 1, _, by omega, by go_num, rfl, by rw [HE.out], HX2, by (repeat (first | exact Below.refl _ _ | assumption | (refine bdrew ?_) | (refine bdrewN ?_ _) | (refine balloc ?_ _) | (refine bset ?_ (by first | omega | (simp; done) | (simp; omega)) _) | (refine bnext ?_ (by assumption))))⟩
      case measure => omega
    · obtain rfl : m = 8 := by omega
      have i1 : ¬ ((8 : Nat) : Int) < 8 := by decide
      have HF : Hid (X = num8S N) := Lib.hid (ba_eq (by rw [HX.out]; rfl))
      go_wp2
      go_ret
      exact ⟨by rw [HF.out]; rfl, HW.out⟩
end Go.Proofs.YtpobhbdomldecaaGreatDoor
namespace Go.Proofs.YtpobhbdomldecaaGreatDoor
open Go.RowKit
set_option linter.unusedSimpArgs false
set_option linter.unusedVariables false
set_option maxRecDepth 100000 in
set_option maxHeartbeats 4000000 in
theorem rframe_any (tag : ByteArray) (parts : List ByteArray) (a : Option Addr) (cap : Nat) (w : World) (h1 : 1 ≤ tag.size) (h2 : tag.size ≤ 16) (hp : Txts w a parts) (hs : (partsL parts).length ≤ 140737488355300) :
    Calls Tryz.prog 136 #[.string tag, .slice a (len parts) cap] w fun e w' => e = .returned (.string (frameS tag parts)) ∧ Below w.heap.size w w' := by
  have HP := Lib.hid hp
  have HS := Lib.hid hs
  have HT2 := Lib.hid h2
  have HPL : Hid (len parts ≤ 140737488355300) := Lib.hid (by have := partsL_ge parts; rw [len_eq]; omega)
  have t1 : ¬ (tag.size : Int) < 1 := by omega
  have t2 : ¬ (16 : Int) < (tag.size : Int) := by omega
  have t3 : IntKind.u8.wrap ((tag.size : Nat) : Int) = ((tag.size : Nat) : Int) := IntWalk.u8_in _ (by omega)
  have t4 : 1 + tag.size ≤ 9223372036854775807 := by omega
  have HB9 : Hid (Value.int .u8 ((tag.size : Nat) : Int) = byV (UInt8.ofNat tag.size)) := Lib.hid (by
    unfold byV
    rw [UInt8.toNat_ofNat', Nat.mod_eq_of_lt (by omega)])
  have cv : (convert 41 9 (.slice (some ⟨w.heap.size, 0, none⟩) 1 1)).run Tryz.prog (w.alloc (.cells #[.int .u8 ((tag.size : Nat) : Int)] 5)) = .ok (.string ⟨#[UInt8.ofNat tag.size]⟩) (w.alloc (.cells #[.int .u8 ((tag.size : Nat) : Int)] 5)) := by
    rw [HB9.out]
    exact conv_new w 5 1 1 [UInt8.ofNat tag.size] rfl
  clear hp hs h1 h2
  go_enter Tryz.func136, Tryz.ntmps136
  go_upto_region 5 with fail
  obtain ⟨X0, hX0⟩ : ∃ X0, (⟨#[UInt8.ofNat tag.size]⟩ : ByteArray) ++ tag = X0 := ⟨_, rfl⟩
  rw [hX0]
  have HX0 : Hid (X0.data.toList = headL tag ++ partsL (parts.take 0)) := Lib.hid (by rw [← hX0, app_data, List.take_zero, show partsL [] = [] from rfl, List.append_nil]; rfl)
  have HW0 : Hid (Below w.heap.size w (w.alloc (.cells #[.int .u8 ((tag.size : Nat) : Int)] 5))) := Lib.hid (balloc (Below.refl _ _) _)
  clear hX0 t1 t2 t3 t4 cv
  go_loopg [6, 5] (len parts) (fun g i x wr => ∃ (m : Nat) (X : ByteArray), g + m = len parts ∧ i = .int .i64 m ∧ x = .string X ∧ Hid (X.data.toList = headL tag ++ partsL (parts.take m)) ∧ Hid (Below w.heap.size w wr))
  case atStart => exact ⟨0, X0, rfl, rfl, rfl, HX0, HW0⟩
  case round =>
    clear HX0 HW0
    obtain ⟨m, X, hm, rfl, rfl, HX, HW⟩ := hrel
    have HPB := HPL.out
    by_cases hlt : m < len parts
    · have b0 : (m : Int) < len parts := by omega
      obtain ⟨pb, po, rfl, cs⟩ := (HP.out.below HW.out) m hlt
      obtain ⟨p, hx⟩ : ∃ p, tth parts m = p := ⟨_, rfl⟩
      rw [hx] at cs
      have hsz : X.size + (8 + p.size) ≤ 140737488355328 := by
        have h1 := congrArg List.length HX.out
        rw [data_size, List.length_append, headL_len] at h1
        have h2 := partsL_le parts (m + 1)
        rw [partsL_snoc _ _ hlt, List.length_append, hx, partL_len] at h2
        have := HS.out
        have := HT2.out
        omega
      have bl : ¬ len parts ≤ m := by omega
      have u1 : IntKind.u64.wrap ((p.size : Nat) : Int) = ((p.size : Nat) : Int) := IntWalk.u64_in _ (by omega)
      have q1 : X.size + (num8S p.size).size ≤ 9223372036854775807 := by rw [num8S_size]; omega
      have q2 : X.size + (num8S p.size).size + p.size ≤ 9223372036854775807 := by rw [num8S_size]; omega
      have HNM := Lib.hid (fun w9 => rnum_any p.size w9 (by omega))
      have HX2 : Hid (((X ++ num8S p.size) ++ p).data.toList = headL tag ++ partsL (parts.take (m + 1))) := Lib.hid (by
        rw [app_data, app_data, HX.out, partsL_snoc _ _ hlt, hx]
        unfold partL
        simp only [List.append_assoc]
        rfl)
      clear hx hsz
      go_upto_region 7 with fail
      refine wp_region_tail 14 1000 (none) (phis [fun u _ => u = (.string X), fun u _ => u = (.slice (some ⟨pb, po, none⟩) (len parts) cap), fun u _ => u = (.int .i64 (m : Nat)), fun u _ => u = (.pointer (some ⟨pb, po + m, none⟩)), fun u _ => u = (.string p), fun u _ => u = (.int .i64 (p.size : Nat)), fun u _ => u = (.int .u64 (p.size : Nat)), fun u _ => u = (.string (num8S p.size)), fun u _ => u = (.string (X ++ num8S p.size)), fun u _ => u = (.slice (some ⟨pb, po, none⟩) (len parts) cap), fun u _ => u = (.int .i64 (m : Nat)), fun u _ => u = (.pointer (some ⟨pb, po + m, none⟩)), fun u _ => u = (.string p), fun u _ => u = (.string ((X ++ num8S p.size) ++ p))]) rfl (by kernel_rfl) (by kernel_rfl) (mono_of ⟨mono_eq, mono_eq, mono_eq, mono_eq, mono_eq, mono_eq, mono_eq, mono_eq, mono_eq, mono_eq, mono_eq, mono_eq, mono_eq, mono_eq, trivial⟩) (steps_of 14 ⟨?s0, ?s1, ?s2, ?s3, ?s4, ?s5, ?s6, ?s7, ?s8, ?s9, ?s10, ?s11, ?s12, ?s13, trivial⟩) ?_
      case s0 =>
        refine step_val (v := (.string X)) (fun av wv hE hS hO hD => ?_) (fun _ => rfl)
        have h5 : av.eval (.tmp 5) = (.string X) := hO.2.2 5 rfl
        have f5 := (ev_form av 5).symm.trans h5
        refine ⟨rfl, ?_⟩
        simp [go_sem, f5, bl, u1, q1, q2]
      case s1 =>
        refine step_val (v := (.slice (some ⟨pb, po, none⟩) (len parts) cap)) (fun av wv hE hS hO hD => ?_) (fun _ => rfl)
        have h1 : av.eval (.tmp 1) = (.slice (some ⟨pb, po, none⟩) (len parts) cap) := hO.2.2 1 rfl
        have f1 := (ev_form av 1).symm.trans h1
        refine ⟨rfl, ?_⟩
        simp [go_sem, f1, bl, u1, q1, q2]
      case s2 =>
        refine step_val (v := (.int .i64 (m : Nat))) (fun av wv hE hS hO hD => ?_) (fun _ => rfl)
        have h6 : av.eval (.tmp 6) = (.int .i64 (m : Nat)) := hO.2.2 6 rfl
        have f6 := (ev_form av 6).symm.trans h6
        refine ⟨rfl, ?_⟩
        simp [go_sem, f6, bl, u1, q1, q2]
      case s3 =>
        refine step_val (v := (.pointer (some ⟨pb, po + m, none⟩))) (fun av wv hE hS hO hD => ?_) (fun _ => rfl)
        have d29 : av.eval (.tmp 29) = (.slice (some ⟨pb, po, none⟩) (len parts) cap) := hD.1 rfl _ rfl
        have f29 := (ev_form av 29).symm.trans d29
        have d30 : av.eval (.tmp 30) = (.int .i64 (m : Nat)) := hD.2.1 rfl _ rfl
        have f30 := (ev_form av 30).symm.trans d30
        refine ⟨rfl, ?_⟩
        simp [go_sem, f29, f30, bl, u1, q1, q2]
      case s4 =>
        refine step_val (v := (.string p)) (fun av wv hE hS hO hD => ?_) (fun _ => rfl)
        have d31 : av.eval (.tmp 31) = (.pointer (some ⟨pb, po + m, none⟩)) := hD.1 rfl _ rfl
        have f31 := (ev_form av 31).symm.trans d31
        have cs := extB_cell hE (by simp) cs
        refine ⟨rfl, ?_⟩
        simp [go_sem, f31, cs, bl, u1, q1, q2]
      case s5 =>
        refine step_val (v := (.int .i64 (p.size : Nat))) (fun av wv hE hS hO hD => ?_) (fun _ => rfl)
        have d32 : av.eval (.tmp 32) = (.string p) := hD.1 rfl _ rfl
        have f32 := (ev_form av 32).symm.trans d32
        refine ⟨rfl, ?_⟩
        simp [go_sem, f32, bl, u1, q1, q2]
      case s6 =>
        refine step_val (v := (.int .u64 (p.size : Nat))) (fun av wv hE hS hO hD => ?_) (fun _ => rfl)
        have d33 : av.eval (.tmp 33) = (.int .i64 (p.size : Nat)) := hD.1 rfl _ rfl
        have f33 := (ev_form av 33).symm.trans d33
        refine ⟨rfl, ?_⟩
        simp [go_sem, f33, bl, u1, q1, q2]
      case s7 =>
        refine step_wp (fun av wv hE hS hO hD => ?_)
        have d34 : av.eval (.tmp 34) = (.int .u64 (p.size : Nat)) := hD.1 rfl _ rfl
        have f34 := (ev_form av 34).symm.trans d34
        refine ⟨rfl, ?_⟩
        refine wp_of_call (v := .string (num8S p.size)) (by simp [go_sem, f34]) (HNM.out wv) (fun w2 hb => ⟨_, rfl, es_of_ext hb, rfl⟩)
      case s8 =>
        refine step_val (v := (.string (X ++ num8S p.size))) (fun av wv hE hS hO hD => ?_) (fun _ => rfl)
        have d28 : av.eval (.tmp 28) = (.string X) := hD.1 rfl _ rfl
        have f28 := (ev_form av 28).symm.trans d28
        have d35 : av.eval (.tmp 35) = (.string (num8S p.size)) := hD.2.1 rfl _ rfl
        have f35 := (ev_form av 35).symm.trans d35
        refine ⟨rfl, ?_⟩
        simp [go_sem, f28, f35, bl, u1, q1, q2]
      case s9 =>
        refine step_val (v := (.slice (some ⟨pb, po, none⟩) (len parts) cap)) (fun av wv hE hS hO hD => ?_) (fun _ => rfl)
        have h1 : av.eval (.tmp 1) = (.slice (some ⟨pb, po, none⟩) (len parts) cap) := hO.2.2 1 rfl
        have f1 := (ev_form av 1).symm.trans h1
        refine ⟨rfl, ?_⟩
        simp [go_sem, f1, bl, u1, q1, q2]
      case s10 =>
        refine step_val (v := (.int .i64 (m : Nat))) (fun av wv hE hS hO hD => ?_) (fun _ => rfl)
        have h6 : av.eval (.tmp 6) = (.int .i64 (m : Nat)) := hO.2.2 6 rfl
        have f6 := (ev_form av 6).symm.trans h6
        refine ⟨rfl, ?_⟩
        simp [go_sem, f6, bl, u1, q1, q2]
      case s11 =>
        refine step_val (v := (.pointer (some ⟨pb, po + m, none⟩))) (fun av wv hE hS hO hD => ?_) (fun _ => rfl)
        have d37 : av.eval (.tmp 37) = (.slice (some ⟨pb, po, none⟩) (len parts) cap) := hD.1 rfl _ rfl
        have f37 := (ev_form av 37).symm.trans d37
        have d38 : av.eval (.tmp 38) = (.int .i64 (m : Nat)) := hD.2.1 rfl _ rfl
        have f38 := (ev_form av 38).symm.trans d38
        refine ⟨rfl, ?_⟩
        simp [go_sem, f37, f38, bl, u1, q1, q2]
      case s12 =>
        refine step_val (v := (.string p)) (fun av wv hE hS hO hD => ?_) (fun _ => rfl)
        have d39 : av.eval (.tmp 39) = (.pointer (some ⟨pb, po + m, none⟩)) := hD.1 rfl _ rfl
        have f39 := (ev_form av 39).symm.trans d39
        have cs := extB_cell hE (by simp) cs
        refine ⟨rfl, ?_⟩
        simp [go_sem, f39, cs, bl, u1, q1, q2]
      case s13 =>
        refine step_val (v := (.string ((X ++ num8S p.size) ++ p))) (fun av wv hE hS hO hD => ?_) (fun _ => rfl)
        have d36 : av.eval (.tmp 36) = (.string (X ++ num8S p.size)) := hD.1 rfl _ rfl
        have f36 := (ev_form av 36).symm.trans d36
        have d40 : av.eval (.tmp 40) = (.string p) := hD.2.1 rfl _ rfl
        have f40 := (ev_form av 40).symm.trans d40
        refine ⟨rfl, ?_⟩
        simp [go_sem, f36, f40, bl, u1, q1, q2]
      intro a' w' hE hO hall
      have hA := act_of_outer (ds := [28, 29, 30, 31, 32, 33, 34, 35, 36, 37, 38, 39, 40, 41]) rfl hO (by kernel_rfl)
      have e28 : (fun u _ => u = (.string X)) (a'.eval (.tmp 28)) w' := hall.1 _ rfl
      have e29 : (fun u _ => u = (.slice (some ⟨pb, po, none⟩) (len parts) cap)) (a'.eval (.tmp 29)) w' := hall.2.1 _ rfl
      have e30 : (fun u _ => u = (.int .i64 (m : Nat))) (a'.eval (.tmp 30)) w' := hall.2.2.1 _ rfl
      have e31 : (fun u _ => u = (.pointer (some ⟨pb, po + m, none⟩))) (a'.eval (.tmp 31)) w' := hall.2.2.2.1 _ rfl
      have e32 : (fun u _ => u = (.string p)) (a'.eval (.tmp 32)) w' := hall.2.2.2.2.1 _ rfl
      have e33 : (fun u _ => u = (.int .i64 (p.size : Nat))) (a'.eval (.tmp 33)) w' := hall.2.2.2.2.2.1 _ rfl
      have e34 : (fun u _ => u = (.int .u64 (p.size : Nat))) (a'.eval (.tmp 34)) w' := hall.2.2.2.2.2.2.1 _ rfl
      have e35 : (fun u _ => u = (.string (num8S p.size))) (a'.eval (.tmp 35)) w' := hall.2.2.2.2.2.2.2.1 _ rfl
      have e36 : (fun u _ => u = (.string (X ++ num8S p.size))) (a'.eval (.tmp 36)) w' := hall.2.2.2.2.2.2.2.2.1 _ rfl
      have e37 : (fun u _ => u = (.slice (some ⟨pb, po, none⟩) (len parts) cap)) (a'.eval (.tmp 37)) w' := hall.2.2.2.2.2.2.2.2.2.1 _ rfl
      have e38 : (fun u _ => u = (.int .i64 (m : Nat))) (a'.eval (.tmp 38)) w' := hall.2.2.2.2.2.2.2.2.2.2.1 _ rfl
      have e39 : (fun u _ => u = (.pointer (some ⟨pb, po + m, none⟩))) (a'.eval (.tmp 39)) w' := hall.2.2.2.2.2.2.2.2.2.2.2.1 _ rfl
      have e40 : (fun u _ => u = (.string p)) (a'.eval (.tmp 40)) w' := hall.2.2.2.2.2.2.2.2.2.2.2.2.1 _ rfl
      have e41 : (fun u _ => u = (.string ((X ++ num8S p.size) ++ p))) (a'.eval (.tmp 41)) w' := hall.2.2.2.2.2.2.2.2.2.2.2.2.2.1 _ rfl
      simp only [List.foldl_cons, List.foldl_nil, Act.put, List.setIfInBounds_toArray, List.set_cons_succ, List.set_cons_zero, e28, e29, e30, e31, e32, e33, e34, e35, e36, e37, e38, e39, e40, e41] at hA
      clear hO hall e28 e29 e30 e31 e32 e33 e34 e35 e36 e37 e38 e39 e40 e41
      subst hA
      have HW2 : Hid (Below w.heap.size w w') := Lib.hid (bnext HW.out (of_drew hE))
      clear hE cs bl u1 q1 q2
      go_wp2
      go_roundg (len parts - (m + 1))
      case rel => exact ⟨m + 1, _, by omega, by go_num, rfl, HX2, HW2⟩
      case measure => omega
    · obtain rfl : m = len parts := by omega
      have b0 : ¬ ((len parts : Nat) : Int) < len parts := by omega
      have HF : Hid (X = frameS tag parts) := Lib.hid (ba_eq (by rw [HX.out, take_len]; rfl))
      go_wp2
      go_ret
      exact ⟨by rw [HF.out]; rfl, HW.out⟩
end Go.Proofs.YtpobhbdomldecaaGreatDoor
namespace Go.Proofs.YtpobhbdomldecaaGreatDoor
open Go.RowKit
set_option linter.unusedSimpArgs false
set_option linter.unusedVariables false
set_option maxRecDepth 100000 in
set_option maxHeartbeats 4000000 in
theorem rhash_any (tag : ByteArray) (parts : List ByteArray) (a : Option Addr) (cap : Nat) (w : World) (h1 : 1 ≤ tag.size) (h2 : tag.size ≤ 16) (hp : Txts w a parts) (hs : (partsL parts).length ≤ 140737488355300) :
    Calls Tryz.prog 81 #[.string tag, .slice a (len parts) cap] w fun e w' => e = .returned (.string (hashP tag parts)) ∧ Below w.heap.size w w' := by
  have HF := Lib.hid (rframe_any tag parts a cap w h1 h2 hp hs)
  have HS : Hid (1 ≤ (frameS tag parts).size ∧ (frameS tag parts).size ≤ 140737488355328) := Lib.hid (by rw [frameS_size]; omega)
  clear h1 h2 hp hs
  go_enter Tryz.func81, Tryz.ntmps81
  go_wp2_with fail
  refine HF.out.mono ?_
  rintro e w1 ⟨rfl, hb1⟩
  have HB1 := Lib.hid hb1
  have t1 : (frameS tag parts).toList.isEmpty = false := fullT (by have := HS.out; omega)
  clear hb1
  go_wp2_with fail
  refine (rsum_any (frameS tag parts) w1 (by have := HS.out; omega)).mono ?_
  rintro e w2 ⟨rfl, hb2⟩
  have HB2 : Hid (Below w.heap.size w w2) := Lib.hid (bnext HB1.out hb2)
  clear hb2
  go_wp2
  go_ret
  exact ⟨rfl, HB2.out⟩
theorem rhash0_any (tag : ByteArray) (w : World) (h1 : 1 ≤ tag.size) (h2 : tag.size ≤ 16) : Calls Tryz.prog 81 #[.string tag, .slice none 0 0] w fun e w' => e = .returned (.string (hashP tag [])) ∧ Below w.heap.size w w' :=
  rhash_any tag [] none 0 w h1 h2 (Txts.nil _ _) (by decide)
theorem txts_rcells {w : World} {b : Nat} {t : TypeId} (l : List ByteArray) (h : w.heap[b]? = some (.cells (l.map Value.string).toArray t (0, 0))) : Txts w (some ⟨b, 0, none⟩) l := fun i hi => ⟨b, 0, rfl, by
  have h2 : i < l.length := hi
  rw [block_cell h, Nat.zero_add, List.getElem?_toArray, List.getElem?_map, List.getElem?_eq_getElem h2, tth_eq l i hi]
  rfl⟩
theorem rhash1_any (tag s : ByteArray) (w : World) (h1 : 1 ≤ tag.size) (h2 : tag.size ≤ 16) (hs : s.size ≤ 140737488355200) : Calls Tryz.prog 81 #[.string tag, .slice (some ⟨w.heap.size, 0, none⟩) 1 1] (w.alloc (.cells #[.string s] 9)) fun e w' => e = .returned (.string (hashP tag [s])) ∧ Below w.heap.size w w' := by
  have hw1 : Txts (w.alloc (.cells #[.string s] 9)) (some ⟨w.heap.size, 0, none⟩) [s] := txts_rcells [s] (heap_alloc_new _ _)
  refine (rhash_any tag [s] (some ⟨w.heap.size, 0, none⟩) 1 _ h1 h2 hw1 (by show ((partL s) ++ []).length ≤ _; rw [List.append_nil, partL_len]; omega)).mono ?_
  rintro e w2 ⟨rfl, hb2⟩
  exact ⟨rfl, bnext (balloc (Below.refl _ _) _) hb2⟩
theorem rhash2_any (tag s t : ByteArray) (w : World) (h1 : 1 ≤ tag.size) (h2 : tag.size ≤ 16) (hs : s.size ≤ 1000000) (ht : t.size ≤ 1000000) : Calls Tryz.prog 81 #[.string tag, .slice (some ⟨w.heap.size, 0, none⟩) 2 2] (w.alloc (.cells #[.string s, .string t] 9)) fun e w' => e = .returned (.string (hashP tag [s, t])) ∧ Below w.heap.size w w' := by
  have hw1 : Txts (w.alloc (.cells #[.string s, .string t] 9)) (some ⟨w.heap.size, 0, none⟩) [s, t] := txts_rcells [s, t] (heap_alloc_new _ _)
  refine (rhash_any tag [s, t] (some ⟨w.heap.size, 0, none⟩) 2 _ h1 h2 hw1 (by show ((partL s) ++ ((partL t) ++ [])).length ≤ _; rw [List.append_nil, List.length_append, partL_len, partL_len]; omega)).mono ?_
  rintro e w2 ⟨rfl, hb2⟩
  exact ⟨rfl, bnext (balloc (Below.refl _ _) _) hb2⟩
end Go.Proofs.YtpobhbdomldecaaGreatDoor
namespace Go.Proofs.YtpobhbdomldecaaGreatDoor
open Go.RowKit Go.ChangeMaps
set_option linter.unusedSimpArgs false
set_option linter.unusedVariables false
structure KlAt (B : Nat) (v : Value) (KL : List Plc) (w : World) : Prop where
  own : w.ownsRow B 279 2 v (len KL) (KL.flatMap Plc.cells)
  ok : ∀ x ∈ KL, 0 ≤ x.K ∧ x.K < 65536 ∧ x.d.size ≤ 1000
theorem KlAt.nil (B : Nat) (w : World) : KlAt B (.slice none 0 0) [] w := ⟨World.ownsRow_nil _ _ _ _, fun x h => by simp at h⟩
theorem KlAt.below {B : Nat} {v : Value} {KL : List Plc} {w w' : World} (h : KlAt B v KL w) (hb : Below w.heap.size w w') : KlAt B v KL w' := ⟨own_below h.own hb, h.ok⟩
end Go.Proofs.YtpobhbdomldecaaGreatDoor
namespace Go.Proofs.YtpobhbdomldecaaGreatDoor
open Go.RowKit
set_option linter.unusedSimpArgs false
set_option linter.unusedVariables false
structure PrIn (ps : List Int) (es ds : List ByteArray) (pa ea da : Option Addr) (dc : Nat) (w : World) : Prop where
  p : U64s w pa ps
  e : Txts w ea es
  d : Txts w da ds
  pl : len ps ≤ 100
  pu : ∀ k ∈ ps, U64 k
  el : len es ≤ 1000000
  dl : len ds ≤ 1000000
  dc_ : len ds ≤ dc
  ez : ∀ i, i < len es → (tth es i).size ≤ 1000000
theorem PrIn.below {ps : List Int} {es ds : List ByteArray} {pa ea da : Option Addr} {dc : Nat} {w w' : World} (h : PrIn ps es ds pa ea da dc w) (hb : Below w.heap.size w w') : PrIn ps es ds pa ea da dc w' :=
  ⟨h.p.below hb, h.e.below hb, h.d.below hb, h.pl, h.pu, h.el, h.dl, h.dc_, h.ez⟩
end Go.Proofs.YtpobhbdomldecaaGreatDoor
namespace Go.Proofs.YtpobhbdomldecaaGreatDoor
open Go.RowKit
set_option linter.unusedSimpArgs false
set_option linter.unusedVariables false
def treeR (l : List ByteArray) : ByteArray := plD l (depN l) (depN l) 0
theorem own_capP {w : World} {base n c : Nat} {a : Option Addr} {xs : List Value} {m : Nat} (h : w.ownsRow base 9 1 (.slice a m c) n xs) : m ≤ c ∧ (a = none → c = 0) := by
  rcases h.2 with ⟨e, _⟩ | ⟨g, cap, cur, e, _, _, h3, _⟩
  · injection e with e1 e2 e3; exact ⟨by omega, fun _ => e3⟩
  · injection e with e1 e2 e3; exact ⟨by omega, fun e9 => by rw [e9] at e1; cases e1⟩
def TextsAre (L : List ByteArray) (v : Value) (w : World) : Prop := ∃ a c, v = .slice a (len L) c ∧ Txts w a L ∧ len L ≤ c ∧ (a = none → c = 0)
theorem TextsAre.below {L : List ByteArray} {v : Value} {w w' : World} (h : TextsAre L v w) (hb : Below w.heap.size w w') : TextsAre L v w' := by
  obtain ⟨a, c, h1, h2, h3, h4⟩ := h
  exact ⟨a, c, h1, h2.below hb, h3, h4⟩
theorem TextsAre.nil (w : World) : TextsAre [] (.slice none 0 0) w := ⟨none, 0, rfl, Txts.nil _ _, Nat.le_refl _, fun _ => rfl⟩
theorem TextsAre.own {w : World} {base n : Nat} {v : Value} {L : List ByteArray} (h : w.ownsRow base 9 1 v n (L.map Value.string)) : TextsAre L v w := by
  obtain ⟨a, c, rfl, ht⟩ := own_txts h
  obtain ⟨h1, h2⟩ := own_capP h
  exact ⟨a, c, rfl, ht, h1, h2⟩
end Go.Proofs.YtpobhbdomldecaaGreatDoor
namespace Go.Proofs.YtpobhbdomldecaaGreatDoor
set_option linter.unusedSimpArgs false
set_option linter.unusedVariables false
open Go.RowKit
structure URow where
  lo : Int
  hi : Int
  size : Int
  least : Int
abbrev URow.val (r : URow) : Value := .agg #[.int .u8 r.lo, .int .u8 r.hi, .int .i64 r.size, .int .u64 r.least]
def URow.cells (r : URow) : List Value := [.int .u8 r.lo, .int .u8 r.hi, .int .i64 r.size, .int .u64 r.least]
theorem URow.cells_len (r : URow) : r.cells.length = 4 := rfl
theorem URow.cells_one (r : URow) : ∀ u ∈ r.cells, u.oneCell' = true := by intro u hu; simp only [URow.cells, List.mem_cons, List.not_mem_nil, or_false] at hu; rcases hu with rfl | rfl | rfl | rfl <;> rfl
def URow.zero : URow := ⟨0, 0, 0, 0⟩
def unth (l : List URow) (i : Nat) : URow := l.getD i URow.zero
theorem unth_eq (l : List URow) (i : Nat) (h : i < l.length) : unth l i = l[i] := by unfold unth; rw [List.getD_eq_getElem?_getD, List.getElem?_eq_getElem h]; rfl
structure URowAt (w : World) (b o : Nat) (r : URow) : Prop where
  c0 : w.cell? ⟨b, o, none⟩ = some (.int .u8 r.lo)
  c1 : w.cell? ⟨b, o + 1, none⟩ = some (.int .u8 r.hi)
  c2 : w.cell? ⟨b, o + 2, none⟩ = some (.int .i64 r.size)
  c3 : w.cell? ⟨b, o + 3, none⟩ = some (.int .u64 r.least)
theorem URowAt.below {w w' : World} {b o : Nat} {r : URow} (h : URowAt w b o r) (hb : Below w.heap.size w w') : URowAt w' b o r := by
  have hl := lt_of_cell h.c0
  have e : ∀ q, w'.cell? ⟨b, q, none⟩ = w.cell? ⟨b, q, none⟩ := fun q => hb.cell (p := ⟨b, q, none⟩) hl
  obtain ⟨c0, c1, c2, c3⟩ := h
  constructor <;> (rw [e]; assumption)
def URows (w : World) (a : Option Addr) (l : List URow) : Prop := ∀ i, i < len l → ∃ b off, a = some ⟨b, off, none⟩ ∧ URowAt w b (off + i * 4) (unth l i)
theorem URows.nil (w : World) (a : Option Addr) : URows w a [] := fun i hi => absurd hi (by simp [len])
theorem URows.below {w w' : World} {a : Option Addr} {l : List URow} (h : URows w a l) (hb : Below w.heap.size w w') : URows w' a l := fun i hi => by
  obtain ⟨b, off, rfl, hc⟩ := h i hi
  exact ⟨b, off, rfl, hc.below hb⟩
theorem URows.drew {w w' : World} {a : Option Addr} {l : List URow} (h : URows w a l) (hb : Drew w w') : URows w' a l := h.below (hb.below _)
theorem URows.take {w : World} {a : Option Addr} {l : List URow} (h : URows w a l) (k : Nat) : URows w a (l.take k) := fun i hi => by
  have hi2 : i < l.length ∧ i < k := by simp only [len, List.length_take] at hi; omega
  have hi3 : i < (l.take k).length := hi
  have e : unth (l.take k) i = unth l i := by rw [unth_eq l i hi2.1, unth_eq _ i hi3, List.getElem_take]
  rw [e]; exact h i hi2.1
theorem URows.drop {w : World} {b off : Nat} {l : List URow} (h : URows w (some ⟨b, off, none⟩) l) (k : Nat) : URows w (some ⟨b, off + k * 4, none⟩) (l.drop k) := fun i hi => by
  have hi2 : k + i < l.length := by simp only [len, List.length_drop] at hi; omega
  have hi3 : i < (l.drop k).length := hi
  have e : unth (l.drop k) i = unth l (k + i) := by rw [unth_eq l _ hi2, unth_eq _ i hi3, List.getElem_drop]
  obtain ⟨b', off', e2, hc⟩ := h (k + i) hi2
  cases e2
  exact ⟨b, _, rfl, by rw [e, show off + k * 4 + i * 4 = off + (k + i) * 4 by omega]; exact hc⟩
theorem URows.own {w : World} {base e n : Nat} {v : Value} {l : List URow} (h : w.ownsRow base e 4 v n (l.flatMap URow.cells)) : ∃ a cap, v = .slice a (len l) cap ∧ URows w a l ∧ len l ≤ cap := by
  have hn : len l = n := by have := h.1; rw [flat_length URow.cells 4 URow.cells_len] at this; rw [len_eq]; omega
  obtain ⟨h1, h2⟩ := h
  rcases h2 with ⟨rfl, h2⟩ | ⟨g, cap, cur, rfl, hg, hh, hc1, hc2, hc3, hc4⟩
  · obtain rfl : l = [] := List.eq_nil_of_length_eq_zero (by rw [← len_eq]; omega)
    exact ⟨none, 0, rfl, URows.nil _ _, Nat.le_refl _⟩
  · refine ⟨some ⟨g, 0, none⟩, cap, by rw [hn], fun i hi => ⟨g, 0, rfl, ?_⟩, by omega⟩
    have hown : w.ownsRow base e 4 (.slice (some ⟨g, 0, none⟩) n cap) n (l.flatMap URow.cells) := ⟨h1, .inr ⟨g, cap, cur, rfl, hg, hh, hc1, hc2, hc3, hc4⟩⟩
    have key : ∀ r, r < 4 → w.cell? ⟨g, 0 + i * 4 + r, none⟩ = (unth l i).cells[r]? := fun r hr => by
      have := hown.cellAt (i * 4 + r) (by rw [← hn]; omega)
      rw [Nat.zero_add, this, flat_get URow.cells 4 URow.cells_len l i r hi hr, unth_eq l i hi]
    exact ⟨key 0 (by decide), key 1 (by decide), key 2 (by decide), key 3 (by decide)⟩
theorem URows.block {w : World} {g : Nat} {l : List URow} {t : TypeId} {fr : Nat × Nat} (h : w.heap[g]? = some (.cells (l.flatMap URow.cells).toArray t fr)) : URows w (some ⟨g, 0, none⟩) l := fun i hi => ⟨g, 0, rfl, by
  have key : ∀ r, r < 4 → w.cell? ⟨g, 0 + i * 4 + r, none⟩ = (unth l i).cells[r]? := fun r hr => by
    rw [Nat.zero_add, block_cell h, List.getElem?_toArray, flat_get URow.cells 4 URow.cells_len l i r hi hr, unth_eq l i hi]
  exact ⟨key 0 (by decide), key 1 (by decide), key 2 (by decide), key 3 (by decide)⟩⟩
structure URow.Ok (r : URow) : Prop where
  lo0 : 0 ≤ r.lo
  hi1 : r.hi ≤ 255
  sz0 : 0 ≤ r.size
  sz1 : r.size ≤ 8
  le0 : 0 ≤ r.least
  le1 : r.least ≤ 4294967296
end Go.Proofs.YtpobhbdomldecaaGreatDoor
namespace Go.Proofs.YtpobhbdomldecaaGreatDoor
set_option linter.unusedSimpArgs false
set_option linter.unusedVariables false
open Go.RowKit
def RdB (w : World) (b : Nat) (s : ByteArray) (a most : Int) : Prop := w.heap[b]? = some (.cells #[.string s, .int .i64 a, .int .i64 most] 282 (0, 0))
theorem RdB.below {w w' : World} {b : Nat} {s : ByteArray} {a most : Int} (h : RdB w b s a most) (hb : Below w.heap.size w w') : RdB w' b s a most := (hb.block _ (lt_of_block h)).trans h
end Go.Proofs.YtpobhbdomldecaaGreatDoor
namespace Go.Proofs.YtpobhbdomldecaaGreatDoor
set_option linter.unusedSimpArgs false
set_option linter.unusedVariables false
open Go.RowKit
def numsL : List URow := [⟨0, 127, 0, 0⟩, ⟨204, 204, 1, 128⟩, ⟨205, 205, 2, 256⟩, ⟨206, 206, 4, 65536⟩, ⟨207, 207, 8, 4294967296⟩]
def binsL : List URow := [⟨196, 196, 1, 0⟩, ⟨197, 197, 2, 256⟩]
def strsL : List URow := [⟨160, 191, 0, 0⟩, ⟨217, 217, 1, 32⟩, ⟨218, 218, 2, 256⟩]
def pairsL : List URow := [⟨128, 143, 0, 0⟩, ⟨222, 222, 2, 16⟩]
def TabAt (B : Nat) (w : World) (g : Nat) (l : List URow) : Prop := ∃ tb tq rc, g < B ∧ tb < B ∧ B ≤ w.heap.size ∧ w.cell? ⟨g, 0, none⟩ = some (.slice (some ⟨tb, tq, none⟩) (len l) rc) ∧ URows w (some ⟨tb, tq, none⟩) l
theorem TabAt.ext {B : Nat} {w w' : World} {g b : Nat} {l : List URow} (h : TabAt B w g l) (hE : ExtB (some b) w w') (hb : B ≤ b) : TabAt B w' g l := by
  obtain ⟨tb, tq, rc, h1, h2, h5, h3, h4⟩ := h
  have e : ∀ x o, x < B → w'.cell? ⟨x, o, none⟩ = w.cell? ⟨x, o, none⟩ := fun x o hx => World.cell?_of_block (w := w) (hE.block x (by omega) (by intro e; cases e; omega))
  refine ⟨tb, tq, rc, h1, h2, Nat.le_trans h5 hE.size, by rw [e g 0 h1]; exact h3, fun i hi => ?_⟩
  obtain ⟨b', off', e2, ⟨c0, c1, c2, c3⟩⟩ := h4 i hi
  cases e2
  exact ⟨tb, tq, rfl, by rw [e tb _ h2]; exact c0, by rw [e tb _ h2]; exact c1, by rw [e tb _ h2]; exact c2, by rw [e tb _ h2]; exact c3⟩
theorem below_extB {w w' : World} (h : Below w.heap.size w w') (b : Nat) : ExtB (some b) w w' := ⟨h.os, h.tape, h.output, h.size, fun i hi _ => h.block i hi⟩
theorem TabAt.below {B : Nat} {w w' : World} {g : Nat} {l : List URow} (h : TabAt B w g l) (hb : Below w.heap.size w w') : TabAt B w' g l := by
  obtain ⟨tb, tq, rc, h1, h2, h5, h3, h4⟩ := h
  exact TabAt.ext ⟨tb, tq, rc, h1, h2, h5, h3, h4⟩ (below_extB hb B) (Nat.le_refl _)
def ListsAt (B : Nat) (w : World) : Prop := True
theorem ListsAt.imp {B : Nat} {w w' : World} (h : ListsAt B w) (k : ∀ g l, TabAt B w g l → TabAt B w' g l) : ListsAt B w' := trivial
structure Tabs (B : Nat) (w : World) : Prop where
  nums : TabAt B w 0 numsL
  lists : ListsAt B w
  bins : TabAt B w 6 binsL
  strs : TabAt B w 2 strsL
  pairs : TabAt B w 1 pairsL
theorem Tabs.ext {B : Nat} {w w' : World} {b : Nat} (h : Tabs B w) (hE : ExtB (some b) w w') (hb : B ≤ b) : Tabs B w' := ⟨h.nums.ext hE hb, h.lists.imp (fun _ _ h => h.ext hE hb), h.bins.ext hE hb, h.strs.ext hE hb, h.pairs.ext hE hb⟩
theorem Tabs.below {B : Nat} {w w' : World} (h : Tabs B w) (hb : Below w.heap.size w w') : Tabs B w' := ⟨h.nums.below hb, h.lists.imp (fun _ _ h => h.below hb), h.bins.below hb, h.strs.below hb, h.pairs.below hb⟩
end Go.Proofs.YtpobhbdomldecaaGreatDoor
namespace Go.Proofs.YtpobhbdomldecaaGreatDoor
set_option linter.unusedSimpArgs false
set_option linter.unusedVariables false
open Go.RowKit Go.Extern.Stop Go.Stop Go.Extern
def ErrType (w : World) : Prop := w.cell? ⟨3, 0, none⟩ = some (.iface 349 (.agg #[.pointer (some ⟨Tryz.prog.globals.size, 89, none⟩)]))
end Go.Proofs.YtpobhbdomldecaaGreatDoor
namespace Go.Proofs.YtpobhbdomldecaaGreatDoor
set_option linter.unusedSimpArgs false
set_option linter.unusedVariables false
open Go.RowKit
def FltB (w : World) (f : Nat) (k : Int) (a : Nat) : Prop := w.heap[f]? = some (.cells #[.int .i64 k, .int .i64 a] 145 (0, 0))
theorem FltB.below {w w' : World} {f : Nat} {k : Int} {a : Nat} (h : FltB w f k a) (hb : Below w.heap.size w w') : FltB w' f k a := (hb.block _ (lt_of_block h)).trans h
theorem ErrType.below {w w' : World} (h : ErrType w) (hb : Below w.heap.size w w') : ErrType w' := by
  unfold ErrType at *
  rw [hb.cell (p := ⟨_, 0, none⟩) (lt_of_cell h)]; exact h
end Go.Proofs.YtpobhbdomldecaaGreatDoor
namespace Go.Proofs.YtpobhbdomldecaaGreatDoor
set_option linter.unusedSimpArgs false
open Go.RowKit
set_option linter.unusedVariables false
def EsV (VO : Nat → Option Nat) (X : Nat → World → World → Prop) (j : Nat) (w w' : World) : Prop := w.grownBy w' (VO j) ∧ X j w w'
structure ExtS (VO : Nat → Option Nat) (w w' : World) : Prop where
  os : w'.os = w.os
  tape : w'.tape = w.tape
  output : w'.output = w.output
  size : w.heap.size ≤ w'.heap.size
  block : ∀ k, k < w.heap.size → (∀ j, VO j ≠ some k) → w'.heap[k]? = w.heap[k]?
theorem ExtS.refl (VO : Nat → Option Nat) (w : World) : ExtS VO w w := ⟨rfl, rfl, rfl, Nat.le_refl _, fun _ _ _ => rfl⟩
theorem ExtS.step {VO : Nat → Option Nat} {X : Nat → World → World → Prop} {j : Nat} {a b c : World} (h : ExtS VO a b) (k' : EsV VO X j b c) : ExtS VO a c :=
  have k := k'.1
  ⟨k.os.trans h.os, k.tape.trans h.tape, k.output.trans h.output, Nat.le_trans h.size k.size, fun i hi hn => (k.block i (Nat.lt_of_lt_of_le hi h.size) (fun e => hn j e.symm)).trans (h.block i hi hn)⟩
structure Here (VO : Nat → Option Nat) (I : World → Prop) (ops : List Oper) (w0 w : World) (D : Nat → Prop) (i : Nat) : Prop where
  ext : ExtS VO w0 w
  inv : I w
  late : ∀ j, ¬ D j → ∀ b, VO j = some b → b < w0.heap.size → w.heap[b]? = w0.heap[b]?
  notyet : ∀ (j : Nat) oj, ops[j]? = some oj → ∀ e ∈ oj.after, Region.binds .any e = true → ¬ D e.on → ¬ D j
  me : ¬ D i
theorem Here.own {VO : Nat → Option Nat} {I : World → Prop} {ops : List Oper} {w0 w : World} {D : Nat → Prop} {i : Nat} (h : Here VO I ops w0 w D i) : ∀ b, VO i = some b → b < w0.heap.size → w.heap[b]? = w0.heap[b]? := h.late i h.me
section
variable (P : Program) (ops : List Oper) (a0 : Act) (w0 : World) (VO : Nat → Option Nat) (X : Nat → World → World → Prop) (I : World → Prop) (PR : Nat → Nat → Value → Value → World → Prop) (Φ : Nat → Value → World → Prop) (Q : Exit → Act → World → Prop)
def PairAt (D : Nat → Prop) (a : Act) (i : Nat) (v : Value) (w' : World) : Prop := ∀ j oj, ops[j]? = some oj → D j → j ≠ i → PR i j v (slotOf oj a) w' ∧ PR j i (slotOf oj a) v w'
structure RInvV (n : Nat) (listed : Array Bool) (a : Act) (w : World) : Prop where
  head : HeadInv .any ops.toArray n listed
  ext : ExtS VO w0 w
  inv : I w
  ext0 : ∀ i, listed.getD i true = false → ∀ b, VO i = some b → b < w0.heap.size → w.heap[b]? = w0.heap[b]?
  outer : Outer ops a0 n a
  done : ∀ (i : Nat) o, ops[i]? = some o → listed.getD i true = true → Φ i (slotOf o a) w
  pair : ∀ i j oi oj, ops[i]? = some oi → ops[j]? = some oj → listed.getD i true = true → listed.getD j true = true → i ≠ j → PR i j (slotOf oi a) (slotOf oj a) w
variable {P ops a0 w0 VO X I PR Φ Q}
theorem slotv_same {o : Oper} {i : Nat} {a : Act} {v : Value} (hB : regOk ops a0.tmps.size = true) (hs : a.tmps.size = a0.tmps.size) (ho : ops[i]? = some o) : slotOf o (a.put o.dst v) = valOf o v := by
  unfold slotOf valOf
  cases hd : o.dst with
  | none => rfl
  | some d =>
    have hdl : ∀ d ∈ dstsOf ops, d < a0.tmps.size := by
      unfold regOk at hB; simp only [Bool.and_eq_true] at hB
      intro d hd; simpa using List.all_eq_true.1 hB.2 d hd
    have hmem : d ∈ dstsOf ops := List.mem_filterMap.2 ⟨o, List.mem_of_getElem? ho, hd⟩
    exact eval_put_same (by rw [hs]; exact hdl d hmem)
theorem slot_other {o oj : Oper} {i j : Nat} {a : Act} {v : Value} (hB : regOk ops a0.tmps.size = true) (hij : i ≠ j) (ho : ops[i]? = some o) (hoj : ops[j]? = some oj) : slotOf oj (a.put o.dst v) = slotOf oj a := by
  have hnd : (dstsOf ops).Nodup := by unfold regOk at hB; simp only [Bool.and_eq_true, decide_eq_true_eq] at hB; exact hB.1.2
  unfold slotOf
  cases hdj : oj.dst with
  | none => rfl
  | some d =>
    cases hdo : o.dst with
    | none => rfl
    | some d' =>
      have hne : d ≠ d' := by
        rintro rfl
        exact dst_two hnd hij ho hoj hdo hdj
      exact eval_put_ne hne
theorem RInvV.next {n : Nat} (hB : regOk ops a0.tmps.size = true) (hVO : ∀ i j b, VO i = some b → VO j = some b → i = j)
    (hmono : ∀ i j v w w', i ≠ j → EsV VO X j w w' → Φ i v w → Φ i v w') (hI : ∀ j w w', EsV VO X j w w' → I w → I w') (hmonoP : ∀ i j k vi vj w w', k ≠ i → k ≠ j → EsV VO X k w w' → PR i j vi vj w → PR i j vi vj w') {listed : Array Bool} {a : Act} {w : World} (inv : RInvV ops a0 w0 VO I PR Φ n listed a w)
    {i : Nat} {o : Oper} (hi : i ∈ Region.ready .any ops.toArray listed) (hin : i < n) (ho' : ops[i]? = some o) {v : Value} {w' : World} (he : EsV VO X i w w') (hv : Φ i (valOf o v) w') (hpr : PairAt ops PR (fun j => listed.getD j true = true) a i (valOf o v) w') :
    RInvV ops a0 w0 VO I PR Φ n (listed.setIfInBounds i true) (a.put o.dst v) w' := by
  have hnd : (dstsOf ops).Nodup := by unfold regOk at hB; simp only [Bool.and_eq_true, decide_eq_true_eq] at hB; exact hB.1.2
  have hdl : ∀ d ∈ dstsOf ops, d < a0.tmps.size := by
    unfold regOk at hB; simp only [Bool.and_eq_true] at hB
    intro d hd; simpa using List.all_eq_true.1 hB.2 d hd
  refine ⟨inv.head.set hi hin, inv.ext.step he, hI _ _ _ he inv.inv, fun k hl b hb hlt => ?_, ?_, ?_, fun i1 j1 oi oj hoi hoj l1 l2 hne => ?_⟩
  · by_cases his : k = i
    · exfalso
      subst his
      obtain ⟨hun, o', ho, _⟩ := mem_ready.1 hi
      have hil : k < listed.size := by rw [inv.head.size]; exact (Array.getElem?_eq_some_iff.1 ho).1
      simp [hil] at hl
    · rw [getD_set_ne true (Ne.symm his)] at hl
      have h1 := inv.ext0 k hl b hb hlt
      rw [← h1]
      exact he.1.block b (Nat.lt_of_lt_of_le hlt inv.ext.size) (fun e => his (hVO k i b hb e.symm))
  · obtain ⟨h1, h2, h3⟩ := inv.outer
    cases hd : o.dst with
    | none => exact ⟨h1, h2, h3⟩
    | some d =>
      refine ⟨h1, by simp [Act.put, h2], fun t ht => ?_⟩
      have hmem : d ∈ dstsOf (ops.take n) := List.mem_filterMap.2 ⟨o, List.mem_of_getElem? (i := i) (by rw [List.getElem?_take, if_pos hin]; exact ho'), hd⟩
      rw [eval_put_ne (by rintro rfl; simp at ht; exact ht hmem)]; exact h3 t ht
  · intro j oj hoj hl
    by_cases hij : j = i
    · subst hij
      have : oj = o := Option.some.inj (hoj.symm.trans ho')
      subst this
      unfold slotOf
      unfold valOf at hv
      cases hd : oj.dst with
      | none => simpa [hd] using hv
      | some d =>
        simp only [hd] at hv
        have hmem : d ∈ dstsOf ops := List.mem_filterMap.2 ⟨oj, List.mem_of_getElem? ho', hd⟩
        simp only
        rw [eval_put_same (by rw [inv.outer.2.1]; exact hdl d hmem)]; exact hv
    · rw [getD_set_ne true (Ne.symm hij)] at hl
      have h1 := hmono j i _ w w' hij he (inv.done j oj hoj hl)
      unfold slotOf at h1 ⊢
      cases hdj : oj.dst with
      | none => first | exact h1 | simpa [hdj] using h1
      | some d =>
        try simp only [hdj] at h1 ⊢
        cases hdo : o.dst with
        | none => exact h1
        | some d' =>
          have hne : d ≠ d' := by
            rintro rfl
            exact dst_two hnd (Ne.symm hij) ho' hoj hdo hdj
          rw [eval_put_ne hne]; exact h1
  · by_cases h1 : i1 = i
    · subst h1
      have e : oi = o := Option.some.inj (hoi.symm.trans ho')
      subst e
      rw [slotv_same hB inv.outer.2.1 ho', slot_other hB hne ho' hoj]
      exact (hpr j1 oj hoj (by rwa [getD_set_ne true hne] at l2) (Ne.symm hne)).1
    · by_cases h2 : j1 = i
      · subst h2
        have e : oj = o := Option.some.inj (hoj.symm.trans ho')
        subst e
        rw [slotv_same hB inv.outer.2.1 ho', slot_other hB (Ne.symm hne) ho' hoi]
        exact (hpr i1 oi hoi (by rwa [getD_set_ne true (Ne.symm hne)] at l1) hne).2
      · rw [slot_other hB (Ne.symm h1) ho' hoi, slot_other hB (Ne.symm h2) ho' hoj]
        exact hmonoP i1 j1 i _ _ w w' (Ne.symm h1) (Ne.symm h2) he (inv.pair i1 j1 oi oj hoi hoj (by rwa [getD_set_ne true (Ne.symm h1)] at l1) (by rwa [getD_set_ne true (Ne.symm h2)] at l2) hne)
end
section
variable {P : Program} {Q : Exit → Act → World → Prop} {a : Act} {w : World} {l : List Oper} {VO : Nat → Option Nat} {X : Nat → World → World → Prop} {I : World → Prop} {PR : Nat → Nat → Value → Value → World → Prop} {Φ : Nat → Value → World → Prop}
end
section
variable {P : Program} {ops : List Oper} {a0 : Act} {w0 : World} {VO : Nat → Option Nat} {X : Nat → World → World → Prop} {I : World → Prop} {PR : Nat → Nat → Value → Value → World → Prop} {Φ : Nat → Value → World → Prop} {Q : Exit → Act → World → Prop} {hd : Nat} {i : Nat} {o : Oper}
end
end Go.Proofs.YtpobhbdomldecaaGreatDoor
namespace Go.Proofs.YtpobhbdomldecaaGreatDoor
open Go.RowKit
set_option linter.unusedSimpArgs false
set_option linter.unusedVariables false
structure RevD where
  pos : Int
  L : Int
  signed : Bool
  idx : Int
  ws : List ByteArray
  ps : List ByteArray
  root : ByteArray
  wt : Int
  first : Int
  life : Int
  keys : Int
inductive DV where
  | num (n : Int)
  | flag (q : Bool)
  | str (s : ByteArray)
  | strs (l : List ByteArray)
  | nums (l : List Int)
  | revs (l : List RevD)
abbrev Rcd := Nat → DV
def upd (x : Rcd) (o : Nat) (d : DV) : Rcd := fun i => if i = o then d else x i
theorem upd_at (x : Rcd) (o : Nat) (d : DV) : upd x o d o = d := if_pos rfl
theorem upd_ne {x : Rcd} {o i : Nat} {d : DV} (h : i ≠ o) : upd x o d i = x i := if_neg h
abbrev Flt := Int × Nat
structure GSpec where
  key : ByteArray
  must : Bool
  offs : List Nat
  empty : Rcd → Bool
  read : Rcd → Nat → Except Flt (Rcd × Nat)
def GSpec.zero : GSpec := ⟨ByteArray.empty, false, [], fun _ => true, fun x a => .ok (x, a)⟩
def gth (l : List GSpec) (i : Nat) : GSpec := l.getD i GSpec.zero
theorem gth_eq (l : List GSpec) (i : Nat) (h : i < l.length) : gth l i = l[i] := by unfold gth; rw [List.getD_eq_getElem?_getD, List.getElem?_eq_getElem h]; rfl
def DV.n : DV → Int | .num n => n | _ => 0
def DV.q : DV → Bool | .flag q => q | _ => false
def DV.s : DV → ByteArray | .str s => s | _ => ByteArray.empty
def DV.l : DV → List ByteArray | .strs l => l | _ => []
def DV.ns : DV → List Int | .nums l => l | _ => []
def DV.rs : DV → List RevD | .revs l => l | _ => []
def revC (r : RevD) : Rcd := fun i => match i with
  | 0 => .num r.pos | 1 => .num r.L | 2 => .flag r.signed | 3 => .num r.idx | 4 => .strs r.ws | 5 => .strs r.ps | 6 => .str r.root | 7 => .num r.wt | 8 => .num r.first | 9 => .num r.life | _ => .num r.keys
def GSpec.Frames (g : GSpec) : Prop := ∀ x a y, g.read x a = .ok y → ∀ i, i ∉ g.offs → y.1 i = x i
def kindD : DV → Nat
  | .num _ => 0 | .flag _ => 1 | .str _ => 2 | .strs _ => 3 | .nums _ => 4 | .revs _ => 5
def Kd (x0 x : Rcd) : Prop := ∀ i, kindD (x i) = kindD (x0 i)
def GSpec.Kinds (x0 : Rcd) (g : GSpec) : Prop := ∀ x a y, g.read x a = .ok y → Kd x0 x → Kd x0 y.1
theorem Kd.num {x0 x : Rcd} (h : Kd x0 x) {o : Nat} (h0 : kindD (x0 o) = 0) : ∃ n, x o = .num n := by
  have := (h o).trans h0
  cases hx : x o <;> rw [hx] at this <;> first | exact ⟨_, rfl⟩ | cases this
theorem Kd.flag {x0 x : Rcd} (h : Kd x0 x) {o : Nat} (h0 : kindD (x0 o) = 1) : ∃ n, x o = .flag n := by
  have := (h o).trans h0
  cases hx : x o <;> rw [hx] at this <;> first | exact ⟨_, rfl⟩ | cases this
end Go.Proofs.YtpobhbdomldecaaGreatDoor
namespace Go.Proofs.YtpobhbdomldecaaGreatDoor
open Go.RowKit
set_option linter.unusedSimpArgs false
set_option linter.unusedVariables false
def stopC (f : Nat) : List PanicEntry := [{ v := .iface 211 (.agg #[.iface 290 (.pointer (some ⟨f, 0, none⟩))]), recovered := false }]
structure RdEnv (B : Nat) (w : World) (qb rb : Nat) (s : ByteArray) (a : Nat) : Prop where
  q : w.heap[qb]? = some (.cells #[.pointer (some ⟨rb, 0, none⟩)] 217 (0, 0))
  r : RdB w rb s a 10240
  tabs : Tabs B w
  bq : B ≤ qb
  br : B ≤ rb
  ne : qb ≠ rb
  at_le : a ≤ s.size
  sz : s.size ≤ 9223372036854775807
theorem RdEnv.below {B : Nat} {w w' : World} {qb rb : Nat} {s : ByteArray} {a : Nat} (h : RdEnv B w qb rb s a) (hb : Below w.heap.size w w') : RdEnv B w' qb rb s a :=
  ⟨(hb.block _ (lt_of_block h.q)).trans h.q, h.r.below hb, h.tabs.below hb, h.bq, h.br, h.ne, h.at_le, h.sz⟩
theorem RdEnv.step {B : Nat} {w w' : World} {qb rb : Nat} {s : ByteArray} {a a' : Nat} (h : RdEnv B w qb rb s a) (hE : ExtB (some rb) w w') (hr : RdB w' rb s a' 10240) (ha : a' ≤ s.size) : RdEnv B w' qb rb s a' :=
  ⟨(hE.block _ (lt_of_block h.q) (by simpa using h.ne)).trans h.q, hr, h.tabs.ext hE h.br, h.bq, h.br, h.ne, ha, h.sz⟩
end Go.Proofs.YtpobhbdomldecaaGreatDoor
namespace Go.Proofs.YtpobhbdomldecaaGreatDoor
open Go.RowKit
set_option linter.unusedSimpArgs false
set_option linter.unusedVariables false
structure Rev where
  pos : Int
  L : Int
  signed : Bool
  idx : Int
  wa : Option Addr
  wn : Nat
  wc : Nat
  pa : Option Addr
  pn : Nat
  pc : Nat
  root : ByteArray
  wt : Int
  first : Int
  life : Int
  keys : Int
abbrev Rev.val (r : Rev) : Value := .agg #[.int .u64 r.pos, .int .u64 r.L, .bool r.signed, .int .u64 r.idx, .slice r.wa r.wn r.wc, .slice r.pa r.pn r.pc, .string r.root, .int .u64 r.wt, .int .u64 r.first, .int .u64 r.life, .int .u64 r.keys]
def Rev.zero : Rev := ⟨0, 0, false, 0, none, 0, 0, none, 0, 0, ByteArray.empty, 0, 0, 0, 0⟩
def revnth (l : List Rev) (i : Nat) : Rev := l.getD i Rev.zero
structure RevAt (w : World) (b o : Nat) (r : Rev) : Prop where
  c0 : w.cell? ⟨b, o, none⟩ = some (.int .u64 r.pos)
  c1 : w.cell? ⟨b, o + 1, none⟩ = some (.int .u64 r.L)
  c2 : w.cell? ⟨b, o + 2, none⟩ = some (.bool r.signed)
  c3 : w.cell? ⟨b, o + 3, none⟩ = some (.int .u64 r.idx)
  c4 : w.cell? ⟨b, o + 4, none⟩ = some (.slice r.wa r.wn r.wc)
  c5 : w.cell? ⟨b, o + 5, none⟩ = some (.slice r.pa r.pn r.pc)
  c6 : w.cell? ⟨b, o + 6, none⟩ = some (.string r.root)
  c7 : w.cell? ⟨b, o + 7, none⟩ = some (.int .u64 r.wt)
  c8 : w.cell? ⟨b, o + 8, none⟩ = some (.int .u64 r.first)
  c9 : w.cell? ⟨b, o + 9, none⟩ = some (.int .u64 r.life)
  c10 : w.cell? ⟨b, o + 10, none⟩ = some (.int .u64 r.keys)
theorem RevAt.below {w w' : World} {b o : Nat} {r : Rev} (h : RevAt w b o r) (hb : Below w.heap.size w w') : RevAt w' b o r := by
  have hl := lt_of_cell h.c0
  have e : ∀ q, w'.cell? ⟨b, q, none⟩ = w.cell? ⟨b, q, none⟩ := fun q => hb.cell (p := ⟨b, q, none⟩) hl
  obtain ⟨c0, c1, c2, c3, c4, c5, c6, c7, c8, c9, c10⟩ := h
  constructor <;> (rw [e]; assumption)
def Revs (w : World) (a : Option Addr) (l : List Rev) : Prop :=
  ∀ i, i < len l → ∃ b off, a = some ⟨b, off, none⟩ ∧ RevAt w b (off + i * 11) (revnth l i)
theorem Revs.below {w w' : World} {a : Option Addr} {l : List Rev} (h : Revs w a l) (hb : Below w.heap.size w w') : Revs w' a l := fun i hi => by
  obtain ⟨b, off, rfl, hc⟩ := h i hi
  exact ⟨b, off, rfl, hc.below hb⟩
theorem Revs.drew {w w' : World} {a : Option Addr} {l : List Rev} (h : Revs w a l) (hb : Drew w w') : Revs w' a l := h.below (hb.below _)
def Rev.cells (r : Rev) : List Value := [.int .u64 r.pos, .int .u64 r.L, .bool r.signed, .int .u64 r.idx, .slice r.wa r.wn r.wc, .slice r.pa r.pn r.pc, .string r.root, .int .u64 r.wt, .int .u64 r.first, .int .u64 r.life, .int .u64 r.keys]
end Go.Proofs.YtpobhbdomldecaaGreatDoor
namespace Go.Proofs.YtpobhbdomldecaaGreatDoor
open Go.RowKit
set_option linter.unusedSimpArgs false
set_option linter.unusedVariables false
def sth (l : List ByteArray) (i : Nat) : ByteArray := l.getD i ByteArray.empty
def Txs (w : World) (a : Option Addr) (l : List ByteArray) : Prop :=
  ∀ i, i < len l → ∃ b off, a = some ⟨b, off, none⟩ ∧ w.cell? ⟨b, off + i, none⟩ = some (.string (sth l i))
theorem Txs.below {w w' : World} {a : Option Addr} {l : List ByteArray} (h : Txs w a l) (hb : Below w.heap.size w w') : Txs w' a l := fun i hi => by
  obtain ⟨b, off, rfl, hc⟩ := h i hi
  exact ⟨b, off, rfl, by rw [hb.cell (p := ⟨b, off + i, none⟩) (lt_of_cell hc)]; exact hc⟩
theorem Txs.drew {w w' : World} {a : Option Addr} {l : List ByteArray} (h : Txs w a l) (hb : Drew w w') : Txs w' a l := h.below (hb.below _)
end Go.Proofs.YtpobhbdomldecaaGreatDoor
namespace Go.Proofs.YtpobhbdomldecaaGreatDoor
open Go.RowKit
set_option linter.unusedSimpArgs false
set_option linter.unusedVariables false
def hiL (n : Int) : Nat → List Int
  | 0 => []
  | k + 1 => (n / 256 ^ k % 256) :: hiL n k
theorem hiL_len (n : Int) : ∀ k, (hiL n k).length = k
  | 0 => rfl
  | k + 1 => by rw [hiL, List.length_cons, hiL_len n k]
def toB (x : Int) : UInt8 := UInt8.ofNat x.toNat
theorem nat_toB {x : Int} (h0 : 0 ≤ x) (h1 : x ≤ 255) : ((toB x).toNat : Int) = x := by
  unfold toB; rw [UInt8.toNat_ofNat']; omega
theorem ba_ext {s t : ByteArray} (h : s.data.toList = t.data.toList) : s = t := ByteArray.ext (Array.ext' h)
theorem ba_len (s : ByteArray) : s.data.toList.length = s.size := by rw [Array.length_toList]; rfl
def baL (l : List UInt8) : ByteArray := ⟨l.toArray⟩
theorem baL_list (l : List UInt8) : (baL l).data.toList = l := rfl
theorem baL_size (l : List UInt8) : (baL l).size = l.length := by show l.toArray.size = _; simp
theorem baL_app (a b : List UInt8) : baL (a ++ b) = baL a ++ baL b := ba_ext (by rw [baL_list, ByteArray.data_append, Array.toList_append, baL_list, baL_list])
structure PRow where
  below : Int
  first : Int
  size : Int
abbrev PRow.val (r : PRow) : Value := .agg #[.int .u64 r.below, .int .u8 r.first, .int .i64 r.size]
def PRow.cells (r : PRow) : List Value := [.int .u64 r.below, .int .u8 r.first, .int .i64 r.size]
theorem PRow.cells_len (r : PRow) : r.cells.length = 3 := rfl
theorem PRow.cells_one (r : PRow) : ∀ u ∈ r.cells, u.oneCell' = true := by intro u hu; simp only [PRow.cells, List.mem_cons, List.not_mem_nil, or_false] at hu; rcases hu with rfl | rfl | rfl <;> rfl
def PRow.zero : PRow := ⟨0, 0, 0⟩
def prth (l : List PRow) (i : Nat) : PRow := l.getD i PRow.zero
theorem prth_eq (l : List PRow) (i : Nat) (h : i < l.length) : prth l i = l[i] := by unfold prth; rw [List.getD_eq_getElem?_getD, List.getElem?_eq_getElem h]; rfl
structure PRowAt (w : World) (b o : Nat) (r : PRow) : Prop where
  c0 : w.cell? ⟨b, o, none⟩ = some (.int .u64 r.below)
  c1 : w.cell? ⟨b, o + 1, none⟩ = some (.int .u8 r.first)
  c2 : w.cell? ⟨b, o + 2, none⟩ = some (.int .i64 r.size)
theorem PRowAt.below {w w' : World} {b o : Nat} {r : PRow} (h : PRowAt w b o r) (hb : Below w.heap.size w w') : PRowAt w' b o r := by
  have hl := lt_of_cell h.c0
  have e : ∀ q, w'.cell? ⟨b, q, none⟩ = w.cell? ⟨b, q, none⟩ := fun q => hb.cell (p := ⟨b, q, none⟩) hl
  obtain ⟨c0, c1, c2⟩ := h
  constructor <;> (rw [e]; assumption)
def PRows (w : World) (a : Option Addr) (l : List PRow) : Prop := ∀ i, i < len l → ∃ b off, a = some ⟨b, off, none⟩ ∧ PRowAt w b (off + i * 3) (prth l i)
theorem PRows.nil (w : World) (a : Option Addr) : PRows w a [] := fun i hi => absurd hi (by simp [len])
theorem PRows.below {w w' : World} {a : Option Addr} {l : List PRow} (h : PRows w a l) (hb : Below w.heap.size w w') : PRows w' a l := fun i hi => by
  obtain ⟨b, off, rfl, hc⟩ := h i hi
  exact ⟨b, off, rfl, hc.below hb⟩
theorem PRows.drew {w w' : World} {a : Option Addr} {l : List PRow} (h : PRows w a l) (hb : Drew w w') : PRows w' a l := h.below (hb.below _)
theorem PRows.take {w : World} {a : Option Addr} {l : List PRow} (h : PRows w a l) (k : Nat) : PRows w a (l.take k) := fun i hi => by
  have hi2 : i < l.length ∧ i < k := by simp only [len, List.length_take] at hi; omega
  have hi3 : i < (l.take k).length := hi
  have e : prth (l.take k) i = prth l i := by rw [prth_eq l i hi2.1, prth_eq _ i hi3, List.getElem_take]
  rw [e]; exact h i hi2.1
theorem PRows.drop {w : World} {b off : Nat} {l : List PRow} (h : PRows w (some ⟨b, off, none⟩) l) (k : Nat) : PRows w (some ⟨b, off + k * 3, none⟩) (l.drop k) := fun i hi => by
  have hi2 : k + i < l.length := by simp only [len, List.length_drop] at hi; omega
  have hi3 : i < (l.drop k).length := hi
  have e : prth (l.drop k) i = prth l (k + i) := by rw [prth_eq l _ hi2, prth_eq _ i hi3, List.getElem_drop]
  obtain ⟨b', off', e2, hc⟩ := h (k + i) hi2
  cases e2
  exact ⟨b, _, rfl, by rw [e, show off + k * 3 + i * 3 = off + (k + i) * 3 by omega]; exact hc⟩
theorem PRows.own {w : World} {base e n : Nat} {v : Value} {l : List PRow} (h : w.ownsRow base e 3 v n (l.flatMap PRow.cells)) : ∃ a cap, v = .slice a (len l) cap ∧ PRows w a l ∧ len l ≤ cap := by
  have hn : len l = n := by have := h.1; rw [flat_length PRow.cells 3 PRow.cells_len] at this; rw [len_eq]; omega
  obtain ⟨h1, h2⟩ := h
  rcases h2 with ⟨rfl, h2⟩ | ⟨g, cap, cur, rfl, hg, hh, hc1, hc2, hc3, hc4⟩
  · obtain rfl : l = [] := List.eq_nil_of_length_eq_zero (by rw [← len_eq]; omega)
    exact ⟨none, 0, rfl, PRows.nil _ _, Nat.le_refl _⟩
  · refine ⟨some ⟨g, 0, none⟩, cap, by rw [hn], fun i hi => ⟨g, 0, rfl, ?_⟩, by omega⟩
    have hown : w.ownsRow base e 3 (.slice (some ⟨g, 0, none⟩) n cap) n (l.flatMap PRow.cells) := ⟨h1, .inr ⟨g, cap, cur, rfl, hg, hh, hc1, hc2, hc3, hc4⟩⟩
    have key : ∀ r, r < 3 → w.cell? ⟨g, 0 + i * 3 + r, none⟩ = (prth l i).cells[r]? := fun r hr => by
      have := hown.cellAt (i * 3 + r) (by rw [← hn]; omega)
      rw [Nat.zero_add, this, flat_get PRow.cells 3 PRow.cells_len l i r hi hr, prth_eq l i hi]
    exact ⟨key 0 (by decide), key 1 (by decide), key 2 (by decide)⟩
theorem PRows.block {w : World} {g : Nat} {l : List PRow} {t : TypeId} {fr : Nat × Nat} (h : w.heap[g]? = some (.cells (l.flatMap PRow.cells).toArray t fr)) : PRows w (some ⟨g, 0, none⟩) l := fun i hi => ⟨g, 0, rfl, by
  have key : ∀ r, r < 3 → w.cell? ⟨g, 0 + i * 3 + r, none⟩ = (prth l i).cells[r]? := fun r hr => by
    rw [Nat.zero_add, block_cell h, List.getElem?_toArray, flat_get PRow.cells 3 PRow.cells_len l i r hi hr, prth_eq l i hi]
  exact ⟨key 0 (by decide), key 1 (by decide), key 2 (by decide)⟩⟩
def rowB (r : PRow) (n : Int) : List UInt8 := if r.size = 0 then [toB (r.first + n)] else toB r.first :: (hiL n r.size.toNat).map toB
def hrowsP (sort : Nat) : List PRow :=
  match sort with
  | 1 => [⟨256, 196, 1⟩, ⟨65536, 197, 2⟩]
  | 2 => [⟨32, 160, 0⟩, ⟨256, 217, 1⟩, ⟨65536, 218, 2⟩]
  | 3 => [⟨16, 144, 0⟩, ⟨65536, 220, 2⟩]
  | 4 => [⟨16, 128, 0⟩, ⟨65536, 222, 2⟩]
  | _ => [⟨128, 0, 0⟩, ⟨256, 204, 1⟩, ⟨65536, 205, 2⟩, ⟨4294967296, 206, 4⟩, ⟨0, 207, 8⟩]
def headP (sort : Nat) (n : Int) : List UInt8 :=
  match (hrowsP sort).find? (fun r => decide (n < r.below ∨ r.below = 0)) with
  | some r => rowB r n
  | none => []
def laidP (sort : Nat) (n : Int) (t : ByteArray) : ByteArray := baL (headP sort n) ++ (if sort = 1 ∨ sort = 2 then t else ByteArray.empty)
theorem headP0 (n : Int) : headP 0 n = if n < 128 then [toB n] else if n < 256 then toB 204 :: (hiL n 1).map toB else if n < 65536 then toB 205 :: (hiL n 2).map toB else if n < 4294967296 then toB 206 :: (hiL n 4).map toB else toB 207 :: (hiL n 8).map toB := by
  unfold headP hrowsP rowB
  by_cases h1 : n < 128
  · simp [h1]
  · by_cases h2 : n < 256
    · simp [h1, h2]
    · by_cases h3 : n < 65536
      · simp [h1, h2, h3]
      · by_cases h4 : n < 4294967296
        · simp [h1, h2, h3, h4]
        · simp [h1, h2, h3, h4]
theorem headP1 {n : Int} (h : n < 65536) : headP 1 n = if n < 256 then toB 196 :: (hiL n 1).map toB else toB 197 :: (hiL n 2).map toB := by
  unfold headP hrowsP rowB
  by_cases h1 : n < 256
  · simp [h1]
  · simp [h1, h]
theorem headP2 {n : Int} (h : n < 65536) : headP 2 n = if n < 32 then [toB (160 + n)] else if n < 256 then toB 217 :: (hiL n 1).map toB else toB 218 :: (hiL n 2).map toB := by
  unfold headP hrowsP rowB
  by_cases h1 : n < 32
  · simp [h1]
  · by_cases h2 : n < 256
    · simp [h1, h2]
    · simp [h1, h2, h]
theorem headP3 {n : Int} (h : n < 65536) : headP 3 n = if n < 16 then [toB (144 + n)] else toB 220 :: (hiL n 2).map toB := by
  unfold headP hrowsP rowB
  by_cases h1 : n < 16
  · simp [h1]
  · simp [h1, h]
theorem headP4 {n : Int} (h : n < 65536) : headP 4 n = if n < 16 then [toB (128 + n)] else toB 222 :: (hiL n 2).map toB := by
  unfold headP hrowsP rowB
  by_cases h1 : n < 16
  · simp [h1]
  · simp [h1, h]
theorem headP_len (sort : Nat) (n : Int) : (headP sort n).length ≤ 9 := by
  unfold headP
  split
  · rename_i r hr
    have hm := List.mem_of_find?_eq_some hr
    unfold rowB
    split
    · simp
    · rw [List.length_cons, List.length_map, hiL_len]
      unfold hrowsP at hm
      split at hm <;> simp at hm <;> (first | (rcases hm with rfl | rfl | rfl | rfl | rfl <;> simp) | (rcases hm with rfl | rfl | rfl <;> simp) | (rcases hm with rfl | rfl <;> simp))
  · simp
end Go.Proofs.YtpobhbdomldecaaGreatDoor
namespace Go.Proofs.YtpobhbdomldecaaGreatDoor
open Go.RowKit
set_option linter.unusedSimpArgs false
set_option linter.unusedVariables false
theorem info_u8 : (Tryz.prog.info? 5).map (fun i => (i.zero, i.size, i.bytes)) = some (some (.int .u8 0), 1, 1) := by kernel_rfl
theorem one_u8 (x : Int) : ∀ u ∈ [Value.int .u8 x], u.oneCell' = true := by
  intro u hu; simp at hu; subst hu; rfl
def Not8 (x : Obj) : Prop := ∀ cs fr, x ≠ .cells cs 5 fr
theorem not8_cells {cs : Array Value} {t : TypeId} {fr : Nat × Nat} (h : t ≠ 5) : Not8 (.cells cs t fr) := fun _ _ e => by cases e; exact h rfl
structure WK (base b : Nat) (w w' : World) : Prop where
  bel : Below base w w'
  keep : ∀ k x, w.heap[k]? = some x → k ≠ b → Not8 x → w'.heap[k]? = some x
theorem WK.refl (base b : Nat) (w : World) : WK base b w w := ⟨Below.refl _ _, fun _ _ h _ _ => h⟩
theorem WK.trans {base b : Nat} {w w' w'' : World} (h : WK base b w w') (k : WK base b w' w'') : WK base b w w'' := ⟨h.bel.trans k.bel, fun j x hx hj hn => k.keep j x (h.keep j x hx hj hn) hj hn⟩
theorem WK.of_below {base b : Nat} {w w' : World} (h : Below w.heap.size w w') (hb : base ≤ w.heap.size) : WK base b w w' := ⟨h.mono hb, fun k x hx _ _ => (h.block k (lt_of_block hx)).trans hx⟩
theorem WK.next {base b : Nat} {w w1 w2 : World} (h : WK base b w w1) (k : Below w1.heap.size w1 w2) (hb : base ≤ w.heap.size) : WK base b w w2 := h.trans (WK.of_below k (Nat.le_trans hb h.bel.size))
def WrB (w : World) (b base : Nat) (s : ByteArray) : Prop := base ≤ b ∧ ∃ v, w.heap[b]? = some (.cells #[v] 233 (0, 0)) ∧ w.ownsRow base 5 1 v s.size (Lib.strCells s)
theorem WrB.below {w w' : World} {b base : Nat} {s : ByteArray} (h : WrB w b base s) (hb : Below w.heap.size w w') : WrB w' b base s := by
  obtain ⟨h0, v, h1, h2⟩ := h
  exact ⟨h0, v, (hb.block _ (lt_of_block h1)).trans h1, own_below h2 hb⟩
theorem WrB.lt {w : World} {b base : Nat} {s : ByteArray} (h : WrB w b base s) : b < w.heap.size := by
  obtain ⟨h0, v, h1, h2⟩ := h; exact lt_of_block h1
theorem own_not8 {w : World} {base e n k : Nat} {v : Value} {xs : List Value} {x : Obj} (h : w.ownsRow base 5 e v n xs) (hk : w.heap[k]? = some x) (hx : Not8 x) : some k ≠ v.ownBlock := by
  rcases h.2 with ⟨rfl, _⟩ | ⟨g, cap, cur, rfl, _, hg, _⟩
  · intro e; cases e
  · intro e
    obtain rfl : k = g := by simpa [Value.ownBlock] using e
    rw [hg] at hk
    cases hk
    exact hx _ _ rfl
theorem wr_step {w w1 : World} {b base n : Nat} {v v' : Value} {xs ys : List Value} {s' : ByteArray} (hb : base ≤ b) (h1 : w.heap[b]? = some (.cells #[v] 233 (0, 0))) (hown : w.ownsRow base 5 1 v n xs) (hE : ExtB v.ownBlock w.drew w1)
    (hown' : w1.ownsRow base 5 1 v' s'.size ys) (hy : ys = Lib.strCells s') :
    w1.cell? ⟨b, 0, none⟩ = some v ∧ w1.frozen? ⟨b, 0, none⟩ = false ∧ WrB (w1.setCell ⟨b, 0, none⟩ v') b base s' ∧ WK base b w (w1.setCell ⟨b, 0, none⟩ v') := by
  have hn8 : Not8 (.cells #[v] 233 (0, 0)) := not8_cells (by decide)
  have hlt := lt_of_block h1
  have hb1 : w1.heap[b]? = some (.cells #[v] 233 (0, 0)) := by
    rw [hE.block b hlt (own_not8 hown h1 hn8)]; exact h1
  have hne := own_not8 hown' hb1 hn8
  refine ⟨block_cell hb1 0, block_free hb1 0, ⟨hb, v', block_setCell hb1 v', ?_⟩, ⟨?_, fun k x hx hk hnx => ?_⟩⟩
  · subst hy
    refine hown'.kept ⟨rfl, rfl, rfl, (by simp [World.setCell]), fun k _ hk => Below.heap_setCell _ _ _ k (fun e => hk (by rw [e]))⟩ (row := some b) (.inr (fun e => hne e.symm))
  · refine Below.setCell (Below.grown ((Below.refl base w).drew) hE (by show base ≤ w.heap.size; omega) (fun k hk => (hown.lt k hk).1)) hb v'
  · rw [Below.heap_setCell _ _ _ _ hk, hE.block k (lt_of_block hx) (own_not8 hown hx hnx)]; exact hx
theorem own_slice {w : World} {base e n : Nat} {v : Value} {xs : List Value} (h : w.ownsRow base e 1 v (n + 1) xs) : ∃ g cap, v = .slice (some ⟨g, 0, none⟩) (n + 1) cap := by
  rcases h.2 with ⟨_, h2⟩ | ⟨g, cap, cur, h3, _⟩
  · omega
  · exact ⟨g, cap, h3⟩
theorem strCells_app (s t : ByteArray) : Lib.strCells (s ++ t) = Lib.strCells s ++ Lib.strCells t := by
  unfold Lib.strCells; rw [ByteArray.data_append, Array.toList_append, List.map_append]
theorem strCells_one {y : Int} (h0 : 0 ≤ y) (h1 : y ≤ 255) : Lib.strCells (baL [toB y]) = [.int .u8 y] := by
  unfold Lib.strCells; rw [baL_list, List.map_cons, List.map_nil, nat_toB h0 h1]
theorem baL_one (s : ByteArray) (x : UInt8) : (s ++ baL [x]).size = s.size + 1 := by rw [ByteArray.size_append, baL_size]; rfl
end Go.Proofs.YtpobhbdomldecaaGreatDoor

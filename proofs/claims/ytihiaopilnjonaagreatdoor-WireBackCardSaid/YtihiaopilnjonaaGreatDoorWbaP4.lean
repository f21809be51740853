/- Parts of the proof, one behind the other. -/
import Derived.Test.YtihiaopilnjonaaGreatDoorWbaP3
import Derived.Deep.QuietTactic
import Derived.BigQuiet
import Derived.StillTailTactics
namespace Go.Proofs.YtihiaopilnjonaaGreatDoor
open Go.RowKit
set_option linter.unusedSimpArgs false
set_option linter.unusedVariables false
structure TEnv (B qb rb tb n : Nat) (T : TypeId) (w : World) : Prop where
  rd : ∃ cs, w.heap[rb]? = some (.cells cs 275 (0, 0))
  th : ∃ cs, w.heap[tb]? = some (.cells cs T (0, 0))
  ne : tb ≠ rb
  nq : qb ≠ tb
  le : B ≤ tb
  t8 : T ≠ 5
  tf : T ≠ 172
theorem TEnv.below {B qb rb tb n : Nat} {T : TypeId} {w w' : World} (h : TEnv B qb rb tb n T w) (hb : Below w.heap.size w w') : TEnv B qb rb tb n T w' := by
  obtain ⟨cs, h1⟩ := h.rd
  obtain ⟨ct, h2⟩ := h.th
  exact ⟨⟨cs, (hb.block _ (lt_of_block h1)).trans h1⟩, ⟨ct, (hb.block _ (lt_of_block h2)).trans h2⟩, h.ne, h.nq, h.le, h.t8, h.tf⟩
theorem TEnv.rlt {B qb rb tb n : Nat} {T : TypeId} {w : World} (h : TEnv B qb rb tb n T w) : rb < w.heap.size := by obtain ⟨cs, h1⟩ := h.rd; exact lt_of_block h1
theorem TEnv.tlt {B qb rb tb n : Nat} {T : TypeId} {w : World} (h : TEnv B qb rb tb n T w) : tb < w.heap.size := by obtain ⟨cs, h1⟩ := h.th; exact lt_of_block h1
theorem TEnv.apart {B qb rb tb n : Nat} {T : TypeId} {w : World} (h : TEnv B qb rb tb n T w) {g : Nat} (hg : ∃ cs, w.heap[g]? = some (.cells cs 172 (0, 0))) : g ≠ rb ∧ g ≠ tb := by
  obtain ⟨cs, h1⟩ := h.rd
  obtain ⟨ct, h2⟩ := h.th
  obtain ⟨cg, h3⟩ := hg
  refine ⟨fun e => ?_, fun e => ?_⟩
  · subst e; rw [h1] at h3; cases h3
  · subst e; rw [h2] at h3; cases h3; exact h.tf rfl
theorem RecAt.cellAt {B rb tb : Nat} {T : TypeId} {n : Nat} {w : World} {x : Rcd} (h : RecAt rb tb T n w x) (hT : T ≠ 5) {o : Nat} (ho : o < n) : ∃ v, CellAt B w tb o v ∧ HoldsD rb tb w v (x o) := by
  obtain ⟨cs, h1, h2, h3⟩ := h
  obtain ⟨v, h4, h5⟩ := h3 o ho
  exact ⟨v, cellAt_new h1 hT h4, h5⟩
theorem Kd.strs {x0 x : Rcd} (h : Kd x0 x) {o : Nat} (h0 : kindD (x0 o) = 3) : ∃ n, x o = .strs n := by
  have := (h o).trans h0
  cases hx : x o <;> rw [hx] at this <;> first | exact ⟨_, rfl⟩ | cases this
theorem Kd.nums {x0 x : Rcd} (h : Kd x0 x) {o : Nat} (h0 : kindD (x0 o) = 4) : ∃ n, x o = .nums n := by
  have := (h o).trans h0
  cases hx : x o <;> rw [hx] at this <;> first | exact ⟨_, rfl⟩ | cases this
theorem Kd.revs {x0 x : Rcd} (h : Kd x0 x) {o : Nat} (h0 : kindD (x0 o) = 5) : ∃ n, x o = .revs n := by
  have := (h o).trans h0
  cases hx : x o <;> rw [hx] at this <;> first | exact ⟨_, rfl⟩ | cases this
section
variable {B qb rb tb n : Nat} {T : TypeId} {w : World} {x0 : Rcd} {s : ByteArray}
theorem gsem_num {lo : Nat} {key : ByteArray} {o : Nat} {v : FVal} (E : TEnv B qb rb tb n T w) (h : NumS w lo key tb o v) (hr : rb < lo) (ht : tb < lo) (ho : o < n) (h0 : kindD (x0 o) = 0) : GSem B qb rb tb x0 T n s w v (gnum s key o) := by
  obtain ⟨bx, hlo, hb, rfl⟩ := h
  have hbk : ∀ w', Chg rb tb w w' → w'.heap[bx]? = some (.cells #[.pointer (some ⟨tb, o, none⟩)] 177 (0, 0)) := fun w' hc => (hc.block bx (lt_of_block hb) (by omega) (by omega)).trans hb
  refine ⟨rfl, rfl, enters_of Tryz.func183 (by kernel_rfl) rfl, enters_of Tryz.func186 (by kernel_rfl) rfl, fun w' x hc hx hk => ?_, fun w' x a hc hx he hf hk => num3_any B qb rb tb o bx T n s key a x w' (hbk w' hc) (by omega) E.ne ho hx he⟩
  obtain ⟨m, hm⟩ := hk.num h0
  obtain ⟨u, hu, hv⟩ := hx.cellAt (B := B) E.t8 ho
  rw [hm] at hv
  obtain rfl : u = .int .u64 m := hv
  show Calls Tryz.prog _ _ _ fun e w'' => e = .returned (.bool (zeroD (x o))) ∧ Below w'.heap.size w' w''
  rw [hm]
  exact num1_any B bx tb o m w' (cellAt_new (hbk w' hc) (by decide) rfl) hu
theorem gsem_flag {lo : Nat} {key : ByteArray} {o : Nat} {v : FVal} (E : TEnv B qb rb tb n T w) (h : FlagS w lo key tb o v) (hr : rb < lo) (ht : tb < lo) (ho : o < n) (h0 : kindD (x0 o) = 1) : GSem B qb rb tb x0 T n s w v (gflag s key o) := by
  obtain ⟨bx, hlo, hb, rfl⟩ := h
  have hbk : ∀ w', Chg rb tb w w' → w'.heap[bx]? = some (.cells #[.pointer (some ⟨tb, o, none⟩)] 179 (0, 0)) := fun w' hc => (hc.block bx (lt_of_block hb) (by omega) (by omega)).trans hb
  refine ⟨rfl, rfl, enters_of Tryz.func187 (by kernel_rfl) rfl, enters_of Tryz.func189 (by kernel_rfl) rfl, fun w' x hc hx hk => ?_, fun w' x a hc hx he hf hk => flag3_any B qb rb tb o bx T n s key a x w' (hbk w' hc) (by omega) E.ne ho hx he⟩
  obtain ⟨m, hm⟩ := hk.flag h0
  obtain ⟨u, hu, hv⟩ := hx.cellAt (B := B) E.t8 ho
  rw [hm] at hv
  obtain rfl : u = .bool m := hv
  show Calls Tryz.prog _ _ _ fun e w'' => e = .returned (.bool (zeroD (x o))) ∧ Below w'.heap.size w' w''
  rw [hm]
  exact flag1_any B bx tb o m w' (cellAt_new (hbk w' hc) (by decide) rfl) hu
theorem gsem_dig {lo : Nat} {key : ByteArray} {o : Nat} {v : FVal} (E : TEnv B qb rb tb n T w) (h : DigS w lo key tb o v) (hr : rb < lo) (ht : tb < lo) (ho : o < n) : GSem B qb rb tb x0 T n s w v (gdig s key o) := by
  obtain ⟨bx, hlo, hb, rfl⟩ := h
  have hbk : ∀ w', Chg rb tb w w' → w'.heap[bx]? = some (.cells #[.pointer (some ⟨tb, o, none⟩)] 181 (0, 0)) := fun w' hc => (hc.block bx (lt_of_block hb) (by omega) (by omega)).trans hb
  exact ⟨rfl, rfl, enters_of Tryz.func190 (by kernel_rfl) rfl, enters_of Tryz.func194 (by kernel_rfl) rfl, fun w' x hc hx hk => digest1_any w', fun w' x a hc hx he hf hk => digest4_any B qb rb tb o bx T n s key a x w' (hbk w' hc) (by omega) E.ne ho hx he⟩
end
theorem gsem_manys {B qb rb tb n : Nat} {T : TypeId} {w : World} {x0 : Rcd} {s : ByteArray} {lo : Nat} {key : ByteArray} {o most : Nat} {v : FVal} {rd : Nat → Except Flt (ByteArray × Nat)} (E : TEnv B qb rb tb n T w) (h : ManySS w lo key tb o most v) (hr : rb < lo) (ht : tb < lo) (ho : o < n) (hm : most ≤ 10240) (h0 : x0 o = .strs [])
    (hget : ∀ w' xb a', Chg rb tb w w' → w.heap.size ≤ xb → w'.heap[xb]? = some (.cells #[.string ⟨#[]⟩] 9 (0, 0)) → RdEnv B w' qb rb s a' → Calls Tryz.prog 213 #[.pointer (some ⟨qb, 0, none⟩), .pointer (some ⟨xb, 0, none⟩)] w' (ElIs (rd a') (fun y _ c => c = #[.string y]) rb xb 9 s w')) : GSem B qb rb tb x0 T n s w v (gmany s key o most .strs rd) := by
  obtain ⟨bx, hlo, hb, rfl⟩ := h
  have hch : ∀ w' b y, Chg rb tb w w' → bx ≤ b → w.heap[b]? = some y → w'.heap[b]? = some y := fun w' b y hc hle hy => (hc.block b (lt_of_block hy) (by omega) (by omega)).trans hy
  refine ⟨rfl, rfl, enters_of Tryz.func247 (by kernel_rfl) rfl, enters_of Tryz.func252 (by kernel_rfl) rfl, fun w' x hc hx hk => ?_, fun w' x a hc hx he hf hk => ?_⟩
  · obtain ⟨m, hm⟩ := hk.strs (show kindD (x0 o) = _ by rw [h0]; rfl)
    obtain ⟨u, hu, hv⟩ := hx.cellAt (B := B) E.t8 ho
    rw [hm] at hv
    obtain ⟨za, zc, rfl, -⟩ := hv
    show Calls Tryz.prog _ _ _ fun e w'' => e = .returned (.bool (zeroD (x o))) ∧ Below w'.heap.size w' w''
    rw [hm]
    refine (many1_any B bx tb o (len m) zc za w' (cellAt_new (hch w' _ _ hc (Nat.le_refl _) hb.b0) (by decide) rfl) hu).mono fun e w'' ⟨h1, h2⟩ => ⟨h1.trans ?_, h2⟩
    congr 2
  · have hx1 : x o = .strs [] := (hf o (by simp [gmany])).trans h0
    exact many4s_any B qb rb tb o bx (bx + 1) (bx + 1 + 1 + 1 + 1) 213 most #[] x0 T n s key a x w' rd (hch w' _ _ hc (Nat.le_refl _) hb.b0) (hch w' _ _ hc (by omega) hb.b1) ⟨_, hch w' _ _ hc (by omega) hb.b4⟩ ⟨by omega, by omega⟩ ⟨by omega, by omega⟩ E.ne E.nq E.le ho hm (enters_of Tryz.func213 (by kernel_rfl) rfl)
      (fun w2 xb a' hc2 hxb hx2 he2 => hget w2 xb a' (hc.trans hc2) (Nat.le_trans hc.size hxb) hx2 he2) hx hx1 he
theorem many1u_any (B b7 pb po n c : Nat) (a : Option Addr) (w : World) (h1 : CellAt B w b7 0 (.pointer (some ⟨pb, po, none⟩))) (h2 : CellAt B w pb po (.slice a n c)) : Calls Tryz.prog 214 #[.pointer (some ⟨b7, 0, none⟩)] w fun e w' => e = .returned (.bool (decide (n = 0))) ∧ Below w.heap.size w w' := by
  have c1 := h1.cell
  have c2 := h2.cell
  have HE : Hid (((n : Int) == 0) = decide (n = 0)) := Lib.hid (by rw [Bool.eq_iff_iff]; simp)
  clear h1 h2
  go_enter Tryz.func214, Tryz.ntmps214
  go_wp2
  go_ret
  exact ⟨ret_bool HE.out, Below.refl _ _⟩
theorem gsem_manyu {B qb rb tb n : Nat} {T : TypeId} {w : World} {x0 : Rcd} {s : ByteArray} {lo : Nat} {key : ByteArray} {o most : Nat} {v : FVal} {rd : Nat → Except Flt (Int × Nat)} (E : TEnv B qb rb tb n T w) (h : ManyUS w lo key tb o most v) (hr : rb < lo) (ht : tb < lo) (ho : o < n) (hm : most ≤ 10240) (h0 : x0 o = .nums [])
    (hget : ∀ w' xb a', Chg rb tb w w' → w.heap.size ≤ xb → w'.heap[xb]? = some (.cells #[.int .u64 0] 23 (0, 0)) → RdEnv B w' qb rb s a' → Calls Tryz.prog 150 #[.pointer (some ⟨qb, 0, none⟩), .pointer (some ⟨xb, 0, none⟩)] w' (ElIs (rd a') (fun y _ c => c = #[.int .u64 y]) rb xb 23 s w')) : GSem B qb rb tb x0 T n s w v (gmany s key o most .nums rd) := by
  obtain ⟨bx, hlo, hb, rfl⟩ := h
  have hch : ∀ w' b y, Chg rb tb w w' → bx ≤ b → w.heap[b]? = some y → w'.heap[b]? = some y := fun w' b y hc hle hy => (hc.block b (lt_of_block hy) (by omega) (by omega)).trans hy
  refine ⟨rfl, rfl, enters_of Tryz.func214 (by kernel_rfl) rfl, enters_of Tryz.func220 (by kernel_rfl) rfl, fun w' x hc hx hk => ?_, fun w' x a hc hx he hf hk => ?_⟩
  · obtain ⟨m, hm⟩ := hk.nums (show kindD (x0 o) = _ by rw [h0]; rfl)
    obtain ⟨u, hu, hv⟩ := hx.cellAt (B := B) E.t8 ho
    rw [hm] at hv
    obtain ⟨za, zc, rfl, -⟩ := hv
    show Calls Tryz.prog _ _ _ fun e w'' => e = .returned (.bool (zeroD (x o))) ∧ Below w'.heap.size w' w''
    rw [hm]
    refine (many1u_any B bx tb o (len m) zc za w' (cellAt_new (hch w' _ _ hc (Nat.le_refl _) hb.b0) (by decide) rfl) hu).mono fun e w'' ⟨h1, h2⟩ => ⟨h1.trans ?_, h2⟩
    congr 2
  · have hx1 : x o = .nums [] := (hf o (by simp [gmany])).trans h0
    exact many4u_any B qb rb tb o bx (bx + 1) (bx + 1 + 1 + 1 + 1) 150 most #[] x0 T n s key a x w' rd (hch w' _ _ hc (Nat.le_refl _) hb.b0) (hch w' _ _ hc (by omega) hb.b1) ⟨_, hch w' _ _ hc (by omega) hb.b4⟩ ⟨by omega, by omega⟩ ⟨by omega, by omega⟩ E.ne E.nq E.le ho hm (enters_of Tryz.func150 (by kernel_rfl) rfl)
      (fun w2 xb a' hc2 hxb hx2 he2 => hget w2 xb a' (hc.trans hc2) (Nat.le_trans hc.size hxb) hx2 he2) hx hx1 he
theorem many1r_any (B b7 pb po n c : Nat) (a : Option Addr) (w : World) (h1 : CellAt B w b7 0 (.pointer (some ⟨pb, po, none⟩))) (h2 : CellAt B w pb po (.slice a n c)) : Calls Tryz.prog 227 #[.pointer (some ⟨b7, 0, none⟩)] w fun e w' => e = .returned (.bool (decide (n = 0))) ∧ Below w.heap.size w w' := by
  have c1 := h1.cell
  have c2 := h2.cell
  have HE : Hid (((n : Int) == 0) = decide (n = 0)) := Lib.hid (by rw [Bool.eq_iff_iff]; simp)
  clear h1 h2
  go_enter Tryz.func227, Tryz.ntmps227
  go_wp2
  go_ret
  exact ⟨ret_bool HE.out, Below.refl _ _⟩
theorem gsem_manyr {B qb rb tb n : Nat} {T : TypeId} {w : World} {x0 : Rcd} {s : ByteArray} {lo : Nat} {key : ByteArray} {o most : Nat} {v : FVal} {rd : Nat → Except Flt (RevD × Nat)} (E : TEnv B qb rb tb n T w) (h : ManyRS w lo key tb o most v) (hr : rb < lo) (ht : tb < lo) (ho : o < n) (hm : most ≤ 10240) (h0 : x0 o = .revs [])
    (hget : ∀ w' xb a', Chg rb tb w w' → w.heap.size ≤ xb → w'.heap[xb]? = some (.cells #[.int .u64 0, .int .u64 0, .bool false, .int .u64 0, .slice none 0 0, .slice none 0 0, .string ⟨#[]⟩, .int .u64 0, .int .u64 0, .int .u64 0, .int .u64 0] 48 (0, 0)) → RdEnv B w' qb rb s a' → Calls Tryz.prog 157 #[.pointer (some ⟨qb, 0, none⟩), .pointer (some ⟨xb, 0, none⟩)] w' (ElIs (rd a') (fun d w2 c => ∃ r : Rev, c = r.cells.toArray ∧ RevIs rb xb w2 r d) rb xb 48 s w')) : GSem B qb rb tb x0 T n s w v (gmany s key o most .revs rd) := by
  obtain ⟨bx, hlo, hb, rfl⟩ := h
  have hch : ∀ w' b y, Chg rb tb w w' → bx ≤ b → w.heap[b]? = some y → w'.heap[b]? = some y := fun w' b y hc hle hy => (hc.block b (lt_of_block hy) (by omega) (by omega)).trans hy
  refine ⟨rfl, rfl, enters_of Tryz.func227 (by kernel_rfl) rfl, enters_of Tryz.func231 (by kernel_rfl) rfl, fun w' x hc hx hk => ?_, fun w' x a hc hx he hf hk => ?_⟩
  · obtain ⟨m, hm⟩ := hk.revs (show kindD (x0 o) = _ by rw [h0]; rfl)
    obtain ⟨u, hu, hv⟩ := hx.cellAt (B := B) E.t8 ho
    rw [hm] at hv
    obtain ⟨za, zc, rfl, -⟩ := hv
    show Calls Tryz.prog _ _ _ fun e w'' => e = .returned (.bool (zeroD (x o))) ∧ Below w'.heap.size w' w''
    rw [hm]
    refine (many1r_any B bx tb o (len m) zc za w' (cellAt_new (hch w' _ _ hc (Nat.le_refl _) hb.b0) (by decide) rfl) hu).mono fun e w'' ⟨h1, h2⟩ => ⟨h1.trans ?_, h2⟩
    congr 2
  · have hx1 : x o = .revs [] := (hf o (by simp [gmany])).trans h0
    exact many4r_any B qb rb tb o bx (bx + 1) (bx + 1 + 1 + 1 + 1) 157 most #[] x0 T n s key a x w' rd (hch w' _ _ hc (Nat.le_refl _) hb.b0) (hch w' _ _ hc (by omega) hb.b1) ⟨_, hch w' _ _ hc (by omega) hb.b4⟩ ⟨by omega, by omega⟩ ⟨by omega, by omega⟩ E.ne E.nq E.le ho hm (enters_of Tryz.func157 (by kernel_rfl) rfl)
      (fun w2 xb a' hc2 hxb hx2 he2 => hget w2 xb a' (hc.trans hc2) (Nat.le_trans hc.size hxb) hx2 he2) hx hx1 he
set_option maxRecDepth 100000 in
theorem says_gfull {B qb rb tb n : Nat} {T : TypeId} {W0 w : World} {x0 : Rcd} {s : ByteArray} {l : List FVal} {gs : List GSpec} {x : Rcd} (h : GSems B qb rb tb x0 T n s W0 l gs) (hc : Chg rb tb W0 w) (hx : RecAt rb tb T n w x) (hk : Kd x0 x) : SaysF w l 179 #[] (fun i => !(gth gs i).empty x) := by
  refine ⟨enters_of Tryz.func179 (by kernel_rfl) rfl, fun i hi w' hb => ?_⟩
  show Calls Tryz.prog 179 (#[(fth l i).val] ++ #[]) w' (fun e w'' => e = .returned (.bool (!(gth gs i).empty x)) ∧ Below w'.heap.size w' w'')
  have hs := h.2 i hi
  generalize fth l i = v at hs
  generalize gth gs i = f at hs
  have ee := hs.ee
  have HM : Hid (∀ u, Below w'.heap.size w' u → Calls Tryz.prog v.ef v.ec u fun e w' => e = .returned (.bool (f.empty x)) ∧ Below u.heap.size u w') := Lib.hid (fun u hu => hs.empty u x ((hc.next hb).next hu) ((hx.below hb).below hu) hk)
  clear hs
  show Calls Tryz.prog 179 #[v.val] w' _
  unfold FVal.val
  go_enter Tryz.func179, Tryz.ntmps179
  go_wp2_with fail
  refine (HM.out _ (balloc (Below.refl _ _) _)).mono ?_
  rintro e w1 ⟨rfl, hb1⟩
  have HB1 : Hid (Below w'.heap.size w' w1) := Lib.hid (bnext (balloc (Below.refl _ _) _) hb1)
  clear hb1
  go_wp2
  go_ret
  exact ⟨rfl, HB1.out⟩
theorem gAll_iff (gs : List GSpec) (x : Rcd) : ((gs.all fun g => g.empty x) = false ↔ ∃ i, i < gs.length ∧ (!(gth gs i).empty x) = true) := by
  rw [List.all_eq_false]
  constructor
  · rintro ⟨y, hx, hm⟩
    obtain ⟨i, hi, rfl⟩ := List.getElem_of_mem hx
    exact ⟨i, hi, by rw [gth_eq gs i hi]; simpa using hm⟩
  · rintro ⟨i, hi, hm⟩
    exact ⟨gs[i], List.getElem_mem _, by rw [gth_eq gs i hi] at hm; simpa using hm⟩
set_option maxRecDepth 100000 in
theorem gobj2_any {B qb rb tb n : Nat} {T : TypeId} {W0 : World} {x0 : Rcd} {s : ByteArray} (bx g c : Nat) (l : List FVal) (gs : List GSpec) (x : Rcd) (w : World) (h1 : w.heap[bx]? = some (.cells #[.slice (some ⟨g, 0, none⟩) (len l) c] 113 (0, 0))) (hl : Flds w (some ⟨g, 0, none⟩) l) (hn : len l ≤ 1000) (hS : GSems B qb rb tb x0 T n s W0 l gs) (hc : Chg rb tb W0 w) (hx : RecAt rb tb T n w x) (hk : Kd x0 x) :
    Calls Tryz.prog 178 #[.pointer (some ⟨bx, 0, none⟩)] w fun e w' => e = .returned (.bool (gs.all fun g => g.empty x)) ∧ Below w.heap.size w w' := by
  have c1 : w.cell? ⟨bx, 0, none⟩ = some (.slice (some ⟨g, 0, none⟩) (len l) c) := block_cell h1 0
  have H := Lib.hid (containsf_any (some ⟨g, 0, none⟩) c l 179 #[] _ w hl hn (says_gfull hS hc hx hk))
  have HI := Lib.hid (gAll_iff gs x)
  have HL : Hid (gs.length = len l) := Lib.hid hS.1
  clear h1 hl hS hc hx
  go_enter Tryz.func178, Tryz.ntmps178
  go_wp2_with fail
  refine H.out.mono ?_
  rintro e w1 ⟨b, rfl, hb1, hb⟩
  have HB := Lib.hid hb
  have HE : Hid ((!b) = (gs.all fun g => g.empty x)) := Lib.hid (by
    have h := HI.out
    rw [HL.out] at h
    cases b with
    | true => rw [h.2 (hb1.1 rfl)]; rfl
    | false =>
      cases hm : (gs.all fun g => g.empty x) with
      | true => rfl
      | false => exact absurd (hb1.2 (h.1 hm)) (by decide))
  clear hb hb1
  go_wp2
  go_ret
  exact ⟨ret_bool HE.out, HB.out⟩
set_option maxRecDepth 100000 in
theorem gobj5_any {qb rb tb n : Nat} {T : TypeId} {s : ByteArray} (bx g c : Nat) (key : ByteArray) (l : List FVal) (gs : List GSpec) (x : Rcd) (a : Nat) (w : World) (h1 : w.heap[bx]? = some (.cells #[.slice (some ⟨g, 0, none⟩) (len l) c] 113 (0, 0)))
    (H : Calls Tryz.prog 123 #[.pointer (some ⟨qb, 0, none⟩), .slice (some ⟨g, 0, none⟩) (len l) c] w (GetIs (objR s gs x a) rb tb T n s w)) :
    Calls Tryz.prog 182 #[.pointer (some ⟨qb, 0, none⟩), .pointer (some ⟨bx, 0, none⟩)] w (GetIs ((gobj s key gs).read x a) rb tb T n s w) := by
  have c1 : w.cell? ⟨bx, 0, none⟩ = some (.slice (some ⟨g, 0, none⟩) (len l) c) := block_cell h1 0
  have H := Lib.hid H
  clear h1
  go_enter Tryz.func182, Tryz.ntmps182
  go_wp2_with fail
  refine H.out.mono ?_
  intro e w1 hh
  show _
  cases hr : objR s gs x a with
  | error f =>
    rw [hr] at hh
    have HTH := Lib.hid (getIs_th hh)
    obtain ⟨fb, rfl, hf, hc⟩ := getIs_err hh
    have HF := Lib.hid hf
    have HC := Lib.hid hc
    have HR : Hid ((gobj s key gs).read x a = .error f) := Lib.hid hr
    clear hh hf hc hr
    go_wp2
    refine ⟨rfl, ?_⟩
    rw [HR.out]
    exact ⟨HC.out, fb, rfl, HF.out, HTH.out⟩
  | ok q =>
    rw [hr] at hh
    obtain ⟨rfl, h2, h3, h4, h5⟩ := getIs_ok hh
    have H2 := Lib.hid h2
    have H4 := Lib.hid h4
    have H5 := Lib.hid h5
    have HR : Hid ((gobj s key gs).read x a = .ok q) := Lib.hid hr
    clear hh h2 h4 h5 hr
    go_wp2
    go_end0
    rw [HR.out]
    exact ⟨H5.out, rfl, H2.out, h3, H4.out⟩
theorem FRow.chg {rb tb g : Nat} {w w' : World} {l : List FVal} (h : FRow w g l) (hc : Chg rb tb w w') (h1 : g ≠ rb) (h2 : g ≠ tb) : FRow w' g l := by
  obtain ⟨hf, cur, hg⟩ := h
  have h3 := hc.block g (lt_of_block hg) h1 h2
  exact ⟨flds_keep hf h3, cur, h3.trans hg⟩
structure GOk (x0 : Rcd) (gs : List GSpec) : Prop where
  keys : KeysOk gs
  disj : Disj gs
  frames : ∀ g ∈ gs, g.Frames
  kinds : ∀ g ∈ gs, g.Kinds x0
theorem gsem_obj {B qb rb tb n : Nat} {T : TypeId} {w : World} {x0 : Rcd} {s : ByteArray} {lo : Nat} {key : ByteArray} {g c : Nat} {l : List FVal} {gs : List GSpec} {v : FVal} (E : TEnv B qb rb tb n T w) (h : ObjS w lo key (l.any fun v => v.must) g (len l) c v) (hr : rb < lo) (ht : tb < lo) (hF : FRow w g l) (hc0 : len l ≤ c) (hn : len l ≤ 1000) (hS : GSems B qb rb tb x0 T n s w l gs) (hG : GOk x0 gs) : GSem B qb rb tb x0 T n s w v (gobj s key gs) := by
  obtain ⟨bx, hlo, hb, rfl⟩ := h
  have hg := E.apart hF.ex
  have hl : gs.length = l.length := hS.1
  have hbk : ∀ w', Chg rb tb w w' → w'.heap[bx]? = some (.cells #[.slice (some ⟨g, 0, none⟩) (len l) c] 113 (0, 0)) := fun w' hc => (hc.block bx (lt_of_block hb) (by omega) (by omega)).trans hb
  refine ⟨rfl, ?_, enters_of Tryz.func178 (by kernel_rfl) rfl, enters_of Tryz.func182 (by kernel_rfl) rfl, fun w' x hc hx hk => gobj2_any bx g c l gs x w' (hbk w' hc) (hF.chg hc hg.1 hg.2).flds hn hS hc hx hk, fun w' x a hc hx he hf hk => gobj5_any bx g c key l gs x a w' (hbk w' hc) ?_⟩
  · show (l.any fun v => v.must) = gs.any fun g => g.must
    rw [Bool.eq_iff_iff, List.any_eq_true, List.any_eq_true]
    constructor
    · rintro ⟨y, hy, hm⟩
      obtain ⟨i, hi, rfl⟩ := List.getElem_of_mem hy
      have hi2 : i < gs.length := by omega
      have := (hS.2 i hi).must
      rw [fth_eq l i hi, gth_eq gs i hi2] at this
      exact ⟨gs[i], List.getElem_mem _, by rw [← this]; exact hm⟩
    · rintro ⟨y, hy, hm⟩
      obtain ⟨i, hi, rfl⟩ := List.getElem_of_mem hy
      have hi2 : i < l.length := by omega
      have := (hS.2 i hi2).must
      rw [fth_eq l i hi2, gth_eq gs i hi] at this
      exact ⟨l[i], List.getElem_mem _, by rw [this]; exact hm⟩
  · refine robject_any B qb rb tb g 0 c x0 T n s w w' l gs a x (hF.chg hc hg.1 hg.2).flds hc0 hn hS hc hg E.nq E.le E.ne hG.keys hG.disj hG.frames hG.kinds hk hx he (fun i hi o ho => hf o ?_)
    show o ∈ gs.flatMap fun g => g.offs
    exact List.mem_flatMap.2 ⟨gth gs i, by rw [gth_eq gs i hi]; exact List.getElem_mem _, ho⟩
end Go.Proofs.YtihiaopilnjonaaGreatDoor
namespace Go.Proofs.YtihiaopilnjonaaGreatDoor
open Go.RowKit
set_option linter.unusedSimpArgs false
set_option linter.unusedVariables false
def RowIn (B : Nat) (specs : List FSpec) (u : Value) (w : World) : Prop := ∃ g c, ∃ l : List FVal, u = .slice (some ⟨g, 0, none⟩) (len l) c ∧ FRow w g l ∧ B ≤ w.heap.size ∧ FSems B w l specs
theorem RowIn.below {B : Nat} {specs : List FSpec} {u : Value} {w w' : World} (h : RowIn B specs u w) (hb : Below w.heap.size w w') : RowIn B specs u w' := by
  obtain ⟨g, c, l, hu, hF, hB, hS⟩ := h
  exact ⟨g, c, l, hu, hF.below hb, Nat.le_trans hB hb.size, hS.later (Keep8.of_below hb hB)⟩
theorem rowIn_of {B : Nat} {specs : List FSpec} {w w' : World} {e : Ending} (hB : B ≤ w.heap.size) (h : RowOf B specs w e w') : ∃ u, e = .returned u ∧ RowIn B specs u w' ∧ Below w.heap.size w w' := by
  obtain ⟨g, c, l, he, hF, hS, hb⟩ := h
  exact ⟨_, he, ⟨g, c, l, rfl, hF, Nat.le_trans hB hb.size, hS⟩, hb⟩
structure SlotAt (B : Nat) (w : World) (b o : Nat) (L : Int) (q : Bool) (idx : Int) (wots path : List ByteArray) : Prop where
  c0 : CellAt B w b o (.int .u64 L)
  c1 : CellAt B w b (o + 1) (.bool q)
  c2 : SigAt B w b (o + 2) idx wots path
theorem SlotAt.below {B : Nat} {w w' : World} {b o : Nat} {L : Int} {q : Bool} {idx : Int} {wots path : List ByteArray} (h : SlotAt B w b o L q idx wots path) (hb : Below w.heap.size w w') : SlotAt B w' b o L q idx wots path := ⟨h.c0.below hb, h.c1.below hb, h.c2.below hb⟩
def slotSpecs (L : Int) (q : Bool) (idx : Int) (wots path : List ByteArray) : List FSpec :=
  [objSpec ⟨#[103]⟩ (sigSpecs idx wots path), ⟨⟨#[108]⟩, false, L == 0, true, numP L⟩, ⟨⟨#[115]⟩, false, !q, true, numP 1⟩]
set_option maxRecDepth 100000 in
set_option maxHeartbeats 4000000 in
theorem ofslot_any (B sb so : Nat) (L : Int) (q : Bool) (idx : Int) (wots path : List ByteArray) (w : World) (hB : B ≤ w.heap.size) (h : SlotAt B w sb so L q idx wots path) (h0 : 0 ≤ idx) (h1 : idx ≤ 18446744073709551615) (hL0 : 0 ≤ L) (hL1 : L ≤ 18446744073709551615) (hw : len wots ≤ 100000) (hp : len path ≤ 100000) :
    Calls Tryz.prog 61 #[.pointer (some ⟨sb, so, none⟩)] w (RowOf B (slotSpecs L q idx wots path) w) := by
  obtain ⟨S3, hS3⟩ : ∃ S3, sigSpecs idx wots path = S3 := ⟨_, rfl⟩
  obtain ⟨S0, hS0⟩ : ∃ S0 : FSpec, objSpec ⟨#[103]⟩ S3 = S0 := ⟨_, rfl⟩
  obtain ⟨S1, hS1⟩ : ∃ S1 : FSpec, (⟨⟨#[108]⟩, false, L == 0, true, numP L⟩ : FSpec) = S1 := ⟨_, rfl⟩
  obtain ⟨S2, hS2⟩ : ∃ S2 : FSpec, (⟨⟨#[115]⟩, false, !q, true, numP 1⟩ : FSpec) = S2 := ⟨_, rfl⟩
  have HSP : Hid (slotSpecs L q idx wots path = [S0, S1, S2]) := Lib.hid (by unfold slotSpecs; rw [hS3, hS0, hS1, hS2])
  have HL3 : Hid (len S3 = 3) := Lib.hid (by rw [← hS3]; rfl)
  have HSG : Hid (∀ w', Below w.heap.size w w' → Calls Tryz.prog 108 #[.pointer (some ⟨sb, so + 2, none⟩)] w' (fun e w'' => ∃ u, e = .returned u ∧ RowIn B S3 u w'' ∧ Below w'.heap.size w' w'')) := Lib.hid (fun w' hb => by
    rw [← hS3]
    exact (ofsig_any B sb (so + 2) idx wots path w' (Nat.le_trans hB hb.size) (h.c2.below hb) h0 h1 hw hp).mono (fun e w'' hh => rowIn_of (Nat.le_trans hB hb.size) hh))
  have HOB : Hid (∀ w' g c, ∀ l : List FVal, FRow w' g l → len l = 3 → FSems B w' l S3 → B ≤ w'.heap.size → Calls Tryz.prog 107 #[.string ⟨#[103]⟩, .slice (some ⟨g, 0, none⟩) (len l) c] w' (MadeF B S0 w')) := Lib.hid (fun w' g c l hF hl hS hB' => by
    rw [← hS0]
    exact (fobject_any B ⟨#[103]⟩ g c w' l S3 w' (by decide) hF (by omega) (by omega) hS (Keep8.refl hB')).mono (fun e w'' hh => madeF hB' hh))
  have HS1 : Hid (∀ w', Below w.heap.size w w' → Calls Tryz.prog 109 #[.string ⟨#[108]⟩, .pointer (some ⟨sb, so, none⟩)] w' (MadeF B S1 w')) := Lib.hid (fun w' hb => by
    rw [← hS1]
    exact (fnum_any B ⟨#[108]⟩ sb so L w' (by decide) (Nat.le_trans hB hb.size) (h.c0.below hb) hL0 hL1).mono (fun e w'' hh => madeF (Nat.le_trans hB hb.size) hh))
  have HS2 : Hid (∀ w', Below w.heap.size w w' → Calls Tryz.prog 110 #[.string ⟨#[115]⟩, .pointer (some ⟨sb, so + 1, none⟩)] w' (MadeF B S2 w')) := Lib.hid (fun w' hb => by
    rw [← hS2]
    exact (fflag_any B ⟨#[115]⟩ sb (so + 1) q w' (by decide) (Nat.le_trans hB hb.size) (h.c1.below hb)).mono (fun e w'' hh => madeF (Nat.le_trans hB hb.size) hh))
  clear h hS3 hS0 hS1 hS2
  go_enter Tryz.func61, Tryz.ntmps61
  go_upto_region 1 with fail
  refine wp_region_tail 13 1000 (none) (phis [fun u _ => u = (.pointer (some ⟨sb, so, none⟩)), fun u _ => u = (.pointer (some ⟨sb, so, none⟩)), fun u _ => u = (.pointer (some ⟨sb, so + 2, none⟩)), fun u w' => RowIn B S3 u w', fun u w' => ∃ v : FVal, u = v.val ∧ FIn B w' v S0, fun u _ => u = (.pointer (some ⟨sb, so, none⟩)), fun u _ => u = (.pointer (some ⟨sb, so, none⟩)), fun u _ => u = (.pointer (some ⟨sb, so, none⟩)), fun u w' => ∃ v : FVal, u = v.val ∧ FIn B w' v S1, fun u _ => u = (.pointer (some ⟨sb, so, none⟩)), fun u _ => u = (.pointer (some ⟨sb, so, none⟩)), fun u _ => u = (.pointer (some ⟨sb, so + 1, none⟩)), fun u w' => ∃ v : FVal, u = v.val ∧ FIn B w' v S2]) rfl (by kernel_rfl) (by kernel_rfl) (mono_of ⟨mono_eq, mono_eq, mono_eq, ?m3, ?m4, mono_eq, mono_eq, mono_eq, ?m8, mono_eq, mono_eq, mono_eq, ?m12, trivial⟩) (steps_of 13 ⟨?s0, ?s1, ?s2, ?s3, ?s4, ?s5, ?s6, ?s7, ?s8, ?s9, ?s10, ?s11, ?s12, trivial⟩) ?_
  case m3 =>
    exact ⟨fun u w1 w2 h h1 => h1.below h, fun _ u w1 w2 h h1 => h1.below (extB_none h)⟩
  case m4 =>
    exact ⟨fun u w1 w2 h ⟨v, h1, h2⟩ => ⟨v, h1, h2.below h⟩, fun _ u w1 w2 h ⟨v, h1, h2⟩ => ⟨v, h1, h2.below (extB_none h)⟩⟩
  case m8 =>
    exact ⟨fun u w1 w2 h ⟨v, h1, h2⟩ => ⟨v, h1, h2.below h⟩, fun _ u w1 w2 h ⟨v, h1, h2⟩ => ⟨v, h1, h2.below (extB_none h)⟩⟩
  case m12 =>
    exact ⟨fun u w1 w2 h ⟨v, h1, h2⟩ => ⟨v, h1, h2.below h⟩, fun _ u w1 w2 h ⟨v, h1, h2⟩ => ⟨v, h1, h2.below (extB_none h)⟩⟩
  case s0 =>
    refine step_val (v := (.pointer (some ⟨sb, so, none⟩))) (fun av wv hE hS hO hD => ?_) (fun _ => rfl)
    have h0 : av.eval (.tmp 0) = (.pointer (some ⟨sb, so, none⟩)) := hO.2.2 0 rfl
    have f0 := (ev_form av 0).symm.trans h0
    refine ⟨rfl, ?_⟩
    simp [go_sem, f0]
  case s1 =>
    refine step_val (v := (.pointer (some ⟨sb, so, none⟩))) (fun av wv hE hS hO hD => ?_) (fun _ => rfl)
    have d3 : av.eval (.tmp 3) = (.pointer (some ⟨sb, so, none⟩)) := hD.1 rfl _ rfl
    have f3 := (ev_form av 3).symm.trans d3
    refine ⟨rfl, ?_⟩
    simp [go_sem, f3]
  case s2 =>
    refine step_val (v := (.pointer (some ⟨sb, so + 2, none⟩))) (fun av wv hE hS hO hD => ?_) (fun _ => rfl)
    have d4 : av.eval (.tmp 4) = (.pointer (some ⟨sb, so, none⟩)) := hD.1 rfl _ rfl
    have f4 := (ev_form av 4).symm.trans d4
    refine ⟨rfl, ?_⟩
    simp [go_sem, f4]
  case s3 =>
    refine step_wp (fun av wv hE hS hO hD => ?_)
    have d5 : av.eval (.tmp 5) = (.pointer (some ⟨sb, so + 2, none⟩)) := hD.1 rfl _ rfl
    have f5 := (ev_form av 5).symm.trans d5
    refine ⟨rfl, ?_⟩
    refine wp_of_callP (f := 108) (args := #[.pointer (some ⟨sb, so + 2, none⟩)]) (by simp [go_sem, f5]) (HSG.out wv (of_drew hE)) (fun u w2 ⟨h1, hb⟩ => ⟨u, rfl, es_of_ext hb, h1⟩)
  case s4 =>
    refine step_wp (fun av wv hE hS hO hD => ?_)
    have d6 : (fun u w' => RowIn B S3 u w') (av.eval (.tmp 6)) wv := hD.1 rfl _ rfl
    refine ⟨rfl, ?_⟩
    obtain ⟨g6, c6, l6, hu6, hF6, hB6, hS6⟩ := d6
    have f6 := (ev_form av 6).symm.trans hu6
    have hl6 : len l6 = 3 := by rw [← hS6.1]; exact HL3.out
    refine wp_of_callP (f := 107) (args := #[.string ⟨#[103]⟩, .slice (some ⟨g6, 0, none⟩) (len l6) c6]) (by simp [go_sem, f6]) (HOB.out wv g6 c6 l6 hF6 hl6 hS6 hB6) (fun u w2 ⟨v, hu, hs, hb⟩ => ⟨u, rfl, es_of_ext hb, v, hu, hs⟩)
  case s5 =>
    refine step_val (v := (.pointer (some ⟨sb, so, none⟩))) (fun av wv hE hS hO hD => ?_) (fun _ => rfl)
    have h0 : av.eval (.tmp 0) = (.pointer (some ⟨sb, so, none⟩)) := hO.2.2 0 rfl
    have f0 := (ev_form av 0).symm.trans h0
    refine ⟨rfl, ?_⟩
    simp [go_sem, f0]
  case s6 =>
    refine step_val (v := (.pointer (some ⟨sb, so, none⟩))) (fun av wv hE hS hO hD => ?_) (fun _ => rfl)
    have d8 : av.eval (.tmp 8) = (.pointer (some ⟨sb, so, none⟩)) := hD.1 rfl _ rfl
    have f8 := (ev_form av 8).symm.trans d8
    refine ⟨rfl, ?_⟩
    simp [go_sem, f8]
  case s7 =>
    refine step_val (v := (.pointer (some ⟨sb, so, none⟩))) (fun av wv hE hS hO hD => ?_) (fun _ => rfl)
    have d9 : av.eval (.tmp 9) = (.pointer (some ⟨sb, so, none⟩)) := hD.1 rfl _ rfl
    have f9 := (ev_form av 9).symm.trans d9
    refine ⟨rfl, ?_⟩
    simp [go_sem, f9]
  case s8 =>
    refine step_wp (fun av wv hE hS hO hD => ?_)
    have d10 : av.eval (.tmp 10) = (.pointer (some ⟨sb, so, none⟩)) := hD.1 rfl _ rfl
    have f10 := (ev_form av 10).symm.trans d10
    refine ⟨rfl, ?_⟩
    refine wp_of_callP (f := 109) (args := #[.string ⟨#[108]⟩, .pointer (some ⟨sb, so, none⟩)]) (by simp [go_sem, f10]) (HS1.out wv (of_drew hE)) (fun u w2 ⟨v, hu, hs, hb⟩ => ⟨u, rfl, es_of_ext hb, v, hu, hs⟩)
  case s9 =>
    refine step_val (v := (.pointer (some ⟨sb, so, none⟩))) (fun av wv hE hS hO hD => ?_) (fun _ => rfl)
    have h0 : av.eval (.tmp 0) = (.pointer (some ⟨sb, so, none⟩)) := hO.2.2 0 rfl
    have f0 := (ev_form av 0).symm.trans h0
    refine ⟨rfl, ?_⟩
    simp [go_sem, f0]
  case s10 =>
    refine step_val (v := (.pointer (some ⟨sb, so, none⟩))) (fun av wv hE hS hO hD => ?_) (fun _ => rfl)
    have d12 : av.eval (.tmp 12) = (.pointer (some ⟨sb, so, none⟩)) := hD.1 rfl _ rfl
    have f12 := (ev_form av 12).symm.trans d12
    refine ⟨rfl, ?_⟩
    simp [go_sem, f12]
  case s11 =>
    refine step_val (v := (.pointer (some ⟨sb, so + 1, none⟩))) (fun av wv hE hS hO hD => ?_) (fun _ => rfl)
    have d13 : av.eval (.tmp 13) = (.pointer (some ⟨sb, so, none⟩)) := hD.1 rfl _ rfl
    have f13 := (ev_form av 13).symm.trans d13
    refine ⟨rfl, ?_⟩
    simp [go_sem, f13]
  case s12 =>
    refine step_wp (fun av wv hE hS hO hD => ?_)
    have d14 : av.eval (.tmp 14) = (.pointer (some ⟨sb, so + 1, none⟩)) := hD.1 rfl _ rfl
    have f14 := (ev_form av 14).symm.trans d14
    refine ⟨rfl, ?_⟩
    refine wp_of_callP (f := 110) (args := #[.string ⟨#[115]⟩, .pointer (some ⟨sb, so + 1, none⟩)]) (by simp [go_sem, f14]) (HS2.out wv (of_drew hE)) (fun u w2 ⟨v, hu, hs, hb⟩ => ⟨u, rfl, es_of_ext hb, v, hu, hs⟩)
  intro a' w' hE hO hall
  have hA := act_of_outer (ds := [3, 4, 5, 6, 7, 8, 9, 10, 11, 12, 13, 14, 15]) rfl hO (by kernel_rfl)
  have e3 : (fun u _ => u = (.pointer (some ⟨sb, so, none⟩))) (a'.eval (.tmp 3)) w' := hall.1 _ rfl
  have e4 : (fun u _ => u = (.pointer (some ⟨sb, so, none⟩))) (a'.eval (.tmp 4)) w' := hall.2.1 _ rfl
  have e5 : (fun u _ => u = (.pointer (some ⟨sb, so + 2, none⟩))) (a'.eval (.tmp 5)) w' := hall.2.2.1 _ rfl
  have e6 : (fun u w' => RowIn B S3 u w') (a'.eval (.tmp 6)) w' := hall.2.2.2.1 _ rfl
  have e7 : (fun u w' => ∃ v : FVal, u = v.val ∧ FIn B w' v S0) (a'.eval (.tmp 7)) w' := hall.2.2.2.2.1 _ rfl
  have e8 : (fun u _ => u = (.pointer (some ⟨sb, so, none⟩))) (a'.eval (.tmp 8)) w' := hall.2.2.2.2.2.1 _ rfl
  have e9 : (fun u _ => u = (.pointer (some ⟨sb, so, none⟩))) (a'.eval (.tmp 9)) w' := hall.2.2.2.2.2.2.1 _ rfl
  have e10 : (fun u _ => u = (.pointer (some ⟨sb, so, none⟩))) (a'.eval (.tmp 10)) w' := hall.2.2.2.2.2.2.2.1 _ rfl
  have e11 : (fun u w' => ∃ v : FVal, u = v.val ∧ FIn B w' v S1) (a'.eval (.tmp 11)) w' := hall.2.2.2.2.2.2.2.2.1 _ rfl
  have e12 : (fun u _ => u = (.pointer (some ⟨sb, so, none⟩))) (a'.eval (.tmp 12)) w' := hall.2.2.2.2.2.2.2.2.2.1 _ rfl
  have e13 : (fun u _ => u = (.pointer (some ⟨sb, so, none⟩))) (a'.eval (.tmp 13)) w' := hall.2.2.2.2.2.2.2.2.2.2.1 _ rfl
  have e14 : (fun u _ => u = (.pointer (some ⟨sb, so + 1, none⟩))) (a'.eval (.tmp 14)) w' := hall.2.2.2.2.2.2.2.2.2.2.2.1 _ rfl
  have e15 : (fun u w' => ∃ v : FVal, u = v.val ∧ FIn B w' v S2) (a'.eval (.tmp 15)) w' := hall.2.2.2.2.2.2.2.2.2.2.2.2.1 _ rfl
  obtain ⟨v6, hv6⟩ : ∃ v, a'.eval (.tmp 6) = v := ⟨_, rfl⟩
  rw [hv6] at e6
  obtain ⟨v7, hv7⟩ : ∃ v, a'.eval (.tmp 7) = v := ⟨_, rfl⟩
  rw [hv7] at e7
  obtain ⟨v11, hv11⟩ : ∃ v, a'.eval (.tmp 11) = v := ⟨_, rfl⟩
  rw [hv11] at e11
  obtain ⟨v15, hv15⟩ : ∃ v, a'.eval (.tmp 15) = v := ⟨_, rfl⟩
  rw [hv15] at e15
  simp only [List.foldl_cons, List.foldl_nil, Act.put, List.setIfInBounds_toArray, List.set_cons_succ, List.set_cons_zero, e3, e4, e5, hv6, hv7, e8, e9, e10, hv11, e12, e13, e14, hv15] at hA
  clear hO hall e3 e4 e5 hv6 hv7 e8 e9 e10 hv11 e12 e13 e14 hv15
  subst hA
  obtain ⟨x0, rfl, s0⟩ := e7
  obtain ⟨x1, rfl, s1⟩ := e11
  obtain ⟨x2, rfl, s2⟩ := e15
  have HSS : Hid (FSems B w' [x0, x1, x2] [S0, S1, S2]) := Lib.hid ⟨rfl, fun i hi => by
    have : i = 0 ∨ i = 1 ∨ i = 2 := by simp [len] at hi; omega
    rcases this with rfl | rfl | rfl
    · exact s0.2
    · exact s1.2
    · exact s2.2⟩
  have HBW : Hid (Below w.heap.size w w' ∧ B ≤ w'.heap.size) := Lib.hid ⟨of_drew hE, s0.1⟩
  clear s0 s1 s2 hE e6
  unfold FVal.val
  go_wp2
  go_ret
  refine ⟨w'.heap.size, 3, [x0, x1, x2], rfl, ⟨Flds.block (l := [x0, x1, x2]) (heap_alloc_new w' _), _, heap_alloc_new w' _⟩, ?_, bnext HBW.out.1 (balloc (Below.refl _ _) _)⟩
  rw [HSP.out]
  exact HSS.out.later (Keep8.of_below (balloc (Below.refl _ _) _) HBW.out.2)
structure PartAt (B : Nat) (w : World) (b o : Nat) (root : ByteArray) (weight first life keys : Int) : Prop where
  c0 : CellAt B w b o (.string root)
  c1 : CellAt B w b (o + 1) (.int .u64 weight)
  c2 : CellAt B w b (o + 2) (.int .u64 first)
  c3 : CellAt B w b (o + 3) (.int .u64 life)
  c4 : CellAt B w b (o + 4) (.int .u64 keys)
theorem PartAt.below {B : Nat} {w w' : World} {b o : Nat} {root : ByteArray} {weight first life keys : Int} (h : PartAt B w b o root weight first life keys) (hb : Below w.heap.size w w') : PartAt B w' b o root weight first life keys := ⟨h.c0.below hb, h.c1.below hb, h.c2.below hb, h.c3.below hb, h.c4.below hb⟩
def partSpecs (root : ByteArray) (weight first life keys : Int) : List FSpec :=
  [⟨⟨#[102]⟩, false, first == 0, true, numP first⟩, ⟨⟨#[107]⟩, false, keys == 0, true, numP keys⟩, ⟨⟨#[108]⟩, false, life == 0, true, numP life⟩, ⟨⟨#[114]⟩, true, false, decide (root.size = 32), binP root⟩, ⟨⟨#[119]⟩, false, weight == 0, true, numP weight⟩]
def U64i (x : Int) : Prop := 0 ≤ x ∧ x ≤ 18446744073709551615
set_option maxRecDepth 100000 in
set_option maxHeartbeats 4000000 in
theorem ofpart_any (B sb so : Nat) (root : ByteArray) (weight first life keys : Int) (w : World) (hB : B ≤ w.heap.size) (h : PartAt B w sb so root weight first life keys) (hr : root.size ≤ 9223372036854775807) (hw : U64i weight) (hf : U64i first) (hl : U64i life) (hk : U64i keys) :
    Calls Tryz.prog 62 #[.pointer (some ⟨sb, so, none⟩)] w (RowOf B (partSpecs root weight first life keys) w) := by
  obtain ⟨S0, hS0⟩ : ∃ S : FSpec, (⟨⟨#[102]⟩, false, first == 0, true, numP first⟩ : FSpec) = S := ⟨_, rfl⟩
  obtain ⟨S1, hS1⟩ : ∃ S : FSpec, (⟨⟨#[107]⟩, false, keys == 0, true, numP keys⟩ : FSpec) = S := ⟨_, rfl⟩
  obtain ⟨S2, hS2⟩ : ∃ S : FSpec, (⟨⟨#[108]⟩, false, life == 0, true, numP life⟩ : FSpec) = S := ⟨_, rfl⟩
  obtain ⟨S3, hS3⟩ : ∃ S : FSpec, (⟨⟨#[114]⟩, true, false, decide (root.size = 32), binP root⟩ : FSpec) = S := ⟨_, rfl⟩
  obtain ⟨S4, hS4⟩ : ∃ S : FSpec, (⟨⟨#[119]⟩, false, weight == 0, true, numP weight⟩ : FSpec) = S := ⟨_, rfl⟩
  have HSP : Hid (partSpecs root weight first life keys = [S0, S1, S2, S3, S4]) := Lib.hid (by unfold partSpecs; rw [hS0, hS1, hS2, hS3, hS4])
  have HS0 : Hid (∀ w', Below w.heap.size w w' → Calls Tryz.prog 109 #[.string ⟨#[102]⟩, .pointer (some ⟨sb, so + 2, none⟩)] w' (MadeF B S0 w')) := Lib.hid (fun w' hb => by
    rw [← hS0]
    exact (fnum_any B ⟨#[102]⟩ sb (so + 2) first w' (by decide) (Nat.le_trans hB hb.size) (h.c2.below hb) hf.1 hf.2).mono (fun e w'' hh => madeF (Nat.le_trans hB hb.size) hh))
  have HS1 : Hid (∀ w', Below w.heap.size w w' → Calls Tryz.prog 109 #[.string ⟨#[107]⟩, .pointer (some ⟨sb, so + 4, none⟩)] w' (MadeF B S1 w')) := Lib.hid (fun w' hb => by
    rw [← hS1]
    exact (fnum_any B ⟨#[107]⟩ sb (so + 4) keys w' (by decide) (Nat.le_trans hB hb.size) (h.c4.below hb) hk.1 hk.2).mono (fun e w'' hh => madeF (Nat.le_trans hB hb.size) hh))
  have HS2 : Hid (∀ w', Below w.heap.size w w' → Calls Tryz.prog 109 #[.string ⟨#[108]⟩, .pointer (some ⟨sb, so + 3, none⟩)] w' (MadeF B S2 w')) := Lib.hid (fun w' hb => by
    rw [← hS2]
    exact (fnum_any B ⟨#[108]⟩ sb (so + 3) life w' (by decide) (Nat.le_trans hB hb.size) (h.c3.below hb) hl.1 hl.2).mono (fun e w'' hh => madeF (Nat.le_trans hB hb.size) hh))
  have HS3 : Hid (∀ w', Below w.heap.size w w' → Calls Tryz.prog 111 #[.string ⟨#[114]⟩, .pointer (some ⟨sb, so, none⟩)] w' (MadeF B S3 w')) := Lib.hid (fun w' hb => by
    rw [← hS3]
    exact (fdigest_any B ⟨#[114]⟩ sb so root w' (by decide) (Nat.le_trans hB hb.size) (h.c0.below hb) hr).mono (fun e w'' hh => madeF (Nat.le_trans hB hb.size) hh))
  have HS4 : Hid (∀ w', Below w.heap.size w w' → Calls Tryz.prog 109 #[.string ⟨#[119]⟩, .pointer (some ⟨sb, so + 1, none⟩)] w' (MadeF B S4 w')) := Lib.hid (fun w' hb => by
    rw [← hS4]
    exact (fnum_any B ⟨#[119]⟩ sb (so + 1) weight w' (by decide) (Nat.le_trans hB hb.size) (h.c1.below hb) hw.1 hw.2).mono (fun e w'' hh => madeF (Nat.le_trans hB hb.size) hh))
  clear h hS3 hS0 hS1 hS2 hS4
  go_enter Tryz.func62, Tryz.ntmps62
  go_upto_region 1 with fail
  refine wp_region_tail 20 1000 (none) (phis [fun u _ => u = (.pointer (some ⟨sb, so, none⟩)), fun u _ => u = (.pointer (some ⟨sb, so, none⟩)), fun u _ => u = (.pointer (some ⟨sb, so + 2, none⟩)), fun u w' => ∃ v : FVal, u = v.val ∧ FIn B w' v S0, fun u _ => u = (.pointer (some ⟨sb, so, none⟩)), fun u _ => u = (.pointer (some ⟨sb, so, none⟩)), fun u _ => u = (.pointer (some ⟨sb, so + 4, none⟩)), fun u w' => ∃ v : FVal, u = v.val ∧ FIn B w' v S1, fun u _ => u = (.pointer (some ⟨sb, so, none⟩)), fun u _ => u = (.pointer (some ⟨sb, so, none⟩)), fun u _ => u = (.pointer (some ⟨sb, so + 3, none⟩)), fun u w' => ∃ v : FVal, u = v.val ∧ FIn B w' v S2, fun u _ => u = (.pointer (some ⟨sb, so, none⟩)), fun u _ => u = (.pointer (some ⟨sb, so, none⟩)), fun u _ => u = (.pointer (some ⟨sb, so, none⟩)), fun u w' => ∃ v : FVal, u = v.val ∧ FIn B w' v S3, fun u _ => u = (.pointer (some ⟨sb, so, none⟩)), fun u _ => u = (.pointer (some ⟨sb, so, none⟩)), fun u _ => u = (.pointer (some ⟨sb, so + 1, none⟩)), fun u w' => ∃ v : FVal, u = v.val ∧ FIn B w' v S4]) rfl (by kernel_rfl) (by kernel_rfl) (mono_of ⟨mono_eq, mono_eq, mono_eq, ?m3, mono_eq, mono_eq, mono_eq, ?m7, mono_eq, mono_eq, mono_eq, ?m11, mono_eq, mono_eq, mono_eq, ?m15, mono_eq, mono_eq, mono_eq, ?m19, trivial⟩) (steps_of 20 ⟨?s0, ?s1, ?s2, ?s3, ?s4, ?s5, ?s6, ?s7, ?s8, ?s9, ?s10, ?s11, ?s12, ?s13, ?s14, ?s15, ?s16, ?s17, ?s18, ?s19, trivial⟩) ?_
  case m3 =>
    exact ⟨fun u w1 w2 h ⟨v, h1, h2⟩ => ⟨v, h1, h2.below h⟩, fun _ u w1 w2 h ⟨v, h1, h2⟩ => ⟨v, h1, h2.below (extB_none h)⟩⟩
  case m7 =>
    exact ⟨fun u w1 w2 h ⟨v, h1, h2⟩ => ⟨v, h1, h2.below h⟩, fun _ u w1 w2 h ⟨v, h1, h2⟩ => ⟨v, h1, h2.below (extB_none h)⟩⟩
  case m11 =>
    exact ⟨fun u w1 w2 h ⟨v, h1, h2⟩ => ⟨v, h1, h2.below h⟩, fun _ u w1 w2 h ⟨v, h1, h2⟩ => ⟨v, h1, h2.below (extB_none h)⟩⟩
  case m15 =>
    exact ⟨fun u w1 w2 h ⟨v, h1, h2⟩ => ⟨v, h1, h2.below h⟩, fun _ u w1 w2 h ⟨v, h1, h2⟩ => ⟨v, h1, h2.below (extB_none h)⟩⟩
  case m19 =>
    exact ⟨fun u w1 w2 h ⟨v, h1, h2⟩ => ⟨v, h1, h2.below h⟩, fun _ u w1 w2 h ⟨v, h1, h2⟩ => ⟨v, h1, h2.below (extB_none h)⟩⟩
  case s0 =>
    refine step_val (v := (.pointer (some ⟨sb, so, none⟩))) (fun av wv hE hS hO hD => ?_) (fun _ => rfl)
    have h0 : av.eval (.tmp 0) = (.pointer (some ⟨sb, so, none⟩)) := hO.2.2 0 rfl
    have f0 := (ev_form av 0).symm.trans h0
    refine ⟨rfl, ?_⟩
    simp [go_sem, f0]
  case s1 =>
    refine step_val (v := (.pointer (some ⟨sb, so, none⟩))) (fun av wv hE hS hO hD => ?_) (fun _ => rfl)
    have d3 : av.eval (.tmp 3) = (.pointer (some ⟨sb, so, none⟩)) := hD.1 rfl _ rfl
    have f3 := (ev_form av 3).symm.trans d3
    refine ⟨rfl, ?_⟩
    simp [go_sem, f3]
  case s2 =>
    refine step_val (v := (.pointer (some ⟨sb, so + 2, none⟩))) (fun av wv hE hS hO hD => ?_) (fun _ => rfl)
    have d4 : av.eval (.tmp 4) = (.pointer (some ⟨sb, so, none⟩)) := hD.1 rfl _ rfl
    have f4 := (ev_form av 4).symm.trans d4
    refine ⟨rfl, ?_⟩
    simp [go_sem, f4]
  case s3 =>
    refine step_wp (fun av wv hE hS hO hD => ?_)
    have d5 : av.eval (.tmp 5) = (.pointer (some ⟨sb, so + 2, none⟩)) := hD.1 rfl _ rfl
    have f5 := (ev_form av 5).symm.trans d5
    refine ⟨rfl, ?_⟩
    refine wp_of_callP (f := 109) (args := #[.string ⟨#[102]⟩, .pointer (some ⟨sb, so + 2, none⟩)]) (by simp [go_sem, f5]) (HS0.out wv (of_drew hE)) (fun u w2 ⟨v, hu, hs, hb⟩ => ⟨u, rfl, es_of_ext hb, v, hu, hs⟩)
  case s4 =>
    refine step_val (v := (.pointer (some ⟨sb, so, none⟩))) (fun av wv hE hS hO hD => ?_) (fun _ => rfl)
    have h0 : av.eval (.tmp 0) = (.pointer (some ⟨sb, so, none⟩)) := hO.2.2 0 rfl
    have f0 := (ev_form av 0).symm.trans h0
    refine ⟨rfl, ?_⟩
    simp [go_sem, f0]
  case s5 =>
    refine step_val (v := (.pointer (some ⟨sb, so, none⟩))) (fun av wv hE hS hO hD => ?_) (fun _ => rfl)
    have d7 : av.eval (.tmp 7) = (.pointer (some ⟨sb, so, none⟩)) := hD.1 rfl _ rfl
    have f7 := (ev_form av 7).symm.trans d7
    refine ⟨rfl, ?_⟩
    simp [go_sem, f7]
  case s6 =>
    refine step_val (v := (.pointer (some ⟨sb, so + 4, none⟩))) (fun av wv hE hS hO hD => ?_) (fun _ => rfl)
    have d8 : av.eval (.tmp 8) = (.pointer (some ⟨sb, so, none⟩)) := hD.1 rfl _ rfl
    have f8 := (ev_form av 8).symm.trans d8
    refine ⟨rfl, ?_⟩
    simp [go_sem, f8]
  case s7 =>
    refine step_wp (fun av wv hE hS hO hD => ?_)
    have d9 : av.eval (.tmp 9) = (.pointer (some ⟨sb, so + 4, none⟩)) := hD.1 rfl _ rfl
    have f9 := (ev_form av 9).symm.trans d9
    refine ⟨rfl, ?_⟩
    refine wp_of_callP (f := 109) (args := #[.string ⟨#[107]⟩, .pointer (some ⟨sb, so + 4, none⟩)]) (by simp [go_sem, f9]) (HS1.out wv (of_drew hE)) (fun u w2 ⟨v, hu, hs, hb⟩ => ⟨u, rfl, es_of_ext hb, v, hu, hs⟩)
  case s8 =>
    refine step_val (v := (.pointer (some ⟨sb, so, none⟩))) (fun av wv hE hS hO hD => ?_) (fun _ => rfl)
    have h0 : av.eval (.tmp 0) = (.pointer (some ⟨sb, so, none⟩)) := hO.2.2 0 rfl
    have f0 := (ev_form av 0).symm.trans h0
    refine ⟨rfl, ?_⟩
    simp [go_sem, f0]
  case s9 =>
    refine step_val (v := (.pointer (some ⟨sb, so, none⟩))) (fun av wv hE hS hO hD => ?_) (fun _ => rfl)
    have d11 : av.eval (.tmp 11) = (.pointer (some ⟨sb, so, none⟩)) := hD.1 rfl _ rfl
    have f11 := (ev_form av 11).symm.trans d11
    refine ⟨rfl, ?_⟩
    simp [go_sem, f11]
  case s10 =>
    refine step_val (v := (.pointer (some ⟨sb, so + 3, none⟩))) (fun av wv hE hS hO hD => ?_) (fun _ => rfl)
    have d12 : av.eval (.tmp 12) = (.pointer (some ⟨sb, so, none⟩)) := hD.1 rfl _ rfl
    have f12 := (ev_form av 12).symm.trans d12
    refine ⟨rfl, ?_⟩
    simp [go_sem, f12]
  case s11 =>
    refine step_wp (fun av wv hE hS hO hD => ?_)
    have d13 : av.eval (.tmp 13) = (.pointer (some ⟨sb, so + 3, none⟩)) := hD.1 rfl _ rfl
    have f13 := (ev_form av 13).symm.trans d13
    refine ⟨rfl, ?_⟩
    refine wp_of_callP (f := 109) (args := #[.string ⟨#[108]⟩, .pointer (some ⟨sb, so + 3, none⟩)]) (by simp [go_sem, f13]) (HS2.out wv (of_drew hE)) (fun u w2 ⟨v, hu, hs, hb⟩ => ⟨u, rfl, es_of_ext hb, v, hu, hs⟩)
  case s12 =>
    refine step_val (v := (.pointer (some ⟨sb, so, none⟩))) (fun av wv hE hS hO hD => ?_) (fun _ => rfl)
    have h0 : av.eval (.tmp 0) = (.pointer (some ⟨sb, so, none⟩)) := hO.2.2 0 rfl
    have f0 := (ev_form av 0).symm.trans h0
    refine ⟨rfl, ?_⟩
    simp [go_sem, f0]
  case s13 =>
    refine step_val (v := (.pointer (some ⟨sb, so, none⟩))) (fun av wv hE hS hO hD => ?_) (fun _ => rfl)
    have d15 : av.eval (.tmp 15) = (.pointer (some ⟨sb, so, none⟩)) := hD.1 rfl _ rfl
    have f15 := (ev_form av 15).symm.trans d15
    refine ⟨rfl, ?_⟩
    simp [go_sem, f15]
  case s14 =>
    refine step_val (v := (.pointer (some ⟨sb, so, none⟩))) (fun av wv hE hS hO hD => ?_) (fun _ => rfl)
    have d16 : av.eval (.tmp 16) = (.pointer (some ⟨sb, so, none⟩)) := hD.1 rfl _ rfl
    have f16 := (ev_form av 16).symm.trans d16
    refine ⟨rfl, ?_⟩
    simp [go_sem, f16]
  case s15 =>
    refine step_wp (fun av wv hE hS hO hD => ?_)
    have d17 : av.eval (.tmp 17) = (.pointer (some ⟨sb, so, none⟩)) := hD.1 rfl _ rfl
    have f17 := (ev_form av 17).symm.trans d17
    refine ⟨rfl, ?_⟩
    refine wp_of_callP (f := 111) (args := #[.string ⟨#[114]⟩, .pointer (some ⟨sb, so, none⟩)]) (by simp [go_sem, f17]) (HS3.out wv (of_drew hE)) (fun u w2 ⟨v, hu, hs, hb⟩ => ⟨u, rfl, es_of_ext hb, v, hu, hs⟩)
  case s16 =>
    refine step_val (v := (.pointer (some ⟨sb, so, none⟩))) (fun av wv hE hS hO hD => ?_) (fun _ => rfl)
    have h0 : av.eval (.tmp 0) = (.pointer (some ⟨sb, so, none⟩)) := hO.2.2 0 rfl
    have f0 := (ev_form av 0).symm.trans h0
    refine ⟨rfl, ?_⟩
    simp [go_sem, f0]
  case s17 =>
    refine step_val (v := (.pointer (some ⟨sb, so, none⟩))) (fun av wv hE hS hO hD => ?_) (fun _ => rfl)
    have d19 : av.eval (.tmp 19) = (.pointer (some ⟨sb, so, none⟩)) := hD.1 rfl _ rfl
    have f19 := (ev_form av 19).symm.trans d19
    refine ⟨rfl, ?_⟩
    simp [go_sem, f19]
  case s18 =>
    refine step_val (v := (.pointer (some ⟨sb, so + 1, none⟩))) (fun av wv hE hS hO hD => ?_) (fun _ => rfl)
    have d20 : av.eval (.tmp 20) = (.pointer (some ⟨sb, so, none⟩)) := hD.1 rfl _ rfl
    have f20 := (ev_form av 20).symm.trans d20
    refine ⟨rfl, ?_⟩
    simp [go_sem, f20]
  case s19 =>
    refine step_wp (fun av wv hE hS hO hD => ?_)
    have d21 : av.eval (.tmp 21) = (.pointer (some ⟨sb, so + 1, none⟩)) := hD.1 rfl _ rfl
    have f21 := (ev_form av 21).symm.trans d21
    refine ⟨rfl, ?_⟩
    refine wp_of_callP (f := 109) (args := #[.string ⟨#[119]⟩, .pointer (some ⟨sb, so + 1, none⟩)]) (by simp [go_sem, f21]) (HS4.out wv (of_drew hE)) (fun u w2 ⟨v, hu, hs, hb⟩ => ⟨u, rfl, es_of_ext hb, v, hu, hs⟩)
  intro a' w' hE hO hall
  have hA := act_of_outer (ds := [3, 4, 5, 6, 7, 8, 9, 10, 11, 12, 13, 14, 15, 16, 17, 18, 19, 20, 21, 22]) rfl hO (by kernel_rfl)
  have e3 : (fun u _ => u = (.pointer (some ⟨sb, so, none⟩))) (a'.eval (.tmp 3)) w' := hall.1 _ rfl
  have e4 : (fun u _ => u = (.pointer (some ⟨sb, so, none⟩))) (a'.eval (.tmp 4)) w' := hall.2.1 _ rfl
  have e5 : (fun u _ => u = (.pointer (some ⟨sb, so + 2, none⟩))) (a'.eval (.tmp 5)) w' := hall.2.2.1 _ rfl
  have e6 : (fun u w' => ∃ v : FVal, u = v.val ∧ FIn B w' v S0) (a'.eval (.tmp 6)) w' := hall.2.2.2.1 _ rfl
  have e7 : (fun u _ => u = (.pointer (some ⟨sb, so, none⟩))) (a'.eval (.tmp 7)) w' := hall.2.2.2.2.1 _ rfl
  have e8 : (fun u _ => u = (.pointer (some ⟨sb, so, none⟩))) (a'.eval (.tmp 8)) w' := hall.2.2.2.2.2.1 _ rfl
  have e9 : (fun u _ => u = (.pointer (some ⟨sb, so + 4, none⟩))) (a'.eval (.tmp 9)) w' := hall.2.2.2.2.2.2.1 _ rfl
  have e10 : (fun u w' => ∃ v : FVal, u = v.val ∧ FIn B w' v S1) (a'.eval (.tmp 10)) w' := hall.2.2.2.2.2.2.2.1 _ rfl
  have e11 : (fun u _ => u = (.pointer (some ⟨sb, so, none⟩))) (a'.eval (.tmp 11)) w' := hall.2.2.2.2.2.2.2.2.1 _ rfl
  have e12 : (fun u _ => u = (.pointer (some ⟨sb, so, none⟩))) (a'.eval (.tmp 12)) w' := hall.2.2.2.2.2.2.2.2.2.1 _ rfl
  have e13 : (fun u _ => u = (.pointer (some ⟨sb, so + 3, none⟩))) (a'.eval (.tmp 13)) w' := hall.2.2.2.2.2.2.2.2.2.2.1 _ rfl
  have e14 : (fun u w' => ∃ v : FVal, u = v.val ∧ FIn B w' v S2) (a'.eval (.tmp 14)) w' := hall.2.2.2.2.2.2.2.2.2.2.2.1 _ rfl
  have e15 : (fun u _ => u = (.pointer (some ⟨sb, so, none⟩))) (a'.eval (.tmp 15)) w' := hall.2.2.2.2.2.2.2.2.2.2.2.2.1 _ rfl
  have e16 : (fun u _ => u = (.pointer (some ⟨sb, so, none⟩))) (a'.eval (.tmp 16)) w' := hall.2.2.2.2.2.2.2.2.2.2.2.2.2.1 _ rfl
  have e17 : (fun u _ => u = (.pointer (some ⟨sb, so, none⟩))) (a'.eval (.tmp 17)) w' := hall.2.2.2.2.2.2.2.2.2.2.2.2.2.2.1 _ rfl
  have e18 : (fun u w' => ∃ v : FVal, u = v.val ∧ FIn B w' v S3) (a'.eval (.tmp 18)) w' := hall.2.2.2.2.2.2.2.2.2.2.2.2.2.2.2.1 _ rfl
  have e19 : (fun u _ => u = (.pointer (some ⟨sb, so, none⟩))) (a'.eval (.tmp 19)) w' := hall.2.2.2.2.2.2.2.2.2.2.2.2.2.2.2.2.1 _ rfl
  have e20 : (fun u _ => u = (.pointer (some ⟨sb, so, none⟩))) (a'.eval (.tmp 20)) w' := hall.2.2.2.2.2.2.2.2.2.2.2.2.2.2.2.2.2.1 _ rfl
  have e21 : (fun u _ => u = (.pointer (some ⟨sb, so + 1, none⟩))) (a'.eval (.tmp 21)) w' := hall.2.2.2.2.2.2.2.2.2.2.2.2.2.2.2.2.2.2.1 _ rfl
  have e22 : (fun u w' => ∃ v : FVal, u = v.val ∧ FIn B w' v S4) (a'.eval (.tmp 22)) w' := hall.2.2.2.2.2.2.2.2.2.2.2.2.2.2.2.2.2.2.2.1 _ rfl
  obtain ⟨v6, hv6⟩ : ∃ v, a'.eval (.tmp 6) = v := ⟨_, rfl⟩
  rw [hv6] at e6
  obtain ⟨v10, hv10⟩ : ∃ v, a'.eval (.tmp 10) = v := ⟨_, rfl⟩
  rw [hv10] at e10
  obtain ⟨v14, hv14⟩ : ∃ v, a'.eval (.tmp 14) = v := ⟨_, rfl⟩
  rw [hv14] at e14
  obtain ⟨v18, hv18⟩ : ∃ v, a'.eval (.tmp 18) = v := ⟨_, rfl⟩
  rw [hv18] at e18
  obtain ⟨v22, hv22⟩ : ∃ v, a'.eval (.tmp 22) = v := ⟨_, rfl⟩
  rw [hv22] at e22
  simp only [List.foldl_cons, List.foldl_nil, Act.put, List.setIfInBounds_toArray, List.set_cons_succ, List.set_cons_zero, e3, e4, e5, hv6, e7, e8, e9, hv10, e11, e12, e13, hv14, e15, e16, e17, hv18, e19, e20, e21, hv22] at hA
  clear hO hall e3 e4 e5 hv6 e7 e8 e9 hv10 e11 e12 e13 hv14 e15 e16 e17 hv18 e19 e20 e21 hv22
  subst hA
  obtain ⟨x0, rfl, s0⟩ := e6
  obtain ⟨x1, rfl, s1⟩ := e10
  obtain ⟨x2, rfl, s2⟩ := e14
  obtain ⟨x3, rfl, s3⟩ := e18
  obtain ⟨x4, rfl, s4⟩ := e22
  have HSS : Hid (FSems B w' [x0, x1, x2, x3, x4] [S0, S1, S2, S3, S4]) := Lib.hid ⟨rfl, fun i hi => by
    have : i = 0 ∨ i = 1 ∨ i = 2 ∨ i = 3 ∨ i = 4 := by simp [len] at hi; omega
    rcases this with rfl | rfl | rfl | rfl | rfl
    · exact s0.2
    · exact s1.2
    · exact s2.2
    · exact s3.2
    · exact s4.2⟩
  have HBW : Hid (Below w.heap.size w w' ∧ B ≤ w'.heap.size) := Lib.hid ⟨of_drew hE, s0.1⟩
  clear s0 s1 s2 s3 s4 hE
  unfold FVal.val
  go_wp2
  go_ret
  refine ⟨w'.heap.size, 5, [x0, x1, x2, x3, x4], rfl, ⟨Flds.block (l := [x0, x1, x2, x3, x4]) (heap_alloc_new w' _), _, heap_alloc_new w' _⟩, ?_, bnext HBW.out.1 (balloc (Below.refl _ _) _)⟩
  rw [HSP.out]
  exact HSS.out.later (Keep8.of_below (balloc (Below.refl _ _) _) HBW.out.2)
end Go.Proofs.YtihiaopilnjonaaGreatDoor
namespace Go.Proofs.YtihiaopilnjonaaGreatDoor
open Go.RowKit
set_option linter.unusedSimpArgs false
set_option linter.unusedVariables false
set_option maxRecDepth 100000 in
theorem wslot2_any (B : Nat) (L : Int) (q : Bool) (idx : Int) (a1 a2 : Option Addr) (k1 k2 : Nat) (wots path : List ByteArray) (w : World) (ht : PTab B w) (hs1 : Strs B w a1 wots) (hs2 : Strs B w a2 path) (h0 : 0 ≤ idx) (h1 : idx ≤ 18446744073709551615) (hL0 : 0 ≤ L) (hL1 : L ≤ 18446744073709551615) (hw : len wots ≤ 100000) (hp : len path ≤ 100000)
    (hsz : allMay (slotSpecs L q idx wots path) = true → (layP (slotSpecs L q idx wots path)).size ≤ 60000000000000) :
    Calls Tryz.prog 24 #[.agg #[.int .u64 L, .bool q, .int .u64 idx, .slice a1 (len wots) k1, .slice a2 (len path) k2]] w (LaidIs (slotSpecs L q idx wots path) w) := by
  have HT := Lib.hid ht
  have HS1 := Lib.hid hs1
  have HS2 := Lib.hid hs2
  clear ht hs1 hs2
  go_enter Tryz.func24, Tryz.ntmps24
  go_wp2_with fail
  obtain ⟨V, hV⟩ : ∃ V, w.alloc (.cells #[.int .u64 L, .bool q, .int .u64 idx, .slice a1 (len wots) k1, .slice a2 (len path) k2] 44) = V := ⟨_, rfl⟩
  have HB : Hid (Below w.heap.size w V) := Lib.hid (by rw [← hV]; (repeat (first | exact Below.refl _ _ | assumption | (refine bdrew ?_) | (refine bdrewN ?_ _) | (refine balloc ?_ _) | (refine bset ?_ (by first | omega | (simp; done) | (simp; omega)) _) | (refine bnext ?_ (by assumption)))))
  have hblk : V.heap[w.heap.size]? = some (.cells #[.int .u64 L, .bool q, .int .u64 idx, .slice a1 (len wots) k1, .slice a2 (len path) k2] 44 (0, 0)) := by rw [← hV]; exact heap_alloc_new _ _
  have HSL : Hid (SlotAt B V w.heap.size 0 L q idx wots path) := Lib.hid ⟨cellAt_new hblk (by decide) rfl, cellAt_new hblk (by decide) rfl, ⟨cellAt_new hblk (by decide) rfl, ⟨a1, k1, cellAt_new hblk (by decide) rfl, HS1.out.below HB.out⟩, ⟨a2, k2, cellAt_new hblk (by decide) rfl, HS2.out.below HB.out⟩⟩⟩
  have HTV := Lib.hid (HT.out.keep HB.out HT.out.size)
  try rw [hV]
  clear hV hblk HT
  refine (ofslot_any B w.heap.size 0 L q idx wots path V HTV.out.size HSL.out h0 h1 hL0 hL1 hw hp).mono ?_
  rintro e w1 ⟨g, c, l, rfl, hF, hS, hb⟩
  have HF := Lib.hid hF
  have HS := Lib.hid hS
  have HB1 : Hid (Below w.heap.size w w1) := Lib.hid (bnext HB.out hb)
  have HT1 := Lib.hid (HTV.out.keep hb HTV.out.size)
  have hl : len l = 3 := hS.1.symm
  have HL := Lib.hid hl
  clear hF hS hb hl HTV HSL
  go_wp2_with fail
  refine (wlaid2_any B g 0 c w1 l (slotSpecs L q idx wots path) w1 HF.out.flds (by rw [HL.out]; decide) (by rw [HL.out]; decide) HS.out (Keep8.refl HT1.out.size) HT1.out hsz).mono ?_
  rintro e w2 ⟨rfl, hb2⟩
  have HB2 : Hid (Below w.heap.size w w2) := Lib.hid (bnext HB1.out hb2)
  clear hb2
  cases hm : allMay (slotSpecs L q idx wots path) with
  | true =>
    have HM := Lib.hid hm
    clear hm
    rw [if_pos rfl]
    go_wp2
    go_ret2
    exact ⟨by rw [HM.out]; rfl, HB2.out⟩
  | false =>
    have HM := Lib.hid hm
    clear hm
    rw [if_neg (by decide)]
    go_wp2
    go_ret2
    exact ⟨by rw [HM.out]; rfl, HB2.out⟩
theorem wslot_any (B : Nat) (L : Int) (q : Bool) (idx : Int) (a1 a2 : Option Addr) (k1 k2 : Nat) (wots path : List ByteArray) (w : World) (ht : PTab B w) (hs1 : Strs B w a1 wots) (hs2 : Strs B w a2 path) (h0 : 0 ≤ idx) (h1 : idx ≤ 18446744073709551615) (hL0 : 0 ≤ L) (hL1 : L ≤ 18446744073709551615) (hw : len wots ≤ 100000) (hp : len path ≤ 100000)
    (hsz : (layP (slotSpecs L q idx wots path)).size ≤ 60000000000000) :
    Calls Tryz.prog 24 #[.agg #[.int .u64 L, .bool q, .int .u64 idx, .slice a1 (len wots) k1, .slice a2 (len path) k2]] w (LaidIs (slotSpecs L q idx wots path) w) :=
  wslot2_any B L q idx a1 a2 k1 k2 wots path w ht hs1 hs2 h0 h1 hL0 hL1 hw hp (fun _ => hsz)
set_option maxRecDepth 100000 in
theorem wpart2_any (B : Nat) (root : ByteArray) (weight first life keys : Int) (w : World) (ht : PTab B w) (hr : root.size ≤ 9223372036854775807) (hw : U64i weight) (hf : U64i first) (hl : U64i life) (hk : U64i keys)
    (hsz : allMay (partSpecs root weight first life keys) = true → (layP (partSpecs root weight first life keys)).size ≤ 60000000000000) :
    Calls Tryz.prog 25 #[.agg #[.string root, .int .u64 weight, .int .u64 first, .int .u64 life, .int .u64 keys]] w (LaidIs (partSpecs root weight first life keys) w) := by
  have HT := Lib.hid ht
  clear ht
  go_enter Tryz.func25, Tryz.ntmps25
  go_wp2_with fail
  obtain ⟨V, hV⟩ : ∃ V, w.alloc (.cells #[.string root, .int .u64 weight, .int .u64 first, .int .u64 life, .int .u64 keys] 46) = V := ⟨_, rfl⟩
  have HB : Hid (Below w.heap.size w V) := Lib.hid (by rw [← hV]; (repeat (first | exact Below.refl _ _ | assumption | (refine bdrew ?_) | (refine bdrewN ?_ _) | (refine balloc ?_ _) | (refine bset ?_ (by first | omega | (simp; done) | (simp; omega)) _) | (refine bnext ?_ (by assumption)))))
  have hblk : V.heap[w.heap.size]? = some (.cells #[.string root, .int .u64 weight, .int .u64 first, .int .u64 life, .int .u64 keys] 46 (0, 0)) := by rw [← hV]; exact heap_alloc_new _ _
  have HSL : Hid (PartAt B V w.heap.size 0 root weight first life keys) := Lib.hid ⟨cellAt_new hblk (by decide) rfl, cellAt_new hblk (by decide) rfl, cellAt_new hblk (by decide) rfl, cellAt_new hblk (by decide) rfl, cellAt_new hblk (by decide) rfl⟩
  have HTV := Lib.hid (HT.out.keep HB.out HT.out.size)
  try rw [hV]
  clear hV hblk HT
  refine (ofpart_any B w.heap.size 0 root weight first life keys V HTV.out.size HSL.out hr hw hf hl hk).mono ?_
  rintro e w1 ⟨g, c, l, rfl, hF, hS, hb⟩
  have HF := Lib.hid hF
  have HS := Lib.hid hS
  have HB1 : Hid (Below w.heap.size w w1) := Lib.hid (bnext HB.out hb)
  have HT1 := Lib.hid (HTV.out.keep hb HTV.out.size)
  have hl : len l = 5 := hS.1.symm
  have HL := Lib.hid hl
  clear hF hS hb hl HTV HSL
  go_wp2_with fail
  refine (wlaid2_any B g 0 c w1 l (partSpecs root weight first life keys) w1 HF.out.flds (by rw [HL.out]; decide) (by rw [HL.out]; decide) HS.out (Keep8.refl HT1.out.size) HT1.out hsz).mono ?_
  rintro e w2 ⟨rfl, hb2⟩
  have HB2 : Hid (Below w.heap.size w w2) := Lib.hid (bnext HB1.out hb2)
  clear hb2
  cases hm : allMay (partSpecs root weight first life keys) with
  | true =>
    have HM := Lib.hid hm
    clear hm
    rw [if_pos rfl]
    go_wp2
    go_ret2
    exact ⟨by rw [HM.out]; rfl, HB2.out⟩
  | false =>
    have HM := Lib.hid hm
    clear hm
    rw [if_neg (by decide)]
    go_wp2
    go_ret2
    exact ⟨by rw [HM.out]; rfl, HB2.out⟩
theorem wpart_any (B : Nat) (root : ByteArray) (weight first life keys : Int) (w : World) (ht : PTab B w) (hr : root.size ≤ 9223372036854775807) (hw : U64i weight) (hf : U64i first) (hl : U64i life) (hk : U64i keys)
    (hsz : (layP (partSpecs root weight first life keys)).size ≤ 60000000000000) :
    Calls Tryz.prog 25 #[.agg #[.string root, .int .u64 weight, .int .u64 first, .int .u64 life, .int .u64 keys]] w (LaidIs (partSpecs root weight first life keys) w) :=
  wpart2_any B root weight first life keys w ht hr hw hf hl hk (fun _ => hsz)
end Go.Proofs.YtihiaopilnjonaaGreatDoor
namespace Go.Proofs.YtihiaopilnjonaaGreatDoor
open Go.RowKit
set_option linter.unusedSimpArgs false
set_option linter.unusedVariables false
theorem fin_lasts (B : Nat) (S : FSpec) : Lasts (fun w v => FIn B w v S) := fun w w' v hb h => h.below hb
structure MsgAt (B : Nat) (w : World) (b o : Nat) (hd : ByteArray) (pt : ByteArray) (cnt : Int) (prv : Int) (fst : Int) (lst : Int) : Prop where
  c0 : CellAt B w b (o) (.string hd)
  c1 : CellAt B w b (o + 1) (.string pt)
  c2 : CellAt B w b (o + 2) (.int .u64 cnt)
  c3 : CellAt B w b (o + 3) (.int .u64 prv)
  c4 : CellAt B w b (o + 4) (.int .u64 fst)
  c5 : CellAt B w b (o + 5) (.int .u64 lst)
theorem MsgAt.below {B : Nat} {w w' : World} {b o : Nat} {hd : ByteArray} {pt : ByteArray} {cnt : Int} {prv : Int} {fst : Int} {lst : Int} (h : MsgAt B w b o hd pt cnt prv fst lst) (hb : Below w.heap.size w w') : MsgAt B w' b o hd pt cnt prv fst lst := ⟨h.c0.below hb, h.c1.below hb, h.c2.below hb, h.c3.below hb, h.c4.below hb, h.c5.below hb⟩
def msgSpecs (hd : ByteArray) (pt : ByteArray) (cnt : Int) (prv : Int) (fst : Int) (lst : Int) : List FSpec :=
  [⟨⟨#[102]⟩, false, fst == 0, true, numP fst⟩, ⟨⟨#[104]⟩, true, false, decide (hd.size = 32), binP hd⟩, ⟨⟨#[108]⟩, false, lst == 0, true, numP lst⟩, ⟨⟨#[110]⟩, false, cnt == 0, true, numP cnt⟩, ⟨⟨#[118]⟩, true, false, decide (pt.size = 32), binP pt⟩, ⟨⟨#[119]⟩, false, prv == 0, true, numP prv⟩]
set_option maxRecDepth 100000 in
set_option maxHeartbeats 4000000 in
theorem ofmsg_any (B sb so : Nat) (hd : ByteArray) (pt : ByteArray) (cnt : Int) (prv : Int) (fst : Int) (lst : Int) (w : World) (hB : B ≤ w.heap.size) (h : MsgAt B w sb so hd pt cnt prv fst lst) (h0 : hd.size ≤ 9223372036854775807) (h1 : pt.size ≤ 9223372036854775807) (h2 : U64i cnt) (h3 : U64i prv) (h4 : U64i fst) (h5 : U64i lst) :
    Calls Tryz.prog 80 #[.pointer (some ⟨sb, so, none⟩)] w (RowOf B (msgSpecs hd pt cnt prv fst lst) w) := by
  obtain ⟨S0, hS0⟩ : ∃ S : FSpec, (⟨⟨#[102]⟩, false, fst == 0, true, numP fst⟩ : FSpec) = S := ⟨_, rfl⟩
  obtain ⟨S1, hS1⟩ : ∃ S : FSpec, (⟨⟨#[104]⟩, true, false, decide (hd.size = 32), binP hd⟩ : FSpec) = S := ⟨_, rfl⟩
  obtain ⟨S2, hS2⟩ : ∃ S : FSpec, (⟨⟨#[108]⟩, false, lst == 0, true, numP lst⟩ : FSpec) = S := ⟨_, rfl⟩
  obtain ⟨S3, hS3⟩ : ∃ S : FSpec, (⟨⟨#[110]⟩, false, cnt == 0, true, numP cnt⟩ : FSpec) = S := ⟨_, rfl⟩
  obtain ⟨S4, hS4⟩ : ∃ S : FSpec, (⟨⟨#[118]⟩, true, false, decide (pt.size = 32), binP pt⟩ : FSpec) = S := ⟨_, rfl⟩
  obtain ⟨S5, hS5⟩ : ∃ S : FSpec, (⟨⟨#[119]⟩, false, prv == 0, true, numP prv⟩ : FSpec) = S := ⟨_, rfl⟩
  refine (gofMsg_any sb so w (fun w v => FIn B w v S0) (fun w v => FIn B w v S1) (fun w v => FIn B w v S2) (fun w v => FIn B w v S3) (fun w v => FIn B w v S4) (fun w v => FIn B w v S5) (fun w' hb => ?p0) (fin_lasts B S0) (fun w' hb => ?p1) (fin_lasts B S1) (fun w' hb => ?p2) (fin_lasts B S2) (fun w' hb => ?p3) (fin_lasts B S3) (fun w' hb => ?p4) (fin_lasts B S4) (fun w' hb => ?p5) (fin_lasts B S5)).mono ?_
  case p0 =>
    rw [← hS0]
    exact (fnum_any B ⟨#[102]⟩ sb (so + 4) fst w' (by decide) (Nat.le_trans hB hb.size) (h.c4.below hb) h4.1 h4.2).mono (fun e w'' hh => madeF (Nat.le_trans hB hb.size) hh)
  case p1 =>
    rw [← hS1]
    exact (fdigest_any B ⟨#[104]⟩ sb (so) hd w' (by decide) (Nat.le_trans hB hb.size) (h.c0.below hb) h0).mono (fun e w'' hh => madeF (Nat.le_trans hB hb.size) hh)
  case p2 =>
    rw [← hS2]
    exact (fnum_any B ⟨#[108]⟩ sb (so + 5) lst w' (by decide) (Nat.le_trans hB hb.size) (h.c5.below hb) h5.1 h5.2).mono (fun e w'' hh => madeF (Nat.le_trans hB hb.size) hh)
  case p3 =>
    rw [← hS3]
    exact (fnum_any B ⟨#[110]⟩ sb (so + 2) cnt w' (by decide) (Nat.le_trans hB hb.size) (h.c2.below hb) h2.1 h2.2).mono (fun e w'' hh => madeF (Nat.le_trans hB hb.size) hh)
  case p4 =>
    rw [← hS4]
    exact (fdigest_any B ⟨#[118]⟩ sb (so + 1) pt w' (by decide) (Nat.le_trans hB hb.size) (h.c1.below hb) h1).mono (fun e w'' hh => madeF (Nat.le_trans hB hb.size) hh)
  case p5 =>
    rw [← hS5]
    exact (fnum_any B ⟨#[119]⟩ sb (so + 3) prv w' (by decide) (Nat.le_trans hB hb.size) (h.c3.below hb) h3.1 h3.2).mono (fun e w'' hh => madeF (Nat.le_trans hB hb.size) hh)
  rintro e w' ⟨u, rfl, ⟨g, c, l, rfl, hc, hF, ⟨x0, x1, x2, x3, x4, x5, rfl, p0, p1, p2, p3, p4, p5⟩⟩, hb⟩
  refine ⟨g, c, [x0, x1, x2, x3, x4, x5], rfl, hF, ⟨rfl, fun i hi => ?_⟩, hb⟩
  have hi : i < 6 := by simpa [len] using hi
  match i, hi with
  | 0, _ => show FSem B w' x0 (⟨⟨#[102]⟩, false, fst == 0, true, numP fst⟩); rw [hS0]; exact p0.2
  | 1, _ => show FSem B w' x1 (⟨⟨#[104]⟩, true, false, decide (hd.size = 32), binP hd⟩); rw [hS1]; exact p1.2
  | 2, _ => show FSem B w' x2 (⟨⟨#[108]⟩, false, lst == 0, true, numP lst⟩); rw [hS2]; exact p2.2
  | 3, _ => show FSem B w' x3 (⟨⟨#[110]⟩, false, cnt == 0, true, numP cnt⟩); rw [hS3]; exact p3.2
  | 4, _ => show FSem B w' x4 (⟨⟨#[118]⟩, true, false, decide (pt.size = 32), binP pt⟩); rw [hS4]; exact p4.2
  | 5, _ => show FSem B w' x5 (⟨⟨#[119]⟩, false, prv == 0, true, numP prv⟩); rw [hS5]; exact p5.2
set_option maxRecDepth 100000 in
theorem wmsg2_any (B : Nat) (hd : ByteArray) (pt : ByteArray) (cnt : Int) (prv : Int) (fst : Int) (lst : Int) (w : World) (ht : PTab B w) (h0 : hd.size ≤ 9223372036854775807) (h1 : pt.size ≤ 9223372036854775807) (h2 : U64i cnt) (h3 : U64i prv) (h4 : U64i fst) (h5 : U64i lst)
    (hsz : allMay (msgSpecs hd pt cnt prv fst lst) = true → (layP (msgSpecs hd pt cnt prv fst lst)).size ≤ 60000000000000) :
    Calls Tryz.prog 38 #[.agg #[.string hd, .string pt, .int .u64 cnt, .int .u64 prv, .int .u64 fst, .int .u64 lst]] w (LaidIs (msgSpecs hd pt cnt prv fst lst) w) := by
  have HT := Lib.hid ht
  clear ht
  go_enter Tryz.func38, Tryz.ntmps38
  go_wp2_with fail
  obtain ⟨V, hV⟩ : ∃ V, w.alloc (.cells #[.string hd, .string pt, .int .u64 cnt, .int .u64 prv, .int .u64 fst, .int .u64 lst] 76) = V := ⟨_, rfl⟩
  have HB : Hid (Below w.heap.size w V) := Lib.hid (by rw [← hV]; (repeat (first | exact Below.refl _ _ | assumption | (refine bdrew ?_) | (refine bdrewN ?_ _) | (refine balloc ?_ _) | (refine bset ?_ (by first | omega | (simp; done) | (simp; omega)) _) | (refine bnext ?_ (by assumption)))))
  have hblk : V.heap[w.heap.size]? = some (.cells #[.string hd, .string pt, .int .u64 cnt, .int .u64 prv, .int .u64 fst, .int .u64 lst] 76 (0, 0)) := by rw [← hV]; exact heap_alloc_new _ _
  have HSL : Hid (MsgAt B V w.heap.size 0 hd pt cnt prv fst lst) := Lib.hid ⟨cellAt_new hblk (by decide) rfl, cellAt_new hblk (by decide) rfl, cellAt_new hblk (by decide) rfl, cellAt_new hblk (by decide) rfl, cellAt_new hblk (by decide) rfl, cellAt_new hblk (by decide) rfl⟩
  have HTV := Lib.hid (HT.out.keep HB.out HT.out.size)
  try rw [hV]
  clear hV hblk HT
  refine (ofmsg_any B w.heap.size 0 hd pt cnt prv fst lst V HTV.out.size HSL.out h0 h1 h2 h3 h4 h5).mono ?_
  rintro e w1 ⟨g, c, l, rfl, hF, hS, hb⟩
  have HF := Lib.hid hF
  have HS := Lib.hid hS
  have HB1 : Hid (Below w.heap.size w w1) := Lib.hid (bnext HB.out hb)
  have HT1 := Lib.hid (HTV.out.keep hb HTV.out.size)
  have hl : len l = 6 := hS.1.symm
  have HL := Lib.hid hl
  clear hF hS hb hl HTV HSL
  go_wp2_with fail
  refine (wlaid2_any B g 0 c w1 l (msgSpecs hd pt cnt prv fst lst) w1 HF.out.flds (by rw [HL.out]; decide) (by rw [HL.out]; decide) HS.out (Keep8.refl HT1.out.size) HT1.out hsz).mono ?_
  rintro e w2 ⟨rfl, hb2⟩
  have HB2 : Hid (Below w.heap.size w w2) := Lib.hid (bnext HB1.out hb2)
  clear hb2
  cases hm : allMay (msgSpecs hd pt cnt prv fst lst) with
  | true =>
    have HM := Lib.hid hm
    clear hm
    rw [if_pos rfl]
    go_wp2
    go_ret2
    exact ⟨by rw [HM.out]; rfl, HB2.out⟩
  | false =>
    have HM := Lib.hid hm
    clear hm
    rw [if_neg (by decide)]
    go_wp2
    go_ret2
    exact ⟨by rw [HM.out]; rfl, HB2.out⟩
structure HeaderAt (B : Nat) (w : World) (b o : Nat) (rnd : Int) (prev : ByteArray) (txns : ByteArray) (seed : ByteArray) : Prop where
  c0 : CellAt B w b (o) (.int .u64 rnd)
  c1 : CellAt B w b (o + 1) (.string prev)
  c2 : CellAt B w b (o + 2) (.string txns)
  c3 : CellAt B w b (o + 3) (.string seed)
theorem HeaderAt.below {B : Nat} {w w' : World} {b o : Nat} {rnd : Int} {prev : ByteArray} {txns : ByteArray} {seed : ByteArray} (h : HeaderAt B w b o rnd prev txns seed) (hb : Below w.heap.size w w') : HeaderAt B w' b o rnd prev txns seed := ⟨h.c0.below hb, h.c1.below hb, h.c2.below hb, h.c3.below hb⟩
end Go.Proofs.YtihiaopilnjonaaGreatDoor
namespace Go.Proofs.YtihiaopilnjonaaGreatDoor
open Go.RowKit
set_option linter.unusedSimpArgs false
set_option linter.unusedVariables false
def Nms (B : Nat) (w : World) (a : Option Addr) (l : List Int) : Prop := ∀ i, i < len l → ∃ b off, a = some ⟨b, off, none⟩ ∧ CellAt B w b (off + i) (.int .u64 (nth l i))
theorem Nms.keep {B : Nat} {w w' : World} {a : Option Addr} {l : List Int} (h : Nms B w a l) (hk : Keep8 B w w') : Nms B w' a l := fun i hi => by
  obtain ⟨b, off, e, hc⟩ := h i hi; exact ⟨b, off, e, hc.keep hk⟩
theorem Nms.below {B : Nat} {w w' : World} {a : Option Addr} {l : List Int} (h : Nms B w a l) (hk : Below w.heap.size w w') : Nms B w' a l := fun i hi => by
  obtain ⟨b, off, e, hc⟩ := h i hi; exact ⟨b, off, e, hc.below hk⟩
def SaysU (w : World) (l : List Int) (g : Nat) (lb : Array Value) (p : Nat → Bool) : Prop :=
  (∀ args w', (callFunc g args).run Tryz.prog w' = .ok (.enter g args) w') ∧ ∀ i, i < len l → ∀ w', Below w.heap.size w w' → Calls Tryz.prog g (#[.int .u64 (nth l i)] ++ lb) w' fun e w'' => e = .returned (.bool (p i)) ∧ Below w'.heap.size w' w''
set_option maxRecDepth 100000 in
set_option maxHeartbeats 4000000 in
theorem idxu_any (B : Nat) (a : Option Addr) (c : Nat) (l : List Int) (g : Nat) (lb : Array Value) (p : Nat → Bool) (w : World) (hl : Nms B w a l) (hn : len l ≤ 100000) (hp : SaysU w l g lb p) :
    Calls Tryz.prog 253 #[.slice a (len l) c, .func (.func g) #[] lb] w (IdxOut (len l) p w) := by
  have HL := Lib.hid hl
  have HP := Lib.hid hp.2
  have eg := hp.1
  clear hl hp
  go_enter Tryz.func253, Tryz.ntmps253
  go_wp2
  go_loopg [8] (len l) (fun g i wr => ∃ m : Nat, g + m = len l ∧ i = .int .i64 m ∧ Hid (∀ i, i < m → p i = false) ∧ Hid (Below w.heap.size w wr))
  case atStart => exact ⟨0, rfl, rfl, fun i hi => by omega, Below.refl _ _⟩
  case round =>
    obtain ⟨m, hm, rfl, HN, HB⟩ := hrel
    by_cases hlt : m < len l
    · obtain ⟨b, off, rfl, hc⟩ := (HL.out.below HB.out) m hlt
      have c0 := hc.cell
      have i1 : (m : Int) < len l := by omega
      have HC := Lib.hid (HP.out m hlt wr HB.out)
      clear hc
      generalize nth l m = v at c0 HC
      go_wp2_with fail
      refine HC.out.mono ?_
      rintro e w1 ⟨rfl, hb⟩
      have HB1 : Hid (Below w.heap.size w w1) := Lib.hid (bnext HB.out hb)
      clear hb c0
      cases hpm : p m with
      | true =>
        go_wp2
        go_ret
        exact ⟨m, rfl, .inr ⟨m, hlt, rfl, hpm, HN.out⟩, HB1.out⟩
      | false =>
        have HN2 : Hid (∀ i, i < m + 1 → p i = false) := Lib.hid (fun i hi => by
          by_cases e : i = m
          · subst e; exact hpm
          · exact HN.out i (by omega))
        clear hpm
        go_wp2
        go_roundg (len l - (m + 1))
        case rel => exact ⟨m + 1, by omega, by go_num, HN2.out, HB1.out⟩
        case measure => omega
    · obtain rfl : m = len l := by omega
      have i1 : ¬ ((len l : Nat) : Int) < len l := by omega
      go_wp2
      go_ret
      exact ⟨-1, rfl, .inl ⟨rfl, HN.out⟩, HB.out⟩
theorem containsu_any (B : Nat) (a : Option Addr) (c : Nat) (l : List Int) (g : Nat) (lb : Array Value) (p : Nat → Bool) (w : World) (hl : Nms B w a l) (hn : len l ≤ 100000) (hp : SaysU w l g lb p) :
    Calls Tryz.prog 216 #[.slice a (len l) c, .func (.func g) #[] lb] w fun e w' => ∃ b, e = .returned (.bool b) ∧ (b = true ↔ ∃ i, i < len l ∧ p i = true) ∧ Below w.heap.size w w' := by
  have H := Lib.hid (idxu_any B a c l g lb p w hl hn hp)
  clear hl hp
  go_enter Tryz.func216, Tryz.ntmps216
  go_wp2_with fail
  refine H.out.mono ?_
  rintro e w1 ⟨r, rfl, hr, hb⟩
  have HB := Lib.hid hb
  clear hb
  rcases hr with ⟨rfl, hall⟩ | ⟨k, hk, rfl, hpk, -⟩
  · have HA := Lib.hid hall
    clear hall
    go_wp2
    go_ret
    exact ⟨false, rfl, ⟨fun h => (by cases h), fun ⟨i, hi, h⟩ => by rw [HA.out i hi] at h; cases h⟩, HB.out⟩
  · have HK := Lib.hid hpk
    clear hpk
    go_wp2
    go_ret
    exact ⟨true, rfl, ⟨fun _ => ⟨k, hk, HK.out⟩, fun _ => rfl⟩, HB.out⟩
theorem oc1_any (p : Value) (w : World) : Calls Tryz.prog 147 #[p] w fun e w' => e = .returned (.bool true) ∧ Below w.heap.size w w' := by
  go_enter Tryz.func147, Tryz.ntmps147
  go_wp2
  go_ret
  exact ⟨rfl, Below.refl _ _⟩
theorem oc2_any (B b base pb po : Nat) (x : Int) (s : ByteArray) (w : World) (h : CellAt B w pb po (.int .u64 x)) (hx : U64i x) (ht : PTab B w) (hB : B ≤ base) (hW : WrB w b base s) (hs : s.size + (numP x).size ≤ 60000000000000) :
    Calls Tryz.prog 148 #[.pointer (some ⟨b, 0, none⟩), .pointer (some ⟨pb, po, none⟩)] w fun e w' => e = .returned (.tuple #[]) ∧ WrB w' b base (s ++ numP x) ∧ WK base b w w' := by
  have c1 := h.cell
  have H := Lib.hid (Num_w B b base x s w ht hB hW hx.1 hx.2 (by omega))
  clear h ht hW hx
  go_enter Tryz.func148, Tryz.ntmps148
  go_wp2_with fail
  refine H.out.mono ?_
  rintro e w' ⟨rfl, h3, h4⟩
  have H3 := Lib.hid h3
  have H4 := Lib.hid h4
  clear h3 h4
  go_wp2
  go_end0
  exact ⟨rfl, H3.out, H4.out⟩
set_option maxRecDepth 100000 in
theorem many21u_any (B b9 : Nat) (x : Int) (w : World) (h1 : CellAt B w b9 0 (.func (.func 147) #[] #[])) : Calls Tryz.prog 217 #[.int .u64 x, .pointer (some ⟨b9, 0, none⟩)] w fun e w' => e = .returned (.bool false) ∧ Below w.heap.size w w' := by
  have c1 := h1.cell
  have l1 := h1.lt
  have eg := enters_of Tryz.func147 (by kernel_rfl) rfl
  clear h1
  go_enter Tryz.func217, Tryz.ntmps217
  go_wp2_with fail
  refine (oc1_any _ _).mono ?_
  rintro e w1 ⟨rfl, hb⟩
  have HB : Hid (Below w.heap.size w w1) := Lib.hid (bnext (balloc (Below.refl _ _) _) hb)
  clear hb
  go_wp2
  go_ret
  exact ⟨rfl, HB.out⟩
set_option maxRecDepth 100000 in
set_option maxHeartbeats 4000000 in
theorem many2u_any (B b7 b8 b9 pb po c most : Nat) (a : Option Addr) (l : List Int) (w : World) (h1 : CellAt B w b7 0 (.pointer (some ⟨pb, po, none⟩))) (h2 : CellAt B w pb po (.slice a (len l) c)) (h3 : CellAt B w b8 0 (.int .i64 most)) (h4 : CellAt B w b9 0 (.func (.func 147) #[] #[]))
    (hl : Nms B w a l) (hn : len l ≤ 100000) : Calls Tryz.prog 215 #[.pointer (some ⟨b7, 0, none⟩), .pointer (some ⟨b8, 0, none⟩), .pointer (some ⟨b9, 0, none⟩)] w fun e w' => e = .returned (.bool (decide (len l ≤ most))) ∧ Below w.heap.size w w' := by
  have c1 := h1.cell
  have c2 := h2.cell
  have c3 := h3.cell
  have H4 := Lib.hid h4
  have HL := Lib.hid hl
  have eg := enters_of Tryz.func217 (by kernel_rfl) rfl
  clear h1 h2 h3 h4 hl
  have HCF : Hid (∀ w', Below w.heap.size w w' → Calls Tryz.prog 216 #[.slice a (len l) c, .func (.func 217) #[] #[.pointer (some ⟨b9, 0, none⟩)]] w' fun e w'' => ∃ b, e = .returned (.bool b) ∧ (b = true ↔ ∃ i, i < len l ∧ (false : Bool) = true) ∧ Below w'.heap.size w' w'') :=
    Lib.hid (fun w' hb => containsu_any B a c l _ _ (fun _ => false) w' (HL.out.below hb) hn ⟨eg, fun i hi w'' hb2 => many21u_any B b9 (nth l i) w'' ((H4.out.below hb).below hb2)⟩)
  by_cases hm : len l ≤ most
  · have i1 : decide (len l ≤ most) = true := decide_eq_true hm
    have i2 : (len l : Int) ≤ most := by omega
    have HM := Lib.hid i1
    clear i1 hm
    go_enter Tryz.func215, Tryz.ntmps215
    go_wp2_with fail
    go_still_tail 11, (by kernel_rfl)
    go_wp2_with fail
    refine (HCF.out _ (bdrew (Below.refl _ _))).mono ?_
    rintro e w1 ⟨q, rfl, hq, hb⟩
    have HB : Hid (Below w.heap.size w w1) := Lib.hid (bnext (bdrew (Below.refl _ _)) hb)
    have HE : Hid ((!q) = decide (len l ≤ most)) := Lib.hid (by
      rw [HM.out]
      cases q with
      | true => obtain ⟨i, _, h⟩ := hq.1 rfl; cases h
      | false => rfl)
    clear hb hq c1 c2 c3
    go_wp2
    go_ret
    exact ⟨ret_bool HE.out, HB.out⟩
  · have i1 : decide (len l ≤ most) = false := decide_eq_false hm
    have HM := Lib.hid i1
    have i2 : ¬ (len l : Int) ≤ most := by omega
    go_enter Tryz.func215, Tryz.ntmps215
    go_wp2_with fail
    go_quiet (fail)
    go_wp2
    go_ret
    exact ⟨ret_bool (by rw [HM.out]), by (repeat (first | exact Below.refl _ _ | assumption | (refine bdrew ?_) | (refine bdrewN ?_ _) | (refine balloc ?_ _) | (refine bset ?_ (by first | omega | (simp; done) | (simp; omega)) _) | (refine bnext ?_ (by assumption))))⟩
def nmsP (l : List Int) : ByteArray := listP (len l) ++ catB (l.map numP)
set_option maxRecDepth 100000 in
set_option maxHeartbeats 4000000 in
theorem many3u_any (B b base b7 b10 pb po c : Nat) (a : Option Addr) (l : List Int) (s : ByteArray) (W0 w : World) (h1 : CellAt B W0 b7 0 (.pointer (some ⟨pb, po, none⟩))) (h2 : CellAt B W0 pb po (.slice a (len l) c)) (h3 : CellAt B W0 b10 0 (.func (.func 148) #[] #[]))
    (hl : Nms B W0 a l) (hn : len l ≤ 60000) (h32 : ∀ i, i < len l → U64i (nth l i)) (hk : Keep8 B W0 w) (hb0 : Off8 W0 b)
    (ht : PTab B w) (hB : B ≤ base) (hW : WrB w b base s) (hs : s.size + (nmsP l).size ≤ 60000000000000) :
    Calls Tryz.prog 218 #[.pointer (some ⟨b, 0, none⟩), .pointer (some ⟨b7, 0, none⟩), .pointer (some ⟨b10, 0, none⟩)] w fun e w' => e = .returned (.tuple #[]) ∧ WrB w' b base (s ++ nmsP l) ∧ WK base b w w' := by
  have H1 := Lib.hid h1
  have H2 := Lib.hid h2
  have H3 := Lib.hid h3
  have HL := Lib.hid hl
  have H32 := Lib.hid h32
  have HK := Lib.hid hk
  have HT := Lib.hid ht
  have HWR := Lib.hid hW
  have HBS : Hid (base ≤ w.heap.size) := Lib.hid (by have := hW.1; have := hW.lt; omega)
  have HS : Hid (s.size + (listP (len l)).size + (catB (l.map numP)).size ≤ 60000000000000) := Lib.hid (by unfold nmsP at hs; rw [ByteArray.size_append] at hs; omega)
  have hs0 : s.size ≤ 60000000000000 := by omega
  have c1 := (h1.keep hk).cell
  have c2 := (h2.keep hk).cell
  have eg := enters_of Tryz.func148 (by kernel_rfl) rfl
  clear h1 h2 h3 hl h32 hk ht hW hs
  go_enter Tryz.func218, Tryz.ntmps218
  go_wp2_with fail
  refine (List_w B b base (len l) s w HT.out hB HWR.out (by omega) (by omega)).mono ?_
  rintro e w3 ⟨rfl, hw3, hk3⟩
  have HW3 : Hid (WrB w3 b base (s ++ listP (len l) ++ catB ((l.map numP).take 0))) := Lib.hid (by
    have e : s ++ listP (len l) ++ catB ((l.map numP).take 0) = s ++ listP (len l) := ba_ext (by simp [catB])
    rw [e]; exact hw3)
  have HK3 : Hid (WK base b w w3) := Lib.hid hk3
  have hk8 := HK.out.wk hk3 hb0 hB
  have d1 := (H1.out.keep hk8).cell
  have d2 := (H2.out.keep hk8).cell
  clear hw3 hk3 hk8 c1 c2
  go_wp2
  clear d1 d2
  go_loopg [15] (len l) (fun gg i wr => ∃ m : Nat, gg + m = len l ∧ i = .int .i64 m ∧ Hid (WrB wr b base (s ++ listP (len l) ++ catB ((l.map numP).take m))) ∧ Hid (WK base b w wr))
  case atStart => exact ⟨0, rfl, rfl, HW3.out, HK3.out⟩
  case round =>
    clear HW3 HK3
    obtain ⟨m, hm2, rfl, HWW, HWK⟩ := hrel
    by_cases hlt : m < len l
    · have i1 : (m : Int) < len l := by omega
      have hml : m < l.length := hlt
      have hk8 := HK.out.wk HWK.out hb0 hB
      have HK8 := Lib.hid hk8
      have d1 := (H1.out.keep hk8).cell
      have d2 := (H2.out.keep hk8).cell
      have d3 := (H3.out.keep hk8).cell
      obtain ⟨gb, go, rfl, hcell⟩ := (HL.out.keep hk8) m hlt
      have HCL := Lib.hid hcell
      have hsn : (l.map numP).take (m + 1) = (l.map numP).take m ++ [numP (nth l m)] := by
        rw [List.take_succ_eq_append_getElem (by simpa using hml), List.getElem_map, nth_eq l m hml]
      have hct := catB_take (L := l.map numP) (t := m) (by simpa using hml)
      have hfm : (l.map numP)[m]'(by simpa using hml) = numP (nth l m) := by rw [List.getElem_map, nth_eq l m hml]
      rw [hfm] at hct
      have h32m := H32.out m hlt
      obtain ⟨x, hx⟩ : ∃ x, nth l m = x := ⟨_, rfl⟩
      rw [hx] at hsn hct h32m HCL
      obtain ⟨s1, hs1⟩ : ∃ s1, s ++ listP (len l) ++ catB ((l.map numP).take m) = s1 := ⟨_, rfl⟩
      rw [hs1] at HWW
      have hs1s : s1.size + (numP x).size ≤ 60000000000000 := by
        rw [← hs1, ByteArray.size_append, ByteArray.size_append]
        have := HS.out
        omega
      have HSN : Hid (s ++ listP (len l) ++ catB ((l.map numP).take (m + 1)) = s1 ++ numP x) := Lib.hid (by
        rw [hsn, catB_snoc, ← hs1]; simp only [ByteArray.append_assoc])
      have HTR : Hid (PTab B wr) := Lib.hid (HT.out.keep HWK.out.bel hB)
      have hbr : base ≤ wr.heap.size := by have := HWK.out.bel.size; have := HBS.out; omega
      have HBR := Lib.hid hbr
      clear hk8 hcell hsn hct hfm hx hs1 hbr
      go_upto_region 4 with fail
      go_still_tail 7, (by kernel_rfl)
      go_wp2_with fail
      refine (oc2_any B b base gb (go + m) x s1 _ (HCL.out.below (bdrew (Below.refl _ _))) h32m (HTR.out.keep (bdrew (Below.refl _ _)) HTR.out.size) hB (HWW.out.below (bdrew (Below.refl _ _))) hs1s).mono ?_
      rintro e w5 ⟨rfl, hw5, hk5⟩
      have HW5 : Hid (WrB w5 b base (s ++ listP (len l) ++ catB ((l.map numP).take (m + 1)))) := Lib.hid (by rw [HSN.out]; exact hw5)
      have HK5 : Hid (WK base b w w5) := Lib.hid ((HWK.out.trans (WK.of_below (bdrew (Below.refl _ _)) HBR.out)).trans hk5)
      clear hw5 hk5 HWW HWK d1 d2 d3 HCL
      go_wp2
      go_roundg (len l - (m + 1))
      case rel => exact ⟨m + 1, by omega, by go_num, HW5.out, HK5.out⟩
      case measure => omega
    · obtain rfl : m = len l := by omega
      have i1 : ¬ ((len l : Nat) : Int) < len l := by omega
      go_wp2
      go_end0
      refine ⟨rfl, ?_, HWK.out⟩
      have h := HWW.out
      rw [List.take_of_length_le (by rw [List.length_map]; exact Nat.le_refl _), ByteArray.append_assoc] at h
      exact h
theorem fnums_any (B : Nat) (key : ByteArray) (pb po c most : Nat) (a : Option Addr) (l : List Int) (w : World) (hk : key.size < 65536) (hBw : B ≤ w.heap.size) (hc : CellAt B w pb po (.slice a (len l) c)) (hl : Nms B w a l) (hn : len l ≤ 100000) (hu : ∀ i, i < len l → U64i (nth l i)) (hm : most ≤ 60000) :
    Calls Tryz.prog 146 #[.string key, .pointer (some ⟨pb, po, none⟩), .int .i64 most, .func (.func 147) #[] #[], .func (.func 148) #[] #[], .func (.func 150) #[] #[]] w fun e w' => ∃ v : FVal, e = .returned v.val ∧ FSem B w' v ⟨key, false, decide (len l = 0), decide (len l ≤ most), nmsP l⟩ ∧ Below w.heap.size w w' := by
  refine (smanyu_any key pb po most w).mono ?_
  rintro e V ⟨v, rfl, ⟨bx, hlo, hM, rfl⟩, hb⟩
  have C0 : CellAt B V bx 0 (.pointer (some ⟨pb, po, none⟩)) := cellAt_new hM.b0 (by decide) rfl
  have C1 : CellAt B V (bx + 1) 0 (.int .i64 most) := cellAt_new hM.b1 (by decide) rfl
  have C2 : CellAt B V (bx + 1 + 1) 0 (.func (.func 147) #[] #[]) := cellAt_new hM.b2 (by decide) rfl
  have C3 : CellAt B V (bx + 1 + 1 + 1) 0 (.func (.func 148) #[] #[]) := cellAt_new hM.b3 (by decide) rfl
  have CP : CellAt B V pb po (.slice a (len l) c) := hc.below hb
  have SL : Nms B V a l := hl.below hb
  refine ⟨_, rfl, ?_, hb⟩
  refine ⟨rfl, rfl, hk, enters_of Tryz.func214 (by kernel_rfl) rfl, enters_of Tryz.func215 (by kernel_rfl) rfl, enters_of Tryz.func218 (by kernel_rfl) rfl, fun w' hw => many1u_any B bx pb po (len l) c a w' (C0.keep hw) (CP.keep hw), fun w' hw => many2u_any B bx (bx + 1) (bx + 1 + 1) pb po c most a l w' (C0.keep hw) (CP.keep hw) (C1.keep hw) (C2.keep hw) (SL.keep hw) hn, fun hm1 he w' b base s hw hb ht hB hW hs => many3u_any B b base bx (bx + 1 + 1 + 1) pb po c a l s V w' C0 CP C3 SL (by have := of_decide_eq_true hm1; omega) hu hw hb ht hB hW hs⟩
end Go.Proofs.YtihiaopilnjonaaGreatDoor
namespace Go.Proofs.YtihiaopilnjonaaGreatDoor
open Go.RowKit
set_option linter.unusedSimpArgs false
set_option linter.unusedVariables false
theorem toB_inj {a b : Int} (a0 : 0 ≤ a) (a1 : a < 256) (b0 : 0 ≤ b) (b1 : b < 256) (h : toB a = toB b) : a = b := by
  unfold toB at h
  have := congrArg UInt8.toNat h
  rw [UInt8.toNat_ofNat', UInt8.toNat_ofNat'] at this
  omega
theorem byte_get {s : ByteArray} {i : Nat} (h : i < s.size) : ∃ x, s.data.toList[i]? = some x ∧ byte s i = x.toNat := by
  have : i < s.data.toList.length := by rw [ba_len]; exact h
  exact ⟨_, List.getElem?_eq_getElem this, by unfold byte; rw [List.getD_eq_getElem?_getD, List.getElem?_eq_getElem this]; rfl⟩
theorem bytes0 {s : ByteArray} (h : 0 < s.size) : s.data.toList = toB (byte s 0) :: s.data.toList.drop 1 := by
  obtain ⟨x, hx, hb⟩ := byte_get h
  rw [hb, toB_nat]
  cases hl : s.data.toList with
  | nil => rw [hl] at hx; cases hx
  | cons y r => rw [hl] at hx; cases hx; rfl
theorem be_hi {s : ByteArray} : ∀ k, 1 + k ≤ s.size → (s.data.toList.drop 1).take k = (hiL (be s k) k).map toB
  | 0, _ => by simp [hiL]
  | k + 1, h => by
    obtain ⟨x, hx, hb⟩ := byte_get (s := s) (i := 1 + k) (by omega)
    have hlt := UInt8.toNat_lt x
    rw [List.take_add_one, be_hi k (by omega), hiL_snoc, be, hb, List.getElem?_drop, hx]
    have e1 : (be s k * 256 + (x.toNat : Int)) / 256 = be s k := by omega
    have e2 : (be s k * 256 + (x.toNat : Int)) % 256 = x.toNat := by omega
    rw [e1, e2, List.map_append, List.map_cons, toB_nat]
    rfl
theorem hi_inj : ∀ (k : Nat) {a b : Int}, 0 ≤ a → a < 256 ^ k → 0 ≤ b → b < 256 ^ k → (hiL a k).map toB = (hiL b k).map toB → a = b
  | 0, a, b, a0, a1, b0, b1, _ => by simp at a1 b1; omega
  | k + 1, a, b, a0, a1, b0, b1, h => by
    rw [hiL_snoc, hiL_snoc, List.map_append, List.map_append] at h
    obtain ⟨h1, h2⟩ := List.append_inj' h rfl
    rw [Int.pow_succ] at a1 b1
    have e1 := hi_inj k (by omega) (by omega) (by omega) (by omega) h1
    simp only [List.map_cons, List.map_nil, List.cons.injEq, and_true] at h2
    have e2 := toB_inj (by omega) (by omega) (by omega) (by omega) h2
    omega
theorem be_of_hi {s : ByteArray} {k : Nat} {n : Int} {R : List UInt8} {c : UInt8} (n0 : 0 ≤ n) (n1 : n < 256 ^ k) (h : s.data.toList = c :: ((hiL n k).map toB ++ R)) : be s k = n := by
  have hs : 1 + k ≤ s.size := by rw [← ba_len, h, List.length_cons, List.length_append, List.length_map, hiL_len]; omega
  have hb := be_hi k hs
  rw [h, List.drop_one, List.tail_cons, List.take_left' (by rw [List.length_map, hiL_len])] at hb
  have := be_bd s k
  exact (hi_inj k n0 n1 this.1 this.2 hb).symm
def rowFor (sort : Nat) (n : Int) : URow :=
  match sort with
  | 1 => if n < 256 then ⟨196, 196, 1, 0⟩ else ⟨197, 197, 2, 256⟩
  | 2 => if n < 32 then ⟨160, 191, 0, 0⟩ else if n < 256 then ⟨217, 217, 1, 32⟩ else ⟨218, 218, 2, 256⟩
  | 3 => if n < 16 then ⟨144, 159, 0, 0⟩ else ⟨220, 220, 2, 16⟩
  | 4 => if n < 16 then ⟨128, 143, 0, 0⟩ else ⟨222, 222, 2, 16⟩
  | _ => if n < 128 then ⟨0, 127, 0, 0⟩ else if n < 256 then ⟨204, 204, 1, 128⟩ else if n < 65536 then ⟨205, 205, 2, 256⟩ else if n < 4294967296 then ⟨206, 206, 4, 65536⟩ else ⟨207, 207, 8, 4294967296⟩
def headB (r : URow) (n : Int) : List UInt8 := if r.size = 0 then [toB (r.lo + n)] else toB r.lo :: (hiL n r.size.toNat).map toB
theorem head_split {s : ByteArray} {l : List URow} {n : Int} {rest : ByteArray} (hok : ∀ r ∈ l, 0 ≤ r.size) (h : headOf s l = .ok (n, rest)) :
    ∃ r ∈ l, r.least ≤ n ∧ r.lo ≤ byte s 0 ∧ byte s 0 ≤ r.hi ∧ 1 + r.size.toNat ≤ s.size ∧ n = (if r.size = 0 then byte s 0 - r.lo else be s r.size.toNat) ∧ rest = s.extract (1 + r.size.toNat) s.size := by
  unfold headOf at h
  split at h
  · cases h
  · split at h
    · cases h
    · next r hf =>
      have hm := List.mem_of_find?_eq_some hf
      have hp := List.find?_some hf
      simp only [Bool.and_eq_true, decide_eq_true_eq] at hp
      have := hok r hm
      by_cases h1 : (s.size : Int) < 1 + r.size
      · rw [if_pos h1] at h; cases h
      · rw [if_neg h1] at h
        obtain ⟨v, hv⟩ : ∃ v, (if r.size = 0 then byte s 0 - r.lo else be s r.size.toNat) = v := ⟨_, rfl⟩
        rw [hv] at h
        by_cases h2 : v < r.least
        · rw [if_pos h2] at h; cases h
        · rw [if_neg h2] at h
          cases h
          exact ⟨r, hm, by omega, hp.1, hp.2, by omega, hv.symm, rfl⟩
theorem head_bytes {s : ByteArray} {r : URow} {n : Int} {rest : ByteArray} (h1 : r.lo ≤ byte s 0) (h2 : byte s 0 ≤ r.hi) (h3 : 1 + r.size.toNat ≤ s.size) (hn : n = (if r.size = 0 then byte s 0 - r.lo else be s r.size.toNat)) (hr : rest = s.extract (1 + r.size.toNat) s.size) (hx : r.size = 0 ∨ r.lo = r.hi) :
    s.data.toList = headB r n ++ rest.data.toList := by
  rw [hr, Lib.extract_data, List.take_of_length_le (by rw [List.length_drop, ba_len]; omega)]
  refine (bytes0 (s := s) (by omega)).trans ?_
  unfold headB
  by_cases hz : r.size = 0
  · rw [if_pos hz, hz]
    rw [if_pos hz] at hn
    rw [hn, show r.lo + (byte s 0 - r.lo) = byte s 0 by omega]
    simp
  · rw [if_neg hz]
    rw [if_neg hz] at hn
    have e : byte s 0 = r.lo := by rcases hx with h | h <;> omega
    rw [hn, ← be_hi _ h3, e, List.cons_append]
    congr 1
    rw [show (s.data.toList.drop (1 + r.size.toNat)) = (s.data.toList.drop 1).drop r.size.toNat by rw [List.drop_drop]]
    exact (List.take_append_drop _ _).symm
end Go.Proofs.YtihiaopilnjonaaGreatDoor
namespace Go.Proofs.YtihiaopilnjonaaGreatDoor
open Go.RowKit
set_option linter.unusedSimpArgs false
set_option linter.unusedVariables false
def laidOf (sort : Nat) (n : Int) (t : ByteArray) : ByteArray := ⟨(headB (rowFor sort n) n ++ (if sort = 1 ∨ sort = 2 then t.data.toList else [])).toArray⟩
theorem rowFor_eq {sort : Nat} (h5 : sort < 5) {r : URow} {n : Int} {s : ByteArray} (hr : r ∈ rowsOf sort) (h1 : r.least ≤ n) (h2 : r.lo ≤ byte s 0) (h3 : byte s 0 ≤ r.hi) (hn : n = (if r.size = 0 then byte s 0 - r.lo else be s r.size.toNat)) :
    r = rowFor sort n ∧ (r.size = 0 ∨ r.lo = r.hi) := by
  have b1 := be_bd s 1
  have b2 := be_bd s 2
  have b4 := be_bd s 4
  have b8 := be_bd s 8
  simp only [Int.reducePow] at b1 b2 b4 b8
  match sort, h5 with
  | 0, _ =>
    simp only [rowsOf, numsL, List.mem_cons, List.not_mem_nil, or_false] at hr
    rcases hr with rfl | rfl | rfl | rfl | rfl <;> simp at h1 h2 h3 hn ⊢ <;> unfold rowFor <;> simp only [] <;> (repeat (first | rw [if_pos (by omega)] | rw [if_neg (by omega)]))
  | 1, _ =>
    simp only [rowsOf, binsL, List.mem_cons, List.not_mem_nil, or_false] at hr
    rcases hr with rfl | rfl <;> simp at h1 h2 h3 hn ⊢ <;> unfold rowFor <;> simp only [] <;> (repeat (first | rw [if_pos (by omega)] | rw [if_neg (by omega)]))
  | 2, _ =>
    simp only [rowsOf, strsL, List.mem_cons, List.not_mem_nil, or_false] at hr
    rcases hr with rfl | rfl | rfl <;> simp at h1 h2 h3 hn ⊢ <;> unfold rowFor <;> simp only [] <;> (repeat (first | rw [if_pos (by omega)] | rw [if_neg (by omega)]))
  | 3, _ =>
    simp only [rowsOf, listsL, List.mem_cons, List.not_mem_nil, or_false] at hr
    rcases hr with rfl | rfl <;> simp at h1 h2 h3 hn ⊢ <;> unfold rowFor <;> simp only [] <;> (repeat (first | rw [if_pos (by omega)] | rw [if_neg (by omega)]))
  | 4, _ =>
    simp only [rowsOf, pairsL, List.mem_cons, List.not_mem_nil, or_false] at hr
    rcases hr with rfl | rfl <;> simp at h1 h2 h3 hn ⊢ <;> unfold rowFor <;> simp only [] <;> (repeat (first | rw [if_pos (by omega)] | rw [if_neg (by omega)]))
theorem rows_size {sort : Nat} : ∀ r ∈ rowsOf sort, 0 ≤ r.size := by
  unfold rowsOf
  split <;> decide
theorem drop_tail {α : Type} {l p q : List α} (h : l = p ++ q) {k : Nat} (hk : k = l.length - q.length) : l.drop k = q := by
  subst hk h
  rw [List.length_append, Nat.add_sub_cancel, List.drop_left]
theorem head_laid {sort : Nat} {s rest : ByteArray} {n : Int} (h5 : sort < 5) (h : headOf s (rowsOf sort) = .ok (n, rest)) : s.data.toList = headB (rowFor sort n) n ++ rest.data.toList ∧ 0 ≤ n ∧ n ≤ 18446744073709551615 := by
  have hok : ∀ i, (unth (rowsOf sort) i).Ok := by
    match sort, h5 with
    | 0, _ => exact numsL_ok
    | 1, _ => exact binsL_ok
    | 2, _ => exact strsL_ok
    | 3, _ => exact listsL_ok
    | 4, _ => exact pairsL_ok
  have hb := head_bd hok h
  obtain ⟨r, hm, hl, h2, h3, h4, hn, hr⟩ := head_split rows_size h
  obtain ⟨e, hx⟩ := rowFor_eq h5 hm hl h2 h3 hn
  rw [← e]
  exact ⟨head_bytes h2 h3 h4 hn hr hx, hb.1, hb.2.1⟩
theorem take_laid {sort : Nat} {s t : ByteArray} {a a' : Nat} {most n : Int} (h5 : sort < 5) (ha : a ≤ s.size) (h : takeOf sort s a most = .ok (n, t, a')) :
    s.data.toList.drop a = (laidOf sort n t).data.toList ++ s.data.toList.drop a' ∧ a' = a + (laidOf sort n t).size ∧ a' ≤ s.size ∧ 0 ≤ n ∧ n ≤ 18446744073709551615 ∧ t.size ≤ s.size := by
  unfold takeOf at h
  cases hh : headOf (s.extract a s.size) (rowsOf sort) with
  | error k => rw [hh] at h; cases h
  | ok x =>
    obtain ⟨m, rest⟩ := x
    rw [hh] at h
    simp only at h
    obtain ⟨hb, n0, n1⟩ := head_laid h5 hh
    rw [Lib.extract_data, List.take_of_length_le (by rw [List.length_drop, ba_len]; omega)] at hb
    have hs : s.data.toList = s.data.toList.take a ++ headB (rowFor sort m) m ++ rest.data.toList := by
      rw [List.append_assoc, ← hb, List.take_append_drop]
    split at h
    · cases h
    · split at h
      · next h12 =>
        split at h
        · cases h
        · cases h
          have hrs : rest.data.toList = (rest.extract 0 n.toNat).data.toList ++ rest.data.toList.drop n.toNat := by
            rw [Lib.extract_data, List.drop_zero, Nat.sub_zero, List.take_append_drop]
          have hs2 : s.data.toList = (s.data.toList.take a ++ headB (rowFor sort n) n ++ (rest.extract 0 n.toNat).data.toList) ++ rest.data.toList.drop n.toNat := by
            rw [List.append_assoc, ← hrs]; exact hs
          have hd := drop_tail hs2 (k := s.size - (rest.size - n.toNat)) (by rw [ba_len, List.length_drop, ba_len])
          have hl := congrArg List.length hs2
          rw [List.length_append, List.length_append, List.length_append, List.length_take, List.length_drop, ba_len, ba_len, ba_len] at hl
          have hz : (laidOf sort n (rest.extract 0 n.toNat)).size = (headB (rowFor sort n) n).length + (rest.extract 0 n.toNat).size := by
            rw [← ba_len]; unfold laidOf; rw [if_pos h12]; simp only [List.toList_toArray, List.length_append, ba_len]
          have he : (rest.extract 0 n.toNat).size = n.toNat := by rw [ByteArray.size_extract]; omega
          refine ⟨?_, by omega, by omega, n0, n1, by omega⟩
          rw [hb, hd, hrs]
          unfold laidOf; rw [if_pos h12]
          simp
      · next h12 =>
        cases h
        have hd := drop_tail hs (k := s.size - rest.size) (by rw [ba_len, ba_len])
        have hl := congrArg List.length hs
        rw [List.length_append, List.length_append, List.length_take, ba_len, ba_len] at hl
        have hz : (laidOf sort n ⟨#[]⟩).size = (headB (rowFor sort n) n).length := by
          rw [← ba_len]; unfold laidOf; rw [if_neg h12]; simp
        refine ⟨?_, by omega, by omega, n0, n1, Nat.zero_le _⟩
        rw [hb, hd]
        unfold laidOf; rw [if_neg h12]
        simp
end Go.Proofs.YtihiaopilnjonaaGreatDoor
namespace Go.Proofs.YtihiaopilnjonaaGreatDoor
open Go.RowKit
set_option linter.unusedSimpArgs false
set_option linter.unusedVariables false
theorem byte_of {s : ByteArray} {x : Int} {R : List UInt8} (x0 : 0 ≤ x) (x1 : x ≤ 255) (h : s.data.toList = toB x :: R) : byte s 0 = x := by
  unfold byte toB at *
  rw [h]
  simp
  omega
theorem find_row {sort : Nat} (h5 : sort < 5) {n : Int} {s : ByteArray} {R : List UInt8} (n0 : 0 ≤ n) (h : s.data.toList = headB (rowFor sort n) n ++ R) :
    (rowsOf sort).find? (fun r => decide (r.lo ≤ byte s 0) && decide (byte s 0 ≤ r.hi)) = some (rowFor sort n) := by
  obtain ⟨r, hr⟩ : ∃ r, rowFor sort n = r := ⟨_, rfl⟩
  rw [hr] at h ⊢
  have hb : ∀ {x : Int}, (if r.size = 0 then r.lo + n else r.lo) = x → 0 ≤ x → x ≤ 255 → byte s 0 = x := fun {x} hx x0 x1 => by
    unfold headB at h
    by_cases hz : r.size = 0
    · rw [if_pos hz] at h hx; subst hx; exact byte_of x0 x1 h
    · rw [if_neg hz] at h hx; subst hx; exact byte_of x0 x1 (by rw [h, List.cons_append])
  unfold rowFor at hr
  match sort, h5 with
  | 0, _ | 1, _ | 2, _ | 3, _ | 4, _ =>
    simp only [] at hr
    (repeat' split at hr) <;> subst hr <;> simp only [Int.reduceEq, ↓reduceIte] at hb <;> have hb := hb rfl (by omega) (by omega) <;> simp only [rowsOf, numsL, binsL, strsL, listsL, pairsL, hb] <;>
      first | rfl | exact List.find?_cons_of_pos (by simp; omega)
theorem row_fits {sort : Nat} (h5 : sort < 5) {n : Int} (n0 : 0 ≤ n) (n1 : n ≤ 18446744073709551615) (n2 : sort ≠ 0 → n ≤ 65535) :
    (rowFor sort n).least ≤ n ∧ 0 ≤ (rowFor sort n).size ∧ ((rowFor sort n).size ≠ 0 → n < 256 ^ (rowFor sort n).size.toNat) := by
  unfold rowFor
  match sort, h5 with
  | 0, _ | 1, _ | 2, _ | 3, _ | 4, _ =>
    simp only []
    have n2 := n2
    (repeat' split) <;> simp <;> omega
theorem rowFor_lo {sort : Nat} (h5 : sort < 5) {n : Int} (n0 : 0 ≤ n) (h : (rowFor sort n).size = 0) : 0 ≤ (rowFor sort n).lo + n ∧ (rowFor sort n).lo + n ≤ 255 := by
  revert h
  unfold rowFor
  match sort, h5 with
  | 0, _ | 1, _ | 2, _ | 3, _ | 4, _ =>
    simp only []
    (repeat' split) <;> simp <;> omega
theorem headB_len (r : URow) (n : Int) : (headB r n).length = 1 + r.size.toNat := by
  unfold headB
  split
  · next h => rw [h]; rfl
  · rw [List.length_cons, List.length_map, hiL_len]; omega
theorem head_of_laid {sort : Nat} (h5 : sort < 5) {n : Int} {s : ByteArray} {R : List UInt8} (n0 : 0 ≤ n) (n1 : n ≤ 18446744073709551615) (n2 : sort ≠ 0 → n ≤ 65535) (h : s.data.toList = headB (rowFor sort n) n ++ R) :
    headOf s (rowsOf sort) = .ok (n, ⟨R.toArray⟩) := by
  have hl := congrArg List.length h
  rw [ba_len, List.length_append, headB_len] at hl
  have hf := find_row h5 n0 h
  obtain ⟨f1, f2, f3⟩ := row_fits h5 n0 n1 n2
  rw [head_row (by omega) hf, if_neg (by omega)]
  have hp := List.find?_some hf
  simp only [Bool.and_eq_true, decide_eq_true_eq] at hp
  have hv : (if (rowFor sort n).size = 0 then byte s 0 - (rowFor sort n).lo else be s (rowFor sort n).size.toNat) = n := by
    by_cases hz : (rowFor sort n).size = 0
    · rw [if_pos hz]
      have hd := rowFor_lo h5 n0 hz
      have := byte_of (s := s) (x := (rowFor sort n).lo + n) hd.1 hd.2 (by rw [h]; unfold headB; rw [if_pos hz]; rfl)
      omega
    · rw [if_neg hz]
      refine be_of_hi n0 (f3 hz) ?_ (R := R) (c := toB (rowFor sort n).lo)
      rw [h]; unfold headB; rw [if_neg hz, List.cons_append]
  rw [hv, if_neg (by omega)]
  congr 2
  refine ba_ext ?_
  rw [Lib.extract_data, List.take_of_length_le (by rw [List.length_drop, ba_len]; omega), h, ← headB_len (rowFor sort n) n, List.drop_left]
theorem laid_take {sort : Nat} {most : Int} (h5 : sort < 5) {n : Int} {s t : ByteArray} {a : Nat} {R : List UInt8} (ha : a ≤ s.size) (n0 : 0 ≤ n) (n1 : n ≤ 18446744073709551615) (n2 : sort ≠ 0 → n ≤ 65535) (nm : sort ≠ 0 → n ≤ most)
    (ht : if sort = 1 ∨ sort = 2 then (t.size : Int) = n else t = ⟨#[]⟩) (h : s.data.toList.drop a = (laidOf sort n t).data.toList ++ R) :
    takeOf sort s a most = .ok (n, t, a + (laidOf sort n t).size) := by
  have hd : (s.extract a s.size).data.toList = headB (rowFor sort n) n ++ ((if sort = 1 ∨ sort = 2 then t.data.toList else []) ++ R) := by
    rw [Lib.extract_data, List.take_of_length_le (by rw [List.length_drop, ba_len]; omega), h]
    unfold laidOf
    simp
  have hh := head_of_laid h5 n0 n1 n2 hd
  have hl := congrArg List.length h
  rw [List.length_drop, List.length_append, ba_len, ba_len] at hl
  have hz : (laidOf sort n t).size = (headB (rowFor sort n) n).length + (if sort = 1 ∨ sort = 2 then t.data.toList else []).length := by
    rw [← ba_len]; unfold laidOf; simp
  unfold takeOf
  rw [hh]
  simp only
  rw [if_neg (by intro e; have := nm e.1; omega)]
  by_cases h12 : sort = 1 ∨ sort = 2
  · rw [if_pos h12] at ht hz ⊢
    have e1 : (⟨(t.data.toList ++ R).toArray⟩ : ByteArray).size = t.size + R.length := by rw [← ba_len, List.toList_toArray, List.length_append, ba_len]
    have e2 : (⟨(t.data.toList ++ R).toArray⟩ : ByteArray).extract 0 n.toNat = t := ba_ext (by
      rw [Lib.extract_data, List.drop_zero, Nat.sub_zero, List.take_left' (by rw [ba_len]; omega)])
    simp only [if_pos h12] at *
    rw [if_neg (by rw [e1]; omega), e1, e2]
    rw [ba_len] at hz
    congr 3
    omega
  · rw [if_neg h12] at ht hz ⊢
    subst ht
    have e1 : (⟨R.toArray⟩ : ByteArray).size = R.length := by rw [← ba_len]
    simp only [if_neg h12, List.nil_append, List.length_nil] at *
    rw [e1]
    congr 3
    omega
theorem laidOf_eq {sort : Nat} (h5 : sort < 5) {n : Int} (n0 : 0 ≤ n) (n2 : sort ≠ 0 → n ≤ 65535) (t : ByteArray) : laidOf sort n t = laidP sort n t := by
  have hh : headB (rowFor sort n) n = headP sort n := by
    match sort, h5 with
    | 0, _ =>
      rw [headP0]; unfold rowFor; simp only []
      by_cases c1 : n < 128
      · rw [if_pos c1, if_pos c1]; unfold headB; rw [if_pos rfl, Int.zero_add]
      · rw [if_neg c1, if_neg c1]
        by_cases c2 : n < 256
        · rw [if_pos c2, if_pos c2]; rfl
        · rw [if_neg c2, if_neg c2]
          by_cases c3 : n < 65536
          · rw [if_pos c3, if_pos c3]; rfl
          · rw [if_neg c3, if_neg c3]
            by_cases c4 : n < 4294967296
            · rw [if_pos c4, if_pos c4]; rfl
            · rw [if_neg c4, if_neg c4]; rfl
    | 1, _ =>
      have n2 := n2 (by decide)
      rw [headP1 (by omega)]; unfold rowFor; simp only []
      by_cases c1 : n < 256
      · rw [if_pos c1, if_pos c1]; rfl
      · rw [if_neg c1, if_neg c1]; rfl
    | 2, _ =>
      have n2 := n2 (by decide)
      rw [headP2 (by omega)]; unfold rowFor; simp only []
      by_cases c1 : n < 32
      · rw [if_pos c1, if_pos c1]; rfl
      · rw [if_neg c1, if_neg c1]
        by_cases c2 : n < 256
        · rw [if_pos c2, if_pos c2]; rfl
        · rw [if_neg c2, if_neg c2]; rfl
    | 3, _ =>
      have n2 := n2 (by decide)
      rw [headP3 (by omega)]; unfold rowFor; simp only []
      by_cases c1 : n < 16
      · rw [if_pos c1, if_pos c1]; rfl
      · rw [if_neg c1, if_neg c1]; rfl
    | 4, _ =>
      have n2 := n2 (by decide)
      rw [headP4 (by omega)]; unfold rowFor; simp only []
      by_cases c1 : n < 16
      · rw [if_pos c1, if_pos c1]; rfl
      · rw [if_neg c1, if_neg c1]; rfl
  refine ba_ext ?_
  unfold laidOf laidP
  rw [hh, ByteArray.data_append, Array.toList_append, baL_list]
  by_cases h12 : sort = 1 ∨ sort = 2
  · rw [if_pos h12, if_pos h12]
  · rw [if_neg h12, if_neg h12]; rfl
end Go.Proofs.YtihiaopilnjonaaGreatDoor
namespace Go.Proofs.YtihiaopilnjonaaGreatDoor
open Go.RowKit
set_option linter.unusedSimpArgs false
set_option linter.unusedVariables false
section
variable {B qb rb tb n : Nat} {T : TypeId} {w : World} {x0 : Rcd} {s : ByteArray}
theorem made_num (E : TEnv B qb rb tb n T w) (key : ByteArray) {o : Nat} (ho : o < n) (h0 : kindD (x0 o) = 0) : Calls Tryz.prog 109 #[.string key, .pointer (some ⟨tb, o, none⟩)] w (MadeG (fun w v => GSem B qb rb tb x0 T n s w v (gnum s key o)) w) :=
  (snum_any key tb o w).mono fun e w2 ⟨v, he, hs, hb⟩ => ⟨v.val, he, v, rfl, gsem_num (E.below hb) hs E.rlt E.tlt ho h0, hb⟩
theorem made_flag (E : TEnv B qb rb tb n T w) (key : ByteArray) {o : Nat} (ho : o < n) (h0 : kindD (x0 o) = 1) : Calls Tryz.prog 110 #[.string key, .pointer (some ⟨tb, o, none⟩)] w (MadeG (fun w v => GSem B qb rb tb x0 T n s w v (gflag s key o)) w) :=
  (sflag_any key tb o w).mono fun e w2 ⟨v, he, hs, hb⟩ => ⟨v.val, he, v, rfl, gsem_flag (E.below hb) hs E.rlt E.tlt ho h0, hb⟩
theorem made_dig (E : TEnv B qb rb tb n T w) (key : ByteArray) {o : Nat} (ho : o < n) : Calls Tryz.prog 111 #[.string key, .pointer (some ⟨tb, o, none⟩)] w (MadeG (fun w v => GSem B qb rb tb x0 T n s w v (gdig s key o)) w) :=
  (sdigest_any key tb o w).mono fun e w2 ⟨v, he, hs, hb⟩ => ⟨v.val, he, v, rfl, gsem_dig (E.below hb) hs E.rlt E.tlt ho, hb⟩
set_option maxRecDepth 100000 in
theorem dgs3_any (xb a : Nat) (he : RdEnv B w qb rb s a) (hx : w.heap[xb]? = some (.cells #[.string ⟨#[]⟩] 9 (0, 0))) (hne : xb ≠ rb) : Calls Tryz.prog 213 #[.pointer (some ⟨qb, 0, none⟩), .pointer (some ⟨xb, 0, none⟩)] w (ElIs (rdig s a) (fun y _ c => c = #[.string y]) rb xb 9 s w) := by
  have H := Lib.hid (dgRead_any B qb rb s a w he)
  have HX := Lib.hid hx
  clear he hx
  go_enter Tryz.func213, Tryz.ntmps213
  go_wp2_with fail
  refine H.out.mono ?_
  intro e w1 hh
  cases hr : rdig s a with
  | error f =>
    rw [hr] at hh
    obtain ⟨fb, rfl, hf, hE⟩ := vIs_err hh
    have HF := Lib.hid hf
    have HE := Lib.hid hE
    have HR := Lib.hid hr
    clear hh hf hE hr
    go_wp2
    refine ⟨rfl, ?_⟩
    rw [HR.out]
    exact ⟨Chg.of_ext HE.out, fb, rfl, HF.out⟩
  | ok y =>
    rw [hr] at hh
    obtain ⟨rfl, hrd, hle, hE⟩ := vIs_ok hh
    have hb1 : w1.heap[xb]? = some (.cells #[.string ⟨#[]⟩] 9 (0, 0)) := (hE.block _ (lt_of_block HX.out) (by simpa using hne)).trans HX.out
    have q0 : w1.cell? ⟨xb, 0, none⟩ = some (.string ⟨#[]⟩) := block_cell hb1 0
    have f0 : w1.frozen? ⟨xb, 0, none⟩ = false := block_free hb1 0
    have HB1 := Lib.hid hb1
    have HRD := Lib.hid hrd
    have HE := Lib.hid hE
    have HR := Lib.hid hr
    clear hh hrd hE hr hb1
    go_wp2
    go_end0
    rw [HR.out]
    exact ⟨(Chg.of_ext HE.out).set 0 _, rfl, block_setCell_ne HRD.out (by exact fun e => hne e.symm) _, hle, _, block_setCell HB1.out _, rfl⟩
set_option maxRecDepth 100000 in
theorem cert3_any (xb a : Nat) (he : RdEnv B w qb rb s a) (hx : w.heap[xb]? = some (.cells #[.int .u64 0] 23 (0, 0))) (hne : xb ≠ rb) : Calls Tryz.prog 150 #[.pointer (some ⟨qb, 0, none⟩), .pointer (some ⟨xb, 0, none⟩)] w (ElIs (rnum s a) (fun y _ c => c = #[.int .u64 y]) rb xb 23 s w) := by
  have H := Lib.hid (Num_tk w B qb rb s a he)
  have HX := Lib.hid hx
  have c0 : w.cell? ⟨qb, 0, none⟩ = some (.pointer (some ⟨rb, 0, none⟩)) := block_cell he.q 0
  clear he hx
  go_enter Tryz.func150, Tryz.ntmps150
  go_wp2_with fail
  refine H.out.mono ?_
  intro e w1 hh
  cases hr : tkR 0 s a with
  | error f =>
    rw [hr] at hh
    obtain ⟨fb, rfl, hf, hE, -⟩ := tkIs_err hh
    have HF := Lib.hid hf
    have HE := Lib.hid hE
    have HR : Hid (rnum s a = .error f) := Lib.hid (by unfold rnum; rw [hr])
    clear hh hf hE hr
    go_wp2_with fail
    refine (wholeu_no _ fb w1).mono ?_
    rintro e w2 ⟨rfl, rfl⟩
    go_wp2
    refine ⟨rfl, ?_⟩
    rw [HR.out]
    exact ⟨Chg.of_ext HE.out, fb, rfl, HF.out⟩
  | ok y =>
    rw [hr] at hh
    obtain ⟨rfl, hrd, hE⟩ := tkIs_ok hh
    have hle := (tkR_bd (by decide) hr).1
    have HR : Hid (rnum s a = .ok (y.1, y.2.2)) := Lib.hid (by unfold rnum; rw [hr])
    have hb1 : w1.heap[xb]? = some (.cells #[.int .u64 0] 23 (0, 0)) := (hE.block _ (lt_of_block HX.out) (by simpa using hne)).trans HX.out
    have q0 : w1.cell? ⟨xb, 0, none⟩ = some (.int .u64 0) := block_cell hb1 0
    have f0 : w1.frozen? ⟨xb, 0, none⟩ = false := block_free hb1 0
    have HB1 := Lib.hid hb1
    have HRD := Lib.hid hrd
    have HE := Lib.hid hE
    clear hh hrd hE hr hb1 c0
    go_wp2_with fail
    refine (wholeu_ok _ w1).mono ?_
    rintro e w2 ⟨rfl, rfl⟩
    go_wp2
    go_end0
    rw [HR.out]
    exact ⟨(Chg.of_ext HE.out).set 0 _, rfl, block_setCell_ne HRD.out (by exact fun e => hne e.symm) _, hle, _, block_setCell HB1.out _, rfl⟩
theorem made_digs (E : TEnv B qb rb tb n T w) (key : ByteArray) {o most : Nat} (ho : o < n) (hm : most ≤ 10240) (h0 : x0 o = .strs []) : Calls Tryz.prog 145 #[.string key, .pointer (some ⟨tb, o, none⟩), .int .i64 most] w (MadeG (fun w v => GSem B qb rb tb x0 T n s w v (gdigs s key o most)) w) :=
  (sdigests_any key tb o most w).mono fun e w2 ⟨v, he, hs, hb⟩ => ⟨v.val, he, v, rfl, gsem_manys (E.below hb) hs E.rlt E.tlt ho hm h0 (fun w' xb a' hc hxb hx he2 => dgs3_any xb a' he2 hx (by have := (E.below hb).rlt; omega)), hb⟩
theorem made_nums (E : TEnv B qb rb tb n T w) (key : ByteArray) {o most : Nat} (ho : o < n) (hm : most ≤ 10240) (h0 : x0 o = .nums []) : Calls Tryz.prog 146 #[.string key, .pointer (some ⟨tb, o, none⟩), .int .i64 most, .func (.func 147) #[] #[], .func (.func 148) #[] #[], .func (.func 150) #[] #[]] w (MadeG (fun w v => GSem B qb rb tb x0 T n s w v (gmany s key o most .nums (rnum s))) w) :=
  (smanyu_any key tb o most w).mono fun e w2 ⟨v, he, hs, hb⟩ => ⟨v.val, he, v, rfl, gsem_manyu (E.below hb) hs E.rlt E.tlt ho hm h0 (fun w' xb a' hc hxb hx he2 => cert3_any xb a' he2 hx (by have := (E.below hb).rlt; omega)), hb⟩
theorem made_obj (E : TEnv B qb rb tb n T w) (key : ByteArray) {g c : Nat} {l : List FVal} {gs : List GSpec} (hF : FRow w g l) (hc : len l ≤ c) (hS : GSems B qb rb tb x0 T n s w l gs) (hG : GOk x0 gs) (hn : gs.length ≤ 1000) : Calls Tryz.prog 107 #[.string key, .slice (some ⟨g, 0, none⟩) (len l) c] w (MadeG (fun w v => GSem B qb rb tb x0 T n s w v (gobj s key gs)) w) := by
  have hl : gs.length = l.length := hS.1
  have hn2 : len l ≤ 1000 := by show l.length ≤ 1000; omega
  exact (sobject_any key g c l w hF hn2).mono fun e w2 ⟨v, he, hs, hb⟩ => ⟨v.val, he, v, rfl, gsem_obj (E.below hb) hs E.rlt E.tlt (hF.below hb) hc hn2 (hS.later (Chg.of_below hb)) hG, hb⟩
theorem gsem_lasts (g : GSpec) : Lasts (fun w v => GSem B qb rb tb x0 T n s w v g) := fun w w' v hb h => h.later (Chg.of_below hb)
theorem gsems_lasts (gs : List GSpec) : LastsR (fun w l => GSems B qb rb tb x0 T n s w l gs) := fun w w' l hb h => h.later (Chg.of_below hb)
end
theorem RowG.imp {P Q : World → List FVal → Prop} {u : Value} {w : World} (h : RowG P u w) (hi : ∀ l, P w l → Q w l) : RowG Q u w := by
  obtain ⟨g, c, l, hu, hc, hF, hp⟩ := h
  exact ⟨g, c, l, hu, hc, hF, hi l hp⟩
theorem keysOk_of {gs : List GSpec} {ks : List ByteArray} (h : gs.map (fun g => g.key) = ks) (hn : ks.Nodup) : KeysOk gs := fun i j hi hj e => by
  subst h
  rw [gth_eq gs i hi, gth_eq gs j hj] at e
  exact (List.getElem_inj (i := i) (j := j) (h₀ := by simpa using hi) (h₁ := by simpa using hj) hn).1 (by simpa using e)
theorem disj_of {gs : List GSpec} {L : List (List Nat)} (h : gs.map (fun g => g.offs) = L) (hp : L.Pairwise (fun a b => ∀ o, o ∈ a → o ∉ b)) : Disj gs := fun i j hi hj hne o ho hin => by
  subst h
  rw [gth_eq gs i hi] at ho
  rw [gth_eq gs j hj] at hin
  rcases Nat.lt_or_gt_of_ne hne with hlt | hlt
  · exact List.pairwise_iff_getElem.1 hp i j (by simpa using hi) (by simpa using hj) hlt o (by simpa using ho) (by simpa using hin)
  · exact List.pairwise_iff_getElem.1 hp j i (by simpa using hj) (by simpa using hi) hlt o (by simpa using hin) (by simpa using ho)
structure KPart (x0 : Rcd) (o : Nat) : Prop where
  c0 : kindD (x0 o) = 2
  c1 : kindD (x0 (o + 1)) = 0
  c2 : kindD (x0 (o + 2)) = 0
  c3 : kindD (x0 (o + 3)) = 0
  c4 : kindD (x0 (o + 4)) = 0
structure KSig (x0 : Rcd) (o : Nat) : Prop where
  c0 : kindD (x0 o) = 0
  c1 : x0 (o + 1) = .strs []
  c2 : x0 (o + 2) = .strs []
structure KSlot (x0 : Rcd) (o : Nat) : Prop where
  c0 : kindD (x0 o) = 0
  c1 : kindD (x0 (o + 1)) = 1
  c2 : KSig x0 (o + 2)
theorem PartOk {x0 : Rcd} (s : ByteArray) (o : Nat) (hK : KPart x0 o) : GOk x0 (partGs s o) := by
  refine ⟨keysOk_of (ks := [⟨#[102]⟩, ⟨#[107]⟩, ⟨#[108]⟩, ⟨#[114]⟩, ⟨#[119]⟩]) rfl (by decide), disj_of rfl ?_, fun g hg => ?_, fun g hg => ?_⟩
  · simp only [partGs, sigGs, slotGs, partGs, gnum, gflag, gdig, gdigs, gmany, gobj, List.map_cons, List.map_nil, List.flatMap_cons, List.flatMap_nil, List.pairwise_cons, List.mem_cons, List.mem_append, List.not_mem_nil, or_false, List.Pairwise.nil, and_true, List.append_nil, List.singleton_append, List.cons_append, List.nil_append, forall_eq_or_imp, forall_eq]; (repeat' apply And.intro) <;> first | omega | (intro a h; exact h.elim)
  · simp only [partGs, List.mem_cons, List.not_mem_nil, or_false] at hg; rcases hg with rfl | rfl | rfl | rfl | rfl
    · exact gnum_frames _ _ _
    · exact gnum_frames _ _ _
    · exact gnum_frames _ _ _
    · exact gdig_frames _ _ _
    · exact gnum_frames _ _ _
  · simp only [partGs, List.mem_cons, List.not_mem_nil, or_false] at hg; rcases hg with rfl | rfl | rfl | rfl | rfl
    · exact gnum_kinds _ _ (hK.c2)
    · exact gnum_kinds _ _ (hK.c4)
    · exact gnum_kinds _ _ (hK.c3)
    · exact gdig_kinds _ _ (hK.c0)
    · exact gnum_kinds _ _ (hK.c1)
theorem rofPart_any {B qb rb tb n : Nat} {T : TypeId} {w : World} {x0 : Rcd} {s : ByteArray} (E : TEnv B qb rb tb n T w) (o : Nat) (hn : o + 5 ≤ n) (hK : KPart x0 o) : Calls Tryz.prog 62 #[.pointer (some ⟨tb, o, none⟩)] w (RowIs (fun w l => GSems B qb rb tb x0 T n s w l (partGs s o)) w) := by
  refine (gofPart_any tb o w
    (fun w v => GSem B qb rb tb x0 T n s w v (gnum s ⟨#[102]⟩ (o + 2))) (fun w v => GSem B qb rb tb x0 T n s w v (gnum s ⟨#[107]⟩ (o + 4))) (fun w v => GSem B qb rb tb x0 T n s w v (gnum s ⟨#[108]⟩ (o + 3))) (fun w v => GSem B qb rb tb x0 T n s w v (gdig s ⟨#[114]⟩ (o))) (fun w v => GSem B qb rb tb x0 T n s w v (gnum s ⟨#[119]⟩ (o + 1)))
    (fun w' hb => made_num (E.below hb) ⟨#[102]⟩ (by omega) hK.c2)
    (gsem_lasts _)
    (fun w' hb => made_num (E.below hb) ⟨#[107]⟩ (by omega) hK.c4)
    (gsem_lasts _)
    (fun w' hb => made_num (E.below hb) ⟨#[108]⟩ (by omega) hK.c3)
    (gsem_lasts _)
    (fun w' hb => made_dig (E.below hb) ⟨#[114]⟩ (by omega))
    (gsem_lasts _)
    (fun w' hb => made_num (E.below hb) ⟨#[119]⟩ (by omega) hK.c1)
    (gsem_lasts _)).mono ?_
  rintro e w' ⟨u, he, hu, hb⟩
  refine ⟨u, he, hu.imp fun l h => ?_, hb⟩
  obtain ⟨x0, x1, x2, x3, x4, rfl, p0, p1, p2, p3, p4⟩ := h
  refine ⟨rfl, fun i hi => ?_⟩
  match i, hi with
  | 0, _ => exact p0
  | 1, _ => exact p1
  | 2, _ => exact p2
  | 3, _ => exact p3
  | 4, _ => exact p4
theorem SigOk {x0 : Rcd} (s : ByteArray) (o : Nat) (hK : KSig x0 o) : GOk x0 (sigGs s o) := by
  refine ⟨keysOk_of (ks := [⟨#[105]⟩, ⟨#[112]⟩, ⟨#[118]⟩]) rfl (by decide), disj_of rfl ?_, fun g hg => ?_, fun g hg => ?_⟩
  · simp only [sigGs, sigGs, slotGs, partGs, gnum, gflag, gdig, gdigs, gmany, gobj, List.map_cons, List.map_nil, List.flatMap_cons, List.flatMap_nil, List.pairwise_cons, List.mem_cons, List.mem_append, List.not_mem_nil, or_false, List.Pairwise.nil, and_true, List.append_nil, List.singleton_append, List.cons_append, List.nil_append, forall_eq_or_imp, forall_eq]; (repeat' apply And.intro) <;> first | omega | (intro a h; exact h.elim)
  · simp only [sigGs, List.mem_cons, List.not_mem_nil, or_false] at hg; rcases hg with rfl | rfl | rfl
    · exact gnum_frames _ _ _
    · exact gmany_frames _ _ _ _ _ _
    · exact gmany_frames _ _ _ _ _ _
  · simp only [sigGs, List.mem_cons, List.not_mem_nil, or_false] at hg; rcases hg with rfl | rfl | rfl
    · exact gnum_kinds _ _ (hK.c0)
    · exact gmany_kinds _ _ (fun l => by rw [hK.c2]; rfl)
    · exact gmany_kinds _ _ (fun l => by rw [hK.c1]; rfl)
theorem rofSig_any {B qb rb tb n : Nat} {T : TypeId} {w : World} {x0 : Rcd} {s : ByteArray} (E : TEnv B qb rb tb n T w) (o : Nat) (hn : o + 3 ≤ n) (hK : KSig x0 o) : Calls Tryz.prog 108 #[.pointer (some ⟨tb, o, none⟩)] w (RowIs (fun w l => GSems B qb rb tb x0 T n s w l (sigGs s o)) w) := by
  refine (gofSig_any tb o w
    (fun w v => GSem B qb rb tb x0 T n s w v (gnum s ⟨#[105]⟩ (o))) (fun w v => GSem B qb rb tb x0 T n s w v (gdigs s ⟨#[112]⟩ (o + 2) 16)) (fun w v => GSem B qb rb tb x0 T n s w v (gdigs s ⟨#[118]⟩ (o + 1) 67))
    (fun w' hb => made_num (E.below hb) ⟨#[105]⟩ (by omega) hK.c0)
    (gsem_lasts _)
    (fun w' hb => made_digs (E.below hb) ⟨#[112]⟩ (by omega) (by decide) hK.c2)
    (gsem_lasts _)
    (fun w' hb => made_digs (E.below hb) ⟨#[118]⟩ (by omega) (by decide) hK.c1)
    (gsem_lasts _)).mono ?_
  rintro e w' ⟨u, he, hu, hb⟩
  refine ⟨u, he, hu.imp fun l h => ?_, hb⟩
  obtain ⟨x0, x1, x2, rfl, p0, p1, p2⟩ := h
  refine ⟨rfl, fun i hi => ?_⟩
  match i, hi with
  | 0, _ => exact p0
  | 1, _ => exact p1
  | 2, _ => exact p2
theorem SlotOk {x0 : Rcd} (s : ByteArray) (o : Nat) (hK : KSlot x0 o) : GOk x0 (slotGs s o) := by
  have hS0 := SigOk (x0 := x0) s (o + 2) hK.c2
  refine ⟨keysOk_of (ks := [⟨#[103]⟩, ⟨#[108]⟩, ⟨#[115]⟩]) rfl (by decide), disj_of rfl ?_, fun g hg => ?_, fun g hg => ?_⟩
  · simp only [slotGs, sigGs, slotGs, partGs, gnum, gflag, gdig, gdigs, gmany, gobj, List.map_cons, List.map_nil, List.flatMap_cons, List.flatMap_nil, List.pairwise_cons, List.mem_cons, List.mem_append, List.not_mem_nil, or_false, List.Pairwise.nil, and_true, List.append_nil, List.singleton_append, List.cons_append, List.nil_append, forall_eq_or_imp, forall_eq]; (repeat' apply And.intro) <;> first | omega | (intro a h; exact h.elim)
  · simp only [slotGs, List.mem_cons, List.not_mem_nil, or_false] at hg; rcases hg with rfl | rfl | rfl
    · exact gobj_frames (hS0).frames
    · exact gnum_frames _ _ _
    · exact gflag_frames _ _ _
  · simp only [slotGs, List.mem_cons, List.not_mem_nil, or_false] at hg; rcases hg with rfl | rfl | rfl
    · exact gobj_kinds (hS0).kinds
    · exact gnum_kinds _ _ (hK.c0)
    · exact gflag_kinds _ _ (hK.c1)
theorem rofSlot_any {B qb rb tb n : Nat} {T : TypeId} {w : World} {x0 : Rcd} {s : ByteArray} (E : TEnv B qb rb tb n T w) (o : Nat) (hn : o + 5 ≤ n) (hK : KSlot x0 o) : Calls Tryz.prog 61 #[.pointer (some ⟨tb, o, none⟩)] w (RowIs (fun w l => GSems B qb rb tb x0 T n s w l (slotGs s o)) w) := by
  refine (gofSlot_any tb o w
    (fun w v => GSem B qb rb tb x0 T n s w v (gobj s ⟨#[103]⟩ (sigGs s (o + 2)))) (fun w v => GSem B qb rb tb x0 T n s w v (gnum s ⟨#[108]⟩ (o))) (fun w v => GSem B qb rb tb x0 T n s w v (gflag s ⟨#[115]⟩ (o + 1))) (fun w l => GSems B qb rb tb x0 T n s w l (sigGs s (o + 2)))
    (gsems_lasts _) (fun w' hb => rofSig_any (E.below hb) (o + 2) (by omega) hK.c2)
    (fun w' g c l hb hF hc hS => made_obj (E.below hb) ⟨#[103]⟩ hF hc hS (SigOk s (o + 2) hK.c2) (show (3 : Nat) ≤ 1000 by decide))
    (gsem_lasts _)
    (fun w' hb => made_num (E.below hb) ⟨#[108]⟩ (by omega) hK.c0)
    (gsem_lasts _)
    (fun w' hb => made_flag (E.below hb) ⟨#[115]⟩ (by omega) hK.c1)
    (gsem_lasts _)).mono ?_
  rintro e w' ⟨u, he, hu, hb⟩
  refine ⟨u, he, hu.imp fun l h => ?_, hb⟩
  obtain ⟨x0, x1, x2, rfl, p0, p1, p2⟩ := h
  refine ⟨rfl, fun i hi => ?_⟩
  match i, hi with
  | 0, _ => exact p0
  | 1, _ => exact p1
  | 2, _ => exact p2
theorem RevealOk (s : ByteArray) : GOk rev0 (revGs s) := by
  have hS1 := PartOk (x0 := rev0) s (6) ⟨rfl, rfl, rfl, rfl, rfl⟩
  have hS2 := SlotOk (x0 := rev0) s (1) ⟨rfl, rfl, ⟨rfl, rfl, rfl⟩⟩
  refine ⟨keysOk_of (ks := [⟨#[112]⟩, ⟨#[113]⟩, ⟨#[115]⟩]) rfl (by decide), disj_of rfl ?_, fun g hg => ?_, fun g hg => ?_⟩
  · simp only [revGs, sigGs, slotGs, partGs, gnum, gflag, gdig, gdigs, gmany, gobj, List.map_cons, List.map_nil, List.flatMap_cons, List.flatMap_nil, List.pairwise_cons, List.mem_cons, List.mem_append, List.not_mem_nil, or_false, List.Pairwise.nil, and_true, List.append_nil, List.singleton_append, List.cons_append, List.nil_append, forall_eq_or_imp, forall_eq]; (repeat' apply And.intro) <;> first | omega | (intro a h; exact h.elim)
  · simp only [revGs, List.mem_cons, List.not_mem_nil, or_false] at hg; rcases hg with rfl | rfl | rfl
    · exact gnum_frames _ _ _
    · exact gobj_frames (hS1).frames
    · exact gobj_frames (hS2).frames
  · simp only [revGs, List.mem_cons, List.not_mem_nil, or_false] at hg; rcases hg with rfl | rfl | rfl
    · exact gnum_kinds _ _ (rfl)
    · exact gobj_kinds (hS1).kinds
    · exact gobj_kinds (hS2).kinds
theorem rofReveal_any {B qb rb tb : Nat} {T : TypeId} {w : World} {s : ByteArray} (E : TEnv B qb rb tb 11 T w) : Calls Tryz.prog 155 #[.pointer (some ⟨tb, 0, none⟩)] w (RowIs (fun w l => GSems B qb rb tb rev0 T 11 s w l (revGs s)) w) := by
  refine (gofReveal_any tb 0 w
    (fun w v => GSem B qb rb tb rev0 T 11 s w v (gnum s ⟨#[112]⟩ (0))) (fun w v => GSem B qb rb tb rev0 T 11 s w v (gobj s ⟨#[113]⟩ (partGs s (6)))) (fun w v => GSem B qb rb tb rev0 T 11 s w v (gobj s ⟨#[115]⟩ (slotGs s (1)))) (fun w l => GSems B qb rb tb rev0 T 11 s w l (partGs s (6))) (fun w l => GSems B qb rb tb rev0 T 11 s w l (slotGs s (1)))
    (fun w' hb => made_num (E.below hb) ⟨#[112]⟩ (by omega) rfl)
    (gsem_lasts _)
    (gsems_lasts _) (fun w' hb => rofPart_any (E.below hb) (6) (by omega) ⟨rfl, rfl, rfl, rfl, rfl⟩)
    (fun w' g c l hb hF hc hS => made_obj (E.below hb) ⟨#[113]⟩ hF hc hS (PartOk s (6) ⟨rfl, rfl, rfl, rfl, rfl⟩) (show (5 : Nat) ≤ 1000 by decide))
    (gsem_lasts _)
    (gsems_lasts _) (fun w' hb => rofSlot_any (E.below hb) (1) (by omega) ⟨rfl, rfl, ⟨rfl, rfl, rfl⟩⟩)
    (fun w' g c l hb hF hc hS => made_obj (E.below hb) ⟨#[115]⟩ hF hc hS (SlotOk s (1) ⟨rfl, rfl, ⟨rfl, rfl, rfl⟩⟩) (show (3 : Nat) ≤ 1000 by decide))
    (gsem_lasts _)).mono ?_
  rintro e w' ⟨u, he, hu, hb⟩
  refine ⟨u, he, hu.imp fun l h => ?_, hb⟩
  obtain ⟨x0, x1, x2, rfl, p0, p1, p2⟩ := h
  refine ⟨rfl, fun i hi => ?_⟩
  match i, hi with
  | 0, _ => exact p0
  | 1, _ => exact p1
  | 2, _ => exact p2
theorem CertOk (s : ByteArray) : GOk cert0 (certGs s) := by
  refine ⟨keysOk_of (ks := [⟨#[80]⟩, ⟨#[83]⟩, ⟨#[99]⟩, ⟨#[112]⟩, ⟨#[114]⟩, ⟨#[119]⟩]) rfl (by decide), disj_of rfl ?_, fun g hg => ?_, fun g hg => ?_⟩
  · simp only [certGs, sigGs, slotGs, partGs, gnum, gflag, gdig, gdigs, gmany, gobj, List.map_cons, List.map_nil, List.flatMap_cons, List.flatMap_nil, List.pairwise_cons, List.mem_cons, List.mem_append, List.not_mem_nil, or_false, List.Pairwise.nil, and_true, List.append_nil, List.singleton_append, List.cons_append, List.nil_append, forall_eq_or_imp, forall_eq]; (repeat' apply And.intro) <;> first | omega | (intro a h; exact h.elim)
  · simp only [certGs, List.mem_cons, List.not_mem_nil, or_false] at hg; rcases hg with rfl | rfl | rfl | rfl | rfl | rfl
    · exact gmany_frames _ _ _ _ _ _
    · exact gmany_frames _ _ _ _ _ _
    · exact gdig_frames _ _ _
    · exact gmany_frames _ _ _ _ _ _
    · exact gmany_frames _ _ _ _ _ _
    · exact gnum_frames _ _ _
  · simp only [certGs, List.mem_cons, List.not_mem_nil, or_false] at hg; rcases hg with rfl | rfl | rfl | rfl | rfl | rfl
    · exact gmany_kinds _ _ (fun l => by skip; rfl)
    · exact gmany_kinds _ _ (fun l => by skip; rfl)
    · exact gdig_kinds _ _ (rfl)
    · exact gmany_kinds _ _ (fun l => rfl)
    · exact gmany_kinds _ _ (fun l => rfl)
    · exact gnum_kinds _ _ (rfl)
end Go.Proofs.YtihiaopilnjonaaGreatDoor
namespace Go.Proofs.YtihiaopilnjonaaGreatDoor
open Go.RowKit
set_option linter.unusedSimpArgs false
set_option linter.unusedVariables false
theorem rec_zero {rb tb : Nat} {T : TypeId} {w : World} {x : Rcd} {cs : Array Value} (h : w.heap[tb]? = some (.cells cs T (0, 0))) {n : Nat} (hn : cs.size = n) (hz : ∀ i, i < n → ∃ v, cs[i]? = some v ∧ (match x i with | .num k => v = .int .u64 k | .flag q => v = .bool q | .str t => v = .string t | .strs l => l = [] ∧ v = .slice none 0 0 | .nums l => l = [] ∧ v = .slice none 0 0 | .revs l => l = [] ∧ v = .slice none 0 0)) : RecAt rb tb T n w x := by
  refine ⟨cs, h, hn, fun i hi => ?_⟩
  obtain ⟨v, h1, h2⟩ := hz i hi
  refine ⟨v, h1, ?_⟩
  cases hx : x i with
  | num k => rw [hx] at h2; exact h2
  | flag q => rw [hx] at h2; exact h2
  | str t => rw [hx] at h2; exact h2
  | strs l =>
    rw [hx] at h2; obtain ⟨rfl, rfl⟩ := h2
    exact ⟨none, 0, rfl, fun _ => ⟨rfl, rfl⟩, fun b off e => (by cases e), fun i hi => (by simp [len] at hi), fun b off e => (by cases e)⟩
  | nums l =>
    rw [hx] at h2; obtain ⟨rfl, rfl⟩ := h2
    exact ⟨none, 0, rfl, fun _ => ⟨rfl, rfl⟩, fun b off e => (by cases e), fun i hi => (by simp [len] at hi), fun b off e => (by cases e)⟩
  | revs l =>
    rw [hx] at h2; obtain ⟨rfl, rfl⟩ := h2
    exact ⟨none, 0, rfl, fun _ => ⟨rfl, rfl⟩, fun b off e => (by cases e), [], rfl, fun i hi => (by simp [len] at hi), fun i hi => (by simp [len] at hi)⟩
theorem Kd.str {x0 x : Rcd} (h : Kd x0 x) {o : Nat} (h0 : kindD (x0 o) = 2) : ∃ n, x o = .str n := by
  have := (h o).trans h0
  cases hx : x o <;> rw [hx] at this <;> first | exact ⟨_, rfl⟩ | cases this
theorem objR_kinds {x0 : Rcd} {s : ByteArray} {fs : List GSpec} (hf : ∀ g ∈ fs, g.Kinds x0) {x : Rcd} {a : Nat} {y : Rcd × Nat} (h : objR s fs x a = .ok y) (hk : Kd x0 x) : Kd x0 y.1 := gobj_kinds (s := s) (key := ByteArray.empty) hf x a y h hk
theorem rev_of_rec {rb xb : Nat} {w : World} {x : Rcd} (h : RecAt rb xb 48 11 w x) (hk : Kd rev0 x) : ∃ r : Rev, w.heap[xb]? = some (.cells r.cells.toArray 48 (0, 0)) ∧ RevIs rb xb w r (revD x) := by
  obtain ⟨cs, h1, h2, h3⟩ := h
  obtain ⟨m0, e0⟩ := hk.num (show kindD (rev0 0) = _ from rfl)
  obtain ⟨u0, g0, d0⟩ := h3 0 (by decide)
  rw [e0] at d0
  obtain ⟨m1, e1⟩ := hk.num (show kindD (rev0 1) = _ from rfl)
  obtain ⟨u1, g1, d1⟩ := h3 1 (by decide)
  rw [e1] at d1
  obtain ⟨m2, e2⟩ := hk.flag (show kindD (rev0 2) = _ from rfl)
  obtain ⟨u2, g2, d2⟩ := h3 2 (by decide)
  rw [e2] at d2
  obtain ⟨m3, e3⟩ := hk.num (show kindD (rev0 3) = _ from rfl)
  obtain ⟨u3, g3, d3⟩ := h3 3 (by decide)
  rw [e3] at d3
  obtain ⟨m4, e4⟩ := hk.strs (show kindD (rev0 4) = _ from rfl)
  obtain ⟨u4, g4, d4⟩ := h3 4 (by decide)
  rw [e4] at d4
  obtain ⟨m5, e5⟩ := hk.strs (show kindD (rev0 5) = _ from rfl)
  obtain ⟨u5, g5, d5⟩ := h3 5 (by decide)
  rw [e5] at d5
  obtain ⟨m6, e6⟩ := hk.str (show kindD (rev0 6) = _ from rfl)
  obtain ⟨u6, g6, d6⟩ := h3 6 (by decide)
  rw [e6] at d6
  obtain ⟨m7, e7⟩ := hk.num (show kindD (rev0 7) = _ from rfl)
  obtain ⟨u7, g7, d7⟩ := h3 7 (by decide)
  rw [e7] at d7
  obtain ⟨m8, e8⟩ := hk.num (show kindD (rev0 8) = _ from rfl)
  obtain ⟨u8, g8, d8⟩ := h3 8 (by decide)
  rw [e8] at d8
  obtain ⟨m9, e9⟩ := hk.num (show kindD (rev0 9) = _ from rfl)
  obtain ⟨u9, g9, d9⟩ := h3 9 (by decide)
  rw [e9] at d9
  obtain ⟨m10, e10⟩ := hk.num (show kindD (rev0 10) = _ from rfl)
  obtain ⟨u10, g10, d10⟩ := h3 10 (by decide)
  rw [e10] at d10
  obtain ⟨a4, k4, d4, -, o4, t4⟩ := d4
  obtain ⟨a5, k5, d5, -, o5, t5⟩ := d5
  simp only [HoldsD] at d0 d1 d2 d3 d6 d7 d8 d9 d10
  subst d0 d1 d2 d3 d4 d5 d6 d7 d8 d9 d10
  refine ⟨⟨m0, m1, m2, m3, a4, len m4, k4, a5, len m5, k5, m6, m7, m8, m9, m10⟩, ?_, ?_⟩
  · rw [h1]
    congr 2
    apply Array.ext_getElem?
    intro i
    match i with
    | 0 => exact g0
    | 1 => exact g1
    | 2 => exact g2
    | 3 => exact g3
    | 4 => exact g4
    | 5 => exact g5
    | 6 => exact g6
    | 7 => exact g7
    | 8 => exact g8
    | 9 => exact g9
    | 10 => exact g10
    | i + 11 => rw [Array.getElem?_eq_none (by omega), Array.getElem?_eq_none (by simp [Rev.cells])]
  · refine ⟨?_, ?_, ?_, ?_, ?_, ?_, o4, ?_, ?_, o5, ?_, ?_, ?_, ?_, ?_⟩ <;> simp only [revD, e0, e1, e2, e3, e4, e5, e6, e7, e8, e9, e10, DV.n, DV.q, DV.s, DV.l] <;> assumption
section
variable {B qb rb tb n : Nat} {T : TypeId} {w : World} {x0 : Rcd} {s : ByteArray}
set_option maxRecDepth 100000 in
theorem cert6_any (xb a : Nat) (he : RdEnv B w qb rb s a) (hx : w.heap[xb]? = some (.cells #[.int .u64 0, .int .u64 0, .bool false, .int .u64 0, .slice none 0 0, .slice none 0 0, .string ⟨#[]⟩, .int .u64 0, .int .u64 0, .int .u64 0, .int .u64 0] 48 (0, 0))) (hne : rb < xb) (hnq : qb ≠ xb) (hB : B ≤ xb) : Calls Tryz.prog 157 #[.pointer (some ⟨qb, 0, none⟩), .pointer (some ⟨xb, 0, none⟩)] w (ElIs (rrev s a) (fun d w2 c => ∃ r : Rev, c = r.cells.toArray ∧ RevIs rb xb w2 r d) rb xb 48 s w) := by
  have E : TEnv B qb rb xb 11 48 w := ⟨⟨_, he.r⟩, ⟨_, hx⟩, by omega, hnq, hB, by decide, by decide⟩
  have hrec : RecAt rb xb 48 11 w rev0 := rec_zero hx rfl (fun i hi => by
    match i, hi with
    | 0, _ => exact ⟨_, rfl, rfl⟩
    | 1, _ => exact ⟨_, rfl, rfl⟩
    | 2, _ => exact ⟨_, rfl, rfl⟩
    | 3, _ => exact ⟨_, rfl, rfl⟩
    | 4, _ => exact ⟨_, rfl, rfl, rfl⟩
    | 5, _ => exact ⟨_, rfl, rfl, rfl⟩
    | 6, _ => exact ⟨_, rfl, rfl⟩
    | 7, _ => exact ⟨_, rfl, rfl⟩
    | 8, _ => exact ⟨_, rfl, rfl⟩
    | 9, _ => exact ⟨_, rfl, rfl⟩
    | 10, _ => exact ⟨_, rfl, rfl⟩)
  have H1 := Lib.hid (rofReveal_any (s := s) E)
  have HE := Lib.hid he
  have HEE := Lib.hid E
  have HRC := Lib.hid hrec
  clear he hx E hrec
  go_enter Tryz.func157, Tryz.ntmps157
  go_wp2_with fail
  refine H1.out.mono ?_
  rintro e w1 ⟨u, rfl, ⟨g, c, l, rfl, hc, hF, hS⟩, hb⟩
  have hl : (revGs s).length = l.length := hS.1
  have hl3 : l.length = 3 := hl.symm
  have hg := (HEE.out.below hb).apart hF.ex
  have H2 := Lib.hid (robject_any B qb rb xb g 0 c rev0 48 11 s w1 w1 l (revGs s) a rev0 hF.flds hc (show l.length ≤ 1000 by omega) hS (Chg.refl _ _ _) hg HEE.out.nq HEE.out.le HEE.out.ne (RevealOk s).keys (RevealOk s).disj (RevealOk s).frames (RevealOk s).kinds (fun i => rfl) (HRC.out.below hb) (HE.out.below hb) (fun i hi o ho => rfl))
  have HB := Lib.hid hb
  clear hF hS hb hl hc
  go_wp2_with fail
  refine H2.out.mono ?_
  intro e w2 hh
  cases hr : objR s (revGs s) rev0 a with
  | error f =>
    rw [hr] at hh
    obtain ⟨fb, rfl, hf, hc⟩ := getIs_err hh
    have HF := Lib.hid hf
    have HC := Lib.hid hc
    have HR : Hid (rrev s a = .error f) := Lib.hid (by unfold rrev; rw [hr])
    clear hh hf hc hr
    go_wp2
    refine ⟨rfl, ?_⟩
    rw [HR.out]
    exact ⟨(Chg.of_below HB.out).trans HC.out, fb, rfl, HF.out⟩
  | ok q =>
    rw [hr] at hh
    obtain ⟨rfl, h2, h3, h4, h5⟩ := getIs_ok hh
    have H2 := Lib.hid h2
    have H4 := Lib.hid (rev_of_rec h4 (objR_kinds (RevealOk s).kinds hr (fun i => rfl)))
    have H5 := Lib.hid h5
    have HR : Hid (rrev s a = .ok (revD q.1, q.2)) := Lib.hid (by unfold rrev; rw [hr])
    clear hh h2 h4 h5 hr
    go_wp2
    go_end0
    obtain ⟨r, h6, h7⟩ := H4.out
    rw [HR.out]
    exact ⟨(Chg.of_below HB.out).trans H5.out, rfl, H2.out, h3, _, h6, r, rfl, h7⟩
theorem made_revs (E : TEnv B qb rb tb n T w) (key : ByteArray) {o most : Nat} (ho : o < n) (hm : most ≤ 10240) (h0 : x0 o = .revs []) : Calls Tryz.prog 153 #[.string key, .pointer (some ⟨tb, o, none⟩), .int .i64 most, .func (.func 154) #[] #[], .func (.func 156) #[] #[], .func (.func 157) #[] #[]] w (MadeG (fun w v => GSem B qb rb tb x0 T n s w v (gmany s key o most .revs (rrev s))) w) :=
  (smanyr_any key tb o most w).mono fun e w2 ⟨v, he, hs, hb⟩ => ⟨v.val, he, v, rfl, gsem_manyr (E.below hb) hs E.rlt E.tlt ho hm h0 (fun w' xb a' hc hxb hx he2 => cert6_any xb a' he2 hx (by have := (E.below hb).rlt; omega) (by
    intro e; subst e
    have := he2.q; rw [hx] at this; cases this) (by have := (E.below hb).tlt; have := E.le; omega)), hb⟩
end
theorem rofCert_any {B qb rb tb : Nat} {T : TypeId} {w : World} {s : ByteArray} (E : TEnv B qb rb tb 6 T w) : Calls Tryz.prog 93 #[.pointer (some ⟨tb, 0, none⟩)] w (RowIs (fun w l => GSems B qb rb tb cert0 T 6 s w l (certGs s)) w) := by
  refine (gofCert_any tb 0 w (fun w v => GSem B qb rb tb cert0 T 6 s w v (gdigs s ⟨#[80]⟩ 5 10240)) (fun w v => GSem B qb rb tb cert0 T 6 s w v (gdigs s ⟨#[83]⟩ 4 10240)) (fun w v => GSem B qb rb tb cert0 T 6 s w v (gdig s ⟨#[99]⟩ 0)) (fun w v => GSem B qb rb tb cert0 T 6 s w v (gmany s ⟨#[112]⟩ 3 640 .nums (rnum s))) (fun w v => GSem B qb rb tb cert0 T 6 s w v (gmany s ⟨#[114]⟩ 2 640 .revs (rrev s))) (fun w v => GSem B qb rb tb cert0 T 6 s w v (gnum s ⟨#[119]⟩ 1))
    (fun w' hb => made_digs (E.below hb) ⟨#[80]⟩ (by omega) (by decide) rfl) (gsem_lasts _)
    (fun w' hb => made_digs (E.below hb) ⟨#[83]⟩ (by omega) (by decide) rfl) (gsem_lasts _)
    (fun w' hb => made_dig (E.below hb) ⟨#[99]⟩ (by omega)) (gsem_lasts _)
    (fun w' hb => made_nums (E.below hb) ⟨#[112]⟩ (by omega) (by decide) rfl) (gsem_lasts _)
    (fun w' hb => made_revs (E.below hb) ⟨#[114]⟩ (by omega) (by decide) rfl) (gsem_lasts _)
    (fun w' hb => made_num (E.below hb) ⟨#[119]⟩ (by omega) rfl) (gsem_lasts _)).mono ?_
  rintro e w' ⟨u, he, hu, hb⟩
  refine ⟨u, he, hu.imp fun l h => ?_, hb⟩
  obtain ⟨x0, x1, x2, x3, x4, x5, rfl, p0, p1, p2, p3, p4, p5⟩ := h
  refine ⟨rfl, fun i hi => ?_⟩
  match i, hi with
  | 0, _ => exact p0
  | 1, _ => exact p1
  | 2, _ => exact p2
  | 3, _ => exact p3
  | 4, _ => exact p4
  | 5, _ => exact p5
end Go.Proofs.YtihiaopilnjonaaGreatDoor
namespace Go.Proofs.YtihiaopilnjonaaGreatDoor
open Go.RowKit
set_option linter.unusedSimpArgs false
set_option linter.unusedVariables false
def At (s : ByteArray) (a : Nat) (t : ByteArray) : Prop := a ≤ s.size ∧ ∃ R, s.data.toList.drop a = t.data.toList ++ R
theorem At.le {s t : ByteArray} {a : Nat} (h : At s a t) : a + t.size ≤ s.size := by
  obtain ⟨h1, R, h2⟩ := h
  have := congrArg List.length h2
  rw [List.length_drop, List.length_append, ba_len, ba_len] at this
  omega
theorem At.nil {s : ByteArray} {a : Nat} (h : a ≤ s.size) : At s a ByteArray.empty := ⟨h, s.data.toList.drop a, by rfl⟩
theorem At.app {s t u : ByteArray} {a : Nat} (h : At s a (t ++ u)) : At s a t ∧ At s (a + t.size) u := by
  have hl := h.le
  obtain ⟨h1, R, h2⟩ := h
  rw [ByteArray.data_append, Array.toList_append, List.append_assoc] at h2
  rw [ByteArray.size_append] at hl
  refine ⟨⟨h1, _, h2⟩, by omega, R, ?_⟩
  rw [← List.drop_drop, h2, ← ba_len t, List.drop_left]
theorem At.join {s t u : ByteArray} {a : Nat} (h : At s a t) (k : At s (a + t.size) u) : At s a (t ++ u) := by
  obtain ⟨h1, R, h2⟩ := h
  obtain ⟨k1, S, k2⟩ := k
  refine ⟨h1, S, ?_⟩
  rw [← List.drop_drop, h2, ← ba_len t, List.drop_left] at k2
  rw [h2, k2, ByteArray.data_append, Array.toList_append, List.append_assoc]
theorem At.self (t : ByteArray) : At t 0 t := ⟨Nat.zero_le _, [], by simp⟩
theorem tk_forth {sort : Nat} {s t : ByteArray} {a : Nat} {n : Int} (h5 : sort < 5) (h : At s a (laidP sort n t)) (n0 : 0 ≤ n) (n1 : n ≤ 18446744073709551615) (nm : sort ≠ 0 → n ≤ 10240)
    (ht : if sort = 1 ∨ sort = 2 then (t.size : Int) = n else t = ⟨#[]⟩) : tkR sort s a = .ok (n, t, a + (laidP sort n t).size) := by
  have n2 : sort ≠ 0 → n ≤ 65535 := fun e => by have := nm e; omega
  obtain ⟨h1, R, h2⟩ := h
  rw [← laidOf_eq h5 n0 n2] at h2 ⊢
  unfold tkR
  rw [laid_take h5 h1 n0 n1 n2 nm ht h2]
theorem tk_back {sort : Nat} {s : ByteArray} {a : Nat} {x : Int × ByteArray × Nat} (h5 : sort < 5) (ha : a ≤ s.size) (h : tkR sort s a = .ok x) :
    At s a (laidP sort x.1 x.2.1) ∧ x.2.2 = a + (laidP sort x.1 x.2.1).size ∧ 0 ≤ x.1 ∧ x.1 ≤ 18446744073709551615 ∧ (sort ≠ 0 → x.1 ≤ 10240) ∧ x.2.2 ≤ s.size ∧ (sort = 1 ∨ sort = 2 → (x.2.1.size : Int) = x.1) := by
  have hb := tkR_bd h5 h
  obtain ⟨n, t, a'⟩ := x
  simp only at hb ⊢
  unfold tkR at h
  split at h
  · cases h
  · next y hy =>
    cases h
    obtain ⟨h1, h2, h3, h4, h6, h7⟩ := take_laid h5 ha hy
    have n2 : sort ≠ 0 → n ≤ 65535 := fun e => by have := hb.2.2.1 e; omega
    rw [laidOf_eq h5 h4 n2] at h1 h2
    refine ⟨⟨ha, _, h1⟩, h2, h4, h6, hb.2.2.1, h3, fun h12 => ?_⟩
    rcases textOf_is (s := s) (a := a) (most := 10240) h12 with ⟨k, _, e⟩ | ⟨m, t2, a2, _, e, hz, _⟩
    · rw [hy] at e; cases e
    · rw [hy] at e; cases e; omega
theorem rnum_forth {s : ByteArray} {a : Nat} {n : Int} (h : At s a (numP n)) (hn : U64i n) : rnum s a = .ok (n, a + (numP n).size) := by
  have := tk_forth (sort := 0) (t := ByteArray.empty) (by decide) h hn.1 hn.2 (fun e => absurd rfl e) (by rfl)
  unfold rnum; rw [this]; rfl
theorem rnum_back {s : ByteArray} {a : Nat} {y : Int × Nat} (ha : a ≤ s.size) (h : rnum s a = .ok y) : At s a (numP y.1) ∧ y.2 = a + (numP y.1).size ∧ U64i y.1 := by
  unfold rnum at h
  split at h
  · cases h
  · next x hx =>
    cases h
    obtain ⟨h1, h2, h3, h4, _, _, _⟩ := tk_back (by decide) ha hx
    have e : laidP 0 x.1 x.2.1 = numP x.1 := rfl
    rw [e] at h1 h2
    exact ⟨h1, h2, h3, h4⟩
theorem rdig_forth {s x : ByteArray} {a : Nat} (h : At s a (binP x)) (hx : x.size = 32) : rdig s a = .ok (x, a + (binP x).size) := by
  have := tk_forth (sort := 1) (t := x) (by decide) h (by omega) (by omega) (fun _ => by omega) (by rfl)
  unfold rdig; rw [this]
  show (if x.size = 32 then _ else _) = _
  rw [if_pos hx]; rfl
theorem rdig_back {s : ByteArray} {a : Nat} {y : ByteArray × Nat} (ha : a ≤ s.size) (h : rdig s a = .ok y) : At s a (binP y.1) ∧ y.2 = a + (binP y.1).size ∧ y.1.size = 32 := by
  unfold rdig at h
  split at h
  · cases h
  · next x hx =>
    split at h
    · next h32 =>
      cases h
      obtain ⟨h1, h2, h3, h4, _, _, h7⟩ := tk_back (by decide) ha hx
      have h7 := h7 (.inl rfl)
      have e : laidP 1 x.1 x.2.1 = binP x.2.1 := by unfold binP; rw [h7]
      rw [e] at h1 h2
      exact ⟨h1, h2, h32⟩
    · cases h
theorem rlist_forth {s : ByteArray} {a n most : Nat} (h : At s a (listP n)) (hn : n ≤ most) (hm : n ≤ 10240) : rlist s most a = .ok (n, a + (listP n).size) := by
  have := tk_forth (sort := 3) (t := ByteArray.empty) (by decide) h (by omega) (by omega) (fun _ => by omega) (by rfl)
  unfold rlist; rw [this]
  show (if ((n : Nat) : Int) ≤ most then _ else _) = _
  rw [if_pos (by omega)]; rfl
theorem rlist_back {s : ByteArray} {a most : Nat} {y : Nat × Nat} (ha : a ≤ s.size) (h : rlist s most a = .ok y) : At s a (listP y.1) ∧ y.2 = a + (listP y.1).size ∧ y.1 ≤ most := by
  unfold rlist at h
  split at h
  · cases h
  · next x hx =>
    split at h
    · next hm =>
      cases h
      obtain ⟨h1, h2, h3, h4, _, _, _⟩ := tk_back (by decide) ha hx
      have e : laidP 3 x.1 x.2.1 = listP x.1.toNat := by
        unfold listP; rw [show ((x.1.toNat : Nat) : Int) = x.1 by omega]; rfl
      rw [e] at h1 h2
      exact ⟨h1, h2, by show x.1.toNat ≤ most; omega⟩
    · cases h
theorem rmany_forth {α : Type} {s : ByteArray} {rd : Nat → Except Flt (α × Nat)} {b : α → ByteArray} : ∀ (l pre : List α) (a : Nat), At s a (catB (l.map b)) → (∀ x ∈ l, ∀ a, At s a (b x) → rd a = .ok (x, a + (b x).size)) →
    rmany rd l.length a pre = .ok (pre ++ l, a + (catB (l.map b)).size)
  | [], pre, a, h, hr => by rw [List.append_nil]; rfl
  | x :: r, pre, a, h, hr => by
    rw [List.map_cons, catB] at h ⊢
    obtain ⟨h1, h2⟩ := h.app
    rw [List.length_cons, rmany, hr x (List.mem_cons_self ..) a h1]
    show rmany rd r.length (a + (b x).size) (pre ++ [x]) = _
    rw [rmany_forth r (pre ++ [x]) _ h2 (fun y hy => hr y (List.mem_cons_of_mem _ hy)), ByteArray.size_append, List.append_assoc, Nat.add_assoc]
    rfl
theorem rmany_back {α : Type} {s : ByteArray} {rd : Nat → Except Flt (α × Nat)} {b : α → ByteArray} {Q : α → Prop} (hr : ∀ a x, a ≤ s.size → rd a = .ok x → At s a (b x.1) ∧ x.2 = a + (b x.1).size ∧ Q x.1) :
    ∀ (n a : Nat) (pre : List α) (y : List α × Nat), a ≤ s.size → rmany rd n a pre = .ok y → ∃ l, y.1 = pre ++ l ∧ l.length = n ∧ At s a (catB (l.map b)) ∧ y.2 = a + (catB (l.map b)).size ∧ ∀ x ∈ l, Q x
  | 0, a, pre, y, ha, h => by
    simp only [rmany] at h; cases h
    exact ⟨[], by simp, rfl, At.nil ha, rfl, fun x hx => by cases hx⟩
  | n + 1, a, pre, y, ha, h => by
    simp only [rmany] at h
    split at h
    · cases h
    · next x hx =>
      obtain ⟨h1, h2, h3⟩ := hr a x ha hx
      have hle := h1.le
      obtain ⟨l, e1, e2, e3, e4, e5⟩ := rmany_back hr n x.2 _ y (by omega) h
      refine ⟨x.1 :: l, by rw [e1, List.append_assoc]; rfl, by rw [List.length_cons, e2], ?_, ?_, fun z hz => ?_⟩
      · rw [List.map_cons, catB]; rw [h2] at e3; exact h1.join e3
      · rw [List.map_cons, catB, ByteArray.size_append, e4, h2]; omega
      · rcases List.mem_cons.1 hz with rfl | hz
        · exact h3
        · exact e5 z hz
def POk : DV → Prop
  | .num n => U64i n
  | .nums l => ∀ n ∈ l, U64i n
  | _ => True
def DOk : DV → Prop
  | .revs l => ∀ r ∈ l, ∀ o, POk (revC r o)
  | d => POk d
structure FG (s : ByteArray) (x0 : Rcd) (g : GSpec) (f : Rcd → FSpec) : Prop where
  key : ∀ y, (f y).key = g.key
  ksz : g.key.size ≤ 10240
  must : ∀ y, (f y).must = g.must
  loc : ∀ y z, (∀ o, o ∈ g.offs → y o = z o) → f y = f z
  emp : ∀ y, Kd x0 y → (f y).empty = g.empty y
  full : g.must = true → ∀ y, (f y).empty = false
  un : g.must = false → (f x0).empty = true ∧ (f x0).may = true
  zero : ∀ v, Kd x0 v → (f v).empty = true → ∀ o, o ∈ g.offs → v o = x0 o
  back : ∀ x a y, a ≤ s.size → fresh x0 g x → Kd x0 x → g.read x a = .ok y → g.empty y.1 = false → (f y.1).may = true ∧ At s a (f y.1).bytes ∧ y.2 = a + (f y.1).bytes.size ∧ ∀ o, o ∈ g.offs → DOk (y.1 o)
  forth : ∀ v x a, Kd x0 v → (∀ o, DOk (v o)) → fresh x0 g x → Kd x0 x → (f v).may = true → (f v).empty = false → At s a (f v).bytes → ∃ y, g.read x a = .ok (y, a + (f v).bytes.size) ∧ ∀ o, o ∈ g.offs → y o = v o
def numF (key : ByteArray) (o : Nat) : Rcd → FSpec := fun y => ⟨key, false, (y o).n == 0, true, numP (y o).n⟩
def flagF (key : ByteArray) (o : Nat) : Rcd → FSpec := fun y => ⟨key, false, !(y o).q, true, numP 1⟩
def digF (key : ByteArray) (o : Nat) : Rcd → FSpec := fun y => ⟨key, true, false, decide ((y o).s.size = 32), binP (y o).s⟩
def manyF {α : Type} (key : ByteArray) (o : Nat) (get : DV → List α) (mayL : List α → Bool) (b : α → ByteArray) : Rcd → FSpec := fun y => ⟨key, false, decide (len (get (y o)) = 0), mayL (get (y o)), listP (len (get (y o))) ++ catB ((get (y o)).map b)⟩
variable {s : ByteArray} {x0 : Rcd}
theorem fg_num (key : ByteArray) (o : Nat) (hk : key.size ≤ 10240) (h0 : x0 o = .num 0) : FG s x0 (gnum s key o) (numF key o) := by
  have hkd : kindD (x0 o) = 0 := by rw [h0]; rfl
  constructor
  · exact fun y => rfl
  · exact hk
  · exact fun y => rfl
  · intro y z h
    have e : y o = z o := h o (List.mem_singleton.2 rfl)
    unfold numF; rw [e]
  · intro y hy
    obtain ⟨n, hn⟩ := hy.num hkd
    unfold numF gnum; simp only [hn]; rfl
  · intro h; cases h
  · intro _
    unfold numF; rw [h0]; exact ⟨rfl, rfl⟩
  · intro v hv h i hi
    obtain ⟨n, hn⟩ := hv.num hkd
    obtain rfl : i = o := List.mem_singleton.1 hi
    unfold numF at h; rw [hn] at h
    have : n = 0 := by simpa [DV.n] using h
    rw [hn, h0, this]
  · intro x a y ha hf hx h he
    simp only [gnum] at h
    split at h
    · cases h
    · next z hz =>
      cases h
      obtain ⟨h1, h2, h3⟩ := rnum_back ha hz
      dsimp only [numF]; rw [upd_at]
      exact ⟨rfl, h1, h2, fun i hi => by (obtain rfl : i = o := List.mem_singleton.1 hi); (try dsimp only); rw [upd_at]; exact h3⟩
  · intro v x a hv hd hf hx hm he hA
    obtain ⟨n, hn⟩ := hv.num hkd
    have hdo := hd o
    rw [hn] at hdo
    unfold numF at hA ⊢
    simp only [hn] at hA ⊢
    refine ⟨upd x o (.num n), ?_, fun i hi => ?_⟩
    · simp only [gnum]; rw [rnum_forth hA hdo]
      rfl
    · obtain rfl : i = o := List.mem_singleton.1 hi
      rw [upd_at, hn]
theorem fg_flag (key : ByteArray) (o : Nat) (hk : key.size ≤ 10240) (h0 : x0 o = .flag false) : FG s x0 (gflag s key o) (flagF key o) := by
  have hkd : kindD (x0 o) = 1 := by rw [h0]; rfl
  constructor
  · exact fun y => rfl
  · exact hk
  · exact fun y => rfl
  · intro y z h
    have e : y o = z o := h o (List.mem_singleton.2 rfl)
    unfold flagF; rw [e]
  · intro y hy
    obtain ⟨n, hn⟩ := hy.flag hkd
    unfold flagF gflag; simp only [hn]; rfl
  · intro h; cases h
  · intro _
    unfold flagF; rw [h0]; exact ⟨rfl, rfl⟩
  · intro v hv h i hi
    obtain ⟨n, hn⟩ := hv.flag hkd
    obtain rfl : i = o := List.mem_singleton.1 hi
    unfold flagF at h; rw [hn] at h
    have : n = false := by simpa [DV.q] using h
    rw [hn, h0, this]
  · intro x a y ha hf hx h he
    simp only [gflag] at h
    split at h
    · cases h
    · next z hz =>
      cases h
      obtain ⟨h1, h2, h3⟩ := rnum_back ha hz
      have hz1 : z.1 = 1 := by
        simp only [gflag, upd_at, zeroD] at he
        simpa using he
      rw [hz1] at h1 h2
      exact ⟨rfl, h1, h2, fun i hi => by (obtain rfl : i = o := List.mem_singleton.1 hi); (try dsimp only); rw [upd_at]; trivial⟩
  · intro v x a hv hd hf hx hm he hA
    obtain ⟨n, hn⟩ := hv.flag hkd
    unfold flagF at hA he ⊢
    simp only [hn] at hA he ⊢
    have hn1 : n = true := by simpa [DV.q] using he
    refine ⟨upd x o (.flag true), ?_, fun i hi => ?_⟩
    · simp only [gflag]; rw [rnum_forth hA ⟨by decide, by decide⟩]
      rfl
    · obtain rfl : i = o := List.mem_singleton.1 hi
      rw [upd_at, hn, hn1]
theorem fg_dig (key : ByteArray) (o : Nat) (hk : key.size ≤ 10240) (h0 : kindD (x0 o) = 2) : FG s x0 (gdig s key o) (digF key o) := by
  constructor
  · exact fun y => rfl
  · exact hk
  · exact fun y => rfl
  · intro y z h
    have e : y o = z o := h o (List.mem_singleton.2 rfl)
    unfold digF; rw [e]
  · exact fun y hy => rfl
  · exact fun _ y => rfl
  · intro h; cases h
  · intro v hv h; cases h
  · intro x a y ha hf hx h he
    simp only [gdig] at h
    split at h
    · cases h
    · next z hz =>
      cases h
      obtain ⟨h1, h2, h3⟩ := rdig_back ha hz
      dsimp only [digF]; rw [upd_at]
      exact ⟨decide_eq_true h3, h1, h2, fun i hi => by (obtain rfl : i = o := List.mem_singleton.1 hi); (try dsimp only); rw [upd_at]; trivial⟩
  · intro v x a hv hd hf hx hm he hA
    obtain ⟨n, hn⟩ := hv.str h0
    unfold digF at hA hm ⊢
    simp only [hn] at hA hm ⊢
    refine ⟨upd x o (.str n), ?_, fun i hi => ?_⟩
    · simp only [gdig]; rw [rdig_forth hA (of_decide_eq_true hm)]
      rfl
    · obtain rfl : i = o := List.mem_singleton.1 hi
      rw [upd_at, hn]
theorem fg_many {α : Type} (key : ByteArray) (o most : Nat) (toD : List α → DV) (get : DV → List α) (mayL : List α → Bool) (m : α → Prop) (b : α → ByteArray) (rd : Nat → Except Flt (α × Nat)) (ok : α → Prop) (hk : key.size ≤ 10240) (hmost : most ≤ 10240) (h0 : x0 o = toD [])
    (hg : ∀ l, get (toD l) = l) (hkind : ∀ d, kindD d = kindD (toD []) → d = toD (get d)) (hz : ∀ l, zeroD (toD l) = (l.length == 0))
    (hmay : ∀ l, mayL l = true ↔ len l ≤ most ∧ ∀ x ∈ l, m x) (hdok : ∀ l, DOk (toD l) ↔ ∀ x ∈ l, ok x)
    (hback : ∀ a x, a ≤ s.size → rd a = .ok x → At s a (b x.1) ∧ x.2 = a + (b x.1).size ∧ m x.1 ∧ ok x.1)
    (hforth : ∀ x, ok x → m x → ∀ a, At s a (b x) → rd a = .ok (x, a + (b x).size)) : FG s x0 (gmany s key o most toD rd) (manyF key o get mayL b) := by
  have hkd : ∀ {y : Rcd}, Kd x0 y → y o = toD (get (y o)) := fun {y} hy => hkind _ (by have := hy o; rw [h0] at this; exact this)
  constructor
  · exact fun y => rfl
  · exact hk
  · exact fun y => rfl
  · intro y z h
    have e : y o = z o := h o (List.mem_singleton.2 rfl)
    unfold manyF; rw [e]
  · intro y hy
    have := hkd hy
    show decide (len (get (y o)) = 0) = zeroD (y o)
    rw [this, hz, hg, len_eq]
    cases (get (y o)) <;> rfl
  · intro h; cases h
  · intro _
    unfold manyF; rw [h0, hg]
    exact ⟨rfl, (hmay []).2 ⟨Nat.zero_le _, fun x hx => by cases hx⟩⟩
  · intro v hv h i hi
    obtain rfl : i = o := List.mem_singleton.1 hi
    have e := hkd hv
    have h' : len (get (v i)) = 0 := of_decide_eq_true h
    rw [len_eq] at h'
    rw [e, List.eq_nil_of_length_eq_zero h', h0]
  · intro x a y ha hf hx h he
    simp only [gmany] at h
    split at h
    · cases h
    · next k hk =>
      split at h
      · cases h
      · next z hz2 =>
        cases h
        obtain ⟨k1, k2, k3⟩ := rlist_back ha hk
        have := k1.le
        obtain ⟨l, e1, e2, e3, e4, e5⟩ := rmany_back (Q := fun x => m x ∧ ok x) hback k.1 k.2 [] z (by omega) hz2
        rw [List.nil_append] at e1
        dsimp only [manyF]; rw [upd_at, hg, e1, len_eq, e2]
        refine ⟨(hmay l).2 ⟨by rw [len_eq]; omega, fun x hx => (e5 x hx).1⟩, k1.join (by rw [← k2]; exact e3), ?_, fun i hi => ?_⟩
        · rw [ByteArray.size_append]; (try simp only); omega
        · obtain rfl : i = o := List.mem_singleton.1 hi
          (try dsimp only); rw [upd_at]; exact (hdok l).2 fun x hx => (e5 x hx).2
  · intro v x a hv hd hf hx hm he hA
    have e := hkd hv
    have hdo := hd o
    unfold manyF at hA hm ⊢
    simp only at hA hm ⊢
    generalize get (v o) = l at e hA hm
    rw [e] at hdo
    obtain ⟨h1, h2⟩ := (hmay l).1 hm
    obtain ⟨a1, a2⟩ := hA.app
    refine ⟨upd x o (toD l), ?_, fun i hi => ?_⟩
    · simp only [gmany]; rw [rlist_forth a1 h1 (by omega)]
      simp only []
      have := rmany_forth (rd := rd) l [] _ a2 (fun x hx a hA => hforth x ((hdok l).1 hdo x hx) (h2 x hx) a hA)
      rw [← len_eq] at this
      rw [this, ByteArray.size_append, ← Nat.add_assoc]
      rfl
    · obtain rfl : i = o := List.mem_singleton.1 hi
      rw [upd_at, e]
end Go.Proofs.YtihiaopilnjonaaGreatDoor
namespace Go.Proofs.YtihiaopilnjonaaGreatDoor
open Go.RowKit
set_option linter.unusedSimpArgs false
set_option linter.unusedVariables false
abbrev FPair := GSpec × (Rcd → FSpec)
def gsOf (P : List FPair) : List GSpec := P.map fun p => p.1
def fsOf (P : List FPair) (y : Rcd) : List FSpec := P.map fun p => p.2 y
def pth (P : List FPair) (i : Nat) : FPair := P.getD i (GSpec.zero, fun _ => ⟨ByteArray.empty, false, false, false, ByteArray.empty⟩)
theorem pth_eq (P : List FPair) (i : Nat) (h : i < P.length) : pth P i = P[i] := by unfold pth; rw [List.getD_eq_getElem?_getD, List.getElem?_eq_getElem h]; rfl
theorem gsOf_len (P : List FPair) : (gsOf P).length = P.length := List.length_map _
theorem gth_of {P : List FPair} {i : Nat} (h : i < P.length) : gth (gsOf P) i = (pth P i).1 := by
  rw [gth_eq _ _ (by rw [gsOf_len]; exact h), pth_eq P i h]; unfold gsOf; rw [List.getElem_map]
structure FGs (s : ByteArray) (x0 : Rcd) (P : List FPair) : Prop where
  fg : ∀ p ∈ P, FG s x0 p.1 p.2
  ok : GOk x0 (gsOf P)
  len : P.length ≤ 1000
variable {s : ByteArray} {x0 : Rcd} {P : List FPair}
theorem FGs.at (h : FGs s x0 P) {i : Nat} (hi : i < P.length) : FG s x0 (gth (gsOf P) i) (pth P i).2 := by
  rw [gth_of hi]; exact h.fg _ (by rw [pth_eq P i hi]; exact List.getElem_mem _)
def fsFrom (P : List FPair) (y : Rcd) (m : Nat) : List FSpec := (fsOf P y).drop m
theorem fsFrom_end (y : Rcd) {m : Nat} (h : P.length ≤ m) : fsFrom P y m = [] := List.drop_eq_nil_of_le (by unfold fsOf; rw [List.length_map]; exact h)
theorem fsFrom_cons (y : Rcd) {m : Nat} (h : m < P.length) : fsFrom P y m = (pth P m).2 y :: fsFrom P y (m + 1) := by
  have h' : m < (P.map fun p => p.2 y).length := by rw [List.length_map]; exact h
  show (P.map fun p => p.2 y).drop m = (pth P m).2 y :: (P.map fun p => p.2 y).drop (m + 1)
  rw [List.drop_eq_getElem_cons h', pth_eq P m h, List.getElem_map]
theorem kept_cons (f : FSpec) (l : List FSpec) : keptF (f :: l) = if f.empty then keptF l else f :: keptF l := by
  unfold keptF; rw [List.filter_cons]; cases f.empty <;> rfl
theorem kept_skip (y : Rcd) : ∀ (k fr : Nat), fr + k ≤ P.length → (∀ i, fr ≤ i → i < fr + k → ((pth P i).2 y).empty = true) → keptF (fsFrom P y fr) = keptF (fsFrom P y (fr + k))
  | 0, fr, _, _ => rfl
  | k + 1, fr, h, he => by
    rw [fsFrom_cons y (m := fr) (by omega), kept_cons, he fr (Nat.le_refl _) (by omega), if_pos rfl, kept_skip y k (fr + 1) (by omega) (fun i h1 h2 => he i (by omega) (by omega))]
    rw [show fr + 1 + k = fr + (k + 1) by omega]
def catF (l : List FSpec) : ByteArray := catB ((keptF l).map fieldP)
theorem key_one (h : FGs s x0 P) {i j : Nat} (hi : i < P.length) (hj : j < P.length) (hij : i ≠ j) : ((gth (gsOf P) i).key.toList == (gth (gsOf P) j).key.toList) = false := by
  cases hb : ((gth (gsOf P) i).key.toList == (gth (gsOf P) j).key.toList) with
  | false => rfl
  | true => exact absurd (h.ok.keys i j (by rw [gsOf_len]; exact hi) (by rw [gsOf_len]; exact hj) (toList_same hb)) hij
theorem loop_forth (h : FGs s x0 P) {v : Rcd} (hv : Kd x0 v) (hd : ∀ o, DOk (v o)) (hm : allMay (fsOf P v) = true) : ∀ (k m fr : Nat), m + k = P.length → fr ≤ m → (∀ i, fr ≤ i → i < m → ((pth P i).2 v).empty = true) → ∀ (x : Rcd) (seen : List Nat) (a : Nat), Kd x0 x → (∀ i, m ≤ i → i < P.length → fresh x0 (gth (gsOf P) i) x) → At s a (catF (fsFrom P v m)) →
    ∃ y seen', objLoop s (gsOf P) (keptF (fsFrom P v m)).length fr x seen a = .ok (y, seen', a + (catF (fsFrom P v m)).size) ∧ (∀ i, m ≤ i → i < P.length → ∀ o, o ∈ (gth (gsOf P) i).offs → y o = v o) ∧ (∀ o, (∀ i, m ≤ i → i < P.length → o ∉ (gth (gsOf P) i).offs) → y o = x o) ∧ (∀ i, i ∈ seen → i ∈ seen') ∧ ∀ i, m ≤ i → i < P.length → ((pth P i).2 v).empty = false → i ∈ seen'
  | 0, m, fr, hk, hfr, he, x, seen, a, hx, hf, hA => by
    have e : fsFrom P v m = [] := fsFrom_end v (by omega)
    rw [e]
    exact ⟨x, seen, rfl, fun i h1 h2 => by omega, fun o _ => rfl, fun i h => h, fun i h1 h2 => by omega⟩
  | k + 1, m, fr, hk, hfr, he, x, seen, a, hx, hf, hA => by
    have hml : m < P.length := by omega
    have hmg : m < (gsOf P).length := by rw [gsOf_len]; exact hml
    have F := h.at hml
    rw [fsFrom_cons v hml] at hA ⊢
    unfold catF at hA ⊢
    rw [kept_cons] at hA ⊢
    cases hem : ((pth P m).2 v).empty with
    | true =>
      rw [hem, if_pos rfl] at hA
      rw [if_pos rfl]
      obtain ⟨y, seen', h1, h2, h3, h4, h5⟩ := loop_forth h hv hd hm k (m + 1) fr (by omega) (by omega) (fun i a b => by
        by_cases e : i = m
        · subst e; exact hem
        · exact he i a (by omega)) x seen a hx (fun i a b => hf i (by omega) b) hA
      refine ⟨y, seen', h1, fun i a b o ho => ?_, fun o ho => h3 o fun i a b => ho i (by omega) b, h4, fun i a b c => ?_⟩
      · by_cases e : i = m
        · subst e
          rw [h3 o (fun j j1 j2 hin => h.ok.disj i j (by rw [gsOf_len]; exact b) (by rw [gsOf_len]; exact j2) (by omega) o ho hin)]
          rw [hf i (Nat.le_refl _) b o ho]
          exact (F.zero v hv hem o ho).symm
        · exact h2 i (by omega) b o ho
      · by_cases e : i = m
        · subst e; rw [hem] at c; cases c
        · exact h5 i (by omega) b c
    | false =>
      rw [hem, if_neg (by decide)] at hA
      rw [if_neg (by decide)]
      rw [List.map_cons, catB] at hA ⊢
      obtain ⟨A1, A2⟩ := hA.app
      have hfp : fieldP ((pth P m).2 v) = strP (gth (gsOf P) m).key ++ ((pth P m).2 v).bytes := by unfold fieldP; rw [F.key]
      rw [hfp] at A1 A2 ⊢
      obtain ⟨K1, K2⟩ := A1.app
      have hks := F.ksz
      have hk2 : tkR 2 s a = .ok (((gth (gsOf P) m).key.size : Int), (gth (gsOf P) m).key, a + (strP (gth (gsOf P) m).key).size) :=
        tk_forth (sort := 2) (t := (gth (gsOf P) m).key) (by decide) K1 (by omega) (by omega) (fun _ => by omega) (by rfl)
      have hki : keyIdx (gsOf P) fr (gth (gsOf P) m).key = some (m - fr) := by
        refine keyIdx_some (by omega) (by rw [show fr + (m - fr) = m by omega]; simp) fun i hi => ?_
        exact key_one h (by omega) hml (by omega)
      have hmy : ((pth P m).2 v).may = true := by
        refine List.all_eq_true.1 hm _ ?_
        unfold fsOf; rw [pth_eq P m hml]
        exact List.mem_map.2 ⟨_, List.getElem_mem _, rfl⟩
      obtain ⟨y1, r1, r2⟩ := F.forth v x _ hv hd (hf m (Nat.le_refl _) hml) hx hmy hem K2
      have hfm : fr + (m - fr) = m := by omega
      have hky : Kd x0 y1 := h.ok.kinds _ (by rw [gth_eq _ _ hmg]; exact List.getElem_mem _) x _ _ r1 hx
      have hey : (gth (gsOf P) m).empty y1 = false := by rw [← F.emp y1 hky, F.loc y1 v r2]; exact hem
      have hfy : ∀ i, m + 1 ≤ i → i < P.length → fresh x0 (gth (gsOf P) i) y1 := fun i a b o ho => by
        have e1 : y1 o = x o := h.ok.frames _ (by rw [gth_eq _ _ hmg]; exact List.getElem_mem _) x _ _ r1 o (fun hin => h.ok.disj i m (by rw [gsOf_len]; exact b) hmg (by omega) o ho hin)
        rw [e1]
        exact hf i (by omega) b o ho
      rw [ByteArray.size_append, ← Nat.add_assoc] at A2
      obtain ⟨y, seen', h1, h2, h3, h4, h5⟩ := loop_forth h hv hd hm k (m + 1) (m + 1) (by omega) (Nat.le_refl _) (fun i a b => by omega) y1 (m :: seen) _ hky hfy A2
      have hn := objLoop_next (s := s) (gs := gsOf P) (g := (keptF (fsFrom P v (m + 1))).length) (fn := fr) (seen := seen) hk2 hki (by rw [hfm]; exact r1) (by rw [hfm]; exact hey)
      rw [hfm] at hn
      refine ⟨y, seen', ?_, fun i a b o ho => ?_, fun o ho => ?_, fun i hi => h4 i (List.mem_cons_of_mem _ hi), fun i a b c => ?_⟩
      · rw [List.length_cons, hn, h1]
        rw [ByteArray.size_append, ByteArray.size_append]
        unfold catF
        congr 3
        omega
      · by_cases e : i = m
        · subst e
          rw [h3 o (fun j j1 j2 hin => h.ok.disj i j hmg (by rw [gsOf_len]; exact j2) (by omega) o ho hin)]
          exact r2 o ho
        · exact h2 i (by omega) b o ho
      · rw [h3 o fun i a b => ho i (by omega) b]
        exact h.ok.frames _ (by rw [gth_eq _ _ hmg]; exact List.getElem_mem _) x _ _ r1 o (ho m (Nat.le_refl _) hml)
      · by_cases e : i = m
        · subst e; exact h4 i (List.mem_cons_self ..)
        · exact h5 i (by omega) b c
theorem kept_le (l : List FSpec) : (keptF l).length ≤ l.length := List.length_filter_le _ _
theorem fsOf_len (y : Rcd) : (fsOf P y).length = P.length := List.length_map _
theorem objR_forth (h : FGs s x0 P) {v x : Rcd} {a : Nat} (hv : Kd x0 v) (hd : ∀ o, DOk (v o)) (hm : allMay (fsOf P v) = true) (hx : Kd x0 x) (hf : ∀ i, i < P.length → fresh x0 (gth (gsOf P) i) x) (hA : At s a (layP (fsOf P v))) :
    ∃ y, objR s (gsOf P) x a = .ok (y, a + (layP (fsOf P v)).size) ∧ ∀ i, i < P.length → ∀ o, o ∈ (gth (gsOf P) i).offs → y o = v o := by
  unfold layP at hA ⊢
  obtain ⟨A1, A2⟩ := hA.app
  have hl := kept_le (fsOf P v)
  rw [fsOf_len] at hl
  have hp := h.len
  have h4 : tkR 4 s a = .ok (((keptF (fsOf P v)).length : Int), ByteArray.empty, a + (mapP (keptF (fsOf P v)).length).size) :=
    tk_forth (sort := 4) (t := ByteArray.empty) (by decide) A1 (by omega) (by omega) (fun _ => by omega) (by rfl)
  obtain ⟨y, seen', h1, h2, h3, _, h5⟩ := loop_forth h hv hd hm P.length 0 0 (by omega) (Nat.le_refl _) (fun i a b => by omega) x [] _ hx (fun i _ b => hf i b) A2
  refine ⟨y, ?_, fun i hi => h2 i (Nat.zero_le _) hi⟩
  have h1' : objLoop s (gsOf P) (((keptF (fsOf P v)).length : Int), ByteArray.empty, a + (mapP (keptF (fsOf P v)).length).size).1.toNat 0 x [] (a + (mapP (keptF (fsOf P v)).length).size) = .ok (y, seen', a + (mapP (keptF (fsOf P v)).length).size + (catB ((keptF (fsOf P v)).map fieldP)).size) := h1
  have hmi : missing (gsOf P) seen' = false := by
    cases hb : missing (gsOf P) seen' with
    | false => rfl
    | true =>
      obtain ⟨i, hi, hq⟩ := (missing_iff _ _).1 hb
      rw [gsOf_len] at hi
      simp only [Bool.and_eq_true, Bool.not_eq_true'] at hq
      have := h5 i (Nat.zero_le _) hi ((h.at hi).full hq.1 v)
      rw [List.contains_eq_mem] at hq
      simp [this] at hq
  have hk := objR_ok h4 h1' hmi
  rw [hk, ByteArray.size_append, Nat.add_assoc]
theorem loop_fine (h : FGs s x0 P) : ∀ (n fr : Nat) (x : Rcd) (seen : List Nat) (a : Nat) (y : Rcd × List Nat × Nat), objLoop s (gsOf P) n fr x seen a = .ok y → (∀ o, (∀ i, fr ≤ i → i < P.length → o ∉ (gth (gsOf P) i).offs) → y.1 o = x o) ∧ ∀ i, i ∈ y.2.1 → i ∈ seen ∨ fr ≤ i
  | 0, fr, x, seen, a, y, hy => by simp only [objLoop] at hy; cases hy; exact ⟨fun o _ => rfl, fun i hi => .inl hi⟩
  | n + 1, fr, x, seen, a, y, hy => by
    simp only [objLoop] at hy
    split at hy
    · cases hy
    · split at hy
      · cases hy
      · next j hj =>
        have hl := keyIdx_lt hj
        have hl' := hl
        rw [gsOf_len] at hl'
        split at hy
        · cases hy
        · next z hz =>
          split at hy
          · cases hy
          · obtain ⟨h1, h2⟩ := loop_fine h n _ _ _ _ y hy
            refine ⟨fun o ho => ?_, fun i hi => ?_⟩
            · rw [h1 o fun i a b => ho i (by omega) b]
              exact h.ok.frames _ (by rw [gth_eq _ _ hl]; exact List.getElem_mem _) x _ _ hz o (ho _ (by omega) hl')
            · rcases h2 i hi with h3 | h3
              · rcases List.mem_cons.1 h3 with rfl | h3
                · exact .inr (by omega)
                · exact .inl h3
              · exact .inr (by omega)
theorem loop_back (h : FGs s x0 P) (h00 : ∀ o, DOk (x0 o)) : ∀ (n fr : Nat) (x : Rcd) (seen : List Nat) (a : Nat) (y : Rcd × List Nat × Nat), objLoop s (gsOf P) n fr x seen a = .ok y → a ≤ s.size → fr ≤ P.length → Kd x0 x → (∀ i, fr ≤ i → i < P.length → fresh x0 (gth (gsOf P) i) x) → (∀ i, i ∈ seen → i < fr) → missing (gsOf P) y.2.1 = false →
    n = (keptF (fsFrom P y.1 fr)).length ∧ At s a (catF (fsFrom P y.1 fr)) ∧ y.2.2 = a + (catF (fsFrom P y.1 fr)).size ∧ ∀ i, fr ≤ i → i < P.length → ((pth P i).2 y.1).may = true ∧ ∀ o, o ∈ (gth (gsOf P) i).offs → DOk (y.1 o)
  | 0, fr, x, seen, a, y, hy, ha, hfr, hx, hf, hs, hmi => by
    simp only [objLoop] at hy; cases hy
    dsimp only at hmi ⊢
    have hun : ∀ i, fr ≤ i → i < P.length → ((pth P i).2 x).empty = true ∧ ((pth P i).2 x).may = true := fun i h1 h2 => by
      have F := h.at h2
      rw [F.loc x x0 (hf i h1 h2)]
      refine F.un ?_
      cases hb : (gth (gsOf P) i).must with
      | false => rfl
      | true =>
        have : missing (gsOf P) seen = true := (missing_iff _ _).2 ⟨i, by rw [gsOf_len]; exact h2, by
          rw [hb, List.contains_eq_mem]
          have : i ∉ seen := fun hin => by have := hs i hin; omega
          simp [this]⟩
        rw [this] at hmi; cases hmi
    have e := kept_skip x (P.length - fr) fr (by omega) (fun i h1 h2 => (hun i h1 (by omega)).1)
    rw [fsFrom_end (m := fr + (P.length - fr)) x (by omega)] at e
    refine ⟨by rw [e]; rfl, ?_, ?_, fun i h1 h2 => ⟨(hun i h1 h2).2, fun o ho => by rw [hf i h1 h2 o ho]; exact h00 o⟩⟩
    · unfold catF; rw [e]; exact At.nil ha
    · unfold catF; rw [e]; rfl
  | n + 1, fr, x, seen, a, y, hy, ha, hfr, hx, hf, hs, hmi => by
    simp only [objLoop] at hy
    split at hy
    · cases hy
    · next t ht =>
      split at hy
      · cases hy
      · next j hj =>
        have hl := keyIdx_lt hj
        have hml := hl
        rw [gsOf_len] at hml
        obtain ⟨m, hm⟩ : ∃ m, fr + j = m := ⟨_, rfl⟩
        have hkk := keyIdx_key hj
        rw [hm] at hy hl hml hkk
        have hmem : gth (gsOf P) m ∈ gsOf P := by rw [gth_eq _ _ hl]; exact List.getElem_mem _
        have F := h.at hml
        split at hy
        · cases hy
        · next z hz =>
          split at hy
          · cases hy
          · next hne =>
            have hne : (gth (gsOf P) m).empty z.1 = false := by simpa using hne
            obtain ⟨t1, t2, t3, t4, t5, t6, t7⟩ := tk_back (by decide) ha ht
            have t7 := t7 (.inr rfl)
            have hkz : Kd x0 z.1 := h.ok.kinds _ hmem x _ _ hz hx
            obtain ⟨b1, b2, b3, b4⟩ := F.back x _ z t6 (hf m (by omega) hml) hx hz hne
            have hb2 := b2.le
            obtain ⟨f1, f2⟩ := loop_fine h n (m + 1) z.1 (m :: seen) z.2 y hy
            have hfz : ∀ i, fr ≤ i → i < P.length → i ≠ m → fresh x0 (gth (gsOf P) i) z.1 := fun i h1 h2 hne o ho => by
              rw [h.ok.frames _ hmem x _ _ hz o (fun hin => h.ok.disj i m (by rw [gsOf_len]; exact h2) hl hne o ho hin)]
              exact hf i h1 h2 o ho
            obtain ⟨i1, i2, i3, i4⟩ := loop_back h h00 n (m + 1) z.1 (m :: seen) z.2 y hy (by omega) (by omega) hkz (fun i h1 h2 => hfz i (by omega) h2 (by omega)) (fun i hi => by
              rcases List.mem_cons.1 hi with rfl | hi
              · omega
              · have := hs i hi; omega) hmi
            have hlow : ∀ i, fr ≤ i → i < m → ((pth P i).2 y.1).empty = true ∧ ((pth P i).2 y.1).may = true ∧ ∀ o, o ∈ (gth (gsOf P) i).offs → DOk (y.1 o) := fun i h1 h2 => by
              have h3 : i < P.length := by omega
              have F := h.at h3
              have hfy : fresh x0 (gth (gsOf P) i) y.1 := fun o ho => by
                rw [f1 o fun j j1 j2 hin => h.ok.disj i j (by rw [gsOf_len]; exact h3) (by rw [gsOf_len]; exact j2) (by omega) o ho hin]
                exact hfz i h1 h3 (by omega) o ho
              rw [F.loc y.1 x0 hfy]
              refine (fun hu => ⟨hu.1, hu.2, fun o ho => by rw [hfy o ho]; exact h00 o⟩) (F.un ?_)
              cases hb : (gth (gsOf P) i).must with
              | false => rfl
              | true =>
                have : missing (gsOf P) y.2.1 = true := (missing_iff _ _).2 ⟨i, by rw [gsOf_len]; exact h3, by
                  rw [hb, List.contains_eq_mem]
                  have : i ∉ y.2.1 := fun hin => by
                    rcases f2 i hin with h4 | h4
                    · rcases List.mem_cons.1 h4 with rfl | h4
                      · omega
                      · have := hs i h4; omega
                    · omega
                  simp [this]⟩
                rw [this] at hmi; cases hmi
            have hyz : (pth P m).2 y.1 = (pth P m).2 z.1 := F.loc _ _ fun o ho => f1 o fun j j1 j2 hin => h.ok.disj m j hl (by rw [gsOf_len]; exact j2) (by omega) o ho hin
            have hem : ((pth P m).2 y.1).empty = false := by rw [hyz, F.emp _ hkz]; exact hne
            have e := kept_skip y.1 (m - fr) fr (by omega) (fun i h1 h2 => (hlow i h1 (by omega)).1)
            rw [show fr + (m - fr) = m by omega, fsFrom_cons y.1 hml, kept_cons, hem, if_neg (by decide)] at e
            have hfp : fieldP ((pth P m).2 y.1) = laidP 2 t.1 t.2.1 ++ ((pth P m).2 z.1).bytes := by
              unfold fieldP strP; rw [F.key, hkk, hyz, t7]
            have hcat : catF (fsFrom P y.1 fr) = (laidP 2 t.1 t.2.1 ++ ((pth P m).2 z.1).bytes) ++ catF (fsFrom P y.1 (m + 1)) := by
              unfold catF; rw [e, List.map_cons, catB, hfp]
            rw [t2] at b2
            refine ⟨by rw [e, List.length_cons, ← i1], ?_, ?_, fun i h1 h2 => ?_⟩
            · rw [hcat]
              refine (t1.join b2).join ?_
              rw [ByteArray.size_append, ← Nat.add_assoc, ← t2, ← b3]; exact i2
            · rw [hcat, ByteArray.size_append, ByteArray.size_append]; omega
            · rcases Nat.lt_trichotomy i m with h3 | h3 | h3
              · exact (hlow i h1 h3).2
              · subst h3; rw [hyz]
                refine ⟨b1, fun o ho => ?_⟩
                rw [f1 o fun j j1 j2 hin => h.ok.disj i j hl (by rw [gsOf_len]; exact j2) (by omega) o ho hin]
                exact b4 o ho
              · exact i4 i h3 h2
theorem objR_back (h : FGs s x0 P) (h00 : ∀ o, DOk (x0 o)) {x : Rcd} {a : Nat} {y : Rcd × Nat} (ha : a ≤ s.size) (hx : Kd x0 x) (hf : ∀ i, i < P.length → fresh x0 (gth (gsOf P) i) x) (hy : objR s (gsOf P) x a = .ok y) :
    allMay (fsOf P y.1) = true ∧ At s a (layP (fsOf P y.1)) ∧ y.2 = a + (layP (fsOf P y.1)).size ∧ (∀ i, i < P.length → ∀ o, o ∈ (gth (gsOf P) i).offs → DOk (y.1 o)) ∧ ∀ o, (∀ i, i < P.length → o ∉ (gth (gsOf P) i).offs) → y.1 o = x o := by
  unfold objR at hy
  split at hy
  · cases hy
  · next n hn =>
    split at hy
    · cases hy
    · next z hz =>
      split at hy
      · cases hy
      · next hmi =>
        have hmi : missing (gsOf P) z.2.1 = false := by simpa using hmi
        cases hy
        obtain ⟨t1, t2, t3, t4, t5, t6, t7⟩ := tk_back (by decide) ha hn
        obtain ⟨i1, i2, i3, i4⟩ := loop_back h h00 _ 0 x [] _ z hz t6 (Nat.zero_le _) hx (fun i _ h2 => hf i h2) (fun i hi => by cases hi) hmi
        have e0 : fsFrom P z.1 0 = fsOf P z.1 := rfl
        rw [e0] at i1 i2 i3
        have hmp : laidP 4 n.1 n.2.1 = mapP (keptF (fsOf P z.1)).length := by
          rw [← i1]; unfold mapP; rw [show ((n.1.toNat : Nat) : Int) = n.1 by omega]; rfl
        rw [hmp] at t1 t2
        refine ⟨List.all_eq_true.2 fun f hf => ?_, ?_, ?_, fun i hi => (i4 i (Nat.zero_le _) hi).2, fun o ho => (loop_fine h _ 0 x [] _ z hz).1 o fun i _ hi => ho i hi⟩
        · obtain ⟨p, hp, rfl⟩ := List.mem_map.1 hf
          obtain ⟨i, hi, rfl⟩ := List.getElem_of_mem hp
          rw [← pth_eq P i hi]
          exact (i4 i (Nat.zero_le _) hi).1
        · unfold layP; rw [t2] at i2; exact t1.join i2
        · unfold layP; rw [ByteArray.size_append]
          show z.2.2 = a + ((mapP (keptF (fsOf P z.1)).length).size + (catF (fsOf P z.1)).size)
          rw [i3, t2]; omega
theorem fg_obj (key : ByteArray) (hk : key.size ≤ 10240) (h : FGs s x0 P) (h00 : ∀ o, DOk (x0 o)) (hpos : 0 < P.length) : FG s x0 (gobj s key (gsOf P)) (fun y => objSpec key (fsOf P y)) := by
  have hoffs : ∀ {i o : Nat}, i < P.length → o ∈ (gth (gsOf P) i).offs → o ∈ (gobj s key (gsOf P)).offs := fun {i o} hi ho => List.mem_flatMap.2 ⟨gth (gsOf P) i, by rw [gth_eq (gsOf P) i (by rw [gsOf_len]; exact hi)]; exact List.getElem_mem _, ho⟩
  have hloc : ∀ y z : Rcd, (∀ o, o ∈ (gobj s key (gsOf P)).offs → y o = z o) → fsOf P y = fsOf P z := fun y z hh => by
    unfold fsOf
    refine List.map_congr_left fun p hp => ?_
    obtain ⟨i, hi, rfl⟩ := List.getElem_of_mem hp
    rw [← pth_eq P i hi]
    exact (h.at hi).loc y z fun o ho => hh o (hoffs hi ho)
  have hemp : ∀ y, Kd x0 y → ((fsOf P y).all fun f => f.empty) = ((gsOf P).all fun g => g.empty y) := fun y hy => by
    unfold fsOf gsOf
    rw [List.all_map, List.all_map, Bool.eq_iff_iff, List.all_eq_true, List.all_eq_true]
    refine forall_congr' fun p => forall_congr' fun hp => ?_
    show (p.2 y).empty = true ↔ p.1.empty y = true
    rw [(h.fg p hp).emp y hy]
  have hfr : ∀ {x : Rcd}, fresh x0 (gobj s key (gsOf P)) x → ∀ i, i < P.length → fresh x0 (gth (gsOf P) i) x := fun {x} hx i hi o ho => hx o (hoffs hi ho)
  constructor
  · exact fun y => rfl
  · exact hk
  · intro y
    show ((fsOf P y).any fun f => f.must) = ((gsOf P).any fun g => g.must)
    unfold fsOf gsOf
    rw [List.any_map, List.any_map, Bool.eq_iff_iff, List.any_eq_true, List.any_eq_true]
    refine exists_congr fun p => and_congr_right fun hp => ?_
    show (p.2 y).must = true ↔ p.1.must = true
    rw [(h.fg p hp).must y]
  · intro y z hh
    show objSpec key (fsOf P y) = objSpec key (fsOf P z)
    rw [hloc y z hh]
  · exact fun y hy => hemp y hy
  · intro hm y
    have hm' : ((gsOf P).any fun g => g.must) = true := hm
    obtain ⟨g, hg, hgm⟩ := List.any_eq_true.1 hm'
    obtain ⟨p, hp, rfl⟩ := List.mem_map.1 hg
    show ((fsOf P y).all fun f => f.empty) = false
    rw [List.all_eq_false]
    exact ⟨p.2 y, List.mem_map.2 ⟨p, hp, rfl⟩, by rw [(h.fg p hp).full hgm y]; decide⟩
  · intro hm
    have hm' : ((gsOf P).any fun g => g.must) = false := hm
    rw [List.any_eq_false] at hm'
    have hu : ∀ p ∈ P, (p.2 x0).empty = true ∧ (p.2 x0).may = true := fun p hp => (h.fg p hp).un (by simpa using hm' p.1 (List.mem_map.2 ⟨p, hp, rfl⟩))
    refine ⟨List.all_eq_true.2 fun f hf => ?_, List.all_eq_true.2 fun f hf => ?_⟩
    · obtain ⟨p, hp, rfl⟩ := List.mem_map.1 hf; exact (hu p hp).1
    · obtain ⟨p, hp, rfl⟩ := List.mem_map.1 hf; exact (hu p hp).2
  · intro v hv he o ho
    obtain ⟨g, hg, hgo⟩ := List.mem_flatMap.1 ho
    obtain ⟨p, hp, rfl⟩ := List.mem_map.1 hg
    exact (h.fg p hp).zero v hv (List.all_eq_true.1 he _ (List.mem_map.2 ⟨p, hp, rfl⟩)) o hgo
  · intro x a y ha hf hx hy _
    obtain ⟨h1, h2, h3, h4, _⟩ := objR_back h h00 ha hx (hfr hf) hy
    refine ⟨h1, h2, h3, fun o ho => ?_⟩
    obtain ⟨g, hg, hgo⟩ := List.mem_flatMap.1 ho
    obtain ⟨p, hp, rfl⟩ := List.mem_map.1 hg
    obtain ⟨i, hi, rfl⟩ := List.getElem_of_mem hp
    exact h4 i hi o (by rw [gth_of hi, pth_eq P i hi]; exact hgo)
  · intro v x a hv hd hf hx hm he hA
    obtain ⟨y, h1, h2⟩ := objR_forth h hv hd hm hx (hfr hf) hA
    refine ⟨y, h1, fun o ho => ?_⟩
    obtain ⟨g, hg, hgo⟩ := List.mem_flatMap.1 ho
    obtain ⟨p, hp, rfl⟩ := List.mem_map.1 hg
    obtain ⟨i, hi, rfl⟩ := List.getElem_of_mem hp
    exact h2 i hi o (by rw [gth_of hi, pth_eq P i hi]; exact hgo)
theorem readR_forth (h : FGs s x0 P) {v : Rcd} (hv : Kd x0 v) (hd : ∀ o, DOk (v o)) (hm : allMay (fsOf P v) = true) (hs : s = layP (fsOf P v)) : ∃ y, readR s (gsOf P) x0 = .ok y ∧ ∀ i, i < P.length → ∀ o, o ∈ (gth (gsOf P) i).offs → y o = v o := by
  obtain ⟨y, h1, h2⟩ := objR_forth h hv hd hm (fun i => rfl) (fun i _ o _ => rfl) (by rw [hs]; exact At.self _ : At s 0 (layP (fsOf P v)))
  refine ⟨y, ?_, h2⟩
  unfold readR
  rw [h1]
  simp only
  rw [← hs, if_neg (by omega)]
theorem readR_back (h : FGs s x0 P) (h00 : ∀ o, DOk (x0 o)) {y : Rcd} (hy : readR s (gsOf P) x0 = .ok y) : allMay (fsOf P y) = true ∧ layP (fsOf P y) = s ∧ ∀ o, DOk (y o) := by
  unfold readR at hy
  split at hy
  · cases hy
  · next z hz =>
    split at hy
    · cases hy
    · next hlt =>
      cases hy
      obtain ⟨h1, h2, h3, h4, h5⟩ := objR_back h h00 (Nat.zero_le _) (fun i => rfl) (fun i _ o _ => rfl) hz
      refine ⟨h1, ?_, fun o => ?_⟩
      rotate_left
      · by_cases hex : ∃ i, i < P.length ∧ o ∈ (gth (gsOf P) i).offs
        · obtain ⟨i, hi, ho⟩ := hex
          exact h4 i hi o ho
        · rw [h5 o fun i hi ho => hex ⟨i, hi, ho⟩]; exact h00 o
      obtain ⟨_, R, e⟩ := h2
      rw [List.drop_zero] at e
      have := congrArg List.length e
      rw [List.length_append, ba_len, ba_len] at this
      have hR : R = [] := List.eq_nil_of_length_eq_zero (by omega)
      rw [hR, List.append_nil] at e
      exact ba_ext e.symm
end Go.Proofs.YtihiaopilnjonaaGreatDoor
namespace Go.Proofs.YtihiaopilnjonaaGreatDoor
open Go.RowKit
set_option linter.unusedSimpArgs false
set_option linter.unusedVariables false
def dgsF (key : ByteArray) (o most : Nat) : Rcd → FSpec := manyF key o DV.l (fun l => mayB l most) binP
def nmsF (key : ByteArray) (o most : Nat) : Rcd → FSpec := manyF key o DV.ns (fun l => decide (len l ≤ most)) numP
def revSpecs (r : RevD) : List FSpec := [⟨⟨#[112]⟩, false, r.pos == 0, true, numP r.pos⟩, objSpec ⟨#[113]⟩ (partSpecs r.root r.wt r.first r.life r.keys), objSpec ⟨#[115]⟩ (slotSpecs r.L r.signed r.idx r.ws r.ps)]
def revB (r : RevD) : ByteArray := layP (revSpecs r)
def mayR (l : List RevD) (most : Nat) : Bool := decide (len l ≤ most) && l.all fun r => allMay (revSpecs r)
def rvsF (key : ByteArray) (o most : Nat) : Rcd → FSpec := manyF key o DV.rs (fun l => mayR l most) revB
theorem mayB_iff (l : List ByteArray) (most : Nat) : mayB l most = true ↔ len l ≤ most ∧ ∀ x ∈ l, x.size = 32 := by
  unfold mayB
  rw [Bool.and_eq_true, decide_eq_true_iff, List.all_eq_true]
  exact and_congr_right fun _ => forall_congr' fun x => forall_congr' fun _ => decide_eq_true_iff
theorem mayR_iff (l : List RevD) (most : Nat) : mayR l most = true ↔ len l ≤ most ∧ ∀ x ∈ l, allMay (revSpecs x) = true := by
  unfold mayR
  rw [Bool.and_eq_true, decide_eq_true_iff, List.all_eq_true]
theorem fg_digs {s : ByteArray} {x0 : Rcd} (key : ByteArray) (o most : Nat) (hk : key.size ≤ 10240) (hm : most ≤ 10240) (h0 : x0 o = .strs []) : FG s x0 (gdigs s key o most) (dgsF key o most) :=
  fg_many key o most .strs DV.l (fun l => mayB l most) (fun x => x.size = 32) binP (rdig s) (fun _ => True) hk hm h0 (fun _ => rfl)
    (fun d h => by cases d <;> first | rfl | (cases h)) (fun _ => rfl) (fun l => mayB_iff l most) (fun l => ⟨fun _ _ _ => trivial, fun _ => trivial⟩)
    (fun a x ha h => by obtain ⟨h1, h2, h3⟩ := rdig_back ha h; exact ⟨h1, h2, h3, trivial⟩) (fun x _ h a hA => rdig_forth hA h)
theorem fg_nums {s : ByteArray} {x0 : Rcd} (key : ByteArray) (o most : Nat) (hk : key.size ≤ 10240) (hm : most ≤ 10240) (h0 : x0 o = .nums []) : FG s x0 (gmany s key o most .nums (rnum s)) (nmsF key o most) :=
  fg_many key o most .nums DV.ns (fun l => decide (len l ≤ most)) (fun _ => True) numP (rnum s) U64i hk hm h0 (fun _ => rfl)
    (fun d h => by cases d <;> first | rfl | (cases h)) (fun _ => rfl) (fun l => by rw [decide_eq_true_iff]; exact ⟨fun h => ⟨h, fun _ _ => trivial⟩, fun h => h.1⟩) (fun l => Iff.rfl)
    (fun a x ha h => by obtain ⟨h1, h2, h3⟩ := rnum_back ha h; exact ⟨h1, h2, trivial, h3⟩) (fun x hx _ a hA => rnum_forth hA hx)
def partFP (s : ByteArray) (o : Nat) : List FPair := [(gnum s ⟨#[102]⟩ (o + 2), numF ⟨#[102]⟩ (o + 2)), (gnum s ⟨#[107]⟩ (o + 4), numF ⟨#[107]⟩ (o + 4)), (gnum s ⟨#[108]⟩ (o + 3), numF ⟨#[108]⟩ (o + 3)), (gdig s ⟨#[114]⟩ o, digF ⟨#[114]⟩ o), (gnum s ⟨#[119]⟩ (o + 1), numF ⟨#[119]⟩ (o + 1))]
def sigFP (s : ByteArray) (o : Nat) : List FPair := [(gnum s ⟨#[105]⟩ o, numF ⟨#[105]⟩ o), (gdigs s ⟨#[112]⟩ (o + 2) 16, dgsF ⟨#[112]⟩ (o + 2) 16), (gdigs s ⟨#[118]⟩ (o + 1) 67, dgsF ⟨#[118]⟩ (o + 1) 67)]
def slotFP (s : ByteArray) (o : Nat) : List FPair := [(gobj s ⟨#[103]⟩ (gsOf (sigFP s (o + 2))), fun y => objSpec ⟨#[103]⟩ (fsOf (sigFP s (o + 2)) y)), (gnum s ⟨#[108]⟩ o, numF ⟨#[108]⟩ o), (gflag s ⟨#[115]⟩ (o + 1), flagF ⟨#[115]⟩ (o + 1))]
def revFP (s : ByteArray) : List FPair := [(gnum s ⟨#[112]⟩ 0, numF ⟨#[112]⟩ 0), (gobj s ⟨#[113]⟩ (gsOf (partFP s 6)), fun y => objSpec ⟨#[113]⟩ (fsOf (partFP s 6) y)), (gobj s ⟨#[115]⟩ (gsOf (slotFP s 1)), fun y => objSpec ⟨#[115]⟩ (fsOf (slotFP s 1) y))]
def certFP (s : ByteArray) : List FPair := [(gdigs s ⟨#[80]⟩ 5 10240, dgsF ⟨#[80]⟩ 5 10240), (gdigs s ⟨#[83]⟩ 4 10240, dgsF ⟨#[83]⟩ 4 10240), (gdig s ⟨#[99]⟩ 0, digF ⟨#[99]⟩ 0), (gmany s ⟨#[112]⟩ 3 640 .nums (rnum s), nmsF ⟨#[112]⟩ 3 640), (gmany s ⟨#[114]⟩ 2 640 .revs (rrev s), rvsF ⟨#[114]⟩ 2 640), (gnum s ⟨#[119]⟩ 1, numF ⟨#[119]⟩ 1)]
def certSpecs (root : ByteArray) (sg : Int) (rs : List RevD) (cs : List Int) (sp pp : List ByteArray) : List FSpec :=
  [⟨⟨#[80]⟩, false, decide (len pp = 0), mayB pp 10240, dgsP pp⟩, ⟨⟨#[83]⟩, false, decide (len sp = 0), mayB sp 10240, dgsP sp⟩, ⟨⟨#[99]⟩, true, false, decide (root.size = 32), binP root⟩,
   ⟨⟨#[112]⟩, false, decide (len cs = 0), decide (len cs ≤ 640), listP (len cs) ++ catB (cs.map numP)⟩, ⟨⟨#[114]⟩, false, decide (len rs = 0), mayR rs 640, listP (len rs) ++ catB (rs.map revB)⟩, ⟨⟨#[119]⟩, false, sg == 0, true, numP sg⟩]
theorem fgs_part {s : ByteArray} {x0 : Rcd} (o : Nat) (hK : KPart x0 o) (h1 : x0 (o + 1) = .num 0) (h2 : x0 (o + 2) = .num 0) (h3 : x0 (o + 3) = .num 0) (h4 : x0 (o + 4) = .num 0) : FGs s x0 (partFP s o) :=
  ⟨by
    unfold partFP
    simp only [List.mem_cons, List.not_mem_nil, or_false]
    rintro p (rfl | rfl | rfl | rfl | rfl)
    · exact fg_num _ _ (by decide) h2
    · exact fg_num _ _ (by decide) h4
    · exact fg_num _ _ (by decide) h3
    · exact fg_dig _ _ (by decide) hK.c0
    · exact fg_num _ _ (by decide) h1, PartOk s o hK, by show 5 ≤ 1000; decide⟩
theorem fgs_sig {s : ByteArray} {x0 : Rcd} (o : Nat) (hK : KSig x0 o) (h0 : x0 o = .num 0) : FGs s x0 (sigFP s o) :=
  ⟨by
    unfold sigFP
    simp only [List.mem_cons, List.not_mem_nil, or_false]
    rintro p (rfl | rfl | rfl)
    · exact fg_num _ _ (by decide) h0
    · exact fg_digs _ _ _ (by decide) (by decide) hK.c2
    · exact fg_digs _ _ _ (by decide) (by decide) hK.c1, SigOk s o hK, by show 3 ≤ 1000; decide⟩
theorem fgs_slot {s : ByteArray} {x0 : Rcd} (o : Nat) (hK : KSlot x0 o) (h0 : x0 o = .num 0) (h1 : x0 (o + 1) = .flag false) (h2 : x0 (o + 2) = .num 0) (h00 : ∀ o, DOk (x0 o)) : FGs s x0 (slotFP s o) :=
  ⟨by
    unfold slotFP
    simp only [List.mem_cons, List.not_mem_nil, or_false]
    rintro p (rfl | rfl | rfl)
    · exact fg_obj _ (by decide) (fgs_sig (o + 2) hK.c2 h2) h00 (by show 0 < 3; decide)
    · exact fg_num _ _ (by decide) h0
    · exact fg_flag _ _ (by decide) h1, SlotOk s o hK, by show 3 ≤ 1000; decide⟩
theorem rev0_ok (o : Nat) : DOk (rev0 o) := by
  unfold rev0; split <;> first | trivial | exact ⟨by decide, by decide⟩
theorem cert0_ok (o : Nat) : DOk (cert0 o) := by
  unfold cert0; split <;> first | trivial | exact ⟨by decide, by decide⟩ | (intro n hn; cases hn)
theorem fgs_rev (s : ByteArray) : FGs s rev0 (revFP s) :=
  ⟨by
    unfold revFP
    simp only [List.mem_cons, List.not_mem_nil, or_false]
    rintro p (rfl | rfl | rfl)
    · exact fg_num _ _ (by decide) rfl
    · exact fg_obj _ (by decide) (fgs_part 6 ⟨rfl, rfl, rfl, rfl, rfl⟩ rfl rfl rfl rfl) rev0_ok (by show 0 < 5; decide)
    · exact fg_obj _ (by decide) (fgs_slot 1 ⟨rfl, rfl, ⟨rfl, rfl, rfl⟩⟩ rfl rfl rfl rev0_ok) rev0_ok (by show 0 < 3; decide), RevealOk s, by show 3 ≤ 1000; decide⟩
theorem kd_revC (r : RevD) : Kd rev0 (revC r) := fun i => by
  match i with
  | 0 | 1 | 2 | 3 | 4 | 5 | 6 | 7 | 8 | 9 => rfl
  | i + 10 => rfl
theorem revC_revD {y : Rcd} (hy : Kd rev0 y) : ∀ o, o < 11 → revC (revD y) o = y o := fun o ho => by
  match o, ho with
  | 0, _ => obtain ⟨n, hn⟩ := hy.num (o := 0) rfl; unfold revC revD; simp only [hn]; rfl
  | 1, _ => obtain ⟨n, hn⟩ := hy.num (o := 1) rfl; unfold revC revD; simp only [hn]; rfl
  | 2, _ => obtain ⟨n, hn⟩ := hy.flag (o := 2) rfl; unfold revC revD; simp only [hn]; rfl
  | 3, _ => obtain ⟨n, hn⟩ := hy.num (o := 3) rfl; unfold revC revD; simp only [hn]; rfl
  | 4, _ => obtain ⟨n, hn⟩ := hy.strs (o := 4) rfl; unfold revC revD; simp only [hn]; rfl
  | 5, _ => obtain ⟨n, hn⟩ := hy.strs (o := 5) rfl; unfold revC revD; simp only [hn]; rfl
  | 6, _ => obtain ⟨n, hn⟩ := hy.str (o := 6) rfl; unfold revC revD; simp only [hn]; rfl
  | 7, _ => obtain ⟨n, hn⟩ := hy.num (o := 7) rfl; unfold revC revD; simp only [hn]; rfl
  | 8, _ => obtain ⟨n, hn⟩ := hy.num (o := 8) rfl; unfold revC revD; simp only [hn]; rfl
  | 9, _ => obtain ⟨n, hn⟩ := hy.num (o := 9) rfl; unfold revC revD; simp only [hn]; rfl
  | 10, _ => obtain ⟨n, hn⟩ := hy.num (o := 10) rfl; unfold revC revD; simp only [hn]; rfl
theorem revD_revC (r : RevD) : revD (revC r) = r := rfl
theorem revD_eq {y z : Rcd} (h : ∀ o, o < 11 → y o = z o) : revD y = revD z := by
  unfold revD
  rw [h 0 (by decide), h 1 (by decide), h 2 (by decide), h 3 (by decide), h 4 (by decide), h 5 (by decide), h 6 (by decide), h 7 (by decide), h 8 (by decide), h 9 (by decide), h 10 (by decide)]
theorem rev_offs (s : ByteArray) : ∀ o, o < 11 → ∃ i, i < 3 ∧ o ∈ (gth (revGs s) i).offs := fun o ho => by
  match o, ho with
  | 0, _ => exact ⟨0, by decide, List.mem_singleton.2 rfl⟩
  | 1, _ => exact ⟨2, by decide, by show 1 ∈ [3, 5, 4, 1, 2]; decide⟩
  | 2, _ => exact ⟨2, by decide, by show 2 ∈ [3, 5, 4, 1, 2]; decide⟩
  | 3, _ => exact ⟨2, by decide, by show 3 ∈ [3, 5, 4, 1, 2]; decide⟩
  | 4, _ => exact ⟨2, by decide, by show 4 ∈ [3, 5, 4, 1, 2]; decide⟩
  | 5, _ => exact ⟨2, by decide, by show 5 ∈ [3, 5, 4, 1, 2]; decide⟩
  | 6, _ => exact ⟨1, by decide, by show 6 ∈ [8, 10, 9, 6, 7]; decide⟩
  | 7, _ => exact ⟨1, by decide, by show 7 ∈ [8, 10, 9, 6, 7]; decide⟩
  | 8, _ => exact ⟨1, by decide, by show 8 ∈ [8, 10, 9, 6, 7]; decide⟩
  | 9, _ => exact ⟨1, by decide, by show 9 ∈ [8, 10, 9, 6, 7]; decide⟩
  | 10, _ => exact ⟨1, by decide, by show 10 ∈ [8, 10, 9, 6, 7]; decide⟩
def RvOk (r : RevD) : Prop := ∀ o, POk (revC r o)
theorem dok_revC {r : RevD} (h : RvOk r) (o : Nat) : DOk (revC r o) := by
  have := h o
  unfold revC at this ⊢
  split <;> simp_all [DOk]
theorem rrev_back {s : ByteArray} {a : Nat} {x : RevD × Nat} (ha : a ≤ s.size) (h : rrev s a = .ok x) : At s a (revB x.1) ∧ x.2 = a + (revB x.1).size ∧ allMay (revSpecs x.1) = true ∧ RvOk x.1 := by
  unfold rrev at h
  split at h
  · cases h
  · next y hy =>
    cases h
    obtain ⟨h1, h2, h3, h4, h5⟩ := objR_back (fgs_rev s) rev0_ok ha (fun i => rfl) (fun i _ o _ => rfl) hy
    have hk : Kd rev0 y.1 := objR_kinds (RevealOk s).kinds hy (fun i => rfl)
    refine ⟨h2, h3, h1, fun o => ?_⟩
    by_cases ho : o < 11
    · obtain ⟨i, hi, hin⟩ := rev_offs s o ho
      have := h4 i hi o hin
      rw [revC_revD hk o ho]
      revert this
      cases y.1 o <;> first | exact fun h => h | exact fun h => trivial
    · have := h4 1 (by show 1 < 3; decide) 10 (by show 10 ∈ [8, 10, 9, 6, 7]; decide)
      have e : revC (revD y.1) o = revC (revD y.1) 10 := by
        match o, ho with
        | o + 11, _ => rfl
      rw [e, revC_revD hk 10 (by decide)]
      revert this
      cases y.1 10 <;> first | exact fun h => h | exact fun h => trivial
theorem rrev_forth {s : ByteArray} {a : Nat} {r : RevD} (hr : RvOk r) (hm : allMay (revSpecs r) = true) (hA : At s a (revB r)) : rrev s a = .ok (r, a + (revB r).size) := by
  obtain ⟨y, h1, h2⟩ := objR_forth (fgs_rev s) (v := revC r) (kd_revC r) (dok_revC hr) hm (fun i => rfl) (fun i _ o _ => rfl) hA
  have e : revD y = r := by
    rw [← revD_revC r]
    refine revD_eq fun o ho => ?_
    obtain ⟨i, hi, hin⟩ := rev_offs s o ho
    exact h2 i hi o hin
  have h1' : objR s (revGs s) rev0 a = .ok (y, a + (revB r).size) := h1
  unfold rrev
  rw [h1']
  show Except.ok (revD y, a + (revB r).size) = _
  rw [e]
theorem fg_revs {s : ByteArray} {x0 : Rcd} (key : ByteArray) (o most : Nat) (hk : key.size ≤ 10240) (hm : most ≤ 10240) (h0 : x0 o = .revs []) : FG s x0 (gmany s key o most .revs (rrev s)) (rvsF key o most) :=
  fg_many key o most .revs DV.rs (fun l => mayR l most) (fun x => allMay (revSpecs x) = true) revB (rrev s) RvOk hk hm h0 (fun _ => rfl)
    (fun d h => by cases d <;> first | rfl | (cases h)) (fun _ => rfl) (fun l => mayR_iff l most) (fun l => Iff.rfl)
    (fun a x ha h => rrev_back ha h) (fun x hx h a hA => rrev_forth hx h hA)
theorem fgs_cert (s : ByteArray) : FGs s cert0 (certFP s) :=
  ⟨by
    unfold certFP
    simp only [List.mem_cons, List.not_mem_nil, or_false]
    rintro p (rfl | rfl | rfl | rfl | rfl | rfl)
    · exact fg_digs _ _ _ (by decide) (by decide) rfl
    · exact fg_digs _ _ _ (by decide) (by decide) rfl
    · exact fg_dig _ _ (by decide) rfl
    · exact fg_nums _ _ _ (by decide) (by decide) rfl
    · exact fg_revs _ _ _ (by decide) (by decide) rfl
    · exact fg_num _ _ (by decide) rfl, CertOk s, by show 6 ≤ 1000; decide⟩
def certC (root : ByteArray) (sg : Int) (rs : List RevD) (cs : List Int) (sp pp : List ByteArray) : Rcd := fun i => match i with | 0 => .str root | 2 => .revs rs | 3 => .nums cs | 4 => .strs sp | 5 => .strs pp | _ => .num sg
structure CertOkD (sg : Int) (rs : List RevD) (cs : List Int) : Prop where
  sg : U64i sg
  cs : ∀ n ∈ cs, U64i n
  rs : ∀ r ∈ rs, RvOk r
theorem certC_kd (root : ByteArray) (sg : Int) (rs : List RevD) (cs : List Int) (sp pp : List ByteArray) : Kd cert0 (certC root sg rs cs sp pp) := fun i => by
  match i with
  | 0 | 1 | 2 | 3 | 4 | 5 => rfl
  | i + 6 => rfl
theorem certC_ok {root : ByteArray} {sg : Int} {rs : List RevD} {cs : List Int} {sp pp : List ByteArray} (h : CertOkD sg rs cs) (o : Nat) : DOk (certC root sg rs cs sp pp o) := by
  unfold certC; split <;> first | trivial | exact h.rs | exact h.cs | exact h.sg
theorem cert_forth {root : ByteArray} {sg : Int} {rs : List RevD} {cs : List Int} {sp pp : List ByteArray} (h : CertOkD sg rs cs) (hm : allMay (certSpecs root sg rs cs sp pp) = true) {s : ByteArray} (hs : s = layP (certSpecs root sg rs cs sp pp)) :
    ∃ y, readR s (certGs s) cert0 = .ok y ∧ (y 0).s = root ∧ (y 1).n = sg ∧ (y 2).rs = rs ∧ (y 3).ns = cs ∧ (y 4).l = sp ∧ (y 5).l = pp := by
  obtain ⟨y, h1, h2⟩ := readR_forth (fgs_cert s) (certC_kd root sg rs cs sp pp) (certC_ok h) hm hs
  refine ⟨y, h1, ?_, ?_, ?_, ?_, ?_, ?_⟩
  · rw [h2 2 (by show 2 < 6; decide) 0 (List.mem_singleton.2 rfl)]; rfl
  · rw [h2 5 (by show 5 < 6; decide) 1 (List.mem_singleton.2 rfl)]; rfl
  · rw [h2 4 (by show 4 < 6; decide) 2 (List.mem_singleton.2 rfl)]; rfl
  · rw [h2 3 (by show 3 < 6; decide) 3 (List.mem_singleton.2 rfl)]; rfl
  · rw [h2 1 (by show 1 < 6; decide) 4 (List.mem_singleton.2 rfl)]; rfl
  · rw [h2 0 (by show 0 < 6; decide) 5 (List.mem_singleton.2 rfl)]; rfl
theorem cert_back {s : ByteArray} {y : Rcd} (h : readR s (certGs s) cert0 = .ok y) : allMay (certSpecs (y 0).s (y 1).n (y 2).rs (y 3).ns (y 4).l (y 5).l) = true ∧ layP (certSpecs (y 0).s (y 1).n (y 2).rs (y 3).ns (y 4).l (y 5).l) = s ∧ ∀ o, DOk (y o) :=
  readR_back (fgs_cert s) cert0_ok h
end Go.Proofs.YtihiaopilnjonaaGreatDoor
namespace Go.Proofs.YtihiaopilnjonaaGreatDoor
open Go.RowKit
set_option linter.unusedSimpArgs false
set_option linter.unusedVariables false
def putB (w : World) (t : Nat) (y : Obj) : World := { w with heap := w.heap.setIfInBounds t y }
theorem putB_ne {w : World} {t k : Nat} {y : Obj} (h : k ≠ t) : (putB w t y).heap[k]? = w.heap[k]? := by
  show (w.heap.setIfInBounds t y)[k]? = _
  rw [Array.getElem?_setIfInBounds_ne (fun e => h e.symm)]
theorem putB_size (w : World) (t : Nat) (y : Obj) : (putB w t y).heap.size = w.heap.size := Array.size_setIfInBounds
theorem putB_self (w : World) (t : Nat) : ∃ y, putB w t y = w := by
  by_cases h : t < w.heap.size
  · refine ⟨w.heap[t], ?_⟩
    unfold putB
    have : w.heap.setIfInBounds t w.heap[t] = w.heap := by
      apply Array.ext_getElem?
      intro i
      by_cases e : t = i
      · subst e; rw [Array.getElem?_setIfInBounds_self_of_lt h, Array.getElem?_eq_getElem h]
      · rw [Array.getElem?_setIfInBounds_ne e]
    rw [this]
  · refine ⟨.cells #[] 0 (0, 0), ?_⟩
    unfold putB
    have : w.heap.setIfInBounds t (.cells #[] 0 (0, 0)) = w.heap := by
      apply Array.ext_getElem?
      intro i
      by_cases e : t = i
      · subst e; rw [Array.getElem?_eq_none (by rw [Array.size_setIfInBounds]; omega), Array.getElem?_eq_none (by omega)]
      · rw [Array.getElem?_setIfInBounds_ne e]
    rw [this]
theorem putB_at {w : World} {t : Nat} {y x : Obj} (h : (putB w t y).heap[t]? = some x) : x = y := by
  have h' : (w.heap.setIfInBounds t y)[t]? = some x := h
  by_cases hl : t < w.heap.size
  · rw [Array.getElem?_setIfInBounds_self_of_lt hl] at h'; cases h'; rfl
  · rw [Array.getElem?_eq_none (by rw [Array.size_setIfInBounds]; omega)] at h'; cases h'
theorem CellAt.putB {B : Nat} {w : World} {b o t : Nat} {x : Value} (h : CellAt B w b o x) (hb : b ≠ t) (y : Obj) : CellAt B (putB w t y) b o x := h.but hb fun k hk => putB_ne hk
theorem keep_putB {B t : Nat} {w w' : World} (hb : Below w.heap.size w w') (hB : B ≤ w.heap.size) (ht : B ≤ t) (y : Obj) : Keep8 B (putB w t y) (putB w' t y) := by
  refine ⟨by rw [putB_size]; exact hB, by rw [putB_size, putB_size]; exact hb.size, fun k hk => ?_, fun k x hx hn => ?_⟩
  · rw [putB_ne (by omega), putB_ne (by omega)]; exact hb.block k (by omega)
  · by_cases e : k = t
    · subst e
      have hl : k < w.heap.size := by have := lt_of_block hx; rw [putB_size] at this; exact this
      have := putB_at hx
      subst this
      show (w'.heap.setIfInBounds k x)[k]? = some x
      rw [Array.getElem?_setIfInBounds_self_of_lt (Nat.lt_of_lt_of_le hl hb.size)]
    · rw [putB_ne e] at hx ⊢
      rw [hb.block k (lt_of_block hx)]; exact hx
def FIT (B t : Nat) (w : World) (v : FVal) (f : FSpec) : Prop := B ≤ w.heap.size ∧ B ≤ t ∧ ∀ y, FSem B (putB w t y) v f
theorem FIT.below {B t : Nat} {w w' : World} {v : FVal} {f : FSpec} (h : FIT B t w v f) (hb : Below w.heap.size w w') : FIT B t w' v f :=
  ⟨Nat.le_trans h.1 hb.size, h.2.1, fun y => (h.2.2 y).later (keep_putB hb h.1 h.2.1 y)⟩
theorem fit_lasts (B t : Nat) (S : FSpec) : Lasts (fun w v => FIT B t w v S) := fun w w' v hb h => h.below hb
def FITs (B t : Nat) (fs : List FSpec) (w : World) (l : List FVal) : Prop := B ≤ w.heap.size ∧ B ≤ t ∧ ∀ y, FSems B (putB w t y) l fs
theorem fits_lasts (B t : Nat) (fs : List FSpec) : LastsR (FITs B t fs) := fun w w' l hb h => ⟨Nat.le_trans h.1 hb.size, h.2.1, fun y => (h.2.2 y).later (keep_putB hb h.1 h.2.1 y)⟩
theorem FITs.sems {B t : Nat} {fs : List FSpec} {w : World} {l : List FVal} (h : FITs B t fs w l) : FSems B w l fs := by
  obtain ⟨y, hy⟩ := putB_self w t
  have := h.2.2 y
  rw [hy] at this; exact this
theorem fits3 {B t : Nat} {w : World} {x0 x1 x2 : FVal} {S0 S1 S2 : FSpec} (p0 : FIT B t w x0 S0) (p1 : FIT B t w x1 S1) (p2 : FIT B t w x2 S2) : FITs B t [S0, S1, S2] w [x0, x1, x2] :=
  ⟨p0.1, p0.2.1, fun y => ⟨rfl, fun i hi => by
    have hi : i < 3 := by simpa [len] using hi
    match i, hi with
    | 0, _ => exact p0.2.2 y
    | 1, _ => exact p1.2.2 y
    | 2, _ => exact p2.2.2 y⟩⟩
theorem fits5 {B t : Nat} {w : World} {x0 x1 x2 x3 x4 : FVal} {S0 S1 S2 S3 S4 : FSpec} (p0 : FIT B t w x0 S0) (p1 : FIT B t w x1 S1) (p2 : FIT B t w x2 S2) (p3 : FIT B t w x3 S3) (p4 : FIT B t w x4 S4) : FITs B t [S0, S1, S2, S3, S4] w [x0, x1, x2, x3, x4] :=
  ⟨p0.1, p0.2.1, fun y => ⟨rfl, fun i hi => by
    have hi : i < 5 := by simpa [len] using hi
    match i, hi with
    | 0, _ => exact p0.2.2 y
    | 1, _ => exact p1.2.2 y
    | 2, _ => exact p2.2.2 y
    | 3, _ => exact p3.2.2 y
    | 4, _ => exact p4.2.2 y⟩⟩
def CellOff (B t : Nat) (w : World) (b o : Nat) (x : Value) : Prop := CellAt B w b o x ∧ b ≠ t
theorem CellOff.below {B t : Nat} {w w' : World} {b o : Nat} {x : Value} (h : CellOff B t w b o x) (hb : Below w.heap.size w w') : CellOff B t w' b o x := ⟨h.1.below hb, h.2⟩
theorem CellOff.putB {B t : Nat} {w : World} {b o : Nat} {x : Value} (h : CellOff B t w b o x) (y : Obj) : CellAt B (putB w t y) b o x := h.1.putB h.2 y
theorem CellOff.of {B b0 : Nat} {W0 : World} {b o : Nat} {x : Value} (h : CellAt B W0 b o x) (hb : Off8 W0 b0) (hB : B ≤ b0) : b ≠ b0 := by
  rcases h.ex with h1 | ⟨y, h1, h2⟩
  · omega
  · exact hb.ne h1 h2
def StrsOff (B t : Nat) (w : World) (a : Option Addr) (l : List ByteArray) : Prop := ∀ i, i < len l → ∃ b off, a = some ⟨b, off, none⟩ ∧ CellOff B t w b (off + i) (.string (sth l i))
theorem StrsOff.below {B t : Nat} {w w' : World} {a : Option Addr} {l : List ByteArray} (h : StrsOff B t w a l) (hb : Below w.heap.size w w') : StrsOff B t w' a l := fun i hi => by
  obtain ⟨b, off, e, hc⟩ := h i hi; exact ⟨b, off, e, hc.below hb⟩
theorem StrsOff.putB {B t : Nat} {w : World} {a : Option Addr} {l : List ByteArray} (h : StrsOff B t w a l) (y : Obj) : Strs B (putB w t y) a l := fun i hi => by
  obtain ⟨b, off, e, hc⟩ := h i hi; exact ⟨b, off, e, hc.putB y⟩
theorem StrsOff.of {B b0 : Nat} {W0 w : World} {a : Option Addr} {l : List ByteArray} (h : Strs B W0 a l) (hb : Off8 W0 b0) (hB : B ≤ b0) (hk : Keep8 B W0 w) : StrsOff B b0 w a l := fun i hi => by
  obtain ⟨b, off, e, hc⟩ := h i hi; exact ⟨b, off, e, hc.keep hk, CellOff.of hc hb hB⟩
section
variable {B t : Nat} {w : World}
theorem tnum_any (key : ByteArray) (pb po : Nat) (n : Int) (hk : key.size < 65536) (hB : B ≤ w.heap.size) (ht : B ≤ t) (htw : t < w.heap.size) (hc : CellOff B t w pb po (.int .u64 n)) (hn : U64i n) : Calls Tryz.prog 109 #[.string key, .pointer (some ⟨pb, po, none⟩)] w (MadeG (fun w v => FIT B t w v ⟨key, false, n == 0, true, numP n⟩) w) := by
  refine (snum_any key pb po w).mono ?_
  rintro e V ⟨v, rfl, ⟨bx, hlo, h0, rfl⟩, hb⟩
  refine ⟨_, rfl, _, rfl, ⟨Nat.le_trans hB hb.size, ht, fun y => ?_⟩, hb⟩
  have C0 : CellAt B (putB V t y) bx 0 (.pointer (some ⟨pb, po, none⟩)) := (cellAt_new (B := B) h0 (by decide) rfl).putB (by omega) y
  have C1 := (hc.below hb).putB y
  exact ⟨rfl, rfl, hk, enters_of Tryz.func183 (by kernel_rfl) rfl, enters_of Tryz.func184 (by kernel_rfl) rfl, enters_of Tryz.func185 (by kernel_rfl) rfl,
    fun w' hw => num1_any B bx pb po n w' (C0.keep hw) (C1.keep hw), fun w' hw => yes_any w', fun _ _ w' b base s hw hb ht hB hW hs => num2_any B b base bx pb po n s w' (C0.keep hw) (C1.keep hw) hn.1 hn.2 ht hB hW hs⟩
theorem tflag_any (key : ByteArray) (pb po : Nat) (q : Bool) (hk : key.size < 65536) (hB : B ≤ w.heap.size) (ht : B ≤ t) (htw : t < w.heap.size) (hc : CellOff B t w pb po (.bool q)) : Calls Tryz.prog 110 #[.string key, .pointer (some ⟨pb, po, none⟩)] w (MadeG (fun w v => FIT B t w v ⟨key, false, !q, true, numP 1⟩) w) := by
  refine (sflag_any key pb po w).mono ?_
  rintro e V ⟨v, rfl, ⟨bx, hlo, h0, rfl⟩, hb⟩
  refine ⟨_, rfl, _, rfl, ⟨Nat.le_trans hB hb.size, ht, fun y => ?_⟩, hb⟩
  have C0 : CellAt B (putB V t y) bx 0 (.pointer (some ⟨pb, po, none⟩)) := (cellAt_new (B := B) h0 (by decide) rfl).putB (by omega) y
  have C1 := (hc.below hb).putB y
  exact ⟨rfl, rfl, hk, enters_of Tryz.func187 (by kernel_rfl) rfl, enters_of Tryz.func184 (by kernel_rfl) rfl, enters_of Tryz.func188 (by kernel_rfl) rfl,
    fun w' hw => flag1_any B bx pb po q w' (C0.keep hw) (C1.keep hw), fun w' hw => yes_any w', fun _ _ w' b base s hw hb ht hB hW hs => flag2_any B b base s w' ht hB hW hs⟩
theorem tdig_any (key : ByteArray) (pb po : Nat) (x : ByteArray) (hk : key.size < 65536) (hB : B ≤ w.heap.size) (ht : B ≤ t) (htw : t < w.heap.size) (hc : CellOff B t w pb po (.string x)) (hx : x.size ≤ 9223372036854775807) : Calls Tryz.prog 111 #[.string key, .pointer (some ⟨pb, po, none⟩)] w (MadeG (fun w v => FIT B t w v ⟨key, true, false, decide (x.size = 32), binP x⟩) w) := by
  refine (sdigest_any key pb po w).mono ?_
  rintro e V ⟨v, rfl, ⟨bx, hlo, h0, rfl⟩, hb⟩
  refine ⟨_, rfl, _, rfl, ⟨Nat.le_trans hB hb.size, ht, fun y => ?_⟩, hb⟩
  have C0 : CellAt B (putB V t y) bx 0 (.pointer (some ⟨pb, po, none⟩)) := (cellAt_new (B := B) h0 (by decide) rfl).putB (by omega) y
  have C1 := (hc.below hb).putB y
  exact ⟨rfl, rfl, hk, enters_of Tryz.func190 (by kernel_rfl) rfl, enters_of Tryz.func191 (by kernel_rfl) rfl, enters_of Tryz.func192 (by kernel_rfl) rfl,
    fun w' hw => digest1_any w', fun w' hw => digest2_any B bx pb po x w' (C0.keep hw) (C1.keep hw) hx, fun hm _ w' b base s hw hb ht hB hW hs => digest3_any B b base bx pb po x s w' (C0.keep hw) (C1.keep hw) (of_decide_eq_true hm) ht hB hW hs⟩
theorem tdigs_any (key : ByteArray) (pb po c most : Nat) (a : Option Addr) (l : List ByteArray) (hk : key.size < 65536) (hB : B ≤ w.heap.size) (ht : B ≤ t) (htw : t < w.heap.size) (hc : CellOff B t w pb po (.slice a (len l) c)) (hl : StrsOff B t w a l) (hn : len l ≤ 100000) (hm : most ≤ 60000) :
    Calls Tryz.prog 145 #[.string key, .pointer (some ⟨pb, po, none⟩), .int .i64 most] w (MadeG (fun w v => FIT B t w v ⟨key, false, decide (len l = 0), mayB l most, dgsP l⟩) w) := by
  refine (sdigests_any key pb po most w).mono ?_
  rintro e V ⟨v, rfl, ⟨bx, hlo, hM, rfl⟩, hb⟩
  refine ⟨_, rfl, _, rfl, ⟨Nat.le_trans hB hb.size, ht, fun y => ?_⟩, hb⟩
  have hM := hM.but (t := t) (w' := putB V t y) (by omega) (fun i hi => putB_ne hi)
  have C0 : CellAt B (putB V t y) bx 0 (.pointer (some ⟨pb, po, none⟩)) := cellAt_new hM.b0 (by decide) rfl
  have C1 : CellAt B (putB V t y) (bx + 1) 0 (.int .i64 most) := cellAt_new hM.b1 (by decide) rfl
  have C2 : CellAt B (putB V t y) (bx + 1 + 1) 0 (.func (.func 211) #[] #[]) := cellAt_new hM.b2 (by decide) rfl
  have C3 : CellAt B (putB V t y) (bx + 1 + 1 + 1) 0 (.func (.func 212) #[] #[]) := cellAt_new hM.b3 (by decide) rfl
  have CP := (hc.below hb).putB y
  have SL := (hl.below hb).putB y
  refine ⟨rfl, rfl, hk, enters_of Tryz.func247 (by kernel_rfl) rfl, enters_of Tryz.func248 (by kernel_rfl) rfl, enters_of Tryz.func251 (by kernel_rfl) rfl, fun w' hw => many1_any B bx pb po (len l) c a w' (C0.keep hw) (CP.keep hw), fun w' hw => many2_any B bx (bx + 1) (bx + 1 + 1) pb po c most a l w' (C0.keep hw) (CP.keep hw) (C1.keep hw) (C2.keep hw) (SL.keep hw) hn, fun hm1 he w' b base s hw hb ht hB hW hs => many3_any B b base bx (bx + 1 + 1 + 1) pb po c a l s (putB V t y) w' C0 CP C3 SL (by have := (size32 hm1).1; omega) (size32 hm1).2 hw hb ht hB hW hs⟩
theorem any_must {W : World} {l : List FVal} {fs : List FSpec} (h : FSems B W l fs) : (l.any fun v => v.must) = (fs.any fun f => f.must) := by
  rw [Bool.eq_iff_iff, List.any_eq_true, anyMust_iff fs (len l) h.1]
  constructor
  · rintro ⟨v, hv, hm⟩
    obtain ⟨i, hi, rfl⟩ := List.getElem_of_mem hv
    have hs := h.2 i hi
    rw [fth_eq l i hi] at hs
    exact ⟨i, hi, by rw [← hs.must]; exact hm⟩
  · rintro ⟨i, hi, hm⟩
    have hi' : i < l.length := hi
    have hs := h.2 i hi
    rw [fth_eq l i hi'] at hs
    exact ⟨l[i], List.getElem_mem _, by rw [hs.must]; exact hm⟩
theorem tobj_any (key : ByteArray) (g c : Nat) (l : List FVal) (fs : List FSpec) (hk : key.size < 65536) (htw : t < w.heap.size) (hgt : g ≠ t) (hF : FRow w g l) (h0 : 0 < len fs) (hn : len fs ≤ 1000) (hS : FITs B t fs w l) :
    Calls Tryz.prog 107 #[.string key, .slice (some ⟨g, 0, none⟩) (len l) c] w (MadeG (fun w v => FIT B t w v (objSpec key fs)) w) := by
  have hln : len fs = len l := hS.sems.1
  refine (sobject_any key g c l w hF (by omega)).mono ?_
  rintro e V ⟨v, rfl, ⟨bx, hlo, hO, rfl⟩, hb⟩
  have hS' := fits_lasts B t fs _ _ _ hb hS
  refine ⟨_, rfl, _, rfl, ⟨hS'.1, hS'.2.1, fun y => ?_⟩, hb⟩
  have hSy := hS'.2.2 y
  have hFy : FRow (putB V t y) g l := by
    obtain ⟨h1, cur, h2⟩ := hF.below hb
    exact ⟨flds_keep h1 (putB_ne hgt), cur, (putB_ne hgt).trans h2⟩
  have C0 : CellAt B (putB V t y) bx 0 (.slice (some ⟨g, 0, none⟩) (len l) c) := (cellAt_new (B := B) hO (by decide) rfl).putB (by omega) y
  refine ⟨rfl, any_must hSy, hk, enters_of Tryz.func178 (by kernel_rfl) rfl, enters_of Tryz.func180 (by kernel_rfl) rfl, enters_of Tryz.func181 (by kernel_rfl) rfl,
    fun w' hw => obj2_any B bx g c _ l fs w' (C0.keep hw) (hFy.keep hw).flds (by omega) hSy hw, fun w' hw => obj3_any B bx g c _ l fs w' (C0.keep hw) (hFy.keep hw).flds (by omega) hSy hw,
    fun hm _ w' b base s hw hb ht hB hW hs => obj4_any B b base bx g c _ l fs s w' (C0.keep hw) (hFy.keep hw).flds (by omega) (by omega) hSy hm hw hb ht hB hW hs⟩
end
end Go.Proofs.YtihiaopilnjonaaGreatDoor
namespace Go.Proofs.YtihiaopilnjonaaGreatDoor
set_option linter.unusedSimpArgs false
open Go.RowKit
set_option linter.unusedVariables false
def EsV (VO : Nat → Option Nat) (X : Nat → World → World → Prop) (j : Nat) (w w' : World) : Prop := w.grownBy w' (VO j) ∧ X j w w'
theorem esV_refl {VO : Nat → Option Nat} {X : Nat → World → World → Prop} {j : Nat} (hX : ∀ j w, X j w w) (w : World) : EsV VO X j w w := ⟨⟨rfl, rfl, rfl, Nat.le_refl _, fun _ _ _ => rfl⟩, hX j w⟩
theorem esV_of_ext {VO : Nat → Option Nat} {X : Nat → World → World → Prop} {j : Nat} {w w' : World} (h : Ext w w') (hx : X j w w') : EsV VO X j w w' := ⟨⟨h.os, h.tape, h.output, h.size, fun i hi _ => h.block i hi⟩, hx⟩
structure ExtS (VO : Nat → Option Nat) (w w' : World) : Prop where
  os : w'.os = w.os
  tape : w'.tape = w.tape
  output : w'.output = w.output
  size : w.heap.size ≤ w'.heap.size
  block : ∀ k, k < w.heap.size → (∀ j, VO j ≠ some k) → w'.heap[k]? = w.heap[k]?
theorem ExtS.refl (VO : Nat → Option Nat) (w : World) : ExtS VO w w := ⟨rfl, rfl, rfl, Nat.le_refl _, fun _ _ _ => rfl⟩
theorem ExtS.step {VO : Nat → Option Nat} {X : Nat → World → World → Prop} {j : Nat} {a b c : World} (h : ExtS VO a b) (k' : EsV VO X j b c) : ExtS VO a c :=
  have k := k'.1
  ⟨k.os.trans h.os, k.tape.trans h.tape, k.output.trans h.output, Nat.le_trans h.size k.size, fun i hi hn => (k.block i (Nat.lt_of_lt_of_le hi h.size) (fun e => hn j e.symm)).trans (h.block i hi hn)⟩
structure Here (VO : Nat → Option Nat) (I : World → Prop) (ops : List Oper) (w0 w : World) (D : Nat → Prop) (i : Nat) : Prop where
  ext : ExtS VO w0 w
  inv : I w
  late : ∀ j, ¬ D j → ∀ b, VO j = some b → b < w0.heap.size → w.heap[b]? = w0.heap[b]?
  notyet : ∀ (j : Nat) oj, ops[j]? = some oj → ∀ e ∈ oj.after, Region.binds .any e = true → ¬ D e.on → ¬ D j
  me : ¬ D i
theorem Here.own {VO : Nat → Option Nat} {I : World → Prop} {ops : List Oper} {w0 w : World} {D : Nat → Prop} {i : Nat} (h : Here VO I ops w0 w D i) : ∀ b, VO i = some b → b < w0.heap.size → w.heap[b]? = w0.heap[b]? := h.late i h.me
section
variable (P : Program) (ops : List Oper) (a0 : Act) (w0 : World) (VO : Nat → Option Nat) (X : Nat → World → World → Prop) (I : World → Prop) (PR : Nat → Nat → Value → Value → World → Prop) (Φ : Nat → Value → World → Prop) (Q : Exit → Act → World → Prop)
def PairAt (D : Nat → Prop) (a : Act) (i : Nat) (v : Value) (w' : World) : Prop := ∀ j oj, ops[j]? = some oj → D j → j ≠ i → PR i j v (slotOf oj a) w' ∧ PR j i (slotOf oj a) v w'
def StepAtV (hd : Nat) (i : Nat) (o : Oper) : Prop := ∀ (D : Nat → Prop) a w, (∀ j oj, ops[j]? = some oj → D j → Φ j (slotOf oj a) w) → Here VO I ops w0 w D i → Outer ops a0 hd a → Deps ops Φ a w o.after.toList →
  if Region.wanted o (yielded ops.toArray a.tmps) then o.wp P a w (fun a' w' => ∃ v, a' = a.put o.dst v ∧ EsV VO X i w w' ∧ Φ i (valOf o v) w' ∧ PairAt ops PR D a i (valOf o v) w') Q else Φ i undef w ∧ ∀ j vi vj w, PR i j vi vj w ∧ PR j i vi vj w
structure RInvV (n : Nat) (listed : Array Bool) (a : Act) (w : World) : Prop where
  head : HeadInv .any ops.toArray n listed
  ext : ExtS VO w0 w
  inv : I w
  ext0 : ∀ i, listed.getD i true = false → ∀ b, VO i = some b → b < w0.heap.size → w.heap[b]? = w0.heap[b]?
  outer : Outer ops a0 n a
  done : ∀ (i : Nat) o, ops[i]? = some o → listed.getD i true = true → Φ i (slotOf o a) w
  pair : ∀ i j oi oj, ops[i]? = some oi → ops[j]? = some oj → listed.getD i true = true → listed.getD j true = true → i ≠ j → PR i j (slotOf oi a) (slotOf oj a) w
variable {P ops a0 w0 VO X I PR Φ Q}
theorem slotv_same {o : Oper} {i : Nat} {a : Act} {v : Value} (hB : regOk ops a0.tmps.size = true) (hs : a.tmps.size = a0.tmps.size) (ho : ops[i]? = some o) : slotOf o (a.put o.dst v) = valOf o v := by
  unfold slotOf valOf
  cases hd : o.dst with
  | none => rfl
  | some d =>
    have hdl : ∀ d ∈ dstsOf ops, d < a0.tmps.size := by
      unfold regOk at hB; simp only [Bool.and_eq_true] at hB
      intro d hd; simpa using List.all_eq_true.1 hB.2 d hd
    have hmem : d ∈ dstsOf ops := List.mem_filterMap.2 ⟨o, List.mem_of_getElem? ho, hd⟩
    exact eval_put_same (by rw [hs]; exact hdl d hmem)
theorem slot_other {o oj : Oper} {i j : Nat} {a : Act} {v : Value} (hB : regOk ops a0.tmps.size = true) (hij : i ≠ j) (ho : ops[i]? = some o) (hoj : ops[j]? = some oj) : slotOf oj (a.put o.dst v) = slotOf oj a := by
  have hnd : (dstsOf ops).Nodup := by unfold regOk at hB; simp only [Bool.and_eq_true, decide_eq_true_eq] at hB; exact hB.1.2
  unfold slotOf
  cases hdj : oj.dst with
  | none => rfl
  | some d =>
    cases hdo : o.dst with
    | none => rfl
    | some d' =>
      have hne : d ≠ d' := by
        rintro rfl
        exact dst_two hnd hij ho hoj hdo hdj
      exact eval_put_ne hne
theorem RInvV.next {n : Nat} (hB : regOk ops a0.tmps.size = true) (hVO : ∀ i j b, VO i = some b → VO j = some b → i = j)
    (hmono : ∀ i j v w w', i ≠ j → EsV VO X j w w' → Φ i v w → Φ i v w') (hI : ∀ j w w', EsV VO X j w w' → I w → I w') (hmonoP : ∀ i j k vi vj w w', k ≠ i → k ≠ j → EsV VO X k w w' → PR i j vi vj w → PR i j vi vj w') {listed : Array Bool} {a : Act} {w : World} (inv : RInvV ops a0 w0 VO I PR Φ n listed a w)
    {i : Nat} {o : Oper} (hi : i ∈ Region.ready .any ops.toArray listed) (hin : i < n) (ho' : ops[i]? = some o) {v : Value} {w' : World} (he : EsV VO X i w w') (hv : Φ i (valOf o v) w') (hpr : PairAt ops PR (fun j => listed.getD j true = true) a i (valOf o v) w') :
    RInvV ops a0 w0 VO I PR Φ n (listed.setIfInBounds i true) (a.put o.dst v) w' := by
  have hnd : (dstsOf ops).Nodup := by unfold regOk at hB; simp only [Bool.and_eq_true, decide_eq_true_eq] at hB; exact hB.1.2
  have hdl : ∀ d ∈ dstsOf ops, d < a0.tmps.size := by
    unfold regOk at hB; simp only [Bool.and_eq_true] at hB
    intro d hd; simpa using List.all_eq_true.1 hB.2 d hd
  refine ⟨inv.head.set hi hin, inv.ext.step he, hI _ _ _ he inv.inv, fun k hl b hb hlt => ?_, ?_, ?_, fun i1 j1 oi oj hoi hoj l1 l2 hne => ?_⟩
  · by_cases his : k = i
    · exfalso
      subst his
      obtain ⟨hun, o', ho, _⟩ := mem_ready.1 hi
      have hil : k < listed.size := by rw [inv.head.size]; exact (Array.getElem?_eq_some_iff.1 ho).1
      simp [hil] at hl
    · rw [getD_set_ne true (Ne.symm his)] at hl
      have h1 := inv.ext0 k hl b hb hlt
      rw [← h1]
      exact he.1.block b (Nat.lt_of_lt_of_le hlt inv.ext.size) (fun e => his (hVO k i b hb e.symm))
  · obtain ⟨h1, h2, h3⟩ := inv.outer
    cases hd : o.dst with
    | none => exact ⟨h1, h2, h3⟩
    | some d =>
      refine ⟨h1, by simp [Act.put, h2], fun t ht => ?_⟩
      have hmem : d ∈ dstsOf (ops.take n) := List.mem_filterMap.2 ⟨o, List.mem_of_getElem? (i := i) (by rw [List.getElem?_take, if_pos hin]; exact ho'), hd⟩
      rw [eval_put_ne (by rintro rfl; simp at ht; exact ht hmem)]; exact h3 t ht
  · intro j oj hoj hl
    by_cases hij : j = i
    · subst hij
      have : oj = o := Option.some.inj (hoj.symm.trans ho')
      subst this
      unfold slotOf
      unfold valOf at hv
      cases hd : oj.dst with
      | none => simpa [hd] using hv
      | some d =>
        simp only [hd] at hv
        have hmem : d ∈ dstsOf ops := List.mem_filterMap.2 ⟨oj, List.mem_of_getElem? ho', hd⟩
        simp only
        rw [eval_put_same (by rw [inv.outer.2.1]; exact hdl d hmem)]; exact hv
    · rw [getD_set_ne true (Ne.symm hij)] at hl
      have h1 := hmono j i _ w w' hij he (inv.done j oj hoj hl)
      unfold slotOf at h1 ⊢
      cases hdj : oj.dst with
      | none => first | exact h1 | simpa [hdj] using h1
      | some d =>
        try simp only [hdj] at h1 ⊢
        cases hdo : o.dst with
        | none => exact h1
        | some d' =>
          have hne : d ≠ d' := by
            rintro rfl
            exact dst_two hnd (Ne.symm hij) ho' hoj hdo hdj
          rw [eval_put_ne hne]; exact h1
  · by_cases h1 : i1 = i
    · subst h1
      have e : oi = o := Option.some.inj (hoi.symm.trans ho')
      subst e
      rw [slotv_same hB inv.outer.2.1 ho', slot_other hB hne ho' hoj]
      exact (hpr j1 oj hoj (by rwa [getD_set_ne true hne] at l2) (Ne.symm hne)).1
    · by_cases h2 : j1 = i
      · subst h2
        have e : oj = o := Option.some.inj (hoj.symm.trans ho')
        subst e
        rw [slotv_same hB inv.outer.2.1 ho', slot_other hB (Ne.symm hne) ho' hoi]
        exact (hpr i1 oi hoi (by rwa [getD_set_ne true (Ne.symm hne)] at l1) hne).2
      · rw [slot_other hB (Ne.symm h1) ho' hoi, slot_other hB (Ne.symm h2) ho' hoj]
        exact hmonoP i1 j1 i _ _ w w' (Ne.symm h1) (Ne.symm h2) he (inv.pair i1 j1 oi oj hoi hoj (by rwa [getD_set_ne true (Ne.symm h1)] at l1) (by rwa [getD_set_ne true (Ne.symm h2)] at l2) hne)
theorem wpAnyV_head {n g : Nat} (hB : regOk ops a0.tmps.size = true) (hVO : ∀ i j b, VO i = some b → VO j = some b → i = j)
    (hmono : ∀ i j v w w', i ≠ j → EsV VO X j w w' → Φ i v w → Φ i v w') (hI : ∀ j w w', EsV VO X j w w' → I w → I w') (hmonoP : ∀ i j k vi vj w w', k ≠ i → k ≠ j → EsV VO X k w w' → PR i j vi vj w → PR i j vi vj w') (hX : ∀ j w, X j w w) (hnN : n ≤ ops.length)
    (hstep : ∀ (i : Nat) o, i < n → ops[i]? = some o → StepAtV P ops a0 w0 VO X I PR Φ Q n i o)
    (hlate : ∀ listed, HeadInv .any ops.toArray n listed → (∃ i, i < n ∧ listed.getD i true = false) → Region.ready .any ops.toArray listed ≠ [] ∧ ∀ t ∈ Region.ready .any ops.toArray listed, t < n)
    (hend : ∀ listed a w, RInvV ops a0 w0 VO I PR Φ n listed a w → (∀ i, i < n → listed.getD i true = true) → wpAny P .any ops.toArray Q g listed a w) :
    ∀ (fuel : Nat) (listed : Array Bool) (a : Act) (w : World), ((List.range n).filter (fun i => !listed.getD i true)).length = fuel → RInvV ops a0 w0 VO I PR Φ n listed a w →
      wpAny P .any ops.toArray Q (fuel + g) listed a w := by
  intro fuel
  induction fuel with
  | zero =>
    intro listed a w hf inv
    rw [Nat.zero_add]
    refine hend listed a w inv fun i hi => ?_
    cases h : listed.getD i true with
    | true => rfl
    | false =>
      have : i ∈ (List.range n).filter (fun i => !listed.getD i true) := List.mem_filter.2 ⟨List.mem_range.2 hi, by rw [h]; rfl⟩
      rw [List.eq_nil_of_length_eq_zero hf] at this; cases this
  | succ fuel ih =>
    intro listed a w hf inv
    rw [show fuel + 1 + g = (fuel + g) + 1 by omega]
    have hex : ∃ i, i < n ∧ listed.getD i true = false := by
      cases hl : (List.range n).filter (fun i => !listed.getD i true) with
      | nil => rw [hl] at hf; cases hf
      | cons x L =>
        have : x ∈ (List.range n).filter (fun i => !listed.getD i true) := by rw [hl]; exact List.mem_cons_self ..
        obtain ⟨h1, h2⟩ := List.mem_filter.1 this
        exact ⟨x, List.mem_range.1 h1, by simpa using h2⟩
    obtain ⟨hne, hlt⟩ := hlate listed inv.head hex
    refine ⟨fun hr => absurd hr hne, fun i hi => ?_⟩
    have hin := hlt i hi
    obtain ⟨hun, o, ho, hall⟩ := mem_ready.1 hi
    have ho' : ops[i]? = some o := by simpa using ho
    have hls : listed.size = ops.length := by rw [inv.head.size]; simp
    have hdep : Deps ops Φ a w o.after.toList := deps_of fun e he hb oj hoj => by
      have h1 := hall e (by simpa using he) hb
      refine inv.done e.on oj hoj ?_
      have h2 : e.on < listed.size := by
        rcases Nat.lt_or_ge e.on listed.size with h | h
        · exact h
        · simp [Array.getElem?_eq_none h] at h1
      simp [h2] at h1 ⊢; exact h1
    have hst := hstep i o hin ho' (fun j => listed.getD j true = true) a w (fun j oj hoj hl => inv.done j oj hoj hl)
      ⟨inv.ext, inv.inv, fun j hj => inv.ext0 j (by simpa using hj), fun j oj hoj e he hb hne hD => (by
        have hjl : j < listed.size := by rw [hls]; exact (List.getElem?_eq_some_iff.1 hoj).1
        have h1 := inv.head.closed j oj (by simpa using hoj) (by simp [hjl] at hD ⊢; exact hD) e he hb
        rcases Nat.lt_or_ge e.on listed.size with h | h
        · simp [h] at h1 hne; rw [h1] at hne; cases hne
        · simp [Array.getElem?_eq_none h] at h1), (by rw [hun]; exact Bool.false_ne_true)⟩ inv.outer hdep
    have next : ∀ v w', EsV VO X i w w' → Φ i (valOf o v) w' → PairAt ops PR (fun j => listed.getD j true = true) a i (valOf o v) w' → wpAny P .any ops.toArray Q (fuel + g) (listed.setIfInBounds i true) (a.put o.dst v) w' := by
      intro v w' he hv hpr
      refine ih _ _ _ ?_ (inv.next hB hVO hmono hI hmonoP hi hin ho' he hv hpr)
      have := head_count (listed := listed) (i := i) (by omega) hun _ List.nodup_range (List.mem_range.2 hin)
      omega
    unfold wpOp
    rw [ho]
    dsimp only
    by_cases hw : Region.wanted o (yielded ops.toArray a.tmps) = true
    · rw [if_pos hw] at hst ⊢
      left
      refine Oper.wp_mono (fun a' w' h => ?_) hst
      obtain ⟨v, rfl, he, hv, hpr⟩ := h
      exact next v w' he hv hpr
    · rw [if_neg hw] at hst ⊢
      have e : valOf o undef = undef := by unfold valOf; cases o.dst <;> rfl
      exact next undef w (esV_refl hX w) (by rw [e]; exact hst.1) (fun j oj _ _ _ => ⟨(hst.2 j _ _ w).1, (hst.2 j _ _ w).2⟩)
end
section
variable {P : Program} {Q : Exit → Act → World → Prop} {a : Act} {w : World} {l : List Oper} {VO : Nat → Option Nat} {X : Nat → World → World → Prop} {I : World → Prop} {PR : Nat → Nat → Value → Value → World → Prop} {Φ : Nat → Value → World → Prop}
theorem rinvV_start {n : Nat} (hI0 : I w.drew) (hn : n ≤ l.length) : RInvV l a w.drew VO I PR Φ n (Array.replicate l.length false) a w.drew :=
  ⟨⟨by simp, fun j oj _ hl => (by rw [getD_replicate_false] at hl; cases hl), fun t _ ht => getD_in (by simpa using ht) (getD_replicate_false _ _)⟩, ExtS.refl _ _, hI0, fun _ _ _ _ _ => rfl, ⟨rfl, rfl, fun _ _ => rfl⟩,
    fun i o ho hl => (by
      have hi := (List.getElem?_eq_some_iff.1 ho).1
      rw [getD_in (by simpa using hi) (getD_replicate_false _ _)] at hl; cases hl), fun i1 _ oi _ hoi _ l1 _ _ => (by
      have hi := (List.getElem?_eq_some_iff.1 hoi).1
      rw [getD_in (by simpa using hi) (getD_replicate_false _ _)] at l1; cases l1)⟩
theorem wp_region_tailV {id : Nat} (n : Nat) (VO : Nat → Option Nat) (hVO : ∀ i j b, VO i = some b → VO j = some b → i = j) (X : Nat → World → World → Prop) (I : World → Prop) (PR : Nat → Nat → Value → Value → World → Prop) (hX : ∀ j w, X j w w) (hI0 : I w.drew) (Φ : Nat → Value → World → Prop) (hm : P.follows .mixedOrders = true) (hB : regOk l a.tmps.size = true) (hT : regTail l n = true)
    (hmono : ∀ i j v w1 w', i ≠ j → EsV VO X j w1 w' → Φ i v w1 → Φ i v w') (hI : ∀ j w w', EsV VO X j w w' → I w → I w') (hmonoP : ∀ i j k vi vj w w', k ≠ i → k ≠ j → EsV VO X k w w' → PR i j vi vj w → PR i j vi vj w')
    (hstep : ∀ (i : Nat) o, i < n → l[i]? = some o → StepAtV P l a w.drew VO X I PR Φ Q n i o)
    (hend : ∀ a' w', ExtS VO w.drew w' → I w' → Outer l a n a' → AllDone l Φ a' w' 0 n → (∀ i j oi oj, l[i]? = some oi → l[j]? = some oj → i < n → j < n → i ≠ j → PR i j (slotOf oi a') (slotOf oj a') w') → wpList P l.toArray Q (l.drop n) a' w') : (Code.region id l.toArray true).wp P Q a w := by
  unfold regTail at hT
  simp only [Bool.and_eq_true, decide_eq_true_eq] at hT
  obtain ⟨⟨⟨hn, hs⟩, hc⟩, hseq⟩ := hT
  refine wp_region_any hm ?_
  have H := wpAnyV_head (P := P) (ops := l) (a0 := a) (w0 := w.drew) (VO := VO) (X := X) (I := I) (PR := PR) (Φ := Φ) (Q := Q) (n := n) (g := l.length - n) hB hVO hmono hI hmonoP hX (by omega) hstep
    (fun listed inv ⟨i, hi, hun⟩ => ⟨fun hr => (by
        have := all_of_ready_nil (a0 := a) hB (by rw [inv.size]; simp) hr i (by omega)
        rw [hun] at this; cases this), fun t ht => (by
        rcases Nat.lt_or_ge t n with h | h
        · exact h
        · exact absurd ht (tail_waits hs hc (by simpa using hn) inv (n - i) i rfl hi hun t h))⟩)
    (fun listed a' w' inv hall => (by
        have e := headDone_of (n := n) (N := l.length) (by rw [inv.head.size]; simp) hall (fun i h1 h2 => inv.head.tail i h1 (by simpa using h2)) (by omega)
        have h := wpAny_of_seq (P := P) (md := .any) (Q' := Q) (ops := l.toArray) (l.drop n) n listed a' w' (fun j => by simp [List.getElem?_drop]) (by rw [List.length_drop, e]; exact hseq)
          (hend a' w' inv.ext inv.inv inv.outer (allDone_of _ _ fun j _ h2 o ho => inv.done j o ho (hall j (by omega))) (fun i j oi oj hoi hoj h1 h2 hne => inv.pair i j oi oj hoi hoj (hall i h1) (hall j h2) hne))
        rwa [List.length_drop] at h))
    n (Array.replicate l.length false) a w.drew (start_count _ _ (by omega)) (rinvV_start hI0 (by omega))
  rw [show n + (l.length - n) = l.length by omega] at H
  simpa using H
end
def MonoAllV (VO : Nat → Option Nat) (X : Nat → World → World → Prop) : Nat → List (Value → World → Prop) → Prop
  | _, [] => True
  | i, φ :: r => (∀ j, j ≠ i → ∀ v w1 w', EsV VO X j w1 w' → φ v w1 → φ v w') ∧ MonoAllV VO X (i + 1) r
theorem monoV_at {VO : Nat → Option Nat} {X : Nat → World → World → Prop} : ∀ {L : List (Value → World → Prop)} {k : Nat}, MonoAllV VO X k L → ∀ i j v w1 w', j ≠ k + i → EsV VO X j w1 w' → L.getD i (fun _ _ => True) v w1 → L.getD i (fun _ _ => True) v w'
  | [], _, _, _, _, _, _, _, _, _, _ => by simp
  | φ :: r, k, h, 0, j, v, w1, w', hj, he, hp => h.1 j hj v w1 w' he hp
  | φ :: r, k, h, i + 1, j, v, w1, w', hj, he, hp => monoV_at (L := r) h.2 i j v w1 w' (by omega) he hp
theorem monoV_of {VO : Nat → Option Nat} {X : Nat → World → World → Prop} {L : List (Value → World → Prop)} (h : MonoAllV VO X 0 L) : ∀ i j v w1 w', i ≠ j → EsV VO X j w1 w' → phis L i v w1 → phis L i v w' := fun i j v w1 w' hij he hp =>
  monoV_at h i j v w1 w' (by omega) he hp
theorem monoV_eq {VO : Nat → Option Nat} {X : Nat → World → World → Prop} {i : Nat} {f : Value → Prop} : ∀ j, j ≠ i → ∀ v w1 w', EsV VO X j w1 w' → (fun v (_ : World) => f v) v w1 → (fun v (_ : World) => f v) v w' := fun _ _ _ _ _ _ h => h
def StepsFromV (P : Program) (ops : List Oper) (a0 : Act) (w0 : World) (VO : Nat → Option Nat) (X : Nat → World → World → Prop) (I : World → Prop) (PR : Nat → Nat → Value → Value → World → Prop) (Φ : Nat → Value → World → Prop) (Q : Exit → Act → World → Prop) (hd : Nat) : Nat → Nat → List Oper → Prop
  | _, 0, _ => True
  | _, _ + 1, [] => True
  | i, n + 1, o :: r => StepAtV P ops a0 w0 VO X I PR Φ Q hd i o ∧ StepsFromV P ops a0 w0 VO X I PR Φ Q hd (i + 1) n r
theorem stepsV_from {P : Program} {ops : List Oper} {a0 : Act} {w0 : World} {VO : Nat → Option Nat} {X : Nat → World → World → Prop} {I : World → Prop} {PR : Nat → Nat → Value → Value → World → Prop} {Φ : Nat → Value → World → Prop} {Q : Exit → Act → World → Prop} {hd : Nat} :
    ∀ (n k : Nat) (r : List Oper), StepsFromV P ops a0 w0 VO X I PR Φ Q hd k n r → ∀ (i : Nat) o, i < n → r[i]? = some o → StepAtV P ops a0 w0 VO X I PR Φ Q hd (k + i) o
  | 0, _, _, _, _, _, h, _ => by omega
  | _ + 1, _, [], _, _, _, _, h => by simp at h
  | n + 1, k, x :: r, h, 0, o, _, ho => by simp at ho; subst ho; exact h.1
  | n + 1, k, x :: r, h, i + 1, o, hi, ho => by
    have := stepsV_from n (k + 1) r h.2 i o (by omega) (by simpa using ho)
    rwa [Nat.add_assoc, Nat.add_comm 1 i] at this
theorem stepsV_of {P : Program} {ops : List Oper} {a0 : Act} {w0 : World} {VO : Nat → Option Nat} {X : Nat → World → World → Prop} {I : World → Prop} {PR : Nat → Nat → Value → Value → World → Prop} {Φ : Nat → Value → World → Prop} {Q : Exit → Act → World → Prop} {hd : Nat} (n : Nat)
    (h : StepsFromV P ops a0 w0 VO X I PR Φ Q hd 0 n ops) : ∀ (i : Nat) o, i < n → ops[i]? = some o → StepAtV P ops a0 w0 VO X I PR Φ Q hd i o := fun i o hi ho => by
  have := stepsV_from n 0 ops h i o hi ho
  rwa [Nat.zero_add] at this
section
variable {P : Program} {ops : List Oper} {a0 : Act} {w0 : World} {VO : Nat → Option Nat} {X : Nat → World → World → Prop} {I : World → Prop} {PR : Nat → Nat → Value → Value → World → Prop} {Φ : Nat → Value → World → Prop} {Q : Exit → Act → World → Prop} {hd : Nat} {i : Nat} {o : Oper}
theorem stepV_wp (h : ∀ (D : Nat → Prop) a w1, (∀ j oj, ops[j]? = some oj → D j → Φ j (slotOf oj a) w1) → Here VO I ops w0 w1 D i → Outer ops a0 hd a → Deps ops Φ a w1 o.after.toList →
    Region.wanted o (yielded ops.toArray a.tmps) = true ∧ o.wp P a w1 (fun a' w' => ∃ v, a' = a.put o.dst v ∧ EsV VO X i w1 w' ∧ Φ i (valOf o v) w' ∧ PairAt ops PR D a i (valOf o v) w') Q) : StepAtV P ops a0 w0 VO X I PR Φ Q hd i o := fun D a w1 hP hE hO hD => by
  obtain ⟨h1, h2⟩ := h D a w1 hP hE hO hD
  rw [if_pos h1]; exact h2
theorem stepV_val {v : Value} (hX : ∀ j w, X j w w) (hp : ∀ j vi vj w, PR i j vi vj w ∧ PR j i vi vj w) (h : ∀ (D : Nat → Prop) a w1, Here VO I ops w0 w1 D i → Outer ops a0 hd a → Deps ops Φ a w1 o.after.toList →
    Region.wanted o (yielded ops.toArray a.tmps) = true ∧ (execOp a.eval o).run P w1 = .ok (.value v) w1) (hφ : ∀ w1, Φ i (valOf o v) w1) : StepAtV P ops a0 w0 VO X I PR Φ Q hd i o := fun D a w1 hP hE hO hD => by
  obtain ⟨h1, h2⟩ := h D a w1 hE hO hD
  rw [if_pos h1]
  unfold Oper.wp
  rw [h2]
  exact ⟨v, rfl, esV_refl hX w1, hφ w1, fun j oj _ _ _ => ⟨(hp j _ _ w1).1, (hp j _ _ w1).2⟩⟩
end
end Go.Proofs.YtihiaopilnjonaaGreatDoor

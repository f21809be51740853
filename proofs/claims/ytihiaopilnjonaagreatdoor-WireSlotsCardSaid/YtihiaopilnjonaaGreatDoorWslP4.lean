/- Parts of the proof, one behind the other. -/
import Derived.Test.YtihiaopilnjonaaGreatDoorWslP3
import Derived.Deep.QuietTactic
import Derived.BigQuiet
import Derived.StillTailTactics
import Derived.Laws.BytesArg
import Derived.WalkMore
import Derived.Laws.Strings
import Derived.Shelf.Strings.Builder1
import Derived.Shelf.Strings.Builder2
import Derived.Shelf.Strings.BuilderF
import Derived.Shelf.Strings.Prefix
import Derived.Shelf.Bits.Mul64
import Derived.Shelf.Strings.Repeat
import Derived.Test.YtihiaopilnjonaaGreatDoorProg
namespace Go.Proofs.YtihiaopilnjonaaGreatDoor
open Go.RowKit
set_option linter.unusedSimpArgs false
set_option linter.unusedVariables false
section
variable {B qb rb tb n : Nat} {T : TypeId} {w : World} {x0 : Rcd} {s : ByteArray}
theorem made_num (E : TEnv B qb rb tb n T w) (key : ByteArray) {o : Nat} (ho : o < n) (h0 : kindD (x0 o) = 0) : Calls Tryz.prog 109 #[.string key, .pointer (some ⟨tb, o, none⟩)] w (MadeG (fun w v => GSem B qb rb tb x0 T n s w v (gnum s key o)) w) :=
  (snum_any key tb o w).mono fun e w2 ⟨v, he, hs, hb⟩ => ⟨v.val, he, v, rfl, gsem_num (E.below hb) hs E.rlt E.tlt ho h0, hb⟩
theorem made_flag (E : TEnv B qb rb tb n T w) (key : ByteArray) {o : Nat} (ho : o < n) (h0 : kindD (x0 o) = 1) : Calls Tryz.prog 110 #[.string key, .pointer (some ⟨tb, o, none⟩)] w (MadeG (fun w v => GSem B qb rb tb x0 T n s w v (gflag s key o)) w) :=
  (sflag_any key tb o w).mono fun e w2 ⟨v, he, hs, hb⟩ => ⟨v.val, he, v, rfl, gsem_flag (E.below hb) hs E.rlt E.tlt ho h0, hb⟩
theorem made_dig (E : TEnv B qb rb tb n T w) (key : ByteArray) {o : Nat} (ho : o < n) : Calls Tryz.prog 111 #[.string key, .pointer (some ⟨tb, o, none⟩)] w (MadeG (fun w v => GSem B qb rb tb x0 T n s w v (gdig s key o)) w) :=
  (sdigest_any key tb o w).mono fun e w2 ⟨v, he, hs, hb⟩ => ⟨v.val, he, v, rfl, gsem_dig (E.below hb) hs E.rlt E.tlt ho, hb⟩
set_option maxRecDepth 100000 in
theorem dgs3_any (xb a : Nat) (he : RdEnv B w qb rb s a) (hx : w.heap[xb]? = some (.cells #[.string ⟨#[]⟩] 9 (0, 0))) (hne : xb ≠ rb) : Calls Tryz.prog 213 #[.pointer (some ⟨qb, 0, none⟩), .pointer (some ⟨xb, 0, none⟩)] w (ElIs (rdig s a) (fun y _ c => c = #[.string y]) rb xb 9 s w) := by
  have H := Lib.hid (dgRead_any B qb rb s a w he)
  have HX := Lib.hid hx
  clear he hx
  go_enter Tryz.func213, Tryz.ntmps213
  go_wp2_with fail
  refine H.out.mono ?_
  intro e w1 hh
  cases hr : rdig s a with
  | error f =>
    rw [hr] at hh
    obtain ⟨fb, rfl, hf, hE⟩ := vIs_err hh
    have HF := Lib.hid hf
    have HE := Lib.hid hE
    have HR := Lib.hid hr
    clear hh hf hE hr
    go_wp2
    refine ⟨rfl, ?_⟩
    rw [HR.out]
    exact ⟨Chg.of_ext HE.out, fb, rfl, HF.out⟩
  | ok y =>
    rw [hr] at hh
    obtain ⟨rfl, hrd, hle, hE⟩ := vIs_ok hh
    have hb1 : w1.heap[xb]? = some (.cells #[.string ⟨#[]⟩] 9 (0, 0)) := (hE.block _ (lt_of_block HX.out) (by simpa using hne)).trans HX.out
    have q0 : w1.cell? ⟨xb, 0, none⟩ = some (.string ⟨#[]⟩) := block_cell hb1 0
    have f0 : w1.frozen? ⟨xb, 0, none⟩ = false := block_free hb1 0
    have HB1 := Lib.hid hb1
    have HRD := Lib.hid hrd
    have HE := Lib.hid hE
    have HR := Lib.hid hr
    clear hh hrd hE hr hb1
    go_wp2
    go_end0
    rw [HR.out]
    exact ⟨(Chg.of_ext HE.out).set 0 _, rfl, block_setCell_ne HRD.out (by exact fun e => hne e.symm) _, hle, _, block_setCell HB1.out _, rfl⟩
theorem made_digs (E : TEnv B qb rb tb n T w) (key : ByteArray) {o most : Nat} (ho : o < n) (hm : most ≤ 10240) (h0 : x0 o = .strs []) : Calls Tryz.prog 145 #[.string key, .pointer (some ⟨tb, o, none⟩), .int .i64 most] w (MadeG (fun w v => GSem B qb rb tb x0 T n s w v (gdigs s key o most)) w) :=
  (sdigests_any key tb o most w).mono fun e w2 ⟨v, he, hs, hb⟩ => ⟨v.val, he, v, rfl, gsem_manys (E.below hb) hs E.rlt E.tlt ho hm h0 (fun w' xb a' hc hxb hx he2 => dgs3_any xb a' he2 hx (by have := (E.below hb).rlt; omega)), hb⟩
theorem made_obj (E : TEnv B qb rb tb n T w) (key : ByteArray) {g c : Nat} {l : List FVal} {gs : List GSpec} (hF : FRow w g l) (hc : len l ≤ c) (hS : GSems B qb rb tb x0 T n s w l gs) (hG : GOk x0 gs) (hn : gs.length ≤ 1000) : Calls Tryz.prog 107 #[.string key, .slice (some ⟨g, 0, none⟩) (len l) c] w (MadeG (fun w v => GSem B qb rb tb x0 T n s w v (gobj s key gs)) w) := by
  have hl : gs.length = l.length := hS.1
  have hn2 : len l ≤ 1000 := by show l.length ≤ 1000; omega
  exact (sobject_any key g c l w hF hn2).mono fun e w2 ⟨v, he, hs, hb⟩ => ⟨v.val, he, v, rfl, gsem_obj (E.below hb) hs E.rlt E.tlt (hF.below hb) hc hn2 (hS.later (Chg.of_below hb)) hG, hb⟩
theorem gsem_lasts (g : GSpec) : Lasts (fun w v => GSem B qb rb tb x0 T n s w v g) := fun w w' v hb h => h.later (Chg.of_below hb)
theorem gsems_lasts (gs : List GSpec) : LastsR (fun w l => GSems B qb rb tb x0 T n s w l gs) := fun w w' l hb h => h.later (Chg.of_below hb)
end
theorem RowG.imp {P Q : World → List FVal → Prop} {u : Value} {w : World} (h : RowG P u w) (hi : ∀ l, P w l → Q w l) : RowG Q u w := by
  obtain ⟨g, c, l, hu, hc, hF, hp⟩ := h
  exact ⟨g, c, l, hu, hc, hF, hi l hp⟩
theorem keysOk_of {gs : List GSpec} {ks : List ByteArray} (h : gs.map (fun g => g.key) = ks) (hn : ks.Nodup) : KeysOk gs := fun i j hi hj e => by
  subst h
  rw [gth_eq gs i hi, gth_eq gs j hj] at e
  exact (List.getElem_inj (i := i) (j := j) (h₀ := by simpa using hi) (h₁ := by simpa using hj) hn).1 (by simpa using e)
theorem disj_of {gs : List GSpec} {L : List (List Nat)} (h : gs.map (fun g => g.offs) = L) (hp : L.Pairwise (fun a b => ∀ o, o ∈ a → o ∉ b)) : Disj gs := fun i j hi hj hne o ho hin => by
  subst h
  rw [gth_eq gs i hi] at ho
  rw [gth_eq gs j hj] at hin
  rcases Nat.lt_or_gt_of_ne hne with hlt | hlt
  · exact List.pairwise_iff_getElem.1 hp i j (by simpa using hi) (by simpa using hj) hlt o (by simpa using ho) (by simpa using hin)
  · exact List.pairwise_iff_getElem.1 hp j i (by simpa using hj) (by simpa using hi) hlt o (by simpa using hin) (by simpa using ho)
structure KPart (x0 : Rcd) (o : Nat) : Prop where
  c0 : kindD (x0 o) = 2
  c1 : kindD (x0 (o + 1)) = 0
  c2 : kindD (x0 (o + 2)) = 0
  c3 : kindD (x0 (o + 3)) = 0
  c4 : kindD (x0 (o + 4)) = 0
structure KSig (x0 : Rcd) (o : Nat) : Prop where
  c0 : kindD (x0 o) = 0
  c1 : x0 (o + 1) = .strs []
  c2 : x0 (o + 2) = .strs []
structure KSlot (x0 : Rcd) (o : Nat) : Prop where
  c0 : kindD (x0 o) = 0
  c1 : kindD (x0 (o + 1)) = 1
  c2 : KSig x0 (o + 2)
theorem PartOk {x0 : Rcd} (s : ByteArray) (o : Nat) (hK : KPart x0 o) : GOk x0 (partGs s o) := by
  refine ⟨keysOk_of (ks := [⟨#[102]⟩, ⟨#[107]⟩, ⟨#[108]⟩, ⟨#[114]⟩, ⟨#[119]⟩]) rfl (by decide), disj_of rfl ?_, fun g hg => ?_, fun g hg => ?_⟩
  · simp only [partGs, sigGs, slotGs, partGs, gnum, gflag, gdig, gdigs, gmany, gobj, List.map_cons, List.map_nil, List.flatMap_cons, List.flatMap_nil, List.pairwise_cons, List.mem_cons, List.mem_append, List.not_mem_nil, or_false, List.Pairwise.nil, and_true, List.append_nil, List.singleton_append, List.cons_append, List.nil_append, forall_eq_or_imp, forall_eq]; (repeat' apply And.intro) <;> first | omega | (intro a h; exact h.elim)
  · simp only [partGs, List.mem_cons, List.not_mem_nil, or_false] at hg; rcases hg with rfl | rfl | rfl | rfl | rfl
    · exact gnum_frames _ _ _
    · exact gnum_frames _ _ _
    · exact gnum_frames _ _ _
    · exact gdig_frames _ _ _
    · exact gnum_frames _ _ _
  · simp only [partGs, List.mem_cons, List.not_mem_nil, or_false] at hg; rcases hg with rfl | rfl | rfl | rfl | rfl
    · exact gnum_kinds _ _ (hK.c2)
    · exact gnum_kinds _ _ (hK.c4)
    · exact gnum_kinds _ _ (hK.c3)
    · exact gdig_kinds _ _ (hK.c0)
    · exact gnum_kinds _ _ (hK.c1)
theorem rofPart_any {B qb rb tb n : Nat} {T : TypeId} {w : World} {x0 : Rcd} {s : ByteArray} (E : TEnv B qb rb tb n T w) (o : Nat) (hn : o + 5 ≤ n) (hK : KPart x0 o) : Calls Tryz.prog 62 #[.pointer (some ⟨tb, o, none⟩)] w (RowIs (fun w l => GSems B qb rb tb x0 T n s w l (partGs s o)) w) := by
  refine (gofPart_any tb o w
    (fun w v => GSem B qb rb tb x0 T n s w v (gnum s ⟨#[102]⟩ (o + 2))) (fun w v => GSem B qb rb tb x0 T n s w v (gnum s ⟨#[107]⟩ (o + 4))) (fun w v => GSem B qb rb tb x0 T n s w v (gnum s ⟨#[108]⟩ (o + 3))) (fun w v => GSem B qb rb tb x0 T n s w v (gdig s ⟨#[114]⟩ (o))) (fun w v => GSem B qb rb tb x0 T n s w v (gnum s ⟨#[119]⟩ (o + 1)))
    (fun w' hb => made_num (E.below hb) ⟨#[102]⟩ (by omega) hK.c2)
    (gsem_lasts _)
    (fun w' hb => made_num (E.below hb) ⟨#[107]⟩ (by omega) hK.c4)
    (gsem_lasts _)
    (fun w' hb => made_num (E.below hb) ⟨#[108]⟩ (by omega) hK.c3)
    (gsem_lasts _)
    (fun w' hb => made_dig (E.below hb) ⟨#[114]⟩ (by omega))
    (gsem_lasts _)
    (fun w' hb => made_num (E.below hb) ⟨#[119]⟩ (by omega) hK.c1)
    (gsem_lasts _)).mono ?_
  rintro e w' ⟨u, he, hu, hb⟩
  refine ⟨u, he, hu.imp fun l h => ?_, hb⟩
  obtain ⟨x0, x1, x2, x3, x4, rfl, p0, p1, p2, p3, p4⟩ := h
  refine ⟨rfl, fun i hi => ?_⟩
  match i, hi with
  | 0, _ => exact p0
  | 1, _ => exact p1
  | 2, _ => exact p2
  | 3, _ => exact p3
  | 4, _ => exact p4
theorem SigOk {x0 : Rcd} (s : ByteArray) (o : Nat) (hK : KSig x0 o) : GOk x0 (sigGs s o) := by
  refine ⟨keysOk_of (ks := [⟨#[105]⟩, ⟨#[112]⟩, ⟨#[118]⟩]) rfl (by decide), disj_of rfl ?_, fun g hg => ?_, fun g hg => ?_⟩
  · simp only [sigGs, sigGs, slotGs, partGs, gnum, gflag, gdig, gdigs, gmany, gobj, List.map_cons, List.map_nil, List.flatMap_cons, List.flatMap_nil, List.pairwise_cons, List.mem_cons, List.mem_append, List.not_mem_nil, or_false, List.Pairwise.nil, and_true, List.append_nil, List.singleton_append, List.cons_append, List.nil_append, forall_eq_or_imp, forall_eq]; (repeat' apply And.intro) <;> first | omega | (intro a h; exact h.elim)
  · simp only [sigGs, List.mem_cons, List.not_mem_nil, or_false] at hg; rcases hg with rfl | rfl | rfl
    · exact gnum_frames _ _ _
    · exact gmany_frames _ _ _ _ _ _
    · exact gmany_frames _ _ _ _ _ _
  · simp only [sigGs, List.mem_cons, List.not_mem_nil, or_false] at hg; rcases hg with rfl | rfl | rfl
    · exact gnum_kinds _ _ (hK.c0)
    · exact gmany_kinds _ _ (fun l => by rw [hK.c2]; rfl)
    · exact gmany_kinds _ _ (fun l => by rw [hK.c1]; rfl)
theorem rofSig_any {B qb rb tb n : Nat} {T : TypeId} {w : World} {x0 : Rcd} {s : ByteArray} (E : TEnv B qb rb tb n T w) (o : Nat) (hn : o + 3 ≤ n) (hK : KSig x0 o) : Calls Tryz.prog 108 #[.pointer (some ⟨tb, o, none⟩)] w (RowIs (fun w l => GSems B qb rb tb x0 T n s w l (sigGs s o)) w) := by
  refine (gofSig_any tb o w
    (fun w v => GSem B qb rb tb x0 T n s w v (gnum s ⟨#[105]⟩ (o))) (fun w v => GSem B qb rb tb x0 T n s w v (gdigs s ⟨#[112]⟩ (o + 2) 16)) (fun w v => GSem B qb rb tb x0 T n s w v (gdigs s ⟨#[118]⟩ (o + 1) 67))
    (fun w' hb => made_num (E.below hb) ⟨#[105]⟩ (by omega) hK.c0)
    (gsem_lasts _)
    (fun w' hb => made_digs (E.below hb) ⟨#[112]⟩ (by omega) (by decide) hK.c2)
    (gsem_lasts _)
    (fun w' hb => made_digs (E.below hb) ⟨#[118]⟩ (by omega) (by decide) hK.c1)
    (gsem_lasts _)).mono ?_
  rintro e w' ⟨u, he, hu, hb⟩
  refine ⟨u, he, hu.imp fun l h => ?_, hb⟩
  obtain ⟨x0, x1, x2, rfl, p0, p1, p2⟩ := h
  refine ⟨rfl, fun i hi => ?_⟩
  match i, hi with
  | 0, _ => exact p0
  | 1, _ => exact p1
  | 2, _ => exact p2
theorem SlotOk {x0 : Rcd} (s : ByteArray) (o : Nat) (hK : KSlot x0 o) : GOk x0 (slotGs s o) := by
  have hS0 := SigOk (x0 := x0) s (o + 2) hK.c2
  refine ⟨keysOk_of (ks := [⟨#[103]⟩, ⟨#[108]⟩, ⟨#[115]⟩]) rfl (by decide), disj_of rfl ?_, fun g hg => ?_, fun g hg => ?_⟩
  · simp only [slotGs, sigGs, slotGs, partGs, gnum, gflag, gdig, gdigs, gmany, gobj, List.map_cons, List.map_nil, List.flatMap_cons, List.flatMap_nil, List.pairwise_cons, List.mem_cons, List.mem_append, List.not_mem_nil, or_false, List.Pairwise.nil, and_true, List.append_nil, List.singleton_append, List.cons_append, List.nil_append, forall_eq_or_imp, forall_eq]; (repeat' apply And.intro) <;> first | omega | (intro a h; exact h.elim)
  · simp only [slotGs, List.mem_cons, List.not_mem_nil, or_false] at hg; rcases hg with rfl | rfl | rfl
    · exact gobj_frames (hS0).frames
    · exact gnum_frames _ _ _
    · exact gflag_frames _ _ _
  · simp only [slotGs, List.mem_cons, List.not_mem_nil, or_false] at hg; rcases hg with rfl | rfl | rfl
    · exact gobj_kinds (hS0).kinds
    · exact gnum_kinds _ _ (hK.c0)
    · exact gflag_kinds _ _ (hK.c1)
theorem rofSlot_any {B qb rb tb n : Nat} {T : TypeId} {w : World} {x0 : Rcd} {s : ByteArray} (E : TEnv B qb rb tb n T w) (o : Nat) (hn : o + 5 ≤ n) (hK : KSlot x0 o) : Calls Tryz.prog 61 #[.pointer (some ⟨tb, o, none⟩)] w (RowIs (fun w l => GSems B qb rb tb x0 T n s w l (slotGs s o)) w) := by
  refine (gofSlot_any tb o w
    (fun w v => GSem B qb rb tb x0 T n s w v (gobj s ⟨#[103]⟩ (sigGs s (o + 2)))) (fun w v => GSem B qb rb tb x0 T n s w v (gnum s ⟨#[108]⟩ (o))) (fun w v => GSem B qb rb tb x0 T n s w v (gflag s ⟨#[115]⟩ (o + 1))) (fun w l => GSems B qb rb tb x0 T n s w l (sigGs s (o + 2)))
    (gsems_lasts _) (fun w' hb => rofSig_any (E.below hb) (o + 2) (by omega) hK.c2)
    (fun w' g c l hb hF hc hS => made_obj (E.below hb) ⟨#[103]⟩ hF hc hS (SigOk s (o + 2) hK.c2) (show (3 : Nat) ≤ 1000 by decide))
    (gsem_lasts _)
    (fun w' hb => made_num (E.below hb) ⟨#[108]⟩ (by omega) hK.c0)
    (gsem_lasts _)
    (fun w' hb => made_flag (E.below hb) ⟨#[115]⟩ (by omega) hK.c1)
    (gsem_lasts _)).mono ?_
  rintro e w' ⟨u, he, hu, hb⟩
  refine ⟨u, he, hu.imp fun l h => ?_, hb⟩
  obtain ⟨x0, x1, x2, rfl, p0, p1, p2⟩ := h
  refine ⟨rfl, fun i hi => ?_⟩
  match i, hi with
  | 0, _ => exact p0
  | 1, _ => exact p1
  | 2, _ => exact p2
end Go.Proofs.YtihiaopilnjonaaGreatDoor
namespace Go.Proofs.YtihiaopilnjonaaGreatDoor
open Go.RowKit
set_option linter.unusedSimpArgs false
set_option linter.unusedVariables false
theorem rec_zero {rb tb : Nat} {T : TypeId} {w : World} {x : Rcd} {cs : Array Value} (h : w.heap[tb]? = some (.cells cs T (0, 0))) {n : Nat} (hn : cs.size = n) (hz : ∀ i, i < n → ∃ v, cs[i]? = some v ∧ (match x i with | .num k => v = .int .u64 k | .flag q => v = .bool q | .str t => v = .string t | .strs l => l = [] ∧ v = .slice none 0 0 | .nums l => l = [] ∧ v = .slice none 0 0 | .revs l => l = [] ∧ v = .slice none 0 0)) : RecAt rb tb T n w x := by
  refine ⟨cs, h, hn, fun i hi => ?_⟩
  obtain ⟨v, h1, h2⟩ := hz i hi
  refine ⟨v, h1, ?_⟩
  cases hx : x i with
  | num k => rw [hx] at h2; exact h2
  | flag q => rw [hx] at h2; exact h2
  | str t => rw [hx] at h2; exact h2
  | strs l =>
    rw [hx] at h2; obtain ⟨rfl, rfl⟩ := h2
    exact ⟨none, 0, rfl, fun _ => ⟨rfl, rfl⟩, fun b off e => (by cases e), fun i hi => (by simp [len] at hi), fun b off e => (by cases e)⟩
  | nums l =>
    rw [hx] at h2; obtain ⟨rfl, rfl⟩ := h2
    exact ⟨none, 0, rfl, fun _ => ⟨rfl, rfl⟩, fun b off e => (by cases e), fun i hi => (by simp [len] at hi), fun b off e => (by cases e)⟩
  | revs l =>
    rw [hx] at h2; obtain ⟨rfl, rfl⟩ := h2
    exact ⟨none, 0, rfl, fun _ => ⟨rfl, rfl⟩, fun b off e => (by cases e), [], rfl, fun i hi => (by simp [len] at hi), fun i hi => (by simp [len] at hi)⟩
theorem Kd.str {x0 x : Rcd} (h : Kd x0 x) {o : Nat} (h0 : kindD (x0 o) = 2) : ∃ n, x o = .str n := by
  have := (h o).trans h0
  cases hx : x o <;> rw [hx] at this <;> first | exact ⟨_, rfl⟩ | cases this
theorem objR_kinds {x0 : Rcd} {s : ByteArray} {fs : List GSpec} (hf : ∀ g ∈ fs, g.Kinds x0) {x : Rcd} {a : Nat} {y : Rcd × Nat} (h : objR s fs x a = .ok y) (hk : Kd x0 x) : Kd x0 y.1 := gobj_kinds (s := s) (key := ByteArray.empty) hf x a y h hk
section
variable {B qb rb tb n : Nat} {T : TypeId} {w : World} {x0 : Rcd} {s : ByteArray}
end
end Go.Proofs.YtihiaopilnjonaaGreatDoor
namespace Go.Proofs.YtihiaopilnjonaaGreatDoor
open Go.RowKit
set_option linter.unusedSimpArgs false
set_option linter.unusedVariables false
def At (s : ByteArray) (a : Nat) (t : ByteArray) : Prop := a ≤ s.size ∧ ∃ R, s.data.toList.drop a = t.data.toList ++ R
theorem At.le {s t : ByteArray} {a : Nat} (h : At s a t) : a + t.size ≤ s.size := by
  obtain ⟨h1, R, h2⟩ := h
  have := congrArg List.length h2
  rw [List.length_drop, List.length_append, ba_len, ba_len] at this
  omega
theorem At.nil {s : ByteArray} {a : Nat} (h : a ≤ s.size) : At s a ByteArray.empty := ⟨h, s.data.toList.drop a, by rfl⟩
theorem At.app {s t u : ByteArray} {a : Nat} (h : At s a (t ++ u)) : At s a t ∧ At s (a + t.size) u := by
  have hl := h.le
  obtain ⟨h1, R, h2⟩ := h
  rw [ByteArray.data_append, Array.toList_append, List.append_assoc] at h2
  rw [ByteArray.size_append] at hl
  refine ⟨⟨h1, _, h2⟩, by omega, R, ?_⟩
  rw [← List.drop_drop, h2, ← ba_len t, List.drop_left]
theorem At.join {s t u : ByteArray} {a : Nat} (h : At s a t) (k : At s (a + t.size) u) : At s a (t ++ u) := by
  obtain ⟨h1, R, h2⟩ := h
  obtain ⟨k1, S, k2⟩ := k
  refine ⟨h1, S, ?_⟩
  rw [← List.drop_drop, h2, ← ba_len t, List.drop_left] at k2
  rw [h2, k2, ByteArray.data_append, Array.toList_append, List.append_assoc]
theorem tk_forth {sort : Nat} {s t : ByteArray} {a : Nat} {n : Int} (h5 : sort < 5) (h : At s a (laidP sort n t)) (n0 : 0 ≤ n) (n1 : n ≤ 18446744073709551615) (nm : sort ≠ 0 → n ≤ 10240)
    (ht : if sort = 1 ∨ sort = 2 then (t.size : Int) = n else t = ⟨#[]⟩) : tkR sort s a = .ok (n, t, a + (laidP sort n t).size) := by
  have n2 : sort ≠ 0 → n ≤ 65535 := fun e => by have := nm e; omega
  obtain ⟨h1, R, h2⟩ := h
  rw [← laidOf_eq h5 n0 n2] at h2 ⊢
  unfold tkR
  rw [laid_take h5 h1 n0 n1 n2 nm ht h2]
theorem tk_back {sort : Nat} {s : ByteArray} {a : Nat} {x : Int × ByteArray × Nat} (h5 : sort < 5) (ha : a ≤ s.size) (h : tkR sort s a = .ok x) :
    At s a (laidP sort x.1 x.2.1) ∧ x.2.2 = a + (laidP sort x.1 x.2.1).size ∧ 0 ≤ x.1 ∧ x.1 ≤ 18446744073709551615 ∧ (sort ≠ 0 → x.1 ≤ 10240) ∧ x.2.2 ≤ s.size ∧ (sort = 1 ∨ sort = 2 → (x.2.1.size : Int) = x.1) := by
  have hb := tkR_bd h5 h
  obtain ⟨n, t, a'⟩ := x
  simp only at hb ⊢
  unfold tkR at h
  split at h
  · cases h
  · next y hy =>
    cases h
    obtain ⟨h1, h2, h3, h4, h6, h7⟩ := take_laid h5 ha hy
    have n2 : sort ≠ 0 → n ≤ 65535 := fun e => by have := hb.2.2.1 e; omega
    rw [laidOf_eq h5 h4 n2] at h1 h2
    refine ⟨⟨ha, _, h1⟩, h2, h4, h6, hb.2.2.1, h3, fun h12 => ?_⟩
    rcases textOf_is (s := s) (a := a) (most := 10240) h12 with ⟨k, _, e⟩ | ⟨m, t2, a2, _, e, hz, _⟩
    · rw [hy] at e; cases e
    · rw [hy] at e; cases e; omega
theorem rnum_forth {s : ByteArray} {a : Nat} {n : Int} (h : At s a (numP n)) (hn : U64i n) : rnum s a = .ok (n, a + (numP n).size) := by
  have := tk_forth (sort := 0) (t := ByteArray.empty) (by decide) h hn.1 hn.2 (fun e => absurd rfl e) (by rfl)
  unfold rnum; rw [this]; rfl
theorem rnum_back {s : ByteArray} {a : Nat} {y : Int × Nat} (ha : a ≤ s.size) (h : rnum s a = .ok y) : At s a (numP y.1) ∧ y.2 = a + (numP y.1).size ∧ U64i y.1 := by
  unfold rnum at h
  split at h
  · cases h
  · next x hx =>
    cases h
    obtain ⟨h1, h2, h3, h4, _, _, _⟩ := tk_back (by decide) ha hx
    have e : laidP 0 x.1 x.2.1 = numP x.1 := rfl
    rw [e] at h1 h2
    exact ⟨h1, h2, h3, h4⟩
theorem rdig_forth {s x : ByteArray} {a : Nat} (h : At s a (binP x)) (hx : x.size = 32) : rdig s a = .ok (x, a + (binP x).size) := by
  have := tk_forth (sort := 1) (t := x) (by decide) h (by omega) (by omega) (fun _ => by omega) (by rfl)
  unfold rdig; rw [this]
  show (if x.size = 32 then _ else _) = _
  rw [if_pos hx]; rfl
theorem rdig_back {s : ByteArray} {a : Nat} {y : ByteArray × Nat} (ha : a ≤ s.size) (h : rdig s a = .ok y) : At s a (binP y.1) ∧ y.2 = a + (binP y.1).size ∧ y.1.size = 32 := by
  unfold rdig at h
  split at h
  · cases h
  · next x hx =>
    split at h
    · next h32 =>
      cases h
      obtain ⟨h1, h2, h3, h4, _, _, h7⟩ := tk_back (by decide) ha hx
      have h7 := h7 (.inl rfl)
      have e : laidP 1 x.1 x.2.1 = binP x.2.1 := by unfold binP; rw [h7]
      rw [e] at h1 h2
      exact ⟨h1, h2, h32⟩
    · cases h
theorem rlist_forth {s : ByteArray} {a n most : Nat} (h : At s a (listP n)) (hn : n ≤ most) (hm : n ≤ 10240) : rlist s most a = .ok (n, a + (listP n).size) := by
  have := tk_forth (sort := 3) (t := ByteArray.empty) (by decide) h (by omega) (by omega) (fun _ => by omega) (by rfl)
  unfold rlist; rw [this]
  show (if ((n : Nat) : Int) ≤ most then _ else _) = _
  rw [if_pos (by omega)]; rfl
theorem rlist_back {s : ByteArray} {a most : Nat} {y : Nat × Nat} (ha : a ≤ s.size) (h : rlist s most a = .ok y) : At s a (listP y.1) ∧ y.2 = a + (listP y.1).size ∧ y.1 ≤ most := by
  unfold rlist at h
  split at h
  · cases h
  · next x hx =>
    split at h
    · next hm =>
      cases h
      obtain ⟨h1, h2, h3, h4, _, _, _⟩ := tk_back (by decide) ha hx
      have e : laidP 3 x.1 x.2.1 = listP x.1.toNat := by
        unfold listP; rw [show ((x.1.toNat : Nat) : Int) = x.1 by omega]; rfl
      rw [e] at h1 h2
      exact ⟨h1, h2, by show x.1.toNat ≤ most; omega⟩
    · cases h
theorem rmany_forth {α : Type} {s : ByteArray} {rd : Nat → Except Flt (α × Nat)} {b : α → ByteArray} : ∀ (l pre : List α) (a : Nat), At s a (catB (l.map b)) → (∀ x ∈ l, ∀ a, At s a (b x) → rd a = .ok (x, a + (b x).size)) →
    rmany rd l.length a pre = .ok (pre ++ l, a + (catB (l.map b)).size)
  | [], pre, a, h, hr => by rw [List.append_nil]; rfl
  | x :: r, pre, a, h, hr => by
    rw [List.map_cons, catB] at h ⊢
    obtain ⟨h1, h2⟩ := h.app
    rw [List.length_cons, rmany, hr x (List.mem_cons_self ..) a h1]
    show rmany rd r.length (a + (b x).size) (pre ++ [x]) = _
    rw [rmany_forth r (pre ++ [x]) _ h2 (fun y hy => hr y (List.mem_cons_of_mem _ hy)), ByteArray.size_append, List.append_assoc, Nat.add_assoc]
    rfl
theorem rmany_back {α : Type} {s : ByteArray} {rd : Nat → Except Flt (α × Nat)} {b : α → ByteArray} {Q : α → Prop} (hr : ∀ a x, a ≤ s.size → rd a = .ok x → At s a (b x.1) ∧ x.2 = a + (b x.1).size ∧ Q x.1) :
    ∀ (n a : Nat) (pre : List α) (y : List α × Nat), a ≤ s.size → rmany rd n a pre = .ok y → ∃ l, y.1 = pre ++ l ∧ l.length = n ∧ At s a (catB (l.map b)) ∧ y.2 = a + (catB (l.map b)).size ∧ ∀ x ∈ l, Q x
  | 0, a, pre, y, ha, h => by
    simp only [rmany] at h; cases h
    exact ⟨[], by simp, rfl, At.nil ha, rfl, fun x hx => by cases hx⟩
  | n + 1, a, pre, y, ha, h => by
    simp only [rmany] at h
    split at h
    · cases h
    · next x hx =>
      obtain ⟨h1, h2, h3⟩ := hr a x ha hx
      have hle := h1.le
      obtain ⟨l, e1, e2, e3, e4, e5⟩ := rmany_back hr n x.2 _ y (by omega) h
      refine ⟨x.1 :: l, by rw [e1, List.append_assoc]; rfl, by rw [List.length_cons, e2], ?_, ?_, fun z hz => ?_⟩
      · rw [List.map_cons, catB]; rw [h2] at e3; exact h1.join e3
      · rw [List.map_cons, catB, ByteArray.size_append, e4, h2]; omega
      · rcases List.mem_cons.1 hz with rfl | hz
        · exact h3
        · exact e5 z hz
def POk : DV → Prop
  | .num n => U64i n
  | .nums l => ∀ n ∈ l, U64i n
  | _ => True
def DOk : DV → Prop
  | .revs l => ∀ r ∈ l, ∀ o, POk (revC r o)
  | d => POk d
structure FG (s : ByteArray) (x0 : Rcd) (g : GSpec) (f : Rcd → FSpec) : Prop where
  key : ∀ y, (f y).key = g.key
  ksz : g.key.size ≤ 10240
  must : ∀ y, (f y).must = g.must
  loc : ∀ y z, (∀ o, o ∈ g.offs → y o = z o) → f y = f z
  emp : ∀ y, Kd x0 y → (f y).empty = g.empty y
  full : g.must = true → ∀ y, (f y).empty = false
  un : g.must = false → (f x0).empty = true ∧ (f x0).may = true
  zero : ∀ v, Kd x0 v → (f v).empty = true → ∀ o, o ∈ g.offs → v o = x0 o
  back : ∀ x a y, a ≤ s.size → fresh x0 g x → Kd x0 x → g.read x a = .ok y → g.empty y.1 = false → (f y.1).may = true ∧ At s a (f y.1).bytes ∧ y.2 = a + (f y.1).bytes.size ∧ ∀ o, o ∈ g.offs → DOk (y.1 o)
  forth : ∀ v x a, Kd x0 v → (∀ o, DOk (v o)) → fresh x0 g x → Kd x0 x → (f v).may = true → (f v).empty = false → At s a (f v).bytes → ∃ y, g.read x a = .ok (y, a + (f v).bytes.size) ∧ ∀ o, o ∈ g.offs → y o = v o
def numF (key : ByteArray) (o : Nat) : Rcd → FSpec := fun y => ⟨key, false, (y o).n == 0, true, numP (y o).n⟩
def flagF (key : ByteArray) (o : Nat) : Rcd → FSpec := fun y => ⟨key, false, !(y o).q, true, numP 1⟩
def manyF {α : Type} (key : ByteArray) (o : Nat) (get : DV → List α) (mayL : List α → Bool) (b : α → ByteArray) : Rcd → FSpec := fun y => ⟨key, false, decide (len (get (y o)) = 0), mayL (get (y o)), listP (len (get (y o))) ++ catB ((get (y o)).map b)⟩
variable {s : ByteArray} {x0 : Rcd}
theorem fg_num (key : ByteArray) (o : Nat) (hk : key.size ≤ 10240) (h0 : x0 o = .num 0) : FG s x0 (gnum s key o) (numF key o) := by
  have hkd : kindD (x0 o) = 0 := by rw [h0]; rfl
  constructor
  · exact fun y => rfl
  · exact hk
  · exact fun y => rfl
  · intro y z h
    have e : y o = z o := h o (List.mem_singleton.2 rfl)
    unfold numF; rw [e]
  · intro y hy
    obtain ⟨n, hn⟩ := hy.num hkd
    unfold numF gnum; simp only [hn]; rfl
  · intro h; cases h
  · intro _
    unfold numF; rw [h0]; exact ⟨rfl, rfl⟩
  · intro v hv h i hi
    obtain ⟨n, hn⟩ := hv.num hkd
    obtain rfl : i = o := List.mem_singleton.1 hi
    unfold numF at h; rw [hn] at h
    have : n = 0 := by simpa [DV.n] using h
    rw [hn, h0, this]
  · intro x a y ha hf hx h he
    simp only [gnum] at h
    split at h
    · cases h
    · next z hz =>
      cases h
      obtain ⟨h1, h2, h3⟩ := rnum_back ha hz
      dsimp only [numF]; rw [upd_at]
      exact ⟨rfl, h1, h2, fun i hi => by (obtain rfl : i = o := List.mem_singleton.1 hi); (try dsimp only); rw [upd_at]; exact h3⟩
  · intro v x a hv hd hf hx hm he hA
    obtain ⟨n, hn⟩ := hv.num hkd
    have hdo := hd o
    rw [hn] at hdo
    unfold numF at hA ⊢
    simp only [hn] at hA ⊢
    refine ⟨upd x o (.num n), ?_, fun i hi => ?_⟩
    · simp only [gnum]; rw [rnum_forth hA hdo]
      rfl
    · obtain rfl : i = o := List.mem_singleton.1 hi
      rw [upd_at, hn]
theorem fg_flag (key : ByteArray) (o : Nat) (hk : key.size ≤ 10240) (h0 : x0 o = .flag false) : FG s x0 (gflag s key o) (flagF key o) := by
  have hkd : kindD (x0 o) = 1 := by rw [h0]; rfl
  constructor
  · exact fun y => rfl
  · exact hk
  · exact fun y => rfl
  · intro y z h
    have e : y o = z o := h o (List.mem_singleton.2 rfl)
    unfold flagF; rw [e]
  · intro y hy
    obtain ⟨n, hn⟩ := hy.flag hkd
    unfold flagF gflag; simp only [hn]; rfl
  · intro h; cases h
  · intro _
    unfold flagF; rw [h0]; exact ⟨rfl, rfl⟩
  · intro v hv h i hi
    obtain ⟨n, hn⟩ := hv.flag hkd
    obtain rfl : i = o := List.mem_singleton.1 hi
    unfold flagF at h; rw [hn] at h
    have : n = false := by simpa [DV.q] using h
    rw [hn, h0, this]
  · intro x a y ha hf hx h he
    simp only [gflag] at h
    split at h
    · cases h
    · next z hz =>
      cases h
      obtain ⟨h1, h2, h3⟩ := rnum_back ha hz
      have hz1 : z.1 = 1 := by
        simp only [gflag, upd_at, zeroD] at he
        simpa using he
      rw [hz1] at h1 h2
      exact ⟨rfl, h1, h2, fun i hi => by (obtain rfl : i = o := List.mem_singleton.1 hi); (try dsimp only); rw [upd_at]; trivial⟩
  · intro v x a hv hd hf hx hm he hA
    obtain ⟨n, hn⟩ := hv.flag hkd
    unfold flagF at hA he ⊢
    simp only [hn] at hA he ⊢
    have hn1 : n = true := by simpa [DV.q] using he
    refine ⟨upd x o (.flag true), ?_, fun i hi => ?_⟩
    · simp only [gflag]; rw [rnum_forth hA ⟨by decide, by decide⟩]
      rfl
    · obtain rfl : i = o := List.mem_singleton.1 hi
      rw [upd_at, hn, hn1]
theorem fg_many {α : Type} (key : ByteArray) (o most : Nat) (toD : List α → DV) (get : DV → List α) (mayL : List α → Bool) (m : α → Prop) (b : α → ByteArray) (rd : Nat → Except Flt (α × Nat)) (ok : α → Prop) (hk : key.size ≤ 10240) (hmost : most ≤ 10240) (h0 : x0 o = toD [])
    (hg : ∀ l, get (toD l) = l) (hkind : ∀ d, kindD d = kindD (toD []) → d = toD (get d)) (hz : ∀ l, zeroD (toD l) = (l.length == 0))
    (hmay : ∀ l, mayL l = true ↔ len l ≤ most ∧ ∀ x ∈ l, m x) (hdok : ∀ l, DOk (toD l) ↔ ∀ x ∈ l, ok x)
    (hback : ∀ a x, a ≤ s.size → rd a = .ok x → At s a (b x.1) ∧ x.2 = a + (b x.1).size ∧ m x.1 ∧ ok x.1)
    (hforth : ∀ x, ok x → m x → ∀ a, At s a (b x) → rd a = .ok (x, a + (b x).size)) : FG s x0 (gmany s key o most toD rd) (manyF key o get mayL b) := by
  have hkd : ∀ {y : Rcd}, Kd x0 y → y o = toD (get (y o)) := fun {y} hy => hkind _ (by have := hy o; rw [h0] at this; exact this)
  constructor
  · exact fun y => rfl
  · exact hk
  · exact fun y => rfl
  · intro y z h
    have e : y o = z o := h o (List.mem_singleton.2 rfl)
    unfold manyF; rw [e]
  · intro y hy
    have := hkd hy
    show decide (len (get (y o)) = 0) = zeroD (y o)
    rw [this, hz, hg, len_eq]
    cases (get (y o)) <;> rfl
  · intro h; cases h
  · intro _
    unfold manyF; rw [h0, hg]
    exact ⟨rfl, (hmay []).2 ⟨Nat.zero_le _, fun x hx => by cases hx⟩⟩
  · intro v hv h i hi
    obtain rfl : i = o := List.mem_singleton.1 hi
    have e := hkd hv
    have h' : len (get (v i)) = 0 := of_decide_eq_true h
    rw [len_eq] at h'
    rw [e, List.eq_nil_of_length_eq_zero h', h0]
  · intro x a y ha hf hx h he
    simp only [gmany] at h
    split at h
    · cases h
    · next k hk =>
      split at h
      · cases h
      · next z hz2 =>
        cases h
        obtain ⟨k1, k2, k3⟩ := rlist_back ha hk
        have := k1.le
        obtain ⟨l, e1, e2, e3, e4, e5⟩ := rmany_back (Q := fun x => m x ∧ ok x) hback k.1 k.2 [] z (by omega) hz2
        rw [List.nil_append] at e1
        dsimp only [manyF]; rw [upd_at, hg, e1, len_eq, e2]
        refine ⟨(hmay l).2 ⟨by rw [len_eq]; omega, fun x hx => (e5 x hx).1⟩, k1.join (by rw [← k2]; exact e3), ?_, fun i hi => ?_⟩
        · rw [ByteArray.size_append]; (try simp only); omega
        · obtain rfl : i = o := List.mem_singleton.1 hi
          (try dsimp only); rw [upd_at]; exact (hdok l).2 fun x hx => (e5 x hx).2
  · intro v x a hv hd hf hx hm he hA
    have e := hkd hv
    have hdo := hd o
    unfold manyF at hA hm ⊢
    simp only at hA hm ⊢
    generalize get (v o) = l at e hA hm
    rw [e] at hdo
    obtain ⟨h1, h2⟩ := (hmay l).1 hm
    obtain ⟨a1, a2⟩ := hA.app
    refine ⟨upd x o (toD l), ?_, fun i hi => ?_⟩
    · simp only [gmany]; rw [rlist_forth a1 h1 (by omega)]
      simp only []
      have := rmany_forth (rd := rd) l [] _ a2 (fun x hx a hA => hforth x ((hdok l).1 hdo x hx) (h2 x hx) a hA)
      rw [← len_eq] at this
      rw [this, ByteArray.size_append, ← Nat.add_assoc]
      rfl
    · obtain rfl : i = o := List.mem_singleton.1 hi
      rw [upd_at, e]
end Go.Proofs.YtihiaopilnjonaaGreatDoor
namespace Go.Proofs.YtihiaopilnjonaaGreatDoor
open Go.RowKit
set_option linter.unusedSimpArgs false
set_option linter.unusedVariables false
abbrev FPair := GSpec × (Rcd → FSpec)
def gsOf (P : List FPair) : List GSpec := P.map fun p => p.1
def fsOf (P : List FPair) (y : Rcd) : List FSpec := P.map fun p => p.2 y
def pth (P : List FPair) (i : Nat) : FPair := P.getD i (GSpec.zero, fun _ => ⟨ByteArray.empty, false, false, false, ByteArray.empty⟩)
theorem pth_eq (P : List FPair) (i : Nat) (h : i < P.length) : pth P i = P[i] := by unfold pth; rw [List.getD_eq_getElem?_getD, List.getElem?_eq_getElem h]; rfl
theorem gsOf_len (P : List FPair) : (gsOf P).length = P.length := List.length_map _
theorem gth_of {P : List FPair} {i : Nat} (h : i < P.length) : gth (gsOf P) i = (pth P i).1 := by
  rw [gth_eq _ _ (by rw [gsOf_len]; exact h), pth_eq P i h]; unfold gsOf; rw [List.getElem_map]
structure FGs (s : ByteArray) (x0 : Rcd) (P : List FPair) : Prop where
  fg : ∀ p ∈ P, FG s x0 p.1 p.2
  ok : GOk x0 (gsOf P)
  len : P.length ≤ 1000
variable {s : ByteArray} {x0 : Rcd} {P : List FPair}
theorem FGs.at (h : FGs s x0 P) {i : Nat} (hi : i < P.length) : FG s x0 (gth (gsOf P) i) (pth P i).2 := by
  rw [gth_of hi]; exact h.fg _ (by rw [pth_eq P i hi]; exact List.getElem_mem _)
def fsFrom (P : List FPair) (y : Rcd) (m : Nat) : List FSpec := (fsOf P y).drop m
theorem fsFrom_end (y : Rcd) {m : Nat} (h : P.length ≤ m) : fsFrom P y m = [] := List.drop_eq_nil_of_le (by unfold fsOf; rw [List.length_map]; exact h)
theorem fsFrom_cons (y : Rcd) {m : Nat} (h : m < P.length) : fsFrom P y m = (pth P m).2 y :: fsFrom P y (m + 1) := by
  have h' : m < (P.map fun p => p.2 y).length := by rw [List.length_map]; exact h
  show (P.map fun p => p.2 y).drop m = (pth P m).2 y :: (P.map fun p => p.2 y).drop (m + 1)
  rw [List.drop_eq_getElem_cons h', pth_eq P m h, List.getElem_map]
theorem kept_cons (f : FSpec) (l : List FSpec) : keptF (f :: l) = if f.empty then keptF l else f :: keptF l := by
  unfold keptF; rw [List.filter_cons]; cases f.empty <;> rfl
theorem kept_skip (y : Rcd) : ∀ (k fr : Nat), fr + k ≤ P.length → (∀ i, fr ≤ i → i < fr + k → ((pth P i).2 y).empty = true) → keptF (fsFrom P y fr) = keptF (fsFrom P y (fr + k))
  | 0, fr, _, _ => rfl
  | k + 1, fr, h, he => by
    rw [fsFrom_cons y (m := fr) (by omega), kept_cons, he fr (Nat.le_refl _) (by omega), if_pos rfl, kept_skip y k (fr + 1) (by omega) (fun i h1 h2 => he i (by omega) (by omega))]
    rw [show fr + 1 + k = fr + (k + 1) by omega]
def catF (l : List FSpec) : ByteArray := catB ((keptF l).map fieldP)
theorem key_one (h : FGs s x0 P) {i j : Nat} (hi : i < P.length) (hj : j < P.length) (hij : i ≠ j) : ((gth (gsOf P) i).key.toList == (gth (gsOf P) j).key.toList) = false := by
  cases hb : ((gth (gsOf P) i).key.toList == (gth (gsOf P) j).key.toList) with
  | false => rfl
  | true => exact absurd (h.ok.keys i j (by rw [gsOf_len]; exact hi) (by rw [gsOf_len]; exact hj) (toList_same hb)) hij
theorem loop_forth (h : FGs s x0 P) {v : Rcd} (hv : Kd x0 v) (hd : ∀ o, DOk (v o)) (hm : allMay (fsOf P v) = true) : ∀ (k m fr : Nat), m + k = P.length → fr ≤ m → (∀ i, fr ≤ i → i < m → ((pth P i).2 v).empty = true) → ∀ (x : Rcd) (seen : List Nat) (a : Nat), Kd x0 x → (∀ i, m ≤ i → i < P.length → fresh x0 (gth (gsOf P) i) x) → At s a (catF (fsFrom P v m)) →
    ∃ y seen', objLoop s (gsOf P) (keptF (fsFrom P v m)).length fr x seen a = .ok (y, seen', a + (catF (fsFrom P v m)).size) ∧ (∀ i, m ≤ i → i < P.length → ∀ o, o ∈ (gth (gsOf P) i).offs → y o = v o) ∧ (∀ o, (∀ i, m ≤ i → i < P.length → o ∉ (gth (gsOf P) i).offs) → y o = x o) ∧ (∀ i, i ∈ seen → i ∈ seen') ∧ ∀ i, m ≤ i → i < P.length → ((pth P i).2 v).empty = false → i ∈ seen'
  | 0, m, fr, hk, hfr, he, x, seen, a, hx, hf, hA => by
    have e : fsFrom P v m = [] := fsFrom_end v (by omega)
    rw [e]
    exact ⟨x, seen, rfl, fun i h1 h2 => by omega, fun o _ => rfl, fun i h => h, fun i h1 h2 => by omega⟩
  | k + 1, m, fr, hk, hfr, he, x, seen, a, hx, hf, hA => by
    have hml : m < P.length := by omega
    have hmg : m < (gsOf P).length := by rw [gsOf_len]; exact hml
    have F := h.at hml
    rw [fsFrom_cons v hml] at hA ⊢
    unfold catF at hA ⊢
    rw [kept_cons] at hA ⊢
    cases hem : ((pth P m).2 v).empty with
    | true =>
      rw [hem, if_pos rfl] at hA
      rw [if_pos rfl]
      obtain ⟨y, seen', h1, h2, h3, h4, h5⟩ := loop_forth h hv hd hm k (m + 1) fr (by omega) (by omega) (fun i a b => by
        by_cases e : i = m
        · subst e; exact hem
        · exact he i a (by omega)) x seen a hx (fun i a b => hf i (by omega) b) hA
      refine ⟨y, seen', h1, fun i a b o ho => ?_, fun o ho => h3 o fun i a b => ho i (by omega) b, h4, fun i a b c => ?_⟩
      · by_cases e : i = m
        · subst e
          rw [h3 o (fun j j1 j2 hin => h.ok.disj i j (by rw [gsOf_len]; exact b) (by rw [gsOf_len]; exact j2) (by omega) o ho hin)]
          rw [hf i (Nat.le_refl _) b o ho]
          exact (F.zero v hv hem o ho).symm
        · exact h2 i (by omega) b o ho
      · by_cases e : i = m
        · subst e; rw [hem] at c; cases c
        · exact h5 i (by omega) b c
    | false =>
      rw [hem, if_neg (by decide)] at hA
      rw [if_neg (by decide)]
      rw [List.map_cons, catB] at hA ⊢
      obtain ⟨A1, A2⟩ := hA.app
      have hfp : fieldP ((pth P m).2 v) = strP (gth (gsOf P) m).key ++ ((pth P m).2 v).bytes := by unfold fieldP; rw [F.key]
      rw [hfp] at A1 A2 ⊢
      obtain ⟨K1, K2⟩ := A1.app
      have hks := F.ksz
      have hk2 : tkR 2 s a = .ok (((gth (gsOf P) m).key.size : Int), (gth (gsOf P) m).key, a + (strP (gth (gsOf P) m).key).size) :=
        tk_forth (sort := 2) (t := (gth (gsOf P) m).key) (by decide) K1 (by omega) (by omega) (fun _ => by omega) (by rfl)
      have hki : keyIdx (gsOf P) fr (gth (gsOf P) m).key = some (m - fr) := by
        refine keyIdx_some (by omega) (by rw [show fr + (m - fr) = m by omega]; simp) fun i hi => ?_
        exact key_one h (by omega) hml (by omega)
      have hmy : ((pth P m).2 v).may = true := by
        refine List.all_eq_true.1 hm _ ?_
        unfold fsOf; rw [pth_eq P m hml]
        exact List.mem_map.2 ⟨_, List.getElem_mem _, rfl⟩
      obtain ⟨y1, r1, r2⟩ := F.forth v x _ hv hd (hf m (Nat.le_refl _) hml) hx hmy hem K2
      have hfm : fr + (m - fr) = m := by omega
      have hky : Kd x0 y1 := h.ok.kinds _ (by rw [gth_eq _ _ hmg]; exact List.getElem_mem _) x _ _ r1 hx
      have hey : (gth (gsOf P) m).empty y1 = false := by rw [← F.emp y1 hky, F.loc y1 v r2]; exact hem
      have hfy : ∀ i, m + 1 ≤ i → i < P.length → fresh x0 (gth (gsOf P) i) y1 := fun i a b o ho => by
        have e1 : y1 o = x o := h.ok.frames _ (by rw [gth_eq _ _ hmg]; exact List.getElem_mem _) x _ _ r1 o (fun hin => h.ok.disj i m (by rw [gsOf_len]; exact b) hmg (by omega) o ho hin)
        rw [e1]
        exact hf i (by omega) b o ho
      rw [ByteArray.size_append, ← Nat.add_assoc] at A2
      obtain ⟨y, seen', h1, h2, h3, h4, h5⟩ := loop_forth h hv hd hm k (m + 1) (m + 1) (by omega) (Nat.le_refl _) (fun i a b => by omega) y1 (m :: seen) _ hky hfy A2
      have hn := objLoop_next (s := s) (gs := gsOf P) (g := (keptF (fsFrom P v (m + 1))).length) (fn := fr) (seen := seen) hk2 hki (by rw [hfm]; exact r1) (by rw [hfm]; exact hey)
      rw [hfm] at hn
      refine ⟨y, seen', ?_, fun i a b o ho => ?_, fun o ho => ?_, fun i hi => h4 i (List.mem_cons_of_mem _ hi), fun i a b c => ?_⟩
      · rw [List.length_cons, hn, h1]
        rw [ByteArray.size_append, ByteArray.size_append]
        unfold catF
        congr 3
        omega
      · by_cases e : i = m
        · subst e
          rw [h3 o (fun j j1 j2 hin => h.ok.disj i j hmg (by rw [gsOf_len]; exact j2) (by omega) o ho hin)]
          exact r2 o ho
        · exact h2 i (by omega) b o ho
      · rw [h3 o fun i a b => ho i (by omega) b]
        exact h.ok.frames _ (by rw [gth_eq _ _ hmg]; exact List.getElem_mem _) x _ _ r1 o (ho m (Nat.le_refl _) hml)
      · by_cases e : i = m
        · subst e; exact h4 i (List.mem_cons_self ..)
        · exact h5 i (by omega) b c
theorem kept_le (l : List FSpec) : (keptF l).length ≤ l.length := List.length_filter_le _ _
theorem fsOf_len (y : Rcd) : (fsOf P y).length = P.length := List.length_map _
theorem objR_forth (h : FGs s x0 P) {v x : Rcd} {a : Nat} (hv : Kd x0 v) (hd : ∀ o, DOk (v o)) (hm : allMay (fsOf P v) = true) (hx : Kd x0 x) (hf : ∀ i, i < P.length → fresh x0 (gth (gsOf P) i) x) (hA : At s a (layP (fsOf P v))) :
    ∃ y, objR s (gsOf P) x a = .ok (y, a + (layP (fsOf P v)).size) ∧ ∀ i, i < P.length → ∀ o, o ∈ (gth (gsOf P) i).offs → y o = v o := by
  unfold layP at hA ⊢
  obtain ⟨A1, A2⟩ := hA.app
  have hl := kept_le (fsOf P v)
  rw [fsOf_len] at hl
  have hp := h.len
  have h4 : tkR 4 s a = .ok (((keptF (fsOf P v)).length : Int), ByteArray.empty, a + (mapP (keptF (fsOf P v)).length).size) :=
    tk_forth (sort := 4) (t := ByteArray.empty) (by decide) A1 (by omega) (by omega) (fun _ => by omega) (by rfl)
  obtain ⟨y, seen', h1, h2, h3, _, h5⟩ := loop_forth h hv hd hm P.length 0 0 (by omega) (Nat.le_refl _) (fun i a b => by omega) x [] _ hx (fun i _ b => hf i b) A2
  refine ⟨y, ?_, fun i hi => h2 i (Nat.zero_le _) hi⟩
  have h1' : objLoop s (gsOf P) (((keptF (fsOf P v)).length : Int), ByteArray.empty, a + (mapP (keptF (fsOf P v)).length).size).1.toNat 0 x [] (a + (mapP (keptF (fsOf P v)).length).size) = .ok (y, seen', a + (mapP (keptF (fsOf P v)).length).size + (catB ((keptF (fsOf P v)).map fieldP)).size) := h1
  have hmi : missing (gsOf P) seen' = false := by
    cases hb : missing (gsOf P) seen' with
    | false => rfl
    | true =>
      obtain ⟨i, hi, hq⟩ := (missing_iff _ _).1 hb
      rw [gsOf_len] at hi
      simp only [Bool.and_eq_true, Bool.not_eq_true'] at hq
      have := h5 i (Nat.zero_le _) hi ((h.at hi).full hq.1 v)
      rw [List.contains_eq_mem] at hq
      simp [this] at hq
  have hk := objR_ok h4 h1' hmi
  rw [hk, ByteArray.size_append, Nat.add_assoc]
theorem loop_fine (h : FGs s x0 P) : ∀ (n fr : Nat) (x : Rcd) (seen : List Nat) (a : Nat) (y : Rcd × List Nat × Nat), objLoop s (gsOf P) n fr x seen a = .ok y → (∀ o, (∀ i, fr ≤ i → i < P.length → o ∉ (gth (gsOf P) i).offs) → y.1 o = x o) ∧ ∀ i, i ∈ y.2.1 → i ∈ seen ∨ fr ≤ i
  | 0, fr, x, seen, a, y, hy => by simp only [objLoop] at hy; cases hy; exact ⟨fun o _ => rfl, fun i hi => .inl hi⟩
  | n + 1, fr, x, seen, a, y, hy => by
    simp only [objLoop] at hy
    split at hy
    · cases hy
    · split at hy
      · cases hy
      · next j hj =>
        have hl := keyIdx_lt hj
        have hl' := hl
        rw [gsOf_len] at hl'
        split at hy
        · cases hy
        · next z hz =>
          split at hy
          · cases hy
          · obtain ⟨h1, h2⟩ := loop_fine h n _ _ _ _ y hy
            refine ⟨fun o ho => ?_, fun i hi => ?_⟩
            · rw [h1 o fun i a b => ho i (by omega) b]
              exact h.ok.frames _ (by rw [gth_eq _ _ hl]; exact List.getElem_mem _) x _ _ hz o (ho _ (by omega) hl')
            · rcases h2 i hi with h3 | h3
              · rcases List.mem_cons.1 h3 with rfl | h3
                · exact .inr (by omega)
                · exact .inl h3
              · exact .inr (by omega)
theorem loop_back (h : FGs s x0 P) (h00 : ∀ o, DOk (x0 o)) : ∀ (n fr : Nat) (x : Rcd) (seen : List Nat) (a : Nat) (y : Rcd × List Nat × Nat), objLoop s (gsOf P) n fr x seen a = .ok y → a ≤ s.size → fr ≤ P.length → Kd x0 x → (∀ i, fr ≤ i → i < P.length → fresh x0 (gth (gsOf P) i) x) → (∀ i, i ∈ seen → i < fr) → missing (gsOf P) y.2.1 = false →
    n = (keptF (fsFrom P y.1 fr)).length ∧ At s a (catF (fsFrom P y.1 fr)) ∧ y.2.2 = a + (catF (fsFrom P y.1 fr)).size ∧ ∀ i, fr ≤ i → i < P.length → ((pth P i).2 y.1).may = true ∧ ∀ o, o ∈ (gth (gsOf P) i).offs → DOk (y.1 o)
  | 0, fr, x, seen, a, y, hy, ha, hfr, hx, hf, hs, hmi => by
    simp only [objLoop] at hy; cases hy
    dsimp only at hmi ⊢
    have hun : ∀ i, fr ≤ i → i < P.length → ((pth P i).2 x).empty = true ∧ ((pth P i).2 x).may = true := fun i h1 h2 => by
      have F := h.at h2
      rw [F.loc x x0 (hf i h1 h2)]
      refine F.un ?_
      cases hb : (gth (gsOf P) i).must with
      | false => rfl
      | true =>
        have : missing (gsOf P) seen = true := (missing_iff _ _).2 ⟨i, by rw [gsOf_len]; exact h2, by
          rw [hb, List.contains_eq_mem]
          have : i ∉ seen := fun hin => by have := hs i hin; omega
          simp [this]⟩
        rw [this] at hmi; cases hmi
    have e := kept_skip x (P.length - fr) fr (by omega) (fun i h1 h2 => (hun i h1 (by omega)).1)
    rw [fsFrom_end (m := fr + (P.length - fr)) x (by omega)] at e
    refine ⟨by rw [e]; rfl, ?_, ?_, fun i h1 h2 => ⟨(hun i h1 h2).2, fun o ho => by rw [hf i h1 h2 o ho]; exact h00 o⟩⟩
    · unfold catF; rw [e]; exact At.nil ha
    · unfold catF; rw [e]; rfl
  | n + 1, fr, x, seen, a, y, hy, ha, hfr, hx, hf, hs, hmi => by
    simp only [objLoop] at hy
    split at hy
    · cases hy
    · next t ht =>
      split at hy
      · cases hy
      · next j hj =>
        have hl := keyIdx_lt hj
        have hml := hl
        rw [gsOf_len] at hml
        obtain ⟨m, hm⟩ : ∃ m, fr + j = m := ⟨_, rfl⟩
        have hkk := keyIdx_key hj
        rw [hm] at hy hl hml hkk
        have hmem : gth (gsOf P) m ∈ gsOf P := by rw [gth_eq _ _ hl]; exact List.getElem_mem _
        have F := h.at hml
        split at hy
        · cases hy
        · next z hz =>
          split at hy
          · cases hy
          · next hne =>
            have hne : (gth (gsOf P) m).empty z.1 = false := by simpa using hne
            obtain ⟨t1, t2, t3, t4, t5, t6, t7⟩ := tk_back (by decide) ha ht
            have t7 := t7 (.inr rfl)
            have hkz : Kd x0 z.1 := h.ok.kinds _ hmem x _ _ hz hx
            obtain ⟨b1, b2, b3, b4⟩ := F.back x _ z t6 (hf m (by omega) hml) hx hz hne
            have hb2 := b2.le
            obtain ⟨f1, f2⟩ := loop_fine h n (m + 1) z.1 (m :: seen) z.2 y hy
            have hfz : ∀ i, fr ≤ i → i < P.length → i ≠ m → fresh x0 (gth (gsOf P) i) z.1 := fun i h1 h2 hne o ho => by
              rw [h.ok.frames _ hmem x _ _ hz o (fun hin => h.ok.disj i m (by rw [gsOf_len]; exact h2) hl hne o ho hin)]
              exact hf i h1 h2 o ho
            obtain ⟨i1, i2, i3, i4⟩ := loop_back h h00 n (m + 1) z.1 (m :: seen) z.2 y hy (by omega) (by omega) hkz (fun i h1 h2 => hfz i (by omega) h2 (by omega)) (fun i hi => by
              rcases List.mem_cons.1 hi with rfl | hi
              · omega
              · have := hs i hi; omega) hmi
            have hlow : ∀ i, fr ≤ i → i < m → ((pth P i).2 y.1).empty = true ∧ ((pth P i).2 y.1).may = true ∧ ∀ o, o ∈ (gth (gsOf P) i).offs → DOk (y.1 o) := fun i h1 h2 => by
              have h3 : i < P.length := by omega
              have F := h.at h3
              have hfy : fresh x0 (gth (gsOf P) i) y.1 := fun o ho => by
                rw [f1 o fun j j1 j2 hin => h.ok.disj i j (by rw [gsOf_len]; exact h3) (by rw [gsOf_len]; exact j2) (by omega) o ho hin]
                exact hfz i h1 h3 (by omega) o ho
              rw [F.loc y.1 x0 hfy]
              refine (fun hu => ⟨hu.1, hu.2, fun o ho => by rw [hfy o ho]; exact h00 o⟩) (F.un ?_)
              cases hb : (gth (gsOf P) i).must with
              | false => rfl
              | true =>
                have : missing (gsOf P) y.2.1 = true := (missing_iff _ _).2 ⟨i, by rw [gsOf_len]; exact h3, by
                  rw [hb, List.contains_eq_mem]
                  have : i ∉ y.2.1 := fun hin => by
                    rcases f2 i hin with h4 | h4
                    · rcases List.mem_cons.1 h4 with rfl | h4
                      · omega
                      · have := hs i h4; omega
                    · omega
                  simp [this]⟩
                rw [this] at hmi; cases hmi
            have hyz : (pth P m).2 y.1 = (pth P m).2 z.1 := F.loc _ _ fun o ho => f1 o fun j j1 j2 hin => h.ok.disj m j hl (by rw [gsOf_len]; exact j2) (by omega) o ho hin
            have hem : ((pth P m).2 y.1).empty = false := by rw [hyz, F.emp _ hkz]; exact hne
            have e := kept_skip y.1 (m - fr) fr (by omega) (fun i h1 h2 => (hlow i h1 (by omega)).1)
            rw [show fr + (m - fr) = m by omega, fsFrom_cons y.1 hml, kept_cons, hem, if_neg (by decide)] at e
            have hfp : fieldP ((pth P m).2 y.1) = laidP 2 t.1 t.2.1 ++ ((pth P m).2 z.1).bytes := by
              unfold fieldP strP; rw [F.key, hkk, hyz, t7]
            have hcat : catF (fsFrom P y.1 fr) = (laidP 2 t.1 t.2.1 ++ ((pth P m).2 z.1).bytes) ++ catF (fsFrom P y.1 (m + 1)) := by
              unfold catF; rw [e, List.map_cons, catB, hfp]
            rw [t2] at b2
            refine ⟨by rw [e, List.length_cons, ← i1], ?_, ?_, fun i h1 h2 => ?_⟩
            · rw [hcat]
              refine (t1.join b2).join ?_
              rw [ByteArray.size_append, ← Nat.add_assoc, ← t2, ← b3]; exact i2
            · rw [hcat, ByteArray.size_append, ByteArray.size_append]; omega
            · rcases Nat.lt_trichotomy i m with h3 | h3 | h3
              · exact (hlow i h1 h3).2
              · subst h3; rw [hyz]
                refine ⟨b1, fun o ho => ?_⟩
                rw [f1 o fun j j1 j2 hin => h.ok.disj i j hl (by rw [gsOf_len]; exact j2) (by omega) o ho hin]
                exact b4 o ho
              · exact i4 i h3 h2
theorem objR_back (h : FGs s x0 P) (h00 : ∀ o, DOk (x0 o)) {x : Rcd} {a : Nat} {y : Rcd × Nat} (ha : a ≤ s.size) (hx : Kd x0 x) (hf : ∀ i, i < P.length → fresh x0 (gth (gsOf P) i) x) (hy : objR s (gsOf P) x a = .ok y) :
    allMay (fsOf P y.1) = true ∧ At s a (layP (fsOf P y.1)) ∧ y.2 = a + (layP (fsOf P y.1)).size ∧ (∀ i, i < P.length → ∀ o, o ∈ (gth (gsOf P) i).offs → DOk (y.1 o)) ∧ ∀ o, (∀ i, i < P.length → o ∉ (gth (gsOf P) i).offs) → y.1 o = x o := by
  unfold objR at hy
  split at hy
  · cases hy
  · next n hn =>
    split at hy
    · cases hy
    · next z hz =>
      split at hy
      · cases hy
      · next hmi =>
        have hmi : missing (gsOf P) z.2.1 = false := by simpa using hmi
        cases hy
        obtain ⟨t1, t2, t3, t4, t5, t6, t7⟩ := tk_back (by decide) ha hn
        obtain ⟨i1, i2, i3, i4⟩ := loop_back h h00 _ 0 x [] _ z hz t6 (Nat.zero_le _) hx (fun i _ h2 => hf i h2) (fun i hi => by cases hi) hmi
        have e0 : fsFrom P z.1 0 = fsOf P z.1 := rfl
        rw [e0] at i1 i2 i3
        have hmp : laidP 4 n.1 n.2.1 = mapP (keptF (fsOf P z.1)).length := by
          rw [← i1]; unfold mapP; rw [show ((n.1.toNat : Nat) : Int) = n.1 by omega]; rfl
        rw [hmp] at t1 t2
        refine ⟨List.all_eq_true.2 fun f hf => ?_, ?_, ?_, fun i hi => (i4 i (Nat.zero_le _) hi).2, fun o ho => (loop_fine h _ 0 x [] _ z hz).1 o fun i _ hi => ho i hi⟩
        · obtain ⟨p, hp, rfl⟩ := List.mem_map.1 hf
          obtain ⟨i, hi, rfl⟩ := List.getElem_of_mem hp
          rw [← pth_eq P i hi]
          exact (i4 i (Nat.zero_le _) hi).1
        · unfold layP; rw [t2] at i2; exact t1.join i2
        · unfold layP; rw [ByteArray.size_append]
          show z.2.2 = a + ((mapP (keptF (fsOf P z.1)).length).size + (catF (fsOf P z.1)).size)
          rw [i3, t2]; omega
theorem fg_obj (key : ByteArray) (hk : key.size ≤ 10240) (h : FGs s x0 P) (h00 : ∀ o, DOk (x0 o)) (hpos : 0 < P.length) : FG s x0 (gobj s key (gsOf P)) (fun y => objSpec key (fsOf P y)) := by
  have hoffs : ∀ {i o : Nat}, i < P.length → o ∈ (gth (gsOf P) i).offs → o ∈ (gobj s key (gsOf P)).offs := fun {i o} hi ho => List.mem_flatMap.2 ⟨gth (gsOf P) i, by rw [gth_eq (gsOf P) i (by rw [gsOf_len]; exact hi)]; exact List.getElem_mem _, ho⟩
  have hloc : ∀ y z : Rcd, (∀ o, o ∈ (gobj s key (gsOf P)).offs → y o = z o) → fsOf P y = fsOf P z := fun y z hh => by
    unfold fsOf
    refine List.map_congr_left fun p hp => ?_
    obtain ⟨i, hi, rfl⟩ := List.getElem_of_mem hp
    rw [← pth_eq P i hi]
    exact (h.at hi).loc y z fun o ho => hh o (hoffs hi ho)
  have hemp : ∀ y, Kd x0 y → ((fsOf P y).all fun f => f.empty) = ((gsOf P).all fun g => g.empty y) := fun y hy => by
    unfold fsOf gsOf
    rw [List.all_map, List.all_map, Bool.eq_iff_iff, List.all_eq_true, List.all_eq_true]
    refine forall_congr' fun p => forall_congr' fun hp => ?_
    show (p.2 y).empty = true ↔ p.1.empty y = true
    rw [(h.fg p hp).emp y hy]
  have hfr : ∀ {x : Rcd}, fresh x0 (gobj s key (gsOf P)) x → ∀ i, i < P.length → fresh x0 (gth (gsOf P) i) x := fun {x} hx i hi o ho => hx o (hoffs hi ho)
  constructor
  · exact fun y => rfl
  · exact hk
  · intro y
    show ((fsOf P y).any fun f => f.must) = ((gsOf P).any fun g => g.must)
    unfold fsOf gsOf
    rw [List.any_map, List.any_map, Bool.eq_iff_iff, List.any_eq_true, List.any_eq_true]
    refine exists_congr fun p => and_congr_right fun hp => ?_
    show (p.2 y).must = true ↔ p.1.must = true
    rw [(h.fg p hp).must y]
  · intro y z hh
    show objSpec key (fsOf P y) = objSpec key (fsOf P z)
    rw [hloc y z hh]
  · exact fun y hy => hemp y hy
  · intro hm y
    have hm' : ((gsOf P).any fun g => g.must) = true := hm
    obtain ⟨g, hg, hgm⟩ := List.any_eq_true.1 hm'
    obtain ⟨p, hp, rfl⟩ := List.mem_map.1 hg
    show ((fsOf P y).all fun f => f.empty) = false
    rw [List.all_eq_false]
    exact ⟨p.2 y, List.mem_map.2 ⟨p, hp, rfl⟩, by rw [(h.fg p hp).full hgm y]; decide⟩
  · intro hm
    have hm' : ((gsOf P).any fun g => g.must) = false := hm
    rw [List.any_eq_false] at hm'
    have hu : ∀ p ∈ P, (p.2 x0).empty = true ∧ (p.2 x0).may = true := fun p hp => (h.fg p hp).un (by simpa using hm' p.1 (List.mem_map.2 ⟨p, hp, rfl⟩))
    refine ⟨List.all_eq_true.2 fun f hf => ?_, List.all_eq_true.2 fun f hf => ?_⟩
    · obtain ⟨p, hp, rfl⟩ := List.mem_map.1 hf; exact (hu p hp).1
    · obtain ⟨p, hp, rfl⟩ := List.mem_map.1 hf; exact (hu p hp).2
  · intro v hv he o ho
    obtain ⟨g, hg, hgo⟩ := List.mem_flatMap.1 ho
    obtain ⟨p, hp, rfl⟩ := List.mem_map.1 hg
    exact (h.fg p hp).zero v hv (List.all_eq_true.1 he _ (List.mem_map.2 ⟨p, hp, rfl⟩)) o hgo
  · intro x a y ha hf hx hy _
    obtain ⟨h1, h2, h3, h4, _⟩ := objR_back h h00 ha hx (hfr hf) hy
    refine ⟨h1, h2, h3, fun o ho => ?_⟩
    obtain ⟨g, hg, hgo⟩ := List.mem_flatMap.1 ho
    obtain ⟨p, hp, rfl⟩ := List.mem_map.1 hg
    obtain ⟨i, hi, rfl⟩ := List.getElem_of_mem hp
    exact h4 i hi o (by rw [gth_of hi, pth_eq P i hi]; exact hgo)
  · intro v x a hv hd hf hx hm he hA
    obtain ⟨y, h1, h2⟩ := objR_forth h hv hd hm hx (hfr hf) hA
    refine ⟨y, h1, fun o ho => ?_⟩
    obtain ⟨g, hg, hgo⟩ := List.mem_flatMap.1 ho
    obtain ⟨p, hp, rfl⟩ := List.mem_map.1 hg
    obtain ⟨i, hi, rfl⟩ := List.getElem_of_mem hp
    exact h2 i hi o (by rw [gth_of hi, pth_eq P i hi]; exact hgo)
theorem readR_back (h : FGs s x0 P) (h00 : ∀ o, DOk (x0 o)) {y : Rcd} (hy : readR s (gsOf P) x0 = .ok y) : allMay (fsOf P y) = true ∧ layP (fsOf P y) = s ∧ ∀ o, DOk (y o) := by
  unfold readR at hy
  split at hy
  · cases hy
  · next z hz =>
    split at hy
    · cases hy
    · next hlt =>
      cases hy
      obtain ⟨h1, h2, h3, h4, h5⟩ := objR_back h h00 (Nat.zero_le _) (fun i => rfl) (fun i _ o _ => rfl) hz
      refine ⟨h1, ?_, fun o => ?_⟩
      rotate_left
      · by_cases hex : ∃ i, i < P.length ∧ o ∈ (gth (gsOf P) i).offs
        · obtain ⟨i, hi, ho⟩ := hex
          exact h4 i hi o ho
        · rw [h5 o fun i hi ho => hex ⟨i, hi, ho⟩]; exact h00 o
      obtain ⟨_, R, e⟩ := h2
      rw [List.drop_zero] at e
      have := congrArg List.length e
      rw [List.length_append, ba_len, ba_len] at this
      have hR : R = [] := List.eq_nil_of_length_eq_zero (by omega)
      rw [hR, List.append_nil] at e
      exact ba_ext e.symm
end Go.Proofs.YtihiaopilnjonaaGreatDoor
namespace Go.Proofs.YtihiaopilnjonaaGreatDoor
open Go.RowKit
set_option linter.unusedSimpArgs false
set_option linter.unusedVariables false
def dgsF (key : ByteArray) (o most : Nat) : Rcd → FSpec := manyF key o DV.l (fun l => mayB l most) binP
theorem mayB_iff (l : List ByteArray) (most : Nat) : mayB l most = true ↔ len l ≤ most ∧ ∀ x ∈ l, x.size = 32 := by
  unfold mayB
  rw [Bool.and_eq_true, decide_eq_true_iff, List.all_eq_true]
  exact and_congr_right fun _ => forall_congr' fun x => forall_congr' fun _ => decide_eq_true_iff
theorem fg_digs {s : ByteArray} {x0 : Rcd} (key : ByteArray) (o most : Nat) (hk : key.size ≤ 10240) (hm : most ≤ 10240) (h0 : x0 o = .strs []) : FG s x0 (gdigs s key o most) (dgsF key o most) :=
  fg_many key o most .strs DV.l (fun l => mayB l most) (fun x => x.size = 32) binP (rdig s) (fun _ => True) hk hm h0 (fun _ => rfl)
    (fun d h => by cases d <;> first | rfl | (cases h)) (fun _ => rfl) (fun l => mayB_iff l most) (fun l => ⟨fun _ _ _ => trivial, fun _ => trivial⟩)
    (fun a x ha h => by obtain ⟨h1, h2, h3⟩ := rdig_back ha h; exact ⟨h1, h2, h3, trivial⟩) (fun x _ h a hA => rdig_forth hA h)
def sigFP (s : ByteArray) (o : Nat) : List FPair := [(gnum s ⟨#[105]⟩ o, numF ⟨#[105]⟩ o), (gdigs s ⟨#[112]⟩ (o + 2) 16, dgsF ⟨#[112]⟩ (o + 2) 16), (gdigs s ⟨#[118]⟩ (o + 1) 67, dgsF ⟨#[118]⟩ (o + 1) 67)]
def slotFP (s : ByteArray) (o : Nat) : List FPair := [(gobj s ⟨#[103]⟩ (gsOf (sigFP s (o + 2))), fun y => objSpec ⟨#[103]⟩ (fsOf (sigFP s (o + 2)) y)), (gnum s ⟨#[108]⟩ o, numF ⟨#[108]⟩ o), (gflag s ⟨#[115]⟩ (o + 1), flagF ⟨#[115]⟩ (o + 1))]
theorem fgs_sig {s : ByteArray} {x0 : Rcd} (o : Nat) (hK : KSig x0 o) (h0 : x0 o = .num 0) : FGs s x0 (sigFP s o) :=
  ⟨by
    unfold sigFP
    simp only [List.mem_cons, List.not_mem_nil, or_false]
    rintro p (rfl | rfl | rfl)
    · exact fg_num _ _ (by decide) h0
    · exact fg_digs _ _ _ (by decide) (by decide) hK.c2
    · exact fg_digs _ _ _ (by decide) (by decide) hK.c1, SigOk s o hK, by show 3 ≤ 1000; decide⟩
theorem fgs_slot {s : ByteArray} {x0 : Rcd} (o : Nat) (hK : KSlot x0 o) (h0 : x0 o = .num 0) (h1 : x0 (o + 1) = .flag false) (h2 : x0 (o + 2) = .num 0) (h00 : ∀ o, DOk (x0 o)) : FGs s x0 (slotFP s o) :=
  ⟨by
    unfold slotFP
    simp only [List.mem_cons, List.not_mem_nil, or_false]
    rintro p (rfl | rfl | rfl)
    · exact fg_obj _ (by decide) (fgs_sig (o + 2) hK.c2 h2) h00 (by show 0 < 3; decide)
    · exact fg_num _ _ (by decide) h0
    · exact fg_flag _ _ (by decide) h1, SlotOk s o hK, by show 3 ≤ 1000; decide⟩
theorem slot0_ok (o : Nat) : DOk (slot0 o) := by
  unfold slot0; split <;> first | trivial | exact ⟨by decide, by decide⟩
def RvOk (r : RevD) : Prop := ∀ o, POk (revC r o)
structure CertOkD (sg : Int) (rs : List RevD) (cs : List Int) : Prop where
  sg : U64i sg
  cs : ∀ n ∈ cs, U64i n
  rs : ∀ r ∈ rs, RvOk r
theorem slot_back {s : ByteArray} {y : Rcd} (h : readR s (slotGs s 0) slot0 = .ok y) : allMay (slotSpecs (y 0).n (y 1).q (y 2).n (y 3).l (y 4).l) = true ∧ layP (slotSpecs (y 0).n (y 1).q (y 2).n (y 3).l (y 4).l) = s ∧ ∀ o, DOk (y o) :=
  readR_back (fgs_slot (s := s) (x0 := slot0) 0 ⟨rfl, rfl, ⟨rfl, rfl, rfl⟩⟩ rfl rfl rfl slot0_ok) slot0_ok h
end Go.Proofs.YtihiaopilnjonaaGreatDoor
namespace Go.Proofs.YtihiaopilnjonaaGreatDoor
open Go.RowKit
set_option linter.unusedSimpArgs false
set_option linter.unusedVariables false
def putB (w : World) (t : Nat) (y : Obj) : World := { w with heap := w.heap.setIfInBounds t y }
theorem putB_ne {w : World} {t k : Nat} {y : Obj} (h : k ≠ t) : (putB w t y).heap[k]? = w.heap[k]? := by
  show (w.heap.setIfInBounds t y)[k]? = _
  rw [Array.getElem?_setIfInBounds_ne (fun e => h e.symm)]
theorem putB_size (w : World) (t : Nat) (y : Obj) : (putB w t y).heap.size = w.heap.size := Array.size_setIfInBounds
theorem putB_at {w : World} {t : Nat} {y x : Obj} (h : (putB w t y).heap[t]? = some x) : x = y := by
  have h' : (w.heap.setIfInBounds t y)[t]? = some x := h
  by_cases hl : t < w.heap.size
  · rw [Array.getElem?_setIfInBounds_self_of_lt hl] at h'; cases h'; rfl
  · rw [Array.getElem?_eq_none (by rw [Array.size_setIfInBounds]; omega)] at h'; cases h'
theorem keep_putB {B t : Nat} {w w' : World} (hb : Below w.heap.size w w') (hB : B ≤ w.heap.size) (ht : B ≤ t) (y : Obj) : Keep8 B (putB w t y) (putB w' t y) := by
  refine ⟨by rw [putB_size]; exact hB, by rw [putB_size, putB_size]; exact hb.size, fun k hk => ?_, fun k x hx hn => ?_⟩
  · rw [putB_ne (by omega), putB_ne (by omega)]; exact hb.block k (by omega)
  · by_cases e : k = t
    · subst e
      have hl : k < w.heap.size := by have := lt_of_block hx; rw [putB_size] at this; exact this
      have := putB_at hx
      subst this
      show (w'.heap.setIfInBounds k x)[k]? = some x
      rw [Array.getElem?_setIfInBounds_self_of_lt (Nat.lt_of_lt_of_le hl hb.size)]
    · rw [putB_ne e] at hx ⊢
      rw [hb.block k (lt_of_block hx)]; exact hx
def FIT (B t : Nat) (w : World) (v : FVal) (f : FSpec) : Prop := B ≤ w.heap.size ∧ B ≤ t ∧ ∀ y, FSem B (putB w t y) v f
theorem FIT.below {B t : Nat} {w w' : World} {v : FVal} {f : FSpec} (h : FIT B t w v f) (hb : Below w.heap.size w w') : FIT B t w' v f :=
  ⟨Nat.le_trans h.1 hb.size, h.2.1, fun y => (h.2.2 y).later (keep_putB hb h.1 h.2.1 y)⟩
def CellOff (B t : Nat) (w : World) (b o : Nat) (x : Value) : Prop := CellAt B w b o x ∧ b ≠ t
theorem CellOff.below {B t : Nat} {w w' : World} {b o : Nat} {x : Value} (h : CellOff B t w b o x) (hb : Below w.heap.size w w') : CellOff B t w' b o x := ⟨h.1.below hb, h.2⟩
def StrsOff (B t : Nat) (w : World) (a : Option Addr) (l : List ByteArray) : Prop := ∀ i, i < len l → ∃ b off, a = some ⟨b, off, none⟩ ∧ CellOff B t w b (off + i) (.string (sth l i))
theorem StrsOff.below {B t : Nat} {w w' : World} {a : Option Addr} {l : List ByteArray} (h : StrsOff B t w a l) (hb : Below w.heap.size w w') : StrsOff B t w' a l := fun i hi => by
  obtain ⟨b, off, e, hc⟩ := h i hi; exact ⟨b, off, e, hc.below hb⟩
section
variable {B t : Nat} {w : World}
end
end Go.Proofs.YtihiaopilnjonaaGreatDoor
namespace Go.Proofs.YtihiaopilnjonaaGreatDoor
set_option linter.unusedSimpArgs false
open Go.RowKit
set_option linter.unusedVariables false
def EsV (VO : Nat → Option Nat) (X : Nat → World → World → Prop) (j : Nat) (w w' : World) : Prop := w.grownBy w' (VO j) ∧ X j w w'
theorem esV_refl {VO : Nat → Option Nat} {X : Nat → World → World → Prop} {j : Nat} (hX : ∀ j w, X j w w) (w : World) : EsV VO X j w w := ⟨⟨rfl, rfl, rfl, Nat.le_refl _, fun _ _ _ => rfl⟩, hX j w⟩
theorem esV_of_ext {VO : Nat → Option Nat} {X : Nat → World → World → Prop} {j : Nat} {w w' : World} (h : Ext w w') (hx : X j w w') : EsV VO X j w w' := ⟨⟨h.os, h.tape, h.output, h.size, fun i hi _ => h.block i hi⟩, hx⟩
structure ExtS (VO : Nat → Option Nat) (w w' : World) : Prop where
  os : w'.os = w.os
  tape : w'.tape = w.tape
  output : w'.output = w.output
  size : w.heap.size ≤ w'.heap.size
  block : ∀ k, k < w.heap.size → (∀ j, VO j ≠ some k) → w'.heap[k]? = w.heap[k]?
theorem ExtS.refl (VO : Nat → Option Nat) (w : World) : ExtS VO w w := ⟨rfl, rfl, rfl, Nat.le_refl _, fun _ _ _ => rfl⟩
theorem ExtS.step {VO : Nat → Option Nat} {X : Nat → World → World → Prop} {j : Nat} {a b c : World} (h : ExtS VO a b) (k' : EsV VO X j b c) : ExtS VO a c :=
  have k := k'.1
  ⟨k.os.trans h.os, k.tape.trans h.tape, k.output.trans h.output, Nat.le_trans h.size k.size, fun i hi hn => (k.block i (Nat.lt_of_lt_of_le hi h.size) (fun e => hn j e.symm)).trans (h.block i hi hn)⟩
structure Here (VO : Nat → Option Nat) (I : World → Prop) (ops : List Oper) (w0 w : World) (D : Nat → Prop) (i : Nat) : Prop where
  ext : ExtS VO w0 w
  inv : I w
  late : ∀ j, ¬ D j → ∀ b, VO j = some b → b < w0.heap.size → w.heap[b]? = w0.heap[b]?
  notyet : ∀ (j : Nat) oj, ops[j]? = some oj → ∀ e ∈ oj.after, Region.binds .any e = true → ¬ D e.on → ¬ D j
  me : ¬ D i
theorem Here.own {VO : Nat → Option Nat} {I : World → Prop} {ops : List Oper} {w0 w : World} {D : Nat → Prop} {i : Nat} (h : Here VO I ops w0 w D i) : ∀ b, VO i = some b → b < w0.heap.size → w.heap[b]? = w0.heap[b]? := h.late i h.me
section
variable (P : Program) (ops : List Oper) (a0 : Act) (w0 : World) (VO : Nat → Option Nat) (X : Nat → World → World → Prop) (I : World → Prop) (PR : Nat → Nat → Value → Value → World → Prop) (Φ : Nat → Value → World → Prop) (Q : Exit → Act → World → Prop)
def PairAt (D : Nat → Prop) (a : Act) (i : Nat) (v : Value) (w' : World) : Prop := ∀ j oj, ops[j]? = some oj → D j → j ≠ i → PR i j v (slotOf oj a) w' ∧ PR j i (slotOf oj a) v w'
def StepAtV (hd : Nat) (i : Nat) (o : Oper) : Prop := ∀ (D : Nat → Prop) a w, (∀ j oj, ops[j]? = some oj → D j → Φ j (slotOf oj a) w) → Here VO I ops w0 w D i → Outer ops a0 hd a → Deps ops Φ a w o.after.toList →
  if Region.wanted o (yielded ops.toArray a.tmps) then o.wp P a w (fun a' w' => ∃ v, a' = a.put o.dst v ∧ EsV VO X i w w' ∧ Φ i (valOf o v) w' ∧ PairAt ops PR D a i (valOf o v) w') Q else Φ i undef w ∧ ∀ j vi vj w, PR i j vi vj w ∧ PR j i vi vj w
structure RInvV (n : Nat) (listed : Array Bool) (a : Act) (w : World) : Prop where
  head : HeadInv .any ops.toArray n listed
  ext : ExtS VO w0 w
  inv : I w
  ext0 : ∀ i, listed.getD i true = false → ∀ b, VO i = some b → b < w0.heap.size → w.heap[b]? = w0.heap[b]?
  outer : Outer ops a0 n a
  done : ∀ (i : Nat) o, ops[i]? = some o → listed.getD i true = true → Φ i (slotOf o a) w
  pair : ∀ i j oi oj, ops[i]? = some oi → ops[j]? = some oj → listed.getD i true = true → listed.getD j true = true → i ≠ j → PR i j (slotOf oi a) (slotOf oj a) w
variable {P ops a0 w0 VO X I PR Φ Q}
theorem slotv_same {o : Oper} {i : Nat} {a : Act} {v : Value} (hB : regOk ops a0.tmps.size = true) (hs : a.tmps.size = a0.tmps.size) (ho : ops[i]? = some o) : slotOf o (a.put o.dst v) = valOf o v := by
  unfold slotOf valOf
  cases hd : o.dst with
  | none => rfl
  | some d =>
    have hdl : ∀ d ∈ dstsOf ops, d < a0.tmps.size := by
      unfold regOk at hB; simp only [Bool.and_eq_true] at hB
      intro d hd; simpa using List.all_eq_true.1 hB.2 d hd
    have hmem : d ∈ dstsOf ops := List.mem_filterMap.2 ⟨o, List.mem_of_getElem? ho, hd⟩
    exact eval_put_same (by rw [hs]; exact hdl d hmem)
theorem slot_other {o oj : Oper} {i j : Nat} {a : Act} {v : Value} (hB : regOk ops a0.tmps.size = true) (hij : i ≠ j) (ho : ops[i]? = some o) (hoj : ops[j]? = some oj) : slotOf oj (a.put o.dst v) = slotOf oj a := by
  have hnd : (dstsOf ops).Nodup := by unfold regOk at hB; simp only [Bool.and_eq_true, decide_eq_true_eq] at hB; exact hB.1.2
  unfold slotOf
  cases hdj : oj.dst with
  | none => rfl
  | some d =>
    cases hdo : o.dst with
    | none => rfl
    | some d' =>
      have hne : d ≠ d' := by
        rintro rfl
        exact dst_two hnd hij ho hoj hdo hdj
      exact eval_put_ne hne
theorem RInvV.next {n : Nat} (hB : regOk ops a0.tmps.size = true) (hVO : ∀ i j b, VO i = some b → VO j = some b → i = j)
    (hmono : ∀ i j v w w', i ≠ j → EsV VO X j w w' → Φ i v w → Φ i v w') (hI : ∀ j w w', EsV VO X j w w' → I w → I w') (hmonoP : ∀ i j k vi vj w w', k ≠ i → k ≠ j → EsV VO X k w w' → PR i j vi vj w → PR i j vi vj w') {listed : Array Bool} {a : Act} {w : World} (inv : RInvV ops a0 w0 VO I PR Φ n listed a w)
    {i : Nat} {o : Oper} (hi : i ∈ Region.ready .any ops.toArray listed) (hin : i < n) (ho' : ops[i]? = some o) {v : Value} {w' : World} (he : EsV VO X i w w') (hv : Φ i (valOf o v) w') (hpr : PairAt ops PR (fun j => listed.getD j true = true) a i (valOf o v) w') :
    RInvV ops a0 w0 VO I PR Φ n (listed.setIfInBounds i true) (a.put o.dst v) w' := by
  have hnd : (dstsOf ops).Nodup := by unfold regOk at hB; simp only [Bool.and_eq_true, decide_eq_true_eq] at hB; exact hB.1.2
  have hdl : ∀ d ∈ dstsOf ops, d < a0.tmps.size := by
    unfold regOk at hB; simp only [Bool.and_eq_true] at hB
    intro d hd; simpa using List.all_eq_true.1 hB.2 d hd
  refine ⟨inv.head.set hi hin, inv.ext.step he, hI _ _ _ he inv.inv, fun k hl b hb hlt => ?_, ?_, ?_, fun i1 j1 oi oj hoi hoj l1 l2 hne => ?_⟩
  · by_cases his : k = i
    · exfalso
      subst his
      obtain ⟨hun, o', ho, _⟩ := mem_ready.1 hi
      have hil : k < listed.size := by rw [inv.head.size]; exact (Array.getElem?_eq_some_iff.1 ho).1
      simp [hil] at hl
    · rw [getD_set_ne true (Ne.symm his)] at hl
      have h1 := inv.ext0 k hl b hb hlt
      rw [← h1]
      exact he.1.block b (Nat.lt_of_lt_of_le hlt inv.ext.size) (fun e => his (hVO k i b hb e.symm))
  · obtain ⟨h1, h2, h3⟩ := inv.outer
    cases hd : o.dst with
    | none => exact ⟨h1, h2, h3⟩
    | some d =>
      refine ⟨h1, by simp [Act.put, h2], fun t ht => ?_⟩
      have hmem : d ∈ dstsOf (ops.take n) := List.mem_filterMap.2 ⟨o, List.mem_of_getElem? (i := i) (by rw [List.getElem?_take, if_pos hin]; exact ho'), hd⟩
      rw [eval_put_ne (by rintro rfl; simp at ht; exact ht hmem)]; exact h3 t ht
  · intro j oj hoj hl
    by_cases hij : j = i
    · subst hij
      have : oj = o := Option.some.inj (hoj.symm.trans ho')
      subst this
      unfold slotOf
      unfold valOf at hv
      cases hd : oj.dst with
      | none => simpa [hd] using hv
      | some d =>
        simp only [hd] at hv
        have hmem : d ∈ dstsOf ops := List.mem_filterMap.2 ⟨oj, List.mem_of_getElem? ho', hd⟩
        simp only
        rw [eval_put_same (by rw [inv.outer.2.1]; exact hdl d hmem)]; exact hv
    · rw [getD_set_ne true (Ne.symm hij)] at hl
      have h1 := hmono j i _ w w' hij he (inv.done j oj hoj hl)
      unfold slotOf at h1 ⊢
      cases hdj : oj.dst with
      | none => first | exact h1 | simpa [hdj] using h1
      | some d =>
        try simp only [hdj] at h1 ⊢
        cases hdo : o.dst with
        | none => exact h1
        | some d' =>
          have hne : d ≠ d' := by
            rintro rfl
            exact dst_two hnd (Ne.symm hij) ho' hoj hdo hdj
          rw [eval_put_ne hne]; exact h1
  · by_cases h1 : i1 = i
    · subst h1
      have e : oi = o := Option.some.inj (hoi.symm.trans ho')
      subst e
      rw [slotv_same hB inv.outer.2.1 ho', slot_other hB hne ho' hoj]
      exact (hpr j1 oj hoj (by rwa [getD_set_ne true hne] at l2) (Ne.symm hne)).1
    · by_cases h2 : j1 = i
      · subst h2
        have e : oj = o := Option.some.inj (hoj.symm.trans ho')
        subst e
        rw [slotv_same hB inv.outer.2.1 ho', slot_other hB (Ne.symm hne) ho' hoi]
        exact (hpr i1 oi hoi (by rwa [getD_set_ne true (Ne.symm hne)] at l1) hne).2
      · rw [slot_other hB (Ne.symm h1) ho' hoi, slot_other hB (Ne.symm h2) ho' hoj]
        exact hmonoP i1 j1 i _ _ w w' (Ne.symm h1) (Ne.symm h2) he (inv.pair i1 j1 oi oj hoi hoj (by rwa [getD_set_ne true (Ne.symm h1)] at l1) (by rwa [getD_set_ne true (Ne.symm h2)] at l2) hne)
theorem wpAnyV_head {n g : Nat} (hB : regOk ops a0.tmps.size = true) (hVO : ∀ i j b, VO i = some b → VO j = some b → i = j)
    (hmono : ∀ i j v w w', i ≠ j → EsV VO X j w w' → Φ i v w → Φ i v w') (hI : ∀ j w w', EsV VO X j w w' → I w → I w') (hmonoP : ∀ i j k vi vj w w', k ≠ i → k ≠ j → EsV VO X k w w' → PR i j vi vj w → PR i j vi vj w') (hX : ∀ j w, X j w w) (hnN : n ≤ ops.length)
    (hstep : ∀ (i : Nat) o, i < n → ops[i]? = some o → StepAtV P ops a0 w0 VO X I PR Φ Q n i o)
    (hlate : ∀ listed, HeadInv .any ops.toArray n listed → (∃ i, i < n ∧ listed.getD i true = false) → Region.ready .any ops.toArray listed ≠ [] ∧ ∀ t ∈ Region.ready .any ops.toArray listed, t < n)
    (hend : ∀ listed a w, RInvV ops a0 w0 VO I PR Φ n listed a w → (∀ i, i < n → listed.getD i true = true) → wpAny P .any ops.toArray Q g listed a w) :
    ∀ (fuel : Nat) (listed : Array Bool) (a : Act) (w : World), ((List.range n).filter (fun i => !listed.getD i true)).length = fuel → RInvV ops a0 w0 VO I PR Φ n listed a w →
      wpAny P .any ops.toArray Q (fuel + g) listed a w := by
  intro fuel
  induction fuel with
  | zero =>
    intro listed a w hf inv
    rw [Nat.zero_add]
    refine hend listed a w inv fun i hi => ?_
    cases h : listed.getD i true with
    | true => rfl
    | false =>
      have : i ∈ (List.range n).filter (fun i => !listed.getD i true) := List.mem_filter.2 ⟨List.mem_range.2 hi, by rw [h]; rfl⟩
      rw [List.eq_nil_of_length_eq_zero hf] at this; cases this
  | succ fuel ih =>
    intro listed a w hf inv
    rw [show fuel + 1 + g = (fuel + g) + 1 by omega]
    have hex : ∃ i, i < n ∧ listed.getD i true = false := by
      cases hl : (List.range n).filter (fun i => !listed.getD i true) with
      | nil => rw [hl] at hf; cases hf
      | cons x L =>
        have : x ∈ (List.range n).filter (fun i => !listed.getD i true) := by rw [hl]; exact List.mem_cons_self ..
        obtain ⟨h1, h2⟩ := List.mem_filter.1 this
        exact ⟨x, List.mem_range.1 h1, by simpa using h2⟩
    obtain ⟨hne, hlt⟩ := hlate listed inv.head hex
    refine ⟨fun hr => absurd hr hne, fun i hi => ?_⟩
    have hin := hlt i hi
    obtain ⟨hun, o, ho, hall⟩ := mem_ready.1 hi
    have ho' : ops[i]? = some o := by simpa using ho
    have hls : listed.size = ops.length := by rw [inv.head.size]; simp
    have hdep : Deps ops Φ a w o.after.toList := deps_of fun e he hb oj hoj => by
      have h1 := hall e (by simpa using he) hb
      refine inv.done e.on oj hoj ?_
      have h2 : e.on < listed.size := by
        rcases Nat.lt_or_ge e.on listed.size with h | h
        · exact h
        · simp [Array.getElem?_eq_none h] at h1
      simp [h2] at h1 ⊢; exact h1
    have hst := hstep i o hin ho' (fun j => listed.getD j true = true) a w (fun j oj hoj hl => inv.done j oj hoj hl)
      ⟨inv.ext, inv.inv, fun j hj => inv.ext0 j (by simpa using hj), fun j oj hoj e he hb hne hD => (by
        have hjl : j < listed.size := by rw [hls]; exact (List.getElem?_eq_some_iff.1 hoj).1
        have h1 := inv.head.closed j oj (by simpa using hoj) (by simp [hjl] at hD ⊢; exact hD) e he hb
        rcases Nat.lt_or_ge e.on listed.size with h | h
        · simp [h] at h1 hne; rw [h1] at hne; cases hne
        · simp [Array.getElem?_eq_none h] at h1), (by rw [hun]; exact Bool.false_ne_true)⟩ inv.outer hdep
    have next : ∀ v w', EsV VO X i w w' → Φ i (valOf o v) w' → PairAt ops PR (fun j => listed.getD j true = true) a i (valOf o v) w' → wpAny P .any ops.toArray Q (fuel + g) (listed.setIfInBounds i true) (a.put o.dst v) w' := by
      intro v w' he hv hpr
      refine ih _ _ _ ?_ (inv.next hB hVO hmono hI hmonoP hi hin ho' he hv hpr)
      have := head_count (listed := listed) (i := i) (by omega) hun _ List.nodup_range (List.mem_range.2 hin)
      omega
    unfold wpOp
    rw [ho]
    dsimp only
    by_cases hw : Region.wanted o (yielded ops.toArray a.tmps) = true
    · rw [if_pos hw] at hst ⊢
      left
      refine Oper.wp_mono (fun a' w' h => ?_) hst
      obtain ⟨v, rfl, he, hv, hpr⟩ := h
      exact next v w' he hv hpr
    · rw [if_neg hw] at hst ⊢
      have e : valOf o undef = undef := by unfold valOf; cases o.dst <;> rfl
      exact next undef w (esV_refl hX w) (by rw [e]; exact hst.1) (fun j oj _ _ _ => ⟨(hst.2 j _ _ w).1, (hst.2 j _ _ w).2⟩)
end
section
variable {P : Program} {Q : Exit → Act → World → Prop} {a : Act} {w : World} {l : List Oper} {VO : Nat → Option Nat} {X : Nat → World → World → Prop} {I : World → Prop} {PR : Nat → Nat → Value → Value → World → Prop} {Φ : Nat → Value → World → Prop}
theorem rinvV_start {n : Nat} (hI0 : I w.drew) (hn : n ≤ l.length) : RInvV l a w.drew VO I PR Φ n (Array.replicate l.length false) a w.drew :=
  ⟨⟨by simp, fun j oj _ hl => (by rw [getD_replicate_false] at hl; cases hl), fun t _ ht => getD_in (by simpa using ht) (getD_replicate_false _ _)⟩, ExtS.refl _ _, hI0, fun _ _ _ _ _ => rfl, ⟨rfl, rfl, fun _ _ => rfl⟩,
    fun i o ho hl => (by
      have hi := (List.getElem?_eq_some_iff.1 ho).1
      rw [getD_in (by simpa using hi) (getD_replicate_false _ _)] at hl; cases hl), fun i1 _ oi _ hoi _ l1 _ _ => (by
      have hi := (List.getElem?_eq_some_iff.1 hoi).1
      rw [getD_in (by simpa using hi) (getD_replicate_false _ _)] at l1; cases l1)⟩
theorem wp_region_tailV {id : Nat} (n : Nat) (VO : Nat → Option Nat) (hVO : ∀ i j b, VO i = some b → VO j = some b → i = j) (X : Nat → World → World → Prop) (I : World → Prop) (PR : Nat → Nat → Value → Value → World → Prop) (hX : ∀ j w, X j w w) (hI0 : I w.drew) (Φ : Nat → Value → World → Prop) (hm : P.follows .mixedOrders = true) (hB : regOk l a.tmps.size = true) (hT : regTail l n = true)
    (hmono : ∀ i j v w1 w', i ≠ j → EsV VO X j w1 w' → Φ i v w1 → Φ i v w') (hI : ∀ j w w', EsV VO X j w w' → I w → I w') (hmonoP : ∀ i j k vi vj w w', k ≠ i → k ≠ j → EsV VO X k w w' → PR i j vi vj w → PR i j vi vj w')
    (hstep : ∀ (i : Nat) o, i < n → l[i]? = some o → StepAtV P l a w.drew VO X I PR Φ Q n i o)
    (hend : ∀ a' w', ExtS VO w.drew w' → I w' → Outer l a n a' → AllDone l Φ a' w' 0 n → (∀ i j oi oj, l[i]? = some oi → l[j]? = some oj → i < n → j < n → i ≠ j → PR i j (slotOf oi a') (slotOf oj a') w') → wpList P l.toArray Q (l.drop n) a' w') : (Code.region id l.toArray true).wp P Q a w := by
  unfold regTail at hT
  simp only [Bool.and_eq_true, decide_eq_true_eq] at hT
  obtain ⟨⟨⟨hn, hs⟩, hc⟩, hseq⟩ := hT
  refine wp_region_any hm ?_
  have H := wpAnyV_head (P := P) (ops := l) (a0 := a) (w0 := w.drew) (VO := VO) (X := X) (I := I) (PR := PR) (Φ := Φ) (Q := Q) (n := n) (g := l.length - n) hB hVO hmono hI hmonoP hX (by omega) hstep
    (fun listed inv ⟨i, hi, hun⟩ => ⟨fun hr => (by
        have := all_of_ready_nil (a0 := a) hB (by rw [inv.size]; simp) hr i (by omega)
        rw [hun] at this; cases this), fun t ht => (by
        rcases Nat.lt_or_ge t n with h | h
        · exact h
        · exact absurd ht (tail_waits hs hc (by simpa using hn) inv (n - i) i rfl hi hun t h))⟩)
    (fun listed a' w' inv hall => (by
        have e := headDone_of (n := n) (N := l.length) (by rw [inv.head.size]; simp) hall (fun i h1 h2 => inv.head.tail i h1 (by simpa using h2)) (by omega)
        have h := wpAny_of_seq (P := P) (md := .any) (Q' := Q) (ops := l.toArray) (l.drop n) n listed a' w' (fun j => by simp [List.getElem?_drop]) (by rw [List.length_drop, e]; exact hseq)
          (hend a' w' inv.ext inv.inv inv.outer (allDone_of _ _ fun j _ h2 o ho => inv.done j o ho (hall j (by omega))) (fun i j oi oj hoi hoj h1 h2 hne => inv.pair i j oi oj hoi hoj (hall i h1) (hall j h2) hne))
        rwa [List.length_drop] at h))
    n (Array.replicate l.length false) a w.drew (start_count _ _ (by omega)) (rinvV_start hI0 (by omega))
  rw [show n + (l.length - n) = l.length by omega] at H
  simpa using H
end
def MonoAllV (VO : Nat → Option Nat) (X : Nat → World → World → Prop) : Nat → List (Value → World → Prop) → Prop
  | _, [] => True
  | i, φ :: r => (∀ j, j ≠ i → ∀ v w1 w', EsV VO X j w1 w' → φ v w1 → φ v w') ∧ MonoAllV VO X (i + 1) r
theorem monoV_at {VO : Nat → Option Nat} {X : Nat → World → World → Prop} : ∀ {L : List (Value → World → Prop)} {k : Nat}, MonoAllV VO X k L → ∀ i j v w1 w', j ≠ k + i → EsV VO X j w1 w' → L.getD i (fun _ _ => True) v w1 → L.getD i (fun _ _ => True) v w'
  | [], _, _, _, _, _, _, _, _, _, _ => by simp
  | φ :: r, k, h, 0, j, v, w1, w', hj, he, hp => h.1 j hj v w1 w' he hp
  | φ :: r, k, h, i + 1, j, v, w1, w', hj, he, hp => monoV_at (L := r) h.2 i j v w1 w' (by omega) he hp
theorem monoV_of {VO : Nat → Option Nat} {X : Nat → World → World → Prop} {L : List (Value → World → Prop)} (h : MonoAllV VO X 0 L) : ∀ i j v w1 w', i ≠ j → EsV VO X j w1 w' → phis L i v w1 → phis L i v w' := fun i j v w1 w' hij he hp =>
  monoV_at h i j v w1 w' (by omega) he hp
theorem monoV_eq {VO : Nat → Option Nat} {X : Nat → World → World → Prop} {i : Nat} {f : Value → Prop} : ∀ j, j ≠ i → ∀ v w1 w', EsV VO X j w1 w' → (fun v (_ : World) => f v) v w1 → (fun v (_ : World) => f v) v w' := fun _ _ _ _ _ _ h => h
def StepsFromV (P : Program) (ops : List Oper) (a0 : Act) (w0 : World) (VO : Nat → Option Nat) (X : Nat → World → World → Prop) (I : World → Prop) (PR : Nat → Nat → Value → Value → World → Prop) (Φ : Nat → Value → World → Prop) (Q : Exit → Act → World → Prop) (hd : Nat) : Nat → Nat → List Oper → Prop
  | _, 0, _ => True
  | _, _ + 1, [] => True
  | i, n + 1, o :: r => StepAtV P ops a0 w0 VO X I PR Φ Q hd i o ∧ StepsFromV P ops a0 w0 VO X I PR Φ Q hd (i + 1) n r
theorem stepsV_from {P : Program} {ops : List Oper} {a0 : Act} {w0 : World} {VO : Nat → Option Nat} {X : Nat → World → World → Prop} {I : World → Prop} {PR : Nat → Nat → Value → Value → World → Prop} {Φ : Nat → Value → World → Prop} {Q : Exit → Act → World → Prop} {hd : Nat} :
    ∀ (n k : Nat) (r : List Oper), StepsFromV P ops a0 w0 VO X I PR Φ Q hd k n r → ∀ (i : Nat) o, i < n → r[i]? = some o → StepAtV P ops a0 w0 VO X I PR Φ Q hd (k + i) o
  | 0, _, _, _, _, _, h, _ => by omega
  | _ + 1, _, [], _, _, _, _, h => by simp at h
  | n + 1, k, x :: r, h, 0, o, _, ho => by simp at ho; subst ho; exact h.1
  | n + 1, k, x :: r, h, i + 1, o, hi, ho => by
    have := stepsV_from n (k + 1) r h.2 i o (by omega) (by simpa using ho)
    rwa [Nat.add_assoc, Nat.add_comm 1 i] at this
theorem stepsV_of {P : Program} {ops : List Oper} {a0 : Act} {w0 : World} {VO : Nat → Option Nat} {X : Nat → World → World → Prop} {I : World → Prop} {PR : Nat → Nat → Value → Value → World → Prop} {Φ : Nat → Value → World → Prop} {Q : Exit → Act → World → Prop} {hd : Nat} (n : Nat)
    (h : StepsFromV P ops a0 w0 VO X I PR Φ Q hd 0 n ops) : ∀ (i : Nat) o, i < n → ops[i]? = some o → StepAtV P ops a0 w0 VO X I PR Φ Q hd i o := fun i o hi ho => by
  have := stepsV_from n 0 ops h i o hi ho
  rwa [Nat.zero_add] at this
section
variable {P : Program} {ops : List Oper} {a0 : Act} {w0 : World} {VO : Nat → Option Nat} {X : Nat → World → World → Prop} {I : World → Prop} {PR : Nat → Nat → Value → Value → World → Prop} {Φ : Nat → Value → World → Prop} {Q : Exit → Act → World → Prop} {hd : Nat} {i : Nat} {o : Oper}
theorem stepV_wp (h : ∀ (D : Nat → Prop) a w1, (∀ j oj, ops[j]? = some oj → D j → Φ j (slotOf oj a) w1) → Here VO I ops w0 w1 D i → Outer ops a0 hd a → Deps ops Φ a w1 o.after.toList →
    Region.wanted o (yielded ops.toArray a.tmps) = true ∧ o.wp P a w1 (fun a' w' => ∃ v, a' = a.put o.dst v ∧ EsV VO X i w1 w' ∧ Φ i (valOf o v) w' ∧ PairAt ops PR D a i (valOf o v) w') Q) : StepAtV P ops a0 w0 VO X I PR Φ Q hd i o := fun D a w1 hP hE hO hD => by
  obtain ⟨h1, h2⟩ := h D a w1 hP hE hO hD
  rw [if_pos h1]; exact h2
theorem stepV_val {v : Value} (hX : ∀ j w, X j w w) (hp : ∀ j vi vj w, PR i j vi vj w ∧ PR j i vi vj w) (h : ∀ (D : Nat → Prop) a w1, Here VO I ops w0 w1 D i → Outer ops a0 hd a → Deps ops Φ a w1 o.after.toList →
    Region.wanted o (yielded ops.toArray a.tmps) = true ∧ (execOp a.eval o).run P w1 = .ok (.value v) w1) (hφ : ∀ w1, Φ i (valOf o v) w1) : StepAtV P ops a0 w0 VO X I PR Φ Q hd i o := fun D a w1 hP hE hO hD => by
  obtain ⟨h1, h2⟩ := h D a w1 hE hO hD
  rw [if_pos h1]
  unfold Oper.wp
  rw [h2]
  exact ⟨v, rfl, esV_refl hX w1, hφ w1, fun j oj _ _ _ => ⟨(hp j _ _ w1).1, (hp j _ _ w1).2⟩⟩
end
end Go.Proofs.YtihiaopilnjonaaGreatDoor
namespace Go.Proofs.YtihiaopilnjonaaGreatDoor
open Go.RowKit
set_option linter.unusedSimpArgs false
set_option linter.unusedVariables false
theorem extB_setIn {w w1 : World} {b : Nat} (h : ExtB (some b) w w1) (o : Nat) (v : Value) : ExtB (some b) w (w1.setCell ⟨b, o, none⟩ v) :=
  ⟨h.os, h.tape, h.output, by simpa using h.size, fun i hi hn => by rw [Below.heap_setCell _ _ _ _ (fun e => hn (by rw [e]))]; exact h.block i hi hn⟩
def Up (rb : Nat) (w w' : World) : Prop := ∀ b, rb < b → b < w.heap.size → w'.heap[b]? = w.heap[b]?
theorem Tx.up {rb tb : Nat} {w w' : World} {a : Option Addr} {l : List ByteArray} (h : Tx w a l) (ho : Off rb tb a) (hu : Up rb w w') : Tx w' a l := h.keep fun b off cs e h2 => hu b (ho b off e).1 (lt_of_block h2)
theorem Ux.up {rb tb : Nat} {w w' : World} {a : Option Addr} {l : List Int} (h : Ux w a l) (ho : Off rb tb a) (hu : Up rb w w') : Ux w' a l := h.keep fun b off cs e h2 => hu b (ho b off e).1 (lt_of_block h2)
theorem RevIs.up {rb tb : Nat} {w w' : World} {r : Rev} {d : RevD} (h : RevIs rb tb w r d) (hu : Up rb w w') : RevIs rb tb w' r d :=
  ⟨h.pos, h.L, h.signed, h.idx, h.wn, h.ws.up h.wo hu, h.wo, h.pn, h.ps.up h.po hu, h.po, h.root, h.wt, h.first, h.life, h.keys⟩
theorem HoldsD.up {rb tb : Nat} {w w' : World} {v : Value} {d : DV} (h : HoldsD rb tb w v d) (hu : Up rb w w') : HoldsD rb tb w' v d := by
  cases d with
  | num n => exact h
  | flag q => exact h
  | str s => exact h
  | strs l => obtain ⟨a, c, h1, h2, h3, h4⟩ := h; exact ⟨a, c, h1, h2, h3, h4.up h3 hu⟩
  | nums l => obtain ⟨a, c, h1, h2, h3, h4⟩ := h; exact ⟨a, c, h1, h2, h3, h4.up h3 hu⟩
  | revs l =>
    obtain ⟨a, c, h1, h2, h3, rs, h4, h5, h6⟩ := h
    refine ⟨a, c, h1, h2, h3, rs, h4, fun i hi => ?_, fun i hi => (h6 i hi).up hu⟩
    obtain ⟨b, off, rfl, hc⟩ := h5 i hi
    have e : ∀ q, w'.cell? ⟨b, q, none⟩ = w.cell? ⟨b, q, none⟩ := fun q => World.cell?_of_block (w := w) (hu b (h3 b off rfl).1 (lt_of_cell hc.c0))
    obtain ⟨c0, c1, c2, c3, c4, c5, c6, c7, c8, c9, c10⟩ := hc
    exact ⟨b, off, rfl, by constructor <;> (rw [e]; assumption)⟩
theorem arr5 {cs : Array Value} (h : cs.size = 5) : ∃ u0 u1 u2 u3 u4 : Value, cs = #[u0, u1, u2, u3, u4] := by
  obtain ⟨l⟩ := cs
  match l, h with
  | [a, b, c, d, e], _ => exact ⟨a, b, c, d, e, rfl⟩
theorem assert_stop (f : Nat) (w : World) : (Instr.typeAssert (.iface 193 (.agg #[.iface 127 (.pointer (some ⟨f, 0, none⟩))])) 20 193 true).run Tryz.prog w = .ok (.tuple #[.agg #[.iface 127 (.pointer (some ⟨f, 0, none⟩))], .bool true]) w := by kernel_rfl
set_option maxRecDepth 100000 in
theorem read1_frame (p q x : Value) : #[p, q] ++ ((Array.replicate 18 undef).setIfInBounds 4 x).setIfInBounds 0 x = #[p, q, x, undef, undef, undef, x, undef, undef, undef, undef, undef, undef, undef, undef, undef, undef, undef, undef, undef] := by
  simp [Array.replicate, List.replicate]
abbrev cellsPart (x : Rcd) : Array Value := #[.string (x 0).s, .int .u64 (x 1).n, .int .u64 (x 2).n, .int .u64 (x 3).n, .int .u64 (x 4).n]
abbrev zeroPart : Value := .agg #[.string ⟨#[]⟩, .int .u64 0, .int .u64 0, .int .u64 0, .int .u64 0]
def LiesPart (rb tb : Nat) (w : World) (x : Rcd) : Prop := True
theorem LiesPart.below {rb tb : Nat} {w w' : World} {x : Rcd} (h : LiesPart rb tb w x) (hb : Below w.heap.size w w') : LiesPart rb tb w' x := trivial
theorem LiesPart.chg {rb tb : Nat} {w w' : World} {x : Rcd} (h : LiesPart rb tb w x) (hb : Chg rb tb w w') : LiesPart rb tb w' x := trivial
theorem LiesPart.up {rb tb : Nat} {w w' : World} {x : Rcd} (h : LiesPart rb tb w x) (hb : Up rb w w') : LiesPart rb tb w' x := trivial
theorem part_of_rec {rb tb : Nat} {w : World} {x : Rcd} (h : RecAt rb tb 46 5 w x) (hk : Kd part0 x) : ∃ (_ : Unit), w.heap[tb]? = some (.cells (cellsPart x) 46 (0, 0)) ∧ LiesPart rb tb w x := by
  obtain ⟨cs, h1, h2, h3⟩ := h
  obtain ⟨m0, e0⟩ := hk.str (show kindD (part0 0) = _ from rfl)
  obtain ⟨u0, g0, d0⟩ := h3 0 (by decide)
  rw [e0] at d0
  simp only [HoldsD] at d0
  subst d0
  obtain ⟨m1, e1⟩ := hk.num (show kindD (part0 1) = _ from rfl)
  obtain ⟨u1, g1, d1⟩ := h3 1 (by decide)
  rw [e1] at d1
  simp only [HoldsD] at d1
  subst d1
  obtain ⟨m2, e2⟩ := hk.num (show kindD (part0 2) = _ from rfl)
  obtain ⟨u2, g2, d2⟩ := h3 2 (by decide)
  rw [e2] at d2
  simp only [HoldsD] at d2
  subst d2
  obtain ⟨m3, e3⟩ := hk.num (show kindD (part0 3) = _ from rfl)
  obtain ⟨u3, g3, d3⟩ := h3 3 (by decide)
  rw [e3] at d3
  simp only [HoldsD] at d3
  subst d3
  obtain ⟨m4, e4⟩ := hk.num (show kindD (part0 4) = _ from rfl)
  obtain ⟨u4, g4, d4⟩ := h3 4 (by decide)
  rw [e4] at d4
  simp only [HoldsD] at d4
  subst d4
  refine ⟨(), ?_, ?_⟩
  · rw [h1]; congr 2; apply Array.ext_getElem?; intro i
    match i with
    | 0 => rw [g0]; simp [e0, DV.n, DV.q, DV.s, DV.l, DV.ns, DV.rs]
    | 1 => rw [g1]; simp [e1, DV.n, DV.q, DV.s, DV.l, DV.ns, DV.rs]
    | 2 => rw [g2]; simp [e2, DV.n, DV.q, DV.s, DV.l, DV.ns, DV.rs]
    | 3 => rw [g3]; simp [e3, DV.n, DV.q, DV.s, DV.l, DV.ns, DV.rs]
    | 4 => rw [g4]; simp [e4, DV.n, DV.q, DV.s, DV.l, DV.ns, DV.rs]
    | i + 5 => rw [Array.getElem?_eq_none (by omega), Array.getElem?_eq_none (by simp)]
  · trivial
set_option maxRecDepth 100000 in
theorem read1Part_idle (p q : Value) (w : World) : CallsD Tryz.prog 121 #[p, q] .returning w fun e u' w' => e = .returned (.tuple #[]) ∧ u' = .returning ∧ w' = w := by
  refine callsD_of_wpS Tryz.func121 rfl fun c₀ cs hu => ?_
  apply wpS_seq
  apply wpS_region
  simp [wpOpsS, go_sem, recoverD, hu, Tryz.ntmps121, Exit.thenS]
  refine wpS_of_wp ?_
  obtain ⟨Q, hQ⟩ : ∃ Q : Exit → Act → World → Prop, (fun e a' w' => bodyPostS Tryz.prog Tryz.f121 c₀ cs (fun e u' w' => e = Ending.returned (.tuple #[]) ∧ u' = .returning ∧ w' = w) e a' (c₀ :: cs) w') = Q := ⟨_, rfl⟩
  rw [hQ, read1_frame]
  have HQ := Lib.hid hQ
  clear hQ
  go_wp2
  rw [← HQ.out]
  simp [bodyPostS, results, Tryz.results121]
  cases c₀; simp_all
structure AfterPart (tb eb fb : Nat) (w w' : World) : Prop where
  os : w'.os = w.os
  tape : w'.tape = w.tape
  output : w'.output = w.output
  size : w.heap.size ≤ w'.heap.size
  block : ∀ i, i < w.heap.size → i ≠ tb → i ≠ eb → w'.heap[i]? = w.heap[i]?
  th : w'.heap[tb]? = some (.cells #[.string ⟨#[]⟩, .int .u64 0, .int .u64 0, .int .u64 0, .int .u64 0] 46 (0, 0))
  er : w'.heap[eb]? = some (.cells #[.iface 127 (.pointer (some ⟨fb, 0, none⟩))] 59 (0, 0))
set_option maxRecDepth 100000 in
set_option maxHeartbeats 4000000 in
theorem read1Part_some (tb eb fb : Nat) (cs : Array Value) (w : World) (ht : w.heap[tb]? = some (.cells cs 46 (0, 0))) (hcs : ∃ u0 u1 u2 u3 u4 : Value, cs = #[u0, u1, u2, u3, u4] ) (he : w.heap[eb]? = some (.cells #[.nilIface] 59 (0, 0))) (hne : tb ≠ eb) :
    CallsD Tryz.prog 121 #[.pointer (some ⟨tb, 0, none⟩), .pointer (some ⟨eb, 0, none⟩)] (.panicking (stopC fb)) w fun e u' w' =>
      e = .returned (.tuple #[]) ∧ u' = .panicking [{ v := .iface 193 (.agg #[.iface 127 (.pointer (some ⟨fb, 0, none⟩))]), recovered := true }] ∧ AfterPart tb eb fb w w' := by
  obtain ⟨u0, u1, u2, u3, u4, rfl⟩ := hcs
  refine callsD_of_wpS Tryz.func121 rfl fun c₀ cs hu => ?_
  apply wpS_seq
  apply wpS_region
  simp [wpOpsS, go_sem, recoverD, hu, stopC, Tryz.ntmps121, Exit.thenS]
  refine wpS_of_wp ?_
  obtain ⟨Q, hQ⟩ : ∃ Q : Exit → Act → World → Prop, (fun e a' w' => bodyPostS Tryz.prog Tryz.f121 c₀ cs (fun e u' w' => e = Ending.returned (.tuple #[]) ∧ u' = .panicking [{ v := .iface 193 (.agg #[.iface 127 (.pointer (some ⟨fb, 0, none⟩))]), recovered := true }] ∧ AfterPart tb eb fb w w') e a' ({ c₀ with mode := .panicking [{ v := .iface 193 (.agg #[.iface 127 (.pointer (some ⟨fb, 0, none⟩))]), recovered := true }] } :: cs) w') = Q := ⟨_, rfl⟩
  rw [hQ, read1_frame]
  have HQ := Lib.hid hQ
  have HT := Lib.hid ht
  have HE := Lib.hid he
  clear hQ hu ht he
  have ha := assert_stop fb
  go_wp2_with fail
  obtain ⟨V, hV⟩ : ∃ V, (w.alloc (.cells #[.iface 127 (.pointer (some ⟨fb, 0, none⟩))] 193)).alloc (.cells #[.string ⟨#[]⟩, .int .u64 0, .int .u64 0, .int .u64 0, .int .u64 0] 46) = V := ⟨_, rfl⟩
  obtain ⟨sb, hsb⟩ : ∃ sb, w.heap.size = sb := ⟨_, rfl⟩
  have HV : Hid (Below w.heap.size w V) := Lib.hid (by rw [← hV]; exact balloc (balloc (Below.refl _ _) _) _)
  have hbs : V.heap[sb]? = some (.cells #[.iface 127 (.pointer (some ⟨fb, 0, none⟩))] 193 (0, 0)) := by rw [← hV, ← hsb]; exact block_alloc (heap_alloc_new _ _) _
  have hbn : V.heap[sb + 1]? = some (.cells #[.string ⟨#[]⟩, .int .u64 0, .int .u64 0, .int .u64 0, .int .u64 0] 46 (0, 0)) := by rw [← hV]; exact alloc_new_at _ (by simp [hsb])
  have hbt : V.heap[tb]? = some (.cells #[u0, u1, u2, u3, u4] 46 (0, 0)) := (HV.out.block _ (lt_of_block HT.out)).trans HT.out
  have hbe : V.heap[eb]? = some (.cells #[.nilIface] 59 (0, 0)) := (HV.out.block _ (lt_of_block HE.out)).trans HE.out
  have k0 : V.cell? ⟨sb, 0, none⟩ = some (.iface 127 (.pointer (some ⟨fb, 0, none⟩))) := block_cell hbs 0
  have m0 : V.cell? ⟨sb + 1, 0, none⟩ = some (.string ⟨#[]⟩) := block_cell hbn 0
  have m1 : V.cell? ⟨sb + 1, 1, none⟩ = some (.int .u64 0) := block_cell hbn 1
  have m2 : V.cell? ⟨sb + 1, 2, none⟩ = some (.int .u64 0) := block_cell hbn 2
  have m3 : V.cell? ⟨sb + 1, 3, none⟩ = some (.int .u64 0) := block_cell hbn 3
  have m4 : V.cell? ⟨sb + 1, 4, none⟩ = some (.int .u64 0) := block_cell hbn 4
  have hts : tb < sb := by have := lt_of_block HT.out; omega
  have hnt : some (sb + 1) ≠ some tb := by simp; omega
  have hst : some sb ≠ some tb := by simp; omega
  have HBT := Lib.hid hbt
  have HBE := Lib.hid hbe
  try rw [hV]
  try simp only [hsb]
  clear hV hbs hbn hbt hbe ha
  refine wp_region_tail 4 3 ((some tb)) (phis [fun u _ => u = (.agg #[.string ⟨#[]⟩, .int .u64 0, .int .u64 0, .int .u64 0, .int .u64 0]), fun u _ => u = (.pointer (some ⟨sb, 0, none⟩)), fun u _ => u = (.iface 127 (.pointer (some ⟨fb, 0, none⟩))), fun _ w' => w'.heap[tb]? = some (.cells #[.string ⟨#[]⟩, .int .u64 0, .int .u64 0, .int .u64 0, .int .u64 0] 46 (0, 0))]) rfl (by kernel_rfl) (by kernel_rfl) (mono_of ⟨mono_eq, mono_eq, mono_eq, ?m3, trivial⟩) (steps_of 4 ⟨?s0, ?s1, ?s2, ?s3, trivial⟩) ?_
  case m3 =>
    exact ⟨fun u w1 w2 h hb => ext_block h hb, fun hn => absurd rfl hn⟩
  case s0 =>
    refine step_val (v := (.agg #[.string ⟨#[]⟩, .int .u64 0, .int .u64 0, .int .u64 0, .int .u64 0])) (fun av wv hE hS hO hD => ?_) (fun _ => rfl)
    have h5 : av.eval (.tmp 5) = (.pointer (some ⟨sb + 1, 0, none⟩)) := hO.2.2 5 rfl
    have f5 := (ev_form av 5).symm.trans h5
    have k0 := extB_cell hE hst k0
    have m0 := extB_cell hE hnt m0
    have m1 := extB_cell hE hnt m1
    have m2 := extB_cell hE hnt m2
    have m3 := extB_cell hE hnt m3
    have m4 := extB_cell hE hnt m4
    refine ⟨rfl, ?_⟩
    simp [go_sem, f5, k0, m0, m1, m2, m3, m4]
  case s1 =>
    refine step_val (v := (.pointer (some ⟨sb, 0, none⟩))) (fun av wv hE hS hO hD => ?_) (fun _ => rfl)
    have h3 : av.eval (.tmp 3) = (.pointer (some ⟨sb, 0, none⟩)) := hO.2.2 3 rfl
    have f3 := (ev_form av 3).symm.trans h3
    refine ⟨rfl, ?_⟩
    simp [go_sem, f3]
  case s2 =>
    refine step_val (v := (.iface 127 (.pointer (some ⟨fb, 0, none⟩)))) (fun av wv hE hS hO hD => ?_) (fun _ => rfl)
    have d18 : av.eval (.tmp 18) = (.pointer (some ⟨sb, 0, none⟩)) := hD.1 rfl _ rfl
    have f18 := (ev_form av 18).symm.trans d18
    have k0 := extB_cell hE hst k0
    have m0 := extB_cell hE hnt m0
    have m1 := extB_cell hE hnt m1
    have m2 := extB_cell hE hnt m2
    have m3 := extB_cell hE hnt m3
    have m4 := extB_cell hE hnt m4
    refine ⟨rfl, ?_⟩
    simp [go_sem, f18, k0, m0, m1, m2, m3, m4]
  case s3 =>
    refine step_wp (fun av wv hE hS hO hD => ?_)
    have h0 : av.eval (.tmp 0) = (.pointer (some ⟨tb, 0, none⟩)) := hO.2.2 0 rfl
    have f0 := (ev_form av 0).symm.trans h0
    have d17 : av.eval (.tmp 17) = (.agg #[.string ⟨#[]⟩, .int .u64 0, .int .u64 0, .int .u64 0, .int .u64 0]) := hD.1 rfl _ rfl
    have f17 := (ev_form av 17).symm.trans d17
    refine ⟨rfl, ?_⟩
    have hq : wv.heap[tb]? = some (.cells #[u0, u1, u2, u3, u4] 46 (0, 0)) := ext_block (w := V.drew) (hS rfl) HBT.out
    have q0 : wv.cell? ⟨tb, 0, none⟩ = some u0 := block_cell hq 0
    have q1 : wv.cell? ⟨tb, 1, none⟩ = some u1 := block_cell hq 1
    have q2 : wv.cell? ⟨tb, 2, none⟩ = some u2 := block_cell hq 2
    have q3 : wv.cell? ⟨tb, 3, none⟩ = some u3 := block_cell hq 3
    have q4 : wv.cell? ⟨tb, 4, none⟩ = some u4 := block_cell hq 4
    have hz : ∀ o, wv.frozen? ⟨tb, o, none⟩ = false := block_free hq
    unfold Oper.wp
    have l0 : tb < wv.heap.size := lt_of_block hq
    have h0 : av.eval (.tmp 0) = (.pointer (some ⟨tb, 0, none⟩)) := hO.2.2 0 rfl
    have f0 := (ev_form av 0).symm.trans h0
    simp [go_sem, f0, f17, hz, l0, q0, q1, q2, q3, q4]
    exact ⟨es_sp (extB_setIn (extB_setIn (extB_setIn (extB_setIn (extB_setIn (ExtB_refl _ _) 0 _) 1 _) 2 _) 3 _) 4 _), undef, (block_setCell (block_setCell (block_setCell (block_setCell (block_setCell hq (o := 0) _) (o := 1) _) (o := 2) _) (o := 3) _) (o := 4) _)⟩
  intro a' w' hE hO hall
  have hA := act_of_outer (ds := [17, 18, 19]) rfl hO (by kernel_rfl)
  have e17 : (fun u _ => u = (.agg #[.string ⟨#[]⟩, .int .u64 0, .int .u64 0, .int .u64 0, .int .u64 0])) (a'.eval (.tmp 17)) w' := hall.1 _ rfl
  have e18 : (fun u _ => u = (.pointer (some ⟨sb, 0, none⟩))) (a'.eval (.tmp 18)) w' := hall.2.1 _ rfl
  have e19 : (fun u _ => u = (.iface 127 (.pointer (some ⟨fb, 0, none⟩)))) (a'.eval (.tmp 19)) w' := hall.2.2.1 _ rfl
  have z3 : (fun _ w' => w'.heap[tb]? = some (.cells #[.string ⟨#[]⟩, .int .u64 0, .int .u64 0, .int .u64 0, .int .u64 0] 46 (0, 0))) undef w' := hall.2.2.2.1 _ rfl
  simp only [List.foldl_cons, List.foldl_nil, Act.put, List.setIfInBounds_toArray, List.set_cons_succ, List.set_cons_zero, e17, e18, e19] at hA
  clear hO hall e17 e18 e19
  subst hA
  have HE := Lib.hid (of_drewE hE)
  have HZ := Lib.hid z3
  have hbe : w'.heap[eb]? = some (.cells #[.nilIface] 59 (0, 0)) := extB_block HE.out (by simp; exact fun e => hne e.symm) HBE.out
  have HBE := Lib.hid hbe
  have q0 : w'.cell? ⟨eb, 0, none⟩ = some .nilIface := block_cell hbe 0
  have q1 : w'.frozen? ⟨eb, 0, none⟩ = false := block_free hbe 0
  clear hE z3 hbe
  go_wp2
  rw [← HQ.out]
  have hs1 : (w'.setCell ⟨eb, 0, none⟩ (.iface 127 (.pointer (some ⟨fb, 0, none⟩)))).heap.size = w'.heap.size := by simp
  refine ⟨rfl, _, rfl, .tuple #[], by simp [results, Tryz.results121], rfl, rfl, ?_⟩
  exact ⟨HE.out.os.trans HV.out.os, HE.out.tape.trans HV.out.tape, HE.out.output.trans HV.out.output, by rw [hs1]; exact Nat.le_trans HV.out.size HE.out.size, fun i hi h1 h2 => by
    rw [Below.heap_setCell _ _ _ _ h2]
    exact (HE.out.block i (Nat.lt_of_lt_of_le hi HV.out.size) (by simpa using h1)).trans (HV.out.block i hi), block_setCell_ne HZ.out hne _, block_setCell HBE.out _⟩
def RdPart (s : ByteArray) (w : World) (e : Ending) (w' : World) : Prop :=
  Below w.heap.size w w' ∧ match objR s (partGs s 0) part0 0 with
    | .error f => ∃ fb, e = .returned (.tuple #[zeroPart, .iface 127 (.pointer (some ⟨fb, 0, none⟩))]) ∧ FltB w' fb f.1 f.2
    | .ok y => Kd part0 y.1 ∧ y.2 ≤ s.size ∧ (∃ rb tb, w.heap.size ≤ rb ∧ LiesPart rb tb w' y.1) ∧ (if y.2 < s.size then ∃ fb, e = .returned (.tuple #[.agg (cellsPart y.1), .iface 127 (.pointer (some ⟨fb, 0, none⟩))]) ∧ FltB w' fb 5 y.2 else e = .returned (.tuple #[.agg (cellsPart y.1), .nilIface]))
set_option maxRecDepth 100000 in
set_option maxHeartbeats 8000000 in
theorem readPart_any (B : Nat) (s : ByteArray) (w : World) (hT : Tabs B w) (hET : ErrType w) (hB : B ≤ w.heap.size) (hg : 0 < B) (hs : s.size ≤ 9223372036854775807) :
    Calls Tryz.prog 67 #[.string s, .func (.func 62) #[] #[]] w (RdPart s w) := by
  have HT := Lib.hid hT
  have HET := Lib.hid hET
  have ef := enters_of Tryz.func62 (by kernel_rfl) rfl
  clear hT hET
  go_enter_defers Tryz.func67, Tryz.ntmps67
  go_wp2_with fail
  obtain ⟨tb, htb⟩ : ∃ tb, w.heap.size = tb := ⟨_, rfl⟩
  obtain ⟨W, hW⟩ : ∃ W, (w.alloc (.cells #[.string ⟨#[]⟩, .int .u64 0, .int .u64 0, .int .u64 0, .int .u64 0] 46)).alloc (.cells #[.nilIface] 59) = W := ⟨_, rfl⟩
  have WB : Hid (Below w.heap.size w W) := Lib.hid (by rw [← hW]; exact balloc (balloc (Below.refl _ _) _) _)
  have W0 : Hid (W.heap[tb]? = some (.cells #[.string ⟨#[]⟩, .int .u64 0, .int .u64 0, .int .u64 0, .int .u64 0] 46 (0, 0))) := Lib.hid (by rw [← hW, ← htb]; exact block_alloc (heap_alloc_new _ _) _)
  have W1 : Hid (W.heap[tb + 1]? = some (.cells #[.nilIface] 59 (0, 0))) := Lib.hid (by rw [← hW]; exact alloc_new_at _ (by simp [htb]))
  have hWs : W.heap.size = tb + 1 + 1 := by rw [← hW]; simp [htb]
  have HTW : Hid (w.heap.size = tb) := Lib.hid htb
  try rw [hW]
  try simp only [htb]
  clear hW htb
  refine (New_any W s 10240).mono ?_
  rintro e w1 ⟨rfl, hw1⟩
  have hm : max (10240 : Int) 0 = 10240 := by decide
  rw [hm] at hw1
  obtain ⟨rb, hrb⟩ : ∃ rb, W.heap.size = rb := ⟨_, rfl⟩
  have R1 : Hid (RdB w1 rb s 0 10240) := Lib.hid (by rw [hw1, ← hrb]; exact heap_alloc_new _ _)
  have WB1 : Hid (Below W.heap.size W w1) := Lib.hid (by rw [hw1]; exact balloc (Below.refl _ _) _)
  have hs1 : w1.heap.size = rb + 1 := by rw [hw1, ← hrb]; simp
  try rw [hrb]
  clear hw1
  go_upto_region 3 with fail
  obtain ⟨V, hV⟩ : ∃ V, w1.alloc (.cells #[.pointer (some ⟨rb, 0, none⟩)] 199) = V := ⟨_, rfl⟩
  have VB : Hid (Below w1.heap.size w1 V) := Lib.hid (by rw [← hV]; exact balloc (Below.refl _ _) _)
  have VQ : Hid (V.heap[rb + 1]? = some (.cells #[.pointer (some ⟨rb, 0, none⟩)] 199 (0, 0))) := Lib.hid (by rw [← hV]; exact alloc_new_at _ hs1)
  try rw [hV]
  try simp only [hs1]
  have hrbt : rb = tb + 1 + 1 := hrb.symm.trans hWs
  have hTW := HTW.out
  have BV : Hid (Below w.heap.size w V) := Lib.hid (bnext (bnext WB.out WB1.out) VB.out)
  have WV : Hid (Below W.heap.size W V) := Lib.hid (bnext WB1.out VB.out)
  have VT : Hid (V.heap[tb]? = some (.cells #[.string ⟨#[]⟩, .int .u64 0, .int .u64 0, .int .u64 0, .int .u64 0] 46 (0, 0))) := Lib.hid ((WV.out.block _ (lt_of_block W0.out)).trans W0.out)
  have VE : Hid (V.heap[tb + 1]? = some (.cells #[.nilIface] 59 (0, 0))) := Lib.hid ((WV.out.block _ (lt_of_block W1.out)).trans W1.out)
  have VR : Hid (RdB V rb s 0 10240) := Lib.hid (R1.out.below VB.out)
  have ENV : Hid (RdEnv B V (rb + 1) rb s 0) := Lib.hid ⟨VQ.out, VR.out, HT.out.below BV.out, by omega, by omega, by omega, Nat.zero_le _, hs⟩
  have E : TEnv B (rb + 1) rb tb 5 46 V := ⟨⟨_, VR.out⟩, ⟨_, VT.out⟩, by omega, by omega, by omega, by decide, by decide⟩
  have REC : Hid (RecAt rb tb 46 5 V part0) := Lib.hid (rec_zero VT.out rfl (fun i hi => by
    match i, hi with
    | 0, _ => exact ⟨_, rfl, rfl⟩
    | 1, _ => exact ⟨_, rfl, rfl⟩
    | 2, _ => exact ⟨_, rfl, rfl⟩
    | 3, _ => exact ⟨_, rfl, rfl⟩
    | 4, _ => exact ⟨_, rfl, rfl⟩))
  have HOF := Lib.hid (rofPart_any (x0 := part0) (s := s) E 0 (by omega) ⟨rfl, rfl, rfl, rfl, rfl⟩)
  have HE := Lib.hid E
  have G : Hid (GOk part0 (partGs s 0)) := Lib.hid (PartOk s 0 ⟨rfl, rfl, rfl, rfl, rfl⟩)
  have HRBT := Lib.hid hrbt
  clear hV E hrb hs1 hWs hrbt hTW
  go_wp2_with fail
  refine HOF.out.mono ?_
  rintro e w2 ⟨u, rfl, ⟨g, c, l, rfl, hc, hF, hS⟩, hb⟩
  have hl : (partGs s 0).length = l.length := hS.1
  have hg := (HE.out.below hb).apart hF.ex
  have H2 := Lib.hid (robject_any B (rb + 1) rb tb g 0 c part0 46 5 s w2 w2 l (partGs s 0) 0 part0 hF.flds hc (show l.length ≤ 1000 by rw [← hl]; exact Nat.le_of_ble_eq_true rfl) hS (Chg.refl _ _ _) hg HE.out.nq HE.out.le HE.out.ne G.out.keys G.out.disj G.out.frames G.out.kinds (fun i => rfl) (REC.out.below hb) (ENV.out.below hb) (fun i hi o ho => rfl))
  have HB := Lib.hid hb
  clear hF hS hb hl hc hg HOF ef
  go_wp2_with fail
  refine H2.out.mono ?_
  intro e w3 hh
  cases hr : objR s (partGs s 0) part0 0 with
  | error f =>
    rw [hr] at hh
    have HTH := Lib.hid (getIs_th hh)
    obtain ⟨fb, rfl, hf, hc3⟩ := getIs_err hh
    have HF := Lib.hid hf
    have HC := Lib.hid hc3
    have HR := Lib.hid hr
    clear hh hf hc3 hr H2
    go_wp2
    obtain ⟨cs, hcs, hcn⟩ := HTH.out
    have hce : w3.heap[tb + 1]? = some (.cells #[.nilIface] 59 (0, 0)) := (HC.out.block _ (Nat.lt_of_lt_of_le (lt_of_block VE.out) HB.out.size) (by have := HRBT.out; omega) (by omega)).trans ((HB.out.block _ (lt_of_block VE.out)).trans VE.out)
    refine leaves_cons (f := 121) (args := #[.pointer (some ⟨tb, 0, none⟩), .pointer (some ⟨tb + 1, 0, none⟩)]) (by simp) (by simp [go_sem]) ?_
    refine (read1Part_some tb (tb + 1) fb cs w3 hcs (arr5 hcn) hce (by omega)).mono ?_
    rintro e u' w4 ⟨rfl, rfl, HA⟩
    have y0 : ∀ o, w4.cell? ⟨tb, o, none⟩ = _ := block_cell HA.th
    have y1 : w4.cell? ⟨tb + 1, 0, none⟩ = some (.iface 127 (.pointer (some ⟨fb, 0, none⟩))) := block_cell HA.er 0
    refine ⟨_, by simp [results, Tryz.results67, go_sem, y0, y1]; rfl, ?_⟩
    refine ⟨?_, by
      rw [HR.out]
      refine ⟨fb, rfl, (HA.block fb (lt_of_block HF.out) (fun e => ?_) (fun e => ?_)).trans HF.out⟩
      · subst e; have h9 := hcs.symm.trans HF.out; cases h9
      · subst e; have h9 := hce.symm.trans HF.out; cases h9⟩
    have hsz := HTW.out
    have hb9 := HRBT.out
    refine ⟨HA.os.trans (HC.out.os.trans (HB.out.os.trans BV.out.os)), HA.tape.trans (HC.out.tape.trans (HB.out.tape.trans BV.out.tape)), HA.output.trans (HC.out.output.trans (HB.out.output.trans BV.out.output)), Nat.le_trans BV.out.size (Nat.le_trans HB.out.size (Nat.le_trans HC.out.size HA.size)), fun i hi => ?_⟩
    have l1 := Nat.lt_of_lt_of_le hi BV.out.size
    have l2 := Nat.lt_of_lt_of_le l1 HB.out.size
    exact (HA.block i (Nat.lt_of_lt_of_le l2 HC.out.size) (by omega) (by omega)).trans ((HC.out.block i l2 (by omega) (by omega)).trans ((HB.out.block i l1).trans (BV.out.block i hi)))
  | ok q =>
    rw [hr] at hh
    obtain ⟨rfl, hrd, hle, hx3, hc3⟩ := getIs_ok hh
    have HRD := Lib.hid hrd
    have HC := Lib.hid hc3
    have HR := Lib.hid hr
    have HKD : Hid (Kd part0 q.1) := Lib.hid (objR_kinds G.out.kinds hr (fun i => rfl))
    obtain ⟨_, hth, hlies⟩ := part_of_rec hx3 HKD.out
    have HTH := Lib.hid hth
    have HLI := Lib.hid hlies
    clear hh hrd hx3 hc3 hr H2 hth hlies
    obtain ⟨x, a⟩ := q
    have hts : tb < w3.heap.size := lt_of_block HTH.out
    have HQ3 : Hid (w3.heap[rb + 1]? = some (.cells #[.pointer (some ⟨rb, 0, none⟩)] 199 (0, 0))) := Lib.hid ((HC.out.block _ (Nat.lt_of_lt_of_le (lt_of_block VQ.out) HB.out.size) (by omega) (by have := HRBT.out; omega)).trans ((HB.out.block _ (lt_of_block VQ.out)).trans VQ.out))
    have HE3 : Hid (w3.heap[tb + 1]? = some (.cells #[.nilIface] 59 (0, 0))) := Lib.hid ((HC.out.block _ (Nat.lt_of_lt_of_le (lt_of_block VE.out) HB.out.size) (by have := HRBT.out; omega) (by omega)).trans ((HB.out.block _ (lt_of_block VE.out)).trans VE.out))
    have HET3 : Hid (ErrType w3) := Lib.hid (by
      have h1 := HET.out.below BV.out
      have h2 := h1.below HB.out
      unfold ErrType at h2 ⊢
      rw [World.cell?_of_block (w := w2) (HC.out.block _ (lt_of_cell h2) (show 0 ≠ rb by have := HRBT.out; have := HTW.out; omega) (show 0 ≠ tb by have := HTW.out; omega))]
      exact h2)
    go_upto_region 4 with fail
    obtain ⟨VO, hVO⟩ : ∃ VO : Nat → Option Nat, VO = fun j => if j = 6 then some tb else none := ⟨_, rfl⟩
    have vo6 : VO 6 = some tb := by rw [hVO]; rfl
    have von : ∀ j, j ≠ 6 → VO j = none := fun j h1 => by rw [hVO]; simp [h1]
    have vob : ∀ j b, b ≠ tb → VO j ≠ some b := fun j b hb => by
      by_cases h : j = 6
      · subst h; rw [vo6]; simp; exact fun e => hb e.symm
      · rw [von j h]; simp
    clear hVO
    refine wp_region_tailV 7 VO (fun i j b h1 h2 => by
        by_cases e1 : i = 6
        · by_cases e2 : j = 6
          · rw [e1, e2]
          · rw [von j e2] at h2; cases h2
        · rw [von i e1] at h1; cases h1) (fun _ _ _ => True) (fun _ => True) (fun _ _ _ _ _ => True) (fun _ _ => trivial) trivial
      (phis [fun u _ => u = .agg (cellsPart x), fun u _ => u = .pointer (some ⟨rb + 1, 0, none⟩), fun u _ => u = .pointer (some ⟨rb + 1, 0, none⟩), fun u _ => u = .pointer (some ⟨rb + 1, 0, none⟩), fun u _ => u = .pointer (some ⟨rb, 0, none⟩), fun u w' => if a < s.size then ∃ fb, u = .iface 127 (.pointer (some ⟨fb, 0, none⟩)) ∧ FltB w' fb 5 a ∧ fb ≠ tb else u = .nilIface, fun _ w' => w'.heap[tb]? = some (.cells (cellsPart x) 46 (0, 0))]) rfl (by kernel_rfl) (by kernel_rfl)
      (monoV_of ⟨monoV_eq, monoV_eq, monoV_eq, monoV_eq, monoV_eq, ?m5, ?m6, trivial⟩) (fun _ _ _ _ _ => trivial) (fun _ _ _ _ _ _ _ _ _ _ _ => trivial) (stepsV_of 7 ⟨?s0, ?s1, ?s2, ?s3, ?s4, ?s5, ?s6, trivial⟩) ?_
    case m5 =>
      intro j hj u w1 w2 he hp
      by_cases hlt : a < s.size
      · simp only [hlt, if_true] at hp ⊢
        obtain ⟨fb, h1, h2, h3⟩ := hp
        refine ⟨fb, h1, (he.1.block fb (lt_of_block h2) ?_).trans h2, h3⟩
        exact fun e => vob j fb h3 e.symm
      · simp only [hlt, if_false] at hp ⊢; exact hp
    case m6 =>
      intro j hj u w1 w2 he hp
      refine (he.1.block tb (lt_of_block hp) ?_).trans hp
      rw [von j hj]; simp
    case s0 =>
      refine stepV_val (v := .agg (cellsPart x)) (fun _ _ => trivial) (fun _ _ _ _ => ⟨trivial, trivial⟩) (fun D av wv hE hO hD => ?_) (fun _ => rfl)
      have h6 : ¬ D 6 := hE.notyet 6 _ rfl { on := 0, ground := .data } (by simp) rfl hE.me
      have hb0 : wv.heap[tb]? = some (.cells (cellsPart x) 46 (0, 0)) := (hE.late 6 h6 tb vo6 hts).trans HTH.out
      have k0 : wv.cell? ⟨tb, 0, none⟩ = some (.string (x 0).s) := block_cell hb0 0
      have k1 : wv.cell? ⟨tb, 1, none⟩ = some (.int .u64 (x 1).n) := block_cell hb0 1
      have k2 : wv.cell? ⟨tb, 2, none⟩ = some (.int .u64 (x 2).n) := block_cell hb0 2
      have k3 : wv.cell? ⟨tb, 3, none⟩ = some (.int .u64 (x 3).n) := block_cell hb0 3
      have k4 : wv.cell? ⟨tb, 4, none⟩ = some (.int .u64 (x 4).n) := block_cell hb0 4
      have h4 : av.eval (.tmp 4) = .pointer (some ⟨tb, 0, none⟩) := hO.2.2 4 rfl
      have f4 := (ev_form av 4).symm.trans h4
      refine ⟨rfl, ?_⟩
      simp [go_sem, f4, k0, k1, k2, k3, k4]
    case s1 =>
      refine stepV_val (v := .pointer (some ⟨rb + 1, 0, none⟩)) (fun _ _ => trivial) (fun _ _ _ _ => ⟨trivial, trivial⟩) (fun D av wv hE hO hD => ?_) (fun _ => rfl)
      have h6 : av.eval (.tmp 6) = .pointer (some ⟨rb + 1, 0, none⟩) := hO.2.2 6 rfl
      have f6 := (ev_form av 6).symm.trans h6
      refine ⟨rfl, ?_⟩
      simp [go_sem, f6]
    case s2 =>
      refine stepV_val (v := .pointer (some ⟨rb + 1, 0, none⟩)) (fun _ _ => trivial) (fun _ _ _ _ => ⟨trivial, trivial⟩) (fun D av wv hE hO hD => ?_) (fun _ => rfl)
      have d17 : av.eval (.tmp 17) = .pointer (some ⟨rb + 1, 0, none⟩) := hD.1 rfl _ rfl
      have f17 := (ev_form av 17).symm.trans d17
      refine ⟨rfl, ?_⟩
      simp [go_sem, f17]
    case s3 =>
      refine stepV_val (v := .pointer (some ⟨rb + 1, 0, none⟩)) (fun _ _ => trivial) (fun _ _ _ _ => ⟨trivial, trivial⟩) (fun D av wv hE hO hD => ?_) (fun _ => rfl)
      have d18 : av.eval (.tmp 18) = .pointer (some ⟨rb + 1, 0, none⟩) := hD.1 rfl _ rfl
      have f18 := (ev_form av 18).symm.trans d18
      refine ⟨rfl, ?_⟩
      simp [go_sem, f18]
    case s4 =>
      refine stepV_val (v := .pointer (some ⟨rb, 0, none⟩)) (fun _ _ => trivial) (fun _ _ _ _ => ⟨trivial, trivial⟩) (fun D av wv hE hO hD => ?_) (fun _ => rfl)
      have d19 : av.eval (.tmp 19) = .pointer (some ⟨rb + 1, 0, none⟩) := hD.1 rfl _ rfl
      have f19 := (ev_form av 19).symm.trans d19
      have k0 : wv.cell? ⟨rb + 1, 0, none⟩ = some (.pointer (some ⟨rb, 0, none⟩)) := block_cell ((hE.ext.block (rb + 1) (lt_of_block HQ3.out) (fun j => vob j _ (by have := HRBT.out; omega))).trans HQ3.out) 0
      refine ⟨rfl, ?_⟩
      simp [go_sem, f19, k0]
    case s5 =>
      refine stepV_wp (fun D av wv hPP hE hO hD => ?_)
      have d20 : av.eval (.tmp 20) = .pointer (some ⟨rb, 0, none⟩) := hD.1 rfl _ rfl
      have f20 := (ev_form av 20).symm.trans d20
      have hrd : RdB wv rb s a 10240 := (hE.ext.block rb (lt_of_block HRD.out) (fun j => vob j _ (by have := HRBT.out; omega))).trans HRD.out
      have het : ErrType wv := by
        have h2 : ErrType w3.drew := HET3.out
        unfold ErrType at h2 ⊢
        rw [World.cell?_of_block (w := w3.drew) (hE.ext.block _ (lt_of_cell h2) (fun j => vob j _ (show 0 ≠ tb by have := HTW.out; omega)))]
        exact h2
      have hvs : w3.heap.size ≤ wv.heap.size := hE.ext.size
      refine ⟨rfl, wp_of_callR (f := 124) (args := #[.pointer (some ⟨rb, 0, none⟩)]) (R := fun u w2 => Below wv.heap.size wv w2 ∧ (if a < s.size then ∃ fb, u = .iface 127 (.pointer (some ⟨fb, 0, none⟩)) ∧ FltB w2 fb 5 a ∧ fb ≠ tb else u = .nilIface)) (by simp [go_sem, f20]) ((End_any wv rb s a 10240 het hrd hle hs).mono fun e w2 hh => ?_) (fun u w2 ⟨h1, h2⟩ => ⟨u, rfl, esV_of_ext h1 trivial, h2, fun _ _ _ _ _ => ⟨trivial, trivial⟩⟩)⟩
      obtain ⟨h1, h2⟩ := hh
      unfold leftOf at h2
      by_cases hlt : a < s.size
      · simp only [hlt, if_true] at h2 ⊢
        obtain ⟨fb, h3, h4, h5⟩ := h2
        exact ⟨_, h3, h1, fb, rfl, h5, by omega⟩
      · simp only [hlt, if_false] at h2 ⊢
        exact ⟨_, h2, h1, rfl⟩
    case s6 =>
      refine stepV_wp (fun D av wv hPP hE hO hD => ?_)
      have d16 : av.eval (.tmp 16) = .agg (cellsPart x) := hD.1 rfl _ rfl
      have f16 := (ev_form av 16).symm.trans d16
      have h4 : av.eval (.tmp 4) = .pointer (some ⟨tb, 0, none⟩) := hO.2.2 4 rfl
      have f4 := (ev_form av 4).symm.trans h4
      have hq : wv.heap[tb]? = some (.cells (cellsPart x) 46 (0, 0)) := (hE.own tb vo6 hts).trans HTH.out
      have k0 : wv.cell? ⟨tb, 0, none⟩ = some (.string (x 0).s) := block_cell hq 0
      have k1 : wv.cell? ⟨tb, 1, none⟩ = some (.int .u64 (x 1).n) := block_cell hq 1
      have k2 : wv.cell? ⟨tb, 2, none⟩ = some (.int .u64 (x 2).n) := block_cell hq 2
      have k3 : wv.cell? ⟨tb, 3, none⟩ = some (.int .u64 (x 3).n) := block_cell hq 3
      have k4 : wv.cell? ⟨tb, 4, none⟩ = some (.int .u64 (x 4).n) := block_cell hq 4
      have hz : ∀ o, wv.frozen? ⟨tb, o, none⟩ = false := block_free hq
      have l0 : tb < wv.heap.size := lt_of_block hq
      refine ⟨rfl, ?_⟩
      unfold Oper.wp
      simp [go_sem, f4, f16, hz, l0, k0, k1, k2, k3, k4]
      exact ⟨⟨by rw [vo6]; exact (extB_setIn (extB_setIn (extB_setIn (extB_setIn (extB_setIn (ExtB_refl _ _) 0 _) 1 _) 2 _) 3 _) 4 _), trivial⟩, undef, (block_setCell (block_setCell (block_setCell (block_setCell (block_setCell hq (o := 0) _) (o := 1) _) (o := 2) _) (o := 3) _) (o := 4) _), fun _ _ _ _ _ => ⟨trivial, trivial⟩⟩
    intro a' w' hE _ hO hall _
    have hA := act_of_outer (ds := [16, 17, 18, 19, 20, 21]) rfl hO (by kernel_rfl)
    have e16 : (fun u (_ : World) => u = .agg (cellsPart x)) (a'.eval (.tmp 16)) w' := hall.1 _ rfl
    have e17 : (fun u (_ : World) => u = .pointer (some ⟨rb + 1, 0, none⟩)) (a'.eval (.tmp 17)) w' := hall.2.1 _ rfl
    have e18 : (fun u (_ : World) => u = .pointer (some ⟨rb + 1, 0, none⟩)) (a'.eval (.tmp 18)) w' := hall.2.2.1 _ rfl
    have e19 : (fun u (_ : World) => u = .pointer (some ⟨rb + 1, 0, none⟩)) (a'.eval (.tmp 19)) w' := hall.2.2.2.1 _ rfl
    have e20 : (fun u (_ : World) => u = .pointer (some ⟨rb, 0, none⟩)) (a'.eval (.tmp 20)) w' := hall.2.2.2.2.1 _ rfl
    have e21 : (fun u w' => if a < s.size then ∃ fb, u = .iface 127 (.pointer (some ⟨fb, 0, none⟩)) ∧ FltB w' fb 5 a ∧ fb ≠ tb else u = .nilIface) (a'.eval (.tmp 21)) w' := hall.2.2.2.2.2.1 _ rfl
    have z6 : w'.heap[tb]? = some (.cells (cellsPart x) 46 (0, 0)) := hall.2.2.2.2.2.2.1 _ rfl
    obtain ⟨v21, hv21⟩ : ∃ v, a'.eval (.tmp 21) = v := ⟨_, rfl⟩
    rw [hv21] at e21
    simp only [List.foldl_cons, List.foldl_nil, Act.put, List.setIfInBounds_toArray, List.set_cons_succ, List.set_cons_zero, e16, e17, e18, e19, e20, hv21] at hA
    clear hO hall e16 e17 e18 e19 e20 hv21
    subst hA
    have HX4 : Hid (ExtS VO w3 w') := Lib.hid ⟨hE.os, hE.tape, hE.output, hE.size, hE.block⟩
    have HZ6 := Lib.hid z6
    have hbe : w'.heap[tb + 1]? = some (.cells #[.nilIface] 59 (0, 0)) := (HX4.out.block _ (lt_of_block HE3.out) (fun j => vob j _ (by omega))).trans HE3.out
    have HBE := Lib.hid hbe
    have g0 : w'.cell? ⟨tb + 1, 0, none⟩ = some .nilIface := block_cell hbe 0
    have g1 : w'.frozen? ⟨tb + 1, 0, none⟩ = false := block_free hbe 0
    have HVO : Hid (∀ j b, b ≠ tb → VO j ≠ some b) := Lib.hid vob
    have HFIN : ∀ v, Hid (Below w.heap.size w (w'.setCell ⟨tb + 1, 0, none⟩ v)) := fun v => Lib.hid (by
      have hsz := HTW.out
      have hb9 := HRBT.out
      refine ⟨HX4.out.os.trans (HC.out.os.trans (HB.out.os.trans BV.out.os)), HX4.out.tape.trans (HC.out.tape.trans (HB.out.tape.trans BV.out.tape)), HX4.out.output.trans (HC.out.output.trans (HB.out.output.trans BV.out.output)), by simpa using Nat.le_trans BV.out.size (Nat.le_trans HB.out.size (Nat.le_trans HC.out.size HX4.out.size)), fun i hi => ?_⟩
      have l1 := Nat.lt_of_lt_of_le hi BV.out.size
      have l2 := Nat.lt_of_lt_of_le l1 HB.out.size
      rw [Below.heap_setCell _ _ _ _ (show i ≠ tb + 1 by omega)]
      exact (HX4.out.block i (Nat.lt_of_lt_of_le l2 HC.out.size) (fun j => HVO.out j i (by omega))).trans ((HC.out.block i l2 (by omega) (by omega)).trans ((HB.out.block i l1).trans (BV.out.block i hi))))
    have HLF : ∀ v, Hid (LiesPart rb tb (w'.setCell ⟨tb + 1, 0, none⟩ v) x) := fun v => Lib.hid (HLI.out.up (fun b h1 h2 => by
      have hb9 := HRBT.out
      rw [Below.heap_setCell _ _ _ _ (show b ≠ tb + 1 by omega)]
      exact HX4.out.block b h2 (fun j => HVO.out j b (by omega))))
    have HTF : ∀ v o, (w'.setCell ⟨tb + 1, 0, none⟩ v).cell? ⟨tb, o, none⟩ = (cellsPart x)[o]? := fun v o => block_cell (block_setCell_ne HZ6.out (by show tb ≠ tb + 1; omega) v) o
    have HEF : ∀ v, (w'.setCell ⟨tb + 1, 0, none⟩ v).cell? ⟨tb + 1, 0, none⟩ = some v := fun v => block_cell (block_setCell HBE.out v) 0
    have HTFH := Lib.hid HTF
    have HEFH := Lib.hid HEF
    clear hE z6 hbe vo6 von vob HTF HEF
    by_cases hlt : a < s.size
    · simp only [hlt, if_true] at e21
      obtain ⟨fb, rfl, hf, hft⟩ := e21
      have HF := Lib.hid hf
      have HLT := Lib.hid hlt
      clear hf hlt
      go_wp2
      refine leaves_cons (f := 121) (args := #[.pointer (some ⟨tb, 0, none⟩), .pointer (some ⟨tb + 1, 0, none⟩)]) (by simp) (by simp [go_sem]) ?_
      refine (read1Part_idle _ _ _).mono ?_
      rintro e u' w'' ⟨rfl, rfl, rfl⟩
      have y0 := HTFH.out (.iface 127 (.pointer (some ⟨fb, 0, none⟩)))
      have y1 := HEFH.out (.iface 127 (.pointer (some ⟨fb, 0, none⟩)))
      refine ⟨_, by simp [results, Tryz.results67, go_sem, y0, y1]; rfl, ?_⟩
      refine ⟨(HFIN _).out, ?_⟩
      rw [HR.out]
      refine ⟨HKD.out, hle, ⟨rb, tb, by have := HRBT.out; have := HTW.out; omega, (HLF _).out⟩, ?_⟩
      rw [if_pos HLT.out]
      exact ⟨fb, rfl, block_setCell_ne HF.out (by intro e; subst e; have h9 := HBE.out.symm.trans HF.out; cases h9) _⟩
    · simp only [hlt, if_false] at e21
      subst e21
      have HLT := Lib.hid hlt
      clear hlt
      go_wp2
      refine leaves_cons (f := 121) (args := #[.pointer (some ⟨tb, 0, none⟩), .pointer (some ⟨tb + 1, 0, none⟩)]) (by simp) (by simp [go_sem]) ?_
      refine (read1Part_idle _ _ _).mono ?_
      rintro e u' w'' ⟨rfl, rfl, rfl⟩
      have y0 := HTFH.out .nilIface
      have y1 := HEFH.out .nilIface
      refine ⟨_, by simp [results, Tryz.results67, go_sem, y0, y1]; rfl, ?_⟩
      refine ⟨(HFIN _).out, ?_⟩
      rw [HR.out]
      refine ⟨HKD.out, hle, ⟨rb, tb, by have := HRBT.out; have := HTW.out; omega, (HLF _).out⟩, ?_⟩
      rw [if_neg HLT.out]
abbrev cellsSlot (x : Rcd) (a3 : Option Addr) (c3 : Nat) (a4 : Option Addr) (c4 : Nat) : Array Value := #[.int .u64 (x 0).n, .bool (x 1).q, .int .u64 (x 2).n, .slice a3 (len (x 3).l) c3, .slice a4 (len (x 4).l) c4]
abbrev zeroSlot : Value := .agg #[.int .u64 0, .bool false, .int .u64 0, .slice none 0 0, .slice none 0 0]
def LiesSlot (rb tb : Nat) (w : World) (x : Rcd) (a3 : Option Addr) (c3 : Nat) (a4 : Option Addr) (c4 : Nat) : Prop := HoldsD rb tb w (.slice a3 (len (x 3).l) c3) (x 3) ∧ HoldsD rb tb w (.slice a4 (len (x 4).l) c4) (x 4)
theorem LiesSlot.below {rb tb : Nat} {w w' : World} {x : Rcd} {a3 : Option Addr} {c3 : Nat} {a4 : Option Addr} {c4 : Nat} (h : LiesSlot rb tb w x a3 c3 a4 c4) (hb : Below w.heap.size w w') : LiesSlot rb tb w' x a3 c3 a4 c4 := ⟨h.1.chg (Chg.of_below hb), h.2.chg (Chg.of_below hb)⟩
theorem LiesSlot.chg {rb tb : Nat} {w w' : World} {x : Rcd} {a3 : Option Addr} {c3 : Nat} {a4 : Option Addr} {c4 : Nat} (h : LiesSlot rb tb w x a3 c3 a4 c4) (hb : Chg rb tb w w') : LiesSlot rb tb w' x a3 c3 a4 c4 := ⟨h.1.chg hb, h.2.chg hb⟩
theorem LiesSlot.up {rb tb : Nat} {w w' : World} {x : Rcd} {a3 : Option Addr} {c3 : Nat} {a4 : Option Addr} {c4 : Nat} (h : LiesSlot rb tb w x a3 c3 a4 c4) (hb : Up rb w w') : LiesSlot rb tb w' x a3 c3 a4 c4 := ⟨h.1.up hb, h.2.up hb⟩
theorem slot_of_rec {rb tb : Nat} {w : World} {x : Rcd} (h : RecAt rb tb 44 5 w x) (hk : Kd slot0 x) : ∃ (a3 : Option Addr) (c3 : Nat) (a4 : Option Addr) (c4 : Nat), w.heap[tb]? = some (.cells (cellsSlot x a3 c3 a4 c4) 44 (0, 0)) ∧ LiesSlot rb tb w x a3 c3 a4 c4 := by
  obtain ⟨cs, h1, h2, h3⟩ := h
  obtain ⟨m0, e0⟩ := hk.num (show kindD (slot0 0) = _ from rfl)
  obtain ⟨u0, g0, d0⟩ := h3 0 (by decide)
  rw [e0] at d0
  simp only [HoldsD] at d0
  subst d0
  obtain ⟨m1, e1⟩ := hk.flag (show kindD (slot0 1) = _ from rfl)
  obtain ⟨u1, g1, d1⟩ := h3 1 (by decide)
  rw [e1] at d1
  simp only [HoldsD] at d1
  subst d1
  obtain ⟨m2, e2⟩ := hk.num (show kindD (slot0 2) = _ from rfl)
  obtain ⟨u2, g2, d2⟩ := h3 2 (by decide)
  rw [e2] at d2
  simp only [HoldsD] at d2
  subst d2
  obtain ⟨m3, e3⟩ := hk.strs (show kindD (slot0 3) = _ from rfl)
  obtain ⟨u3, g3, d3⟩ := h3 3 (by decide)
  have D3 := d3
  rw [e3] at d3
  obtain ⟨a3, c3, q3, -⟩ := d3
  subst q3
  obtain ⟨m4, e4⟩ := hk.strs (show kindD (slot0 4) = _ from rfl)
  obtain ⟨u4, g4, d4⟩ := h3 4 (by decide)
  have D4 := d4
  rw [e4] at d4
  obtain ⟨a4, c4, q4, -⟩ := d4
  subst q4
  refine ⟨a3, c3, a4, c4, ?_, ?_⟩
  · rw [h1]; congr 2; apply Array.ext_getElem?; intro i
    match i with
    | 0 => rw [g0]; simp [e0, DV.n, DV.q, DV.s, DV.l, DV.ns, DV.rs]
    | 1 => rw [g1]; simp [e1, DV.n, DV.q, DV.s, DV.l, DV.ns, DV.rs]
    | 2 => rw [g2]; simp [e2, DV.n, DV.q, DV.s, DV.l, DV.ns, DV.rs]
    | 3 => rw [g3]; simp [e3, DV.n, DV.q, DV.s, DV.l, DV.ns, DV.rs]
    | 4 => rw [g4]; simp [e4, DV.n, DV.q, DV.s, DV.l, DV.ns, DV.rs]
    | i + 5 => rw [Array.getElem?_eq_none (by omega), Array.getElem?_eq_none (by simp)]
  · exact ⟨(by rw [e3] at D3 ⊢; exact D3), (by rw [e4] at D4 ⊢; exact D4)⟩
set_option maxRecDepth 100000 in
theorem read1Slot_idle (p q : Value) (w : World) : CallsD Tryz.prog 140 #[p, q] .returning w fun e u' w' => e = .returned (.tuple #[]) ∧ u' = .returning ∧ w' = w := by
  refine callsD_of_wpS Tryz.func140 rfl fun c₀ cs hu => ?_
  apply wpS_seq
  apply wpS_region
  simp [wpOpsS, go_sem, recoverD, hu, Tryz.ntmps140, Exit.thenS]
  refine wpS_of_wp ?_
  obtain ⟨Q, hQ⟩ : ∃ Q : Exit → Act → World → Prop, (fun e a' w' => bodyPostS Tryz.prog Tryz.f140 c₀ cs (fun e u' w' => e = Ending.returned (.tuple #[]) ∧ u' = .returning ∧ w' = w) e a' (c₀ :: cs) w') = Q := ⟨_, rfl⟩
  rw [hQ, read1_frame]
  have HQ := Lib.hid hQ
  clear hQ
  go_wp2
  rw [← HQ.out]
  simp [bodyPostS, results, Tryz.results140]
  cases c₀; simp_all
structure AfterSlot (tb eb fb : Nat) (w w' : World) : Prop where
  os : w'.os = w.os
  tape : w'.tape = w.tape
  output : w'.output = w.output
  size : w.heap.size ≤ w'.heap.size
  block : ∀ i, i < w.heap.size → i ≠ tb → i ≠ eb → w'.heap[i]? = w.heap[i]?
  th : w'.heap[tb]? = some (.cells #[.int .u64 0, .bool false, .int .u64 0, .slice none 0 0, .slice none 0 0] 44 (0, 0))
  er : w'.heap[eb]? = some (.cells #[.iface 127 (.pointer (some ⟨fb, 0, none⟩))] 59 (0, 0))
set_option maxRecDepth 100000 in
set_option maxHeartbeats 4000000 in
theorem read1Slot_some (tb eb fb : Nat) (cs : Array Value) (w : World) (ht : w.heap[tb]? = some (.cells cs 44 (0, 0))) (hcs : ∃ u0 u1 u2 u3 u4 : Value, cs = #[u0, u1, u2, u3, u4] ) (he : w.heap[eb]? = some (.cells #[.nilIface] 59 (0, 0))) (hne : tb ≠ eb) :
    CallsD Tryz.prog 140 #[.pointer (some ⟨tb, 0, none⟩), .pointer (some ⟨eb, 0, none⟩)] (.panicking (stopC fb)) w fun e u' w' =>
      e = .returned (.tuple #[]) ∧ u' = .panicking [{ v := .iface 193 (.agg #[.iface 127 (.pointer (some ⟨fb, 0, none⟩))]), recovered := true }] ∧ AfterSlot tb eb fb w w' := by
  obtain ⟨u0, u1, u2, u3, u4, rfl⟩ := hcs
  refine callsD_of_wpS Tryz.func140 rfl fun c₀ cs hu => ?_
  apply wpS_seq
  apply wpS_region
  simp [wpOpsS, go_sem, recoverD, hu, stopC, Tryz.ntmps140, Exit.thenS]
  refine wpS_of_wp ?_
  obtain ⟨Q, hQ⟩ : ∃ Q : Exit → Act → World → Prop, (fun e a' w' => bodyPostS Tryz.prog Tryz.f140 c₀ cs (fun e u' w' => e = Ending.returned (.tuple #[]) ∧ u' = .panicking [{ v := .iface 193 (.agg #[.iface 127 (.pointer (some ⟨fb, 0, none⟩))]), recovered := true }] ∧ AfterSlot tb eb fb w w') e a' ({ c₀ with mode := .panicking [{ v := .iface 193 (.agg #[.iface 127 (.pointer (some ⟨fb, 0, none⟩))]), recovered := true }] } :: cs) w') = Q := ⟨_, rfl⟩
  rw [hQ, read1_frame]
  have HQ := Lib.hid hQ
  have HT := Lib.hid ht
  have HE := Lib.hid he
  clear hQ hu ht he
  have ha := assert_stop fb
  go_wp2_with fail
  obtain ⟨V, hV⟩ : ∃ V, (w.alloc (.cells #[.iface 127 (.pointer (some ⟨fb, 0, none⟩))] 193)).alloc (.cells #[.int .u64 0, .bool false, .int .u64 0, .slice none 0 0, .slice none 0 0] 44) = V := ⟨_, rfl⟩
  obtain ⟨sb, hsb⟩ : ∃ sb, w.heap.size = sb := ⟨_, rfl⟩
  have HV : Hid (Below w.heap.size w V) := Lib.hid (by rw [← hV]; exact balloc (balloc (Below.refl _ _) _) _)
  have hbs : V.heap[sb]? = some (.cells #[.iface 127 (.pointer (some ⟨fb, 0, none⟩))] 193 (0, 0)) := by rw [← hV, ← hsb]; exact block_alloc (heap_alloc_new _ _) _
  have hbn : V.heap[sb + 1]? = some (.cells #[.int .u64 0, .bool false, .int .u64 0, .slice none 0 0, .slice none 0 0] 44 (0, 0)) := by rw [← hV]; exact alloc_new_at _ (by simp [hsb])
  have hbt : V.heap[tb]? = some (.cells #[u0, u1, u2, u3, u4] 44 (0, 0)) := (HV.out.block _ (lt_of_block HT.out)).trans HT.out
  have hbe : V.heap[eb]? = some (.cells #[.nilIface] 59 (0, 0)) := (HV.out.block _ (lt_of_block HE.out)).trans HE.out
  have k0 : V.cell? ⟨sb, 0, none⟩ = some (.iface 127 (.pointer (some ⟨fb, 0, none⟩))) := block_cell hbs 0
  have m0 : V.cell? ⟨sb + 1, 0, none⟩ = some (.int .u64 0) := block_cell hbn 0
  have m1 : V.cell? ⟨sb + 1, 1, none⟩ = some (.bool false) := block_cell hbn 1
  have m2 : V.cell? ⟨sb + 1, 2, none⟩ = some (.int .u64 0) := block_cell hbn 2
  have m3 : V.cell? ⟨sb + 1, 3, none⟩ = some (.slice none 0 0) := block_cell hbn 3
  have m4 : V.cell? ⟨sb + 1, 4, none⟩ = some (.slice none 0 0) := block_cell hbn 4
  have hts : tb < sb := by have := lt_of_block HT.out; omega
  have hnt : some (sb + 1) ≠ some tb := by simp; omega
  have hst : some sb ≠ some tb := by simp; omega
  have HBT := Lib.hid hbt
  have HBE := Lib.hid hbe
  try rw [hV]
  try simp only [hsb]
  clear hV hbs hbn hbt hbe ha
  refine wp_region_tail 4 3 ((some tb)) (phis [fun u _ => u = (.agg #[.int .u64 0, .bool false, .int .u64 0, .slice none 0 0, .slice none 0 0]), fun u _ => u = (.pointer (some ⟨sb, 0, none⟩)), fun u _ => u = (.iface 127 (.pointer (some ⟨fb, 0, none⟩))), fun _ w' => w'.heap[tb]? = some (.cells #[.int .u64 0, .bool false, .int .u64 0, .slice none 0 0, .slice none 0 0] 44 (0, 0))]) rfl (by kernel_rfl) (by kernel_rfl) (mono_of ⟨mono_eq, mono_eq, mono_eq, ?m3, trivial⟩) (steps_of 4 ⟨?s0, ?s1, ?s2, ?s3, trivial⟩) ?_
  case m3 =>
    exact ⟨fun u w1 w2 h hb => ext_block h hb, fun hn => absurd rfl hn⟩
  case s0 =>
    refine step_val (v := (.agg #[.int .u64 0, .bool false, .int .u64 0, .slice none 0 0, .slice none 0 0])) (fun av wv hE hS hO hD => ?_) (fun _ => rfl)
    have h5 : av.eval (.tmp 5) = (.pointer (some ⟨sb + 1, 0, none⟩)) := hO.2.2 5 rfl
    have f5 := (ev_form av 5).symm.trans h5
    have k0 := extB_cell hE hst k0
    have m0 := extB_cell hE hnt m0
    have m1 := extB_cell hE hnt m1
    have m2 := extB_cell hE hnt m2
    have m3 := extB_cell hE hnt m3
    have m4 := extB_cell hE hnt m4
    refine ⟨rfl, ?_⟩
    simp [go_sem, f5, k0, m0, m1, m2, m3, m4]
  case s1 =>
    refine step_val (v := (.pointer (some ⟨sb, 0, none⟩))) (fun av wv hE hS hO hD => ?_) (fun _ => rfl)
    have h3 : av.eval (.tmp 3) = (.pointer (some ⟨sb, 0, none⟩)) := hO.2.2 3 rfl
    have f3 := (ev_form av 3).symm.trans h3
    refine ⟨rfl, ?_⟩
    simp [go_sem, f3]
  case s2 =>
    refine step_val (v := (.iface 127 (.pointer (some ⟨fb, 0, none⟩)))) (fun av wv hE hS hO hD => ?_) (fun _ => rfl)
    have d18 : av.eval (.tmp 18) = (.pointer (some ⟨sb, 0, none⟩)) := hD.1 rfl _ rfl
    have f18 := (ev_form av 18).symm.trans d18
    have k0 := extB_cell hE hst k0
    have m0 := extB_cell hE hnt m0
    have m1 := extB_cell hE hnt m1
    have m2 := extB_cell hE hnt m2
    have m3 := extB_cell hE hnt m3
    have m4 := extB_cell hE hnt m4
    refine ⟨rfl, ?_⟩
    simp [go_sem, f18, k0, m0, m1, m2, m3, m4]
  case s3 =>
    refine step_wp (fun av wv hE hS hO hD => ?_)
    have h0 : av.eval (.tmp 0) = (.pointer (some ⟨tb, 0, none⟩)) := hO.2.2 0 rfl
    have f0 := (ev_form av 0).symm.trans h0
    have d17 : av.eval (.tmp 17) = (.agg #[.int .u64 0, .bool false, .int .u64 0, .slice none 0 0, .slice none 0 0]) := hD.1 rfl _ rfl
    have f17 := (ev_form av 17).symm.trans d17
    refine ⟨rfl, ?_⟩
    have hq : wv.heap[tb]? = some (.cells #[u0, u1, u2, u3, u4] 44 (0, 0)) := ext_block (w := V.drew) (hS rfl) HBT.out
    have q0 : wv.cell? ⟨tb, 0, none⟩ = some u0 := block_cell hq 0
    have q1 : wv.cell? ⟨tb, 1, none⟩ = some u1 := block_cell hq 1
    have q2 : wv.cell? ⟨tb, 2, none⟩ = some u2 := block_cell hq 2
    have q3 : wv.cell? ⟨tb, 3, none⟩ = some u3 := block_cell hq 3
    have q4 : wv.cell? ⟨tb, 4, none⟩ = some u4 := block_cell hq 4
    have hz : ∀ o, wv.frozen? ⟨tb, o, none⟩ = false := block_free hq
    unfold Oper.wp
    have l0 : tb < wv.heap.size := lt_of_block hq
    have h0 : av.eval (.tmp 0) = (.pointer (some ⟨tb, 0, none⟩)) := hO.2.2 0 rfl
    have f0 := (ev_form av 0).symm.trans h0
    simp [go_sem, f0, f17, hz, l0, q0, q1, q2, q3, q4]
    exact ⟨es_sp (extB_setIn (extB_setIn (extB_setIn (extB_setIn (extB_setIn (ExtB_refl _ _) 0 _) 1 _) 2 _) 3 _) 4 _), undef, (block_setCell (block_setCell (block_setCell (block_setCell (block_setCell hq (o := 0) _) (o := 1) _) (o := 2) _) (o := 3) _) (o := 4) _)⟩
  intro a' w' hE hO hall
  have hA := act_of_outer (ds := [17, 18, 19]) rfl hO (by kernel_rfl)
  have e17 : (fun u _ => u = (.agg #[.int .u64 0, .bool false, .int .u64 0, .slice none 0 0, .slice none 0 0])) (a'.eval (.tmp 17)) w' := hall.1 _ rfl
  have e18 : (fun u _ => u = (.pointer (some ⟨sb, 0, none⟩))) (a'.eval (.tmp 18)) w' := hall.2.1 _ rfl
  have e19 : (fun u _ => u = (.iface 127 (.pointer (some ⟨fb, 0, none⟩)))) (a'.eval (.tmp 19)) w' := hall.2.2.1 _ rfl
  have z3 : (fun _ w' => w'.heap[tb]? = some (.cells #[.int .u64 0, .bool false, .int .u64 0, .slice none 0 0, .slice none 0 0] 44 (0, 0))) undef w' := hall.2.2.2.1 _ rfl
  simp only [List.foldl_cons, List.foldl_nil, Act.put, List.setIfInBounds_toArray, List.set_cons_succ, List.set_cons_zero, e17, e18, e19] at hA
  clear hO hall e17 e18 e19
  subst hA
  have HE := Lib.hid (of_drewE hE)
  have HZ := Lib.hid z3
  have hbe : w'.heap[eb]? = some (.cells #[.nilIface] 59 (0, 0)) := extB_block HE.out (by simp; exact fun e => hne e.symm) HBE.out
  have HBE := Lib.hid hbe
  have q0 : w'.cell? ⟨eb, 0, none⟩ = some .nilIface := block_cell hbe 0
  have q1 : w'.frozen? ⟨eb, 0, none⟩ = false := block_free hbe 0
  clear hE z3 hbe
  go_wp2
  rw [← HQ.out]
  have hs1 : (w'.setCell ⟨eb, 0, none⟩ (.iface 127 (.pointer (some ⟨fb, 0, none⟩)))).heap.size = w'.heap.size := by simp
  refine ⟨rfl, _, rfl, .tuple #[], by simp [results, Tryz.results140], rfl, rfl, ?_⟩
  exact ⟨HE.out.os.trans HV.out.os, HE.out.tape.trans HV.out.tape, HE.out.output.trans HV.out.output, by rw [hs1]; exact Nat.le_trans HV.out.size HE.out.size, fun i hi h1 h2 => by
    rw [Below.heap_setCell _ _ _ _ h2]
    exact (HE.out.block i (Nat.lt_of_lt_of_le hi HV.out.size) (by simpa using h1)).trans (HV.out.block i hi), block_setCell_ne HZ.out hne _, block_setCell HBE.out _⟩
def RdSlot (s : ByteArray) (w : World) (e : Ending) (w' : World) : Prop :=
  Below w.heap.size w w' ∧ match objR s (slotGs s 0) slot0 0 with
    | .error f => ∃ fb, e = .returned (.tuple #[zeroSlot, .iface 127 (.pointer (some ⟨fb, 0, none⟩))]) ∧ FltB w' fb f.1 f.2
    | .ok y => Kd slot0 y.1 ∧ y.2 ≤ s.size ∧ ∃ (a3 : Option Addr) (c3 : Nat) (a4 : Option Addr) (c4 : Nat), (∃ rb tb, w.heap.size ≤ rb ∧ LiesSlot rb tb w' y.1 a3 c3 a4 c4) ∧ (if y.2 < s.size then ∃ fb, e = .returned (.tuple #[.agg (cellsSlot y.1 a3 c3 a4 c4), .iface 127 (.pointer (some ⟨fb, 0, none⟩))]) ∧ FltB w' fb 5 y.2 else e = .returned (.tuple #[.agg (cellsSlot y.1 a3 c3 a4 c4), .nilIface]))
set_option maxRecDepth 100000 in
set_option maxHeartbeats 8000000 in
theorem readSlot_any (B : Nat) (s : ByteArray) (w : World) (hT : Tabs B w) (hET : ErrType w) (hB : B ≤ w.heap.size) (hg : 0 < B) (hs : s.size ≤ 9223372036854775807) :
    Calls Tryz.prog 77 #[.string s, .func (.func 61) #[] #[]] w (RdSlot s w) := by
  have HT := Lib.hid hT
  have HET := Lib.hid hET
  have ef := enters_of Tryz.func61 (by kernel_rfl) rfl
  clear hT hET
  go_enter_defers Tryz.func77, Tryz.ntmps77
  go_wp2_with fail
  obtain ⟨tb, htb⟩ : ∃ tb, w.heap.size = tb := ⟨_, rfl⟩
  obtain ⟨W, hW⟩ : ∃ W, (w.alloc (.cells #[.int .u64 0, .bool false, .int .u64 0, .slice none 0 0, .slice none 0 0] 44)).alloc (.cells #[.nilIface] 59) = W := ⟨_, rfl⟩
  have WB : Hid (Below w.heap.size w W) := Lib.hid (by rw [← hW]; exact balloc (balloc (Below.refl _ _) _) _)
  have W0 : Hid (W.heap[tb]? = some (.cells #[.int .u64 0, .bool false, .int .u64 0, .slice none 0 0, .slice none 0 0] 44 (0, 0))) := Lib.hid (by rw [← hW, ← htb]; exact block_alloc (heap_alloc_new _ _) _)
  have W1 : Hid (W.heap[tb + 1]? = some (.cells #[.nilIface] 59 (0, 0))) := Lib.hid (by rw [← hW]; exact alloc_new_at _ (by simp [htb]))
  have hWs : W.heap.size = tb + 1 + 1 := by rw [← hW]; simp [htb]
  have HTW : Hid (w.heap.size = tb) := Lib.hid htb
  try rw [hW]
  try simp only [htb]
  clear hW htb
  refine (New_any W s 10240).mono ?_
  rintro e w1 ⟨rfl, hw1⟩
  have hm : max (10240 : Int) 0 = 10240 := by decide
  rw [hm] at hw1
  obtain ⟨rb, hrb⟩ : ∃ rb, W.heap.size = rb := ⟨_, rfl⟩
  have R1 : Hid (RdB w1 rb s 0 10240) := Lib.hid (by rw [hw1, ← hrb]; exact heap_alloc_new _ _)
  have WB1 : Hid (Below W.heap.size W w1) := Lib.hid (by rw [hw1]; exact balloc (Below.refl _ _) _)
  have hs1 : w1.heap.size = rb + 1 := by rw [hw1, ← hrb]; simp
  try rw [hrb]
  clear hw1
  go_upto_region 3 with fail
  obtain ⟨V, hV⟩ : ∃ V, w1.alloc (.cells #[.pointer (some ⟨rb, 0, none⟩)] 199) = V := ⟨_, rfl⟩
  have VB : Hid (Below w1.heap.size w1 V) := Lib.hid (by rw [← hV]; exact balloc (Below.refl _ _) _)
  have VQ : Hid (V.heap[rb + 1]? = some (.cells #[.pointer (some ⟨rb, 0, none⟩)] 199 (0, 0))) := Lib.hid (by rw [← hV]; exact alloc_new_at _ hs1)
  try rw [hV]
  try simp only [hs1]
  have hrbt : rb = tb + 1 + 1 := hrb.symm.trans hWs
  have hTW := HTW.out
  have BV : Hid (Below w.heap.size w V) := Lib.hid (bnext (bnext WB.out WB1.out) VB.out)
  have WV : Hid (Below W.heap.size W V) := Lib.hid (bnext WB1.out VB.out)
  have VT : Hid (V.heap[tb]? = some (.cells #[.int .u64 0, .bool false, .int .u64 0, .slice none 0 0, .slice none 0 0] 44 (0, 0))) := Lib.hid ((WV.out.block _ (lt_of_block W0.out)).trans W0.out)
  have VE : Hid (V.heap[tb + 1]? = some (.cells #[.nilIface] 59 (0, 0))) := Lib.hid ((WV.out.block _ (lt_of_block W1.out)).trans W1.out)
  have VR : Hid (RdB V rb s 0 10240) := Lib.hid (R1.out.below VB.out)
  have ENV : Hid (RdEnv B V (rb + 1) rb s 0) := Lib.hid ⟨VQ.out, VR.out, HT.out.below BV.out, by omega, by omega, by omega, Nat.zero_le _, hs⟩
  have E : TEnv B (rb + 1) rb tb 5 44 V := ⟨⟨_, VR.out⟩, ⟨_, VT.out⟩, by omega, by omega, by omega, by decide, by decide⟩
  have REC : Hid (RecAt rb tb 44 5 V slot0) := Lib.hid (rec_zero VT.out rfl (fun i hi => by
    match i, hi with
    | 0, _ => exact ⟨_, rfl, rfl⟩
    | 1, _ => exact ⟨_, rfl, rfl⟩
    | 2, _ => exact ⟨_, rfl, rfl⟩
    | 3, _ => exact ⟨_, rfl, rfl, rfl⟩
    | 4, _ => exact ⟨_, rfl, rfl, rfl⟩))
  have HOF := Lib.hid (rofSlot_any (x0 := slot0) (s := s) E 0 (by omega) ⟨rfl, rfl, ⟨rfl, rfl, rfl⟩⟩)
  have HE := Lib.hid E
  have G : Hid (GOk slot0 (slotGs s 0)) := Lib.hid (SlotOk s 0 ⟨rfl, rfl, ⟨rfl, rfl, rfl⟩⟩)
  have HRBT := Lib.hid hrbt
  clear hV E hrb hs1 hWs hrbt hTW
  go_wp2_with fail
  refine HOF.out.mono ?_
  rintro e w2 ⟨u, rfl, ⟨g, c, l, rfl, hc, hF, hS⟩, hb⟩
  have hl : (slotGs s 0).length = l.length := hS.1
  have hg := (HE.out.below hb).apart hF.ex
  have H2 := Lib.hid (robject_any B (rb + 1) rb tb g 0 c slot0 44 5 s w2 w2 l (slotGs s 0) 0 slot0 hF.flds hc (show l.length ≤ 1000 by rw [← hl]; exact Nat.le_of_ble_eq_true rfl) hS (Chg.refl _ _ _) hg HE.out.nq HE.out.le HE.out.ne G.out.keys G.out.disj G.out.frames G.out.kinds (fun i => rfl) (REC.out.below hb) (ENV.out.below hb) (fun i hi o ho => rfl))
  have HB := Lib.hid hb
  clear hF hS hb hl hc hg HOF ef
  go_wp2_with fail
  refine H2.out.mono ?_
  intro e w3 hh
  cases hr : objR s (slotGs s 0) slot0 0 with
  | error f =>
    rw [hr] at hh
    have HTH := Lib.hid (getIs_th hh)
    obtain ⟨fb, rfl, hf, hc3⟩ := getIs_err hh
    have HF := Lib.hid hf
    have HC := Lib.hid hc3
    have HR := Lib.hid hr
    clear hh hf hc3 hr H2
    go_wp2
    obtain ⟨cs, hcs, hcn⟩ := HTH.out
    have hce : w3.heap[tb + 1]? = some (.cells #[.nilIface] 59 (0, 0)) := (HC.out.block _ (Nat.lt_of_lt_of_le (lt_of_block VE.out) HB.out.size) (by have := HRBT.out; omega) (by omega)).trans ((HB.out.block _ (lt_of_block VE.out)).trans VE.out)
    refine leaves_cons (f := 140) (args := #[.pointer (some ⟨tb, 0, none⟩), .pointer (some ⟨tb + 1, 0, none⟩)]) (by simp) (by simp [go_sem]) ?_
    refine (read1Slot_some tb (tb + 1) fb cs w3 hcs (arr5 hcn) hce (by omega)).mono ?_
    rintro e u' w4 ⟨rfl, rfl, HA⟩
    have y0 : ∀ o, w4.cell? ⟨tb, o, none⟩ = _ := block_cell HA.th
    have y1 : w4.cell? ⟨tb + 1, 0, none⟩ = some (.iface 127 (.pointer (some ⟨fb, 0, none⟩))) := block_cell HA.er 0
    refine ⟨_, by simp [results, Tryz.results77, go_sem, y0, y1]; rfl, ?_⟩
    refine ⟨?_, by
      rw [HR.out]
      refine ⟨fb, rfl, (HA.block fb (lt_of_block HF.out) (fun e => ?_) (fun e => ?_)).trans HF.out⟩
      · subst e; have h9 := hcs.symm.trans HF.out; cases h9
      · subst e; have h9 := hce.symm.trans HF.out; cases h9⟩
    have hsz := HTW.out
    have hb9 := HRBT.out
    refine ⟨HA.os.trans (HC.out.os.trans (HB.out.os.trans BV.out.os)), HA.tape.trans (HC.out.tape.trans (HB.out.tape.trans BV.out.tape)), HA.output.trans (HC.out.output.trans (HB.out.output.trans BV.out.output)), Nat.le_trans BV.out.size (Nat.le_trans HB.out.size (Nat.le_trans HC.out.size HA.size)), fun i hi => ?_⟩
    have l1 := Nat.lt_of_lt_of_le hi BV.out.size
    have l2 := Nat.lt_of_lt_of_le l1 HB.out.size
    exact (HA.block i (Nat.lt_of_lt_of_le l2 HC.out.size) (by omega) (by omega)).trans ((HC.out.block i l2 (by omega) (by omega)).trans ((HB.out.block i l1).trans (BV.out.block i hi)))
  | ok q =>
    rw [hr] at hh
    obtain ⟨rfl, hrd, hle, hx3, hc3⟩ := getIs_ok hh
    have HRD := Lib.hid hrd
    have HC := Lib.hid hc3
    have HR := Lib.hid hr
    have HKD : Hid (Kd slot0 q.1) := Lib.hid (objR_kinds G.out.kinds hr (fun i => rfl))
    obtain ⟨a3, c3, a4, c4, hth, hlies⟩ := slot_of_rec hx3 HKD.out
    have HTH := Lib.hid hth
    have HLI := Lib.hid hlies
    clear hh hrd hx3 hc3 hr H2 hth hlies
    obtain ⟨x, a⟩ := q
    have hts : tb < w3.heap.size := lt_of_block HTH.out
    have HQ3 : Hid (w3.heap[rb + 1]? = some (.cells #[.pointer (some ⟨rb, 0, none⟩)] 199 (0, 0))) := Lib.hid ((HC.out.block _ (Nat.lt_of_lt_of_le (lt_of_block VQ.out) HB.out.size) (by omega) (by have := HRBT.out; omega)).trans ((HB.out.block _ (lt_of_block VQ.out)).trans VQ.out))
    have HE3 : Hid (w3.heap[tb + 1]? = some (.cells #[.nilIface] 59 (0, 0))) := Lib.hid ((HC.out.block _ (Nat.lt_of_lt_of_le (lt_of_block VE.out) HB.out.size) (by have := HRBT.out; omega) (by omega)).trans ((HB.out.block _ (lt_of_block VE.out)).trans VE.out))
    have HET3 : Hid (ErrType w3) := Lib.hid (by
      have h1 := HET.out.below BV.out
      have h2 := h1.below HB.out
      unfold ErrType at h2 ⊢
      rw [World.cell?_of_block (w := w2) (HC.out.block _ (lt_of_cell h2) (show 0 ≠ rb by have := HRBT.out; have := HTW.out; omega) (show 0 ≠ tb by have := HTW.out; omega))]
      exact h2)
    go_upto_region 4 with fail
    obtain ⟨VO, hVO⟩ : ∃ VO : Nat → Option Nat, VO = fun j => if j = 6 then some tb else none := ⟨_, rfl⟩
    have vo6 : VO 6 = some tb := by rw [hVO]; rfl
    have von : ∀ j, j ≠ 6 → VO j = none := fun j h1 => by rw [hVO]; simp [h1]
    have vob : ∀ j b, b ≠ tb → VO j ≠ some b := fun j b hb => by
      by_cases h : j = 6
      · subst h; rw [vo6]; simp; exact fun e => hb e.symm
      · rw [von j h]; simp
    clear hVO
    refine wp_region_tailV 7 VO (fun i j b h1 h2 => by
        by_cases e1 : i = 6
        · by_cases e2 : j = 6
          · rw [e1, e2]
          · rw [von j e2] at h2; cases h2
        · rw [von i e1] at h1; cases h1) (fun _ _ _ => True) (fun _ => True) (fun _ _ _ _ _ => True) (fun _ _ => trivial) trivial
      (phis [fun u _ => u = .agg (cellsSlot x a3 c3 a4 c4), fun u _ => u = .pointer (some ⟨rb + 1, 0, none⟩), fun u _ => u = .pointer (some ⟨rb + 1, 0, none⟩), fun u _ => u = .pointer (some ⟨rb + 1, 0, none⟩), fun u _ => u = .pointer (some ⟨rb, 0, none⟩), fun u w' => if a < s.size then ∃ fb, u = .iface 127 (.pointer (some ⟨fb, 0, none⟩)) ∧ FltB w' fb 5 a ∧ fb ≠ tb else u = .nilIface, fun _ w' => w'.heap[tb]? = some (.cells (cellsSlot x a3 c3 a4 c4) 44 (0, 0))]) rfl (by kernel_rfl) (by kernel_rfl)
      (monoV_of ⟨monoV_eq, monoV_eq, monoV_eq, monoV_eq, monoV_eq, ?m5, ?m6, trivial⟩) (fun _ _ _ _ _ => trivial) (fun _ _ _ _ _ _ _ _ _ _ _ => trivial) (stepsV_of 7 ⟨?s0, ?s1, ?s2, ?s3, ?s4, ?s5, ?s6, trivial⟩) ?_
    case m5 =>
      intro j hj u w1 w2 he hp
      by_cases hlt : a < s.size
      · simp only [hlt, if_true] at hp ⊢
        obtain ⟨fb, h1, h2, h3⟩ := hp
        refine ⟨fb, h1, (he.1.block fb (lt_of_block h2) ?_).trans h2, h3⟩
        exact fun e => vob j fb h3 e.symm
      · simp only [hlt, if_false] at hp ⊢; exact hp
    case m6 =>
      intro j hj u w1 w2 he hp
      refine (he.1.block tb (lt_of_block hp) ?_).trans hp
      rw [von j hj]; simp
    case s0 =>
      refine stepV_val (v := .agg (cellsSlot x a3 c3 a4 c4)) (fun _ _ => trivial) (fun _ _ _ _ => ⟨trivial, trivial⟩) (fun D av wv hE hO hD => ?_) (fun _ => rfl)
      have h6 : ¬ D 6 := hE.notyet 6 _ rfl { on := 0, ground := .data } (by simp) rfl hE.me
      have hb0 : wv.heap[tb]? = some (.cells (cellsSlot x a3 c3 a4 c4) 44 (0, 0)) := (hE.late 6 h6 tb vo6 hts).trans HTH.out
      have k0 : wv.cell? ⟨tb, 0, none⟩ = some (.int .u64 (x 0).n) := block_cell hb0 0
      have k1 : wv.cell? ⟨tb, 1, none⟩ = some (.bool (x 1).q) := block_cell hb0 1
      have k2 : wv.cell? ⟨tb, 2, none⟩ = some (.int .u64 (x 2).n) := block_cell hb0 2
      have k3 : wv.cell? ⟨tb, 3, none⟩ = some (.slice a3 (len (x 3).l) c3) := block_cell hb0 3
      have k4 : wv.cell? ⟨tb, 4, none⟩ = some (.slice a4 (len (x 4).l) c4) := block_cell hb0 4
      have h4 : av.eval (.tmp 4) = .pointer (some ⟨tb, 0, none⟩) := hO.2.2 4 rfl
      have f4 := (ev_form av 4).symm.trans h4
      refine ⟨rfl, ?_⟩
      simp [go_sem, f4, k0, k1, k2, k3, k4]
    case s1 =>
      refine stepV_val (v := .pointer (some ⟨rb + 1, 0, none⟩)) (fun _ _ => trivial) (fun _ _ _ _ => ⟨trivial, trivial⟩) (fun D av wv hE hO hD => ?_) (fun _ => rfl)
      have h6 : av.eval (.tmp 6) = .pointer (some ⟨rb + 1, 0, none⟩) := hO.2.2 6 rfl
      have f6 := (ev_form av 6).symm.trans h6
      refine ⟨rfl, ?_⟩
      simp [go_sem, f6]
    case s2 =>
      refine stepV_val (v := .pointer (some ⟨rb + 1, 0, none⟩)) (fun _ _ => trivial) (fun _ _ _ _ => ⟨trivial, trivial⟩) (fun D av wv hE hO hD => ?_) (fun _ => rfl)
      have d17 : av.eval (.tmp 17) = .pointer (some ⟨rb + 1, 0, none⟩) := hD.1 rfl _ rfl
      have f17 := (ev_form av 17).symm.trans d17
      refine ⟨rfl, ?_⟩
      simp [go_sem, f17]
    case s3 =>
      refine stepV_val (v := .pointer (some ⟨rb + 1, 0, none⟩)) (fun _ _ => trivial) (fun _ _ _ _ => ⟨trivial, trivial⟩) (fun D av wv hE hO hD => ?_) (fun _ => rfl)
      have d18 : av.eval (.tmp 18) = .pointer (some ⟨rb + 1, 0, none⟩) := hD.1 rfl _ rfl
      have f18 := (ev_form av 18).symm.trans d18
      refine ⟨rfl, ?_⟩
      simp [go_sem, f18]
    case s4 =>
      refine stepV_val (v := .pointer (some ⟨rb, 0, none⟩)) (fun _ _ => trivial) (fun _ _ _ _ => ⟨trivial, trivial⟩) (fun D av wv hE hO hD => ?_) (fun _ => rfl)
      have d19 : av.eval (.tmp 19) = .pointer (some ⟨rb + 1, 0, none⟩) := hD.1 rfl _ rfl
      have f19 := (ev_form av 19).symm.trans d19
      have k0 : wv.cell? ⟨rb + 1, 0, none⟩ = some (.pointer (some ⟨rb, 0, none⟩)) := block_cell ((hE.ext.block (rb + 1) (lt_of_block HQ3.out) (fun j => vob j _ (by have := HRBT.out; omega))).trans HQ3.out) 0
      refine ⟨rfl, ?_⟩
      simp [go_sem, f19, k0]
    case s5 =>
      refine stepV_wp (fun D av wv hPP hE hO hD => ?_)
      have d20 : av.eval (.tmp 20) = .pointer (some ⟨rb, 0, none⟩) := hD.1 rfl _ rfl
      have f20 := (ev_form av 20).symm.trans d20
      have hrd : RdB wv rb s a 10240 := (hE.ext.block rb (lt_of_block HRD.out) (fun j => vob j _ (by have := HRBT.out; omega))).trans HRD.out
      have het : ErrType wv := by
        have h2 : ErrType w3.drew := HET3.out
        unfold ErrType at h2 ⊢
        rw [World.cell?_of_block (w := w3.drew) (hE.ext.block _ (lt_of_cell h2) (fun j => vob j _ (show 0 ≠ tb by have := HTW.out; omega)))]
        exact h2
      have hvs : w3.heap.size ≤ wv.heap.size := hE.ext.size
      refine ⟨rfl, wp_of_callR (f := 124) (args := #[.pointer (some ⟨rb, 0, none⟩)]) (R := fun u w2 => Below wv.heap.size wv w2 ∧ (if a < s.size then ∃ fb, u = .iface 127 (.pointer (some ⟨fb, 0, none⟩)) ∧ FltB w2 fb 5 a ∧ fb ≠ tb else u = .nilIface)) (by simp [go_sem, f20]) ((End_any wv rb s a 10240 het hrd hle hs).mono fun e w2 hh => ?_) (fun u w2 ⟨h1, h2⟩ => ⟨u, rfl, esV_of_ext h1 trivial, h2, fun _ _ _ _ _ => ⟨trivial, trivial⟩⟩)⟩
      obtain ⟨h1, h2⟩ := hh
      unfold leftOf at h2
      by_cases hlt : a < s.size
      · simp only [hlt, if_true] at h2 ⊢
        obtain ⟨fb, h3, h4, h5⟩ := h2
        exact ⟨_, h3, h1, fb, rfl, h5, by omega⟩
      · simp only [hlt, if_false] at h2 ⊢
        exact ⟨_, h2, h1, rfl⟩
    case s6 =>
      refine stepV_wp (fun D av wv hPP hE hO hD => ?_)
      have d16 : av.eval (.tmp 16) = .agg (cellsSlot x a3 c3 a4 c4) := hD.1 rfl _ rfl
      have f16 := (ev_form av 16).symm.trans d16
      have h4 : av.eval (.tmp 4) = .pointer (some ⟨tb, 0, none⟩) := hO.2.2 4 rfl
      have f4 := (ev_form av 4).symm.trans h4
      have hq : wv.heap[tb]? = some (.cells (cellsSlot x a3 c3 a4 c4) 44 (0, 0)) := (hE.own tb vo6 hts).trans HTH.out
      have k0 : wv.cell? ⟨tb, 0, none⟩ = some (.int .u64 (x 0).n) := block_cell hq 0
      have k1 : wv.cell? ⟨tb, 1, none⟩ = some (.bool (x 1).q) := block_cell hq 1
      have k2 : wv.cell? ⟨tb, 2, none⟩ = some (.int .u64 (x 2).n) := block_cell hq 2
      have k3 : wv.cell? ⟨tb, 3, none⟩ = some (.slice a3 (len (x 3).l) c3) := block_cell hq 3
      have k4 : wv.cell? ⟨tb, 4, none⟩ = some (.slice a4 (len (x 4).l) c4) := block_cell hq 4
      have hz : ∀ o, wv.frozen? ⟨tb, o, none⟩ = false := block_free hq
      have l0 : tb < wv.heap.size := lt_of_block hq
      refine ⟨rfl, ?_⟩
      unfold Oper.wp
      simp [go_sem, f4, f16, hz, l0, k0, k1, k2, k3, k4]
      exact ⟨⟨by rw [vo6]; exact (extB_setIn (extB_setIn (extB_setIn (extB_setIn (extB_setIn (ExtB_refl _ _) 0 _) 1 _) 2 _) 3 _) 4 _), trivial⟩, undef, (block_setCell (block_setCell (block_setCell (block_setCell (block_setCell hq (o := 0) _) (o := 1) _) (o := 2) _) (o := 3) _) (o := 4) _), fun _ _ _ _ _ => ⟨trivial, trivial⟩⟩
    intro a' w' hE _ hO hall _
    have hA := act_of_outer (ds := [16, 17, 18, 19, 20, 21]) rfl hO (by kernel_rfl)
    have e16 : (fun u (_ : World) => u = .agg (cellsSlot x a3 c3 a4 c4)) (a'.eval (.tmp 16)) w' := hall.1 _ rfl
    have e17 : (fun u (_ : World) => u = .pointer (some ⟨rb + 1, 0, none⟩)) (a'.eval (.tmp 17)) w' := hall.2.1 _ rfl
    have e18 : (fun u (_ : World) => u = .pointer (some ⟨rb + 1, 0, none⟩)) (a'.eval (.tmp 18)) w' := hall.2.2.1 _ rfl
    have e19 : (fun u (_ : World) => u = .pointer (some ⟨rb + 1, 0, none⟩)) (a'.eval (.tmp 19)) w' := hall.2.2.2.1 _ rfl
    have e20 : (fun u (_ : World) => u = .pointer (some ⟨rb, 0, none⟩)) (a'.eval (.tmp 20)) w' := hall.2.2.2.2.1 _ rfl
    have e21 : (fun u w' => if a < s.size then ∃ fb, u = .iface 127 (.pointer (some ⟨fb, 0, none⟩)) ∧ FltB w' fb 5 a ∧ fb ≠ tb else u = .nilIface) (a'.eval (.tmp 21)) w' := hall.2.2.2.2.2.1 _ rfl
    have z6 : w'.heap[tb]? = some (.cells (cellsSlot x a3 c3 a4 c4) 44 (0, 0)) := hall.2.2.2.2.2.2.1 _ rfl
    obtain ⟨v21, hv21⟩ : ∃ v, a'.eval (.tmp 21) = v := ⟨_, rfl⟩
    rw [hv21] at e21
    simp only [List.foldl_cons, List.foldl_nil, Act.put, List.setIfInBounds_toArray, List.set_cons_succ, List.set_cons_zero, e16, e17, e18, e19, e20, hv21] at hA
    clear hO hall e16 e17 e18 e19 e20 hv21
    subst hA
    have HX4 : Hid (ExtS VO w3 w') := Lib.hid ⟨hE.os, hE.tape, hE.output, hE.size, hE.block⟩
    have HZ6 := Lib.hid z6
    have hbe : w'.heap[tb + 1]? = some (.cells #[.nilIface] 59 (0, 0)) := (HX4.out.block _ (lt_of_block HE3.out) (fun j => vob j _ (by omega))).trans HE3.out
    have HBE := Lib.hid hbe
    have g0 : w'.cell? ⟨tb + 1, 0, none⟩ = some .nilIface := block_cell hbe 0
    have g1 : w'.frozen? ⟨tb + 1, 0, none⟩ = false := block_free hbe 0
    have HVO : Hid (∀ j b, b ≠ tb → VO j ≠ some b) := Lib.hid vob
    have HFIN : ∀ v, Hid (Below w.heap.size w (w'.setCell ⟨tb + 1, 0, none⟩ v)) := fun v => Lib.hid (by
      have hsz := HTW.out
      have hb9 := HRBT.out
      refine ⟨HX4.out.os.trans (HC.out.os.trans (HB.out.os.trans BV.out.os)), HX4.out.tape.trans (HC.out.tape.trans (HB.out.tape.trans BV.out.tape)), HX4.out.output.trans (HC.out.output.trans (HB.out.output.trans BV.out.output)), by simpa using Nat.le_trans BV.out.size (Nat.le_trans HB.out.size (Nat.le_trans HC.out.size HX4.out.size)), fun i hi => ?_⟩
      have l1 := Nat.lt_of_lt_of_le hi BV.out.size
      have l2 := Nat.lt_of_lt_of_le l1 HB.out.size
      rw [Below.heap_setCell _ _ _ _ (show i ≠ tb + 1 by omega)]
      exact (HX4.out.block i (Nat.lt_of_lt_of_le l2 HC.out.size) (fun j => HVO.out j i (by omega))).trans ((HC.out.block i l2 (by omega) (by omega)).trans ((HB.out.block i l1).trans (BV.out.block i hi))))
    have HLF : ∀ v, Hid (LiesSlot rb tb (w'.setCell ⟨tb + 1, 0, none⟩ v) x a3 c3 a4 c4) := fun v => Lib.hid (HLI.out.up (fun b h1 h2 => by
      have hb9 := HRBT.out
      rw [Below.heap_setCell _ _ _ _ (show b ≠ tb + 1 by omega)]
      exact HX4.out.block b h2 (fun j => HVO.out j b (by omega))))
    have HTF : ∀ v o, (w'.setCell ⟨tb + 1, 0, none⟩ v).cell? ⟨tb, o, none⟩ = (cellsSlot x a3 c3 a4 c4)[o]? := fun v o => block_cell (block_setCell_ne HZ6.out (by show tb ≠ tb + 1; omega) v) o
    have HEF : ∀ v, (w'.setCell ⟨tb + 1, 0, none⟩ v).cell? ⟨tb + 1, 0, none⟩ = some v := fun v => block_cell (block_setCell HBE.out v) 0
    have HTFH := Lib.hid HTF
    have HEFH := Lib.hid HEF
    clear hE z6 hbe vo6 von vob HTF HEF
    by_cases hlt : a < s.size
    · simp only [hlt, if_true] at e21
      obtain ⟨fb, rfl, hf, hft⟩ := e21
      have HF := Lib.hid hf
      have HLT := Lib.hid hlt
      clear hf hlt
      go_wp2
      refine leaves_cons (f := 140) (args := #[.pointer (some ⟨tb, 0, none⟩), .pointer (some ⟨tb + 1, 0, none⟩)]) (by simp) (by simp [go_sem]) ?_
      refine (read1Slot_idle _ _ _).mono ?_
      rintro e u' w'' ⟨rfl, rfl, rfl⟩
      have y0 := HTFH.out (.iface 127 (.pointer (some ⟨fb, 0, none⟩)))
      have y1 := HEFH.out (.iface 127 (.pointer (some ⟨fb, 0, none⟩)))
      refine ⟨_, by simp [results, Tryz.results77, go_sem, y0, y1]; rfl, ?_⟩
      refine ⟨(HFIN _).out, ?_⟩
      rw [HR.out]
      refine ⟨HKD.out, hle, a3, c3, a4, c4, ⟨rb, tb, by have := HRBT.out; have := HTW.out; omega, (HLF _).out⟩, ?_⟩
      rw [if_pos HLT.out]
      exact ⟨fb, rfl, block_setCell_ne HF.out (by intro e; subst e; have h9 := HBE.out.symm.trans HF.out; cases h9) _⟩
    · simp only [hlt, if_false] at e21
      subst e21
      have HLT := Lib.hid hlt
      clear hlt
      go_wp2
      refine leaves_cons (f := 140) (args := #[.pointer (some ⟨tb, 0, none⟩), .pointer (some ⟨tb + 1, 0, none⟩)]) (by simp) (by simp [go_sem]) ?_
      refine (read1Slot_idle _ _ _).mono ?_
      rintro e u' w'' ⟨rfl, rfl, rfl⟩
      have y0 := HTFH.out .nilIface
      have y1 := HEFH.out .nilIface
      refine ⟨_, by simp [results, Tryz.results77, go_sem, y0, y1]; rfl, ?_⟩
      refine ⟨(HFIN _).out, ?_⟩
      rw [HR.out]
      refine ⟨HKD.out, hle, a3, c3, a4, c4, ⟨rb, tb, by have := HRBT.out; have := HTW.out; omega, (HLF _).out⟩, ?_⟩
      rw [if_neg HLT.out]
def LiesCert (rb tb : Nat) (w : World) (x : Rcd) (a2 : Option Addr) (c2 : Nat) (a3 : Option Addr) (c3 : Nat) (a4 : Option Addr) (c4 : Nat) (a5 : Option Addr) (c5 : Nat) : Prop := HoldsD rb tb w (.slice a2 (len (x 2).rs) c2) (x 2) ∧ HoldsD rb tb w (.slice a3 (len (x 3).ns) c3) (x 3) ∧ HoldsD rb tb w (.slice a4 (len (x 4).l) c4) (x 4) ∧ HoldsD rb tb w (.slice a5 (len (x 5).l) c5) (x 5)
theorem LiesCert.below {rb tb : Nat} {w w' : World} {x : Rcd} {a2 : Option Addr} {c2 : Nat} {a3 : Option Addr} {c3 : Nat} {a4 : Option Addr} {c4 : Nat} {a5 : Option Addr} {c5 : Nat} (h : LiesCert rb tb w x a2 c2 a3 c3 a4 c4 a5 c5) (hb : Below w.heap.size w w') : LiesCert rb tb w' x a2 c2 a3 c3 a4 c4 a5 c5 := ⟨h.1.chg (Chg.of_below hb), h.2.1.chg (Chg.of_below hb), h.2.2.1.chg (Chg.of_below hb), h.2.2.2.chg (Chg.of_below hb)⟩
theorem LiesCert.chg {rb tb : Nat} {w w' : World} {x : Rcd} {a2 : Option Addr} {c2 : Nat} {a3 : Option Addr} {c3 : Nat} {a4 : Option Addr} {c4 : Nat} {a5 : Option Addr} {c5 : Nat} (h : LiesCert rb tb w x a2 c2 a3 c3 a4 c4 a5 c5) (hb : Chg rb tb w w') : LiesCert rb tb w' x a2 c2 a3 c3 a4 c4 a5 c5 := ⟨h.1.chg hb, h.2.1.chg hb, h.2.2.1.chg hb, h.2.2.2.chg hb⟩
theorem LiesCert.up {rb tb : Nat} {w w' : World} {x : Rcd} {a2 : Option Addr} {c2 : Nat} {a3 : Option Addr} {c3 : Nat} {a4 : Option Addr} {c4 : Nat} {a5 : Option Addr} {c5 : Nat} (h : LiesCert rb tb w x a2 c2 a3 c3 a4 c4 a5 c5) (hb : Up rb w w') : LiesCert rb tb w' x a2 c2 a3 c3 a4 c4 a5 c5 := ⟨h.1.up hb, h.2.1.up hb, h.2.2.1.up hb, h.2.2.2.up hb⟩
def LiesMsg (rb tb : Nat) (w : World) (x : Rcd) : Prop := True
theorem LiesMsg.below {rb tb : Nat} {w w' : World} {x : Rcd} (h : LiesMsg rb tb w x) (hb : Below w.heap.size w w') : LiesMsg rb tb w' x := trivial
theorem LiesMsg.chg {rb tb : Nat} {w w' : World} {x : Rcd} (h : LiesMsg rb tb w x) (hb : Chg rb tb w w') : LiesMsg rb tb w' x := trivial
theorem LiesMsg.up {rb tb : Nat} {w w' : World} {x : Rcd} (h : LiesMsg rb tb w x) (hb : Up rb w w') : LiesMsg rb tb w' x := trivial
def LiesHeader (rb tb : Nat) (w : World) (x : Rcd) : Prop := True
theorem LiesHeader.below {rb tb : Nat} {w w' : World} {x : Rcd} (h : LiesHeader rb tb w x) (hb : Below w.heap.size w w') : LiesHeader rb tb w' x := trivial
theorem LiesHeader.chg {rb tb : Nat} {w w' : World} {x : Rcd} (h : LiesHeader rb tb w x) (hb : Chg rb tb w w') : LiesHeader rb tb w' x := trivial
theorem LiesHeader.up {rb tb : Nat} {w w' : World} {x : Rcd} (h : LiesHeader rb tb w x) (hb : Up rb w w') : LiesHeader rb tb w' x := trivial
end Go.Proofs.YtihiaopilnjonaaGreatDoor
namespace Go.Proofs.YtihiaopilnjonaaGreatDoor
open Go.RowKit
set_option linter.unusedSimpArgs false
set_option linter.unusedVariables false
theorem bsn {w : World} {b c o : Nat} {x : Obj} {v : Value} (h : w.heap[b]? = some x) (hp : b ≠ c) : (w.setCell ⟨c, o, none⟩ v).heap[b]? = some x := block_setCell_ne h hp v
set_option maxRecDepth 100000 in
theorem overPart_ok (m0 : ByteArray) (m1 : Int) (m2 : Int) (m3 : Int) (m4 : Int) (w : World) : Calls Tryz.prog 66 #[.agg #[.string m0, .int .u64 m1, .int .u64 m2, .int .u64 m3, .int .u64 m4], .nilIface] w fun e w' => e = .returned (.tuple #[.agg #[.string m0, .int .u64 m1, .int .u64 m2, .int .u64 m3, .int .u64 m4], .nilIface]) ∧ Below w.heap.size w w' := by
  go_enter Tryz.func66, Tryz.ntmps66
  go_wp2
  have hb := block_setCell (block_setCell (block_setCell (block_setCell (block_setCell (alloc_new_at (w := w.alloc (.cells #[.string m0, .int .u64 m1, .int .u64 m2, .int .u64 m3, .int .u64 m4] 46)) (.cells #[.string ⟨#[]⟩, .int .u64 0, .int .u64 0, .int .u64 0, .int .u64 0] 46) (alloc_size _ rfl)) (o := 0) (.string m0)) (o := 1) (.int .u64 m1)) (o := 2) (.int .u64 m2)) (o := 3) (.int .u64 m3)) (o := 4) (.int .u64 m4)
  have d : ∀ o, _ = _ := block_cell hb
  refine bodyPost_ret (v := .tuple #[.agg #[.string m0, .int .u64 m1, .int .u64 m2, .int .u64 m3, .int .u64 m4], .nilIface]) ?_ rfl ⟨rfl, by (repeat (first | exact Below.refl _ _ | assumption | (refine bdrew ?_) | (refine bdrewN ?_ _) | (refine balloc ?_ _) | (refine bset ?_ (by first | omega | (simp; done) | (simp; omega)) _) | (refine bnext ?_ (by assumption))))⟩
  simp [results, Tryz.results66, go_sem, d]
set_option maxRecDepth 100000 in
theorem overPart_no (m0 : ByteArray) (m1 : Int) (m2 : Int) (m3 : Int) (m4 : Int) (fb : Nat) (w : World) : Calls Tryz.prog 66 #[.agg #[.string m0, .int .u64 m1, .int .u64 m2, .int .u64 m3, .int .u64 m4], .iface 127 (.pointer (some ⟨fb, 0, none⟩))] w fun e w' => e = .returned (.tuple #[zeroPart, .iface 127 (.pointer (some ⟨fb, 0, none⟩))]) ∧ Below w.heap.size w w' := by
  go_enter Tryz.func66, Tryz.ntmps66
  go_wp2
  have hb := block_setCell (block_setCell (block_setCell (block_setCell (block_setCell (block_alloc (alloc_new_at (w := w.alloc (.cells #[.string m0, .int .u64 m1, .int .u64 m2, .int .u64 m3, .int .u64 m4] 46)) (.cells #[.string ⟨#[]⟩, .int .u64 0, .int .u64 0, .int .u64 0, .int .u64 0] 46) (alloc_size _ rfl)) (.cells #[.string ⟨#[]⟩, .int .u64 0, .int .u64 0, .int .u64 0, .int .u64 0] 46)) (o := 0) (.string ⟨#[]⟩)) (o := 1) (.int .u64 0)) (o := 2) (.int .u64 0)) (o := 3) (.int .u64 0)) (o := 4) (.int .u64 0)
  have d : ∀ o, _ = _ := block_cell hb
  refine bodyPost_ret (v := .tuple #[zeroPart, .iface 127 (.pointer (some ⟨fb, 0, none⟩))]) ?_ rfl ⟨rfl, by (repeat (first | exact Below.refl _ _ | assumption | (refine bdrew ?_) | (refine bdrewN ?_ _) | (refine balloc ?_ _) | (refine bset ?_ (by first | omega | (simp; done) | (simp; omega)) _) | (refine bnext ?_ (by assumption))))⟩
  simp [results, Tryz.results66, go_sem, d]
def RePart (s : ByteArray) (w : World) (e : Ending) (w' : World) : Prop :=
  Below w.heap.size w w' ∧ match readR s (partGs s 0) part0 with
    | .error f => ∃ fb, e = .returned (.tuple #[zeroPart, .iface 127 (.pointer (some ⟨fb, 0, none⟩))]) ∧ FltB w' fb f.1 f.2
    | .ok x => Kd part0 x ∧ (∃ rb tb, LiesPart rb tb w' x) ∧ e = .returned (.tuple #[.agg (cellsPart x), .nilIface])
set_option maxRecDepth 100000 in
set_option maxHeartbeats 2000000 in
theorem reaPart_any (B : Nat) (s : ByteArray) (w : World) (hT : Tabs B w) (hET : ErrType w) (hB : B ≤ w.heap.size) (hg : 0 < B) (hs : s.size ≤ 9223372036854775807) :
    Calls Tryz.prog 29 #[.string s] w (RePart s w) := by
  have H := Lib.hid (fun (w' : World) (hb : Below w.heap.size w w') => readPart_any B s w' (hT.below hb) (hET.below hb) (Nat.le_trans hB hb.size) hg hs)
  clear hT hET
  go_enter Tryz.func29, Tryz.ntmps29
  go_wp2_with fail
  refine (H.out _ (balloc (Below.refl _ _) _)).mono ?_
  rintro e w1 ⟨hb1, hh⟩
  have hblk := (hb1.block w.heap.size (by simp)).trans (heap_alloc_new w _)
  have HBK := Lib.hid hblk
  have HB := Lib.hid (bnext (balloc (Below.refl _ _) _) hb1)
  clear hb1 hblk
  cases hr : objR s (partGs s 0) part0 0 with
  | error f =>
    rw [hr] at hh
    obtain ⟨fb, rfl, hf⟩ := hh
    have HF := Lib.hid hf
    have HR : Hid (readR s (partGs s 0) part0 = .error f) := Lib.hid (by unfold readR; rw [hr])
    clear hf hr
    go_wp2_with fail
    refine (overPart_no _ _ _ _ _ fb w1).mono ?_
    rintro e w2 ⟨rfl, hb2⟩
    have hb := (hb2.block _ (lt_of_block HBK.out)).trans HBK.out
    have HB2 := Lib.hid (bnext HB.out hb2)
    have HF2 := Lib.hid (HF.out.below hb2)
    have HBK2 := Lib.hid hb
    have g0 : ∀ o, w2.cell? ⟨w.heap.size, o, none⟩ = _ := block_cell hb
    have g1 : ∀ o, w2.frozen? ⟨w.heap.size, o, none⟩ = false := block_free hb
    have g2 : w.heap.size < w2.heap.size := lt_of_block hb
    clear hb2 hb
    go_wp2
    have hb := block_setCell (block_setCell (block_setCell (block_setCell (block_setCell (HBK2.out) (o := 0) (.string ⟨#[]⟩)) (o := 1) (.int .u64 0)) (o := 2) (.int .u64 0)) (o := 3) (.int .u64 0)) (o := 4) (.int .u64 0)
    have d : ∀ o, _ = _ := block_cell hb
    have hne : fb ≠ w.heap.size := fun e => by subst e; have h9 := HBK2.out.symm.trans HF2.out; cases h9
    refine bodyPost_ret (v := .tuple #[zeroPart, .iface 127 (.pointer (some ⟨fb, 0, none⟩))]) ?_ rfl ⟨(bset (bset (bset (bset (bset HB2.out (Nat.le_refl _) _) (Nat.le_refl _) _) (Nat.le_refl _) _) (Nat.le_refl _) _) (Nat.le_refl _) _), ?_⟩
    · simp [results, Tryz.results29, go_sem, d]
    · rw [HR.out]
      exact ⟨fb, rfl, (bsn (bsn (bsn (bsn (bsn HF2.out hne) hne) hne) hne) hne)⟩
  | ok y =>
    rw [hr] at hh
    obtain ⟨hk, hle, ⟨rb, tb, hrb, hl⟩, hh⟩ := hh
    have HL := Lib.hid hl
    by_cases hlt : y.2 < s.size
    · rw [if_pos hlt] at hh
      obtain ⟨fb, rfl, hf⟩ := hh
      have HF := Lib.hid hf
      have HR : Hid (readR s (partGs s 0) part0 = .error (5, y.2)) := Lib.hid (by unfold readR; rw [hr]; exact if_pos hlt)
      clear hf hr hlt
      go_wp2_with fail
      refine (overPart_no _ _ _ _ _ fb w1).mono ?_
      rintro e w2 ⟨rfl, hb2⟩
      have hb := (hb2.block _ (lt_of_block HBK.out)).trans HBK.out
      have HB2 := Lib.hid (bnext HB.out hb2)
      have HF2 := Lib.hid (HF.out.below hb2)
      have HBK2 := Lib.hid hb
      have g0 : ∀ o, w2.cell? ⟨w.heap.size, o, none⟩ = _ := block_cell hb
      have g1 : ∀ o, w2.frozen? ⟨w.heap.size, o, none⟩ = false := block_free hb
      have g2 : w.heap.size < w2.heap.size := lt_of_block hb
      clear hb2 hb
      go_wp2
      have hb := block_setCell (block_setCell (block_setCell (block_setCell (block_setCell (HBK2.out) (o := 0) (.string ⟨#[]⟩)) (o := 1) (.int .u64 0)) (o := 2) (.int .u64 0)) (o := 3) (.int .u64 0)) (o := 4) (.int .u64 0)
      have d : ∀ o, _ = _ := block_cell hb
      have hne : fb ≠ w.heap.size := fun e => by subst e; have h9 := HBK2.out.symm.trans HF2.out; cases h9
      refine bodyPost_ret (v := .tuple #[zeroPart, .iface 127 (.pointer (some ⟨fb, 0, none⟩))]) ?_ rfl ⟨(bset (bset (bset (bset (bset HB2.out (Nat.le_refl _) _) (Nat.le_refl _) _) (Nat.le_refl _) _) (Nat.le_refl _) _) (Nat.le_refl _) _), ?_⟩
      · simp [results, Tryz.results29, go_sem, d]
      · rw [HR.out]
        exact ⟨fb, rfl, (bsn (bsn (bsn (bsn (bsn HF2.out hne) hne) hne) hne) hne)⟩
    · rw [if_neg hlt] at hh
      subst hh
      have HR : Hid (readR s (partGs s 0) part0 = .ok y.1) := Lib.hid (by unfold readR; rw [hr]; exact if_neg hlt)
      clear hr hlt
      go_wp2_with fail
      refine (overPart_ok _ _ _ _ _ w1).mono ?_
      rintro e w2 ⟨rfl, hb2⟩
      have hb := (hb2.block _ (lt_of_block HBK.out)).trans HBK.out
      have HB2 := Lib.hid (bnext HB.out hb2)
      have HL2 := Lib.hid (HL.out.below hb2)
      have HBK2 := Lib.hid hb
      have g0 : ∀ o, w2.cell? ⟨w.heap.size, o, none⟩ = _ := block_cell hb
      have g1 : ∀ o, w2.frozen? ⟨w.heap.size, o, none⟩ = false := block_free hb
      have g2 : w.heap.size < w2.heap.size := lt_of_block hb
      clear hb2 hb
      go_wp2
      have hb := block_setCell (block_setCell (block_setCell (block_setCell (block_setCell (HBK2.out) (o := 0) (.string (y.1 0).s)) (o := 1) (.int .u64 (y.1 1).n)) (o := 2) (.int .u64 (y.1 2).n)) (o := 3) (.int .u64 (y.1 3).n)) (o := 4) (.int .u64 (y.1 4).n)
      have d : ∀ o, _ = _ := block_cell hb
      refine bodyPost_ret (v := .tuple #[.agg (cellsPart y.1), .nilIface]) ?_ rfl ⟨(bset (bset (bset (bset (bset HB2.out (Nat.le_refl _) _) (Nat.le_refl _) _) (Nat.le_refl _) _) (Nat.le_refl _) _) (Nat.le_refl _) _), ?_⟩
      · simp [results, Tryz.results29, go_sem, d]
      · rw [HR.out]
        exact ⟨hk, ⟨rb, tb, HL2.out.up (fun b h1 h2 => by
          have h3 : b ≠ w.heap.size := by simp at hrb; omega
          repeat rw [Below.heap_setCell _ _ _ _ h3])⟩, rfl⟩
set_option maxRecDepth 100000 in
theorem overSlot_ok (m0 : Int) (m1 : Bool) (m2 : Int) (a3 : Option Addr) (n3 c3 : Nat) (a4 : Option Addr) (n4 c4 : Nat) (w : World) : Calls Tryz.prog 76 #[.agg #[.int .u64 m0, .bool m1, .int .u64 m2, .slice a3 n3 c3, .slice a4 n4 c4], .nilIface] w fun e w' => e = .returned (.tuple #[.agg #[.int .u64 m0, .bool m1, .int .u64 m2, .slice a3 n3 c3, .slice a4 n4 c4], .nilIface]) ∧ Below w.heap.size w w' := by
  go_enter Tryz.func76, Tryz.ntmps76
  go_wp2
  have hb := block_setCell (block_setCell (block_setCell (block_setCell (block_setCell (alloc_new_at (w := w.alloc (.cells #[.int .u64 m0, .bool m1, .int .u64 m2, .slice a3 n3 c3, .slice a4 n4 c4] 44)) (.cells #[.int .u64 0, .bool false, .int .u64 0, .slice none 0 0, .slice none 0 0] 44) (alloc_size _ rfl)) (o := 0) (.int .u64 m0)) (o := 1) (.bool m1)) (o := 2) (.int .u64 m2)) (o := 3) (.slice a3 n3 c3)) (o := 4) (.slice a4 n4 c4)
  have d : ∀ o, _ = _ := block_cell hb
  refine bodyPost_ret (v := .tuple #[.agg #[.int .u64 m0, .bool m1, .int .u64 m2, .slice a3 n3 c3, .slice a4 n4 c4], .nilIface]) ?_ rfl ⟨rfl, by (repeat (first | exact Below.refl _ _ | assumption | (refine bdrew ?_) | (refine bdrewN ?_ _) | (refine balloc ?_ _) | (refine bset ?_ (by first | omega | (simp; done) | (simp; omega)) _) | (refine bnext ?_ (by assumption))))⟩
  simp [results, Tryz.results76, go_sem, d]
set_option maxRecDepth 100000 in
theorem overSlot_no (m0 : Int) (m1 : Bool) (m2 : Int) (a3 : Option Addr) (n3 c3 : Nat) (a4 : Option Addr) (n4 c4 : Nat) (fb : Nat) (w : World) : Calls Tryz.prog 76 #[.agg #[.int .u64 m0, .bool m1, .int .u64 m2, .slice a3 n3 c3, .slice a4 n4 c4], .iface 127 (.pointer (some ⟨fb, 0, none⟩))] w fun e w' => e = .returned (.tuple #[zeroSlot, .iface 127 (.pointer (some ⟨fb, 0, none⟩))]) ∧ Below w.heap.size w w' := by
  go_enter Tryz.func76, Tryz.ntmps76
  go_wp2
  have hb := block_setCell (block_setCell (block_setCell (block_setCell (block_setCell (block_alloc (alloc_new_at (w := w.alloc (.cells #[.int .u64 m0, .bool m1, .int .u64 m2, .slice a3 n3 c3, .slice a4 n4 c4] 44)) (.cells #[.int .u64 0, .bool false, .int .u64 0, .slice none 0 0, .slice none 0 0] 44) (alloc_size _ rfl)) (.cells #[.int .u64 0, .bool false, .int .u64 0, .slice none 0 0, .slice none 0 0] 44)) (o := 0) (.int .u64 0)) (o := 1) (.bool false)) (o := 2) (.int .u64 0)) (o := 3) (.slice none 0 0)) (o := 4) (.slice none 0 0)
  have d : ∀ o, _ = _ := block_cell hb
  refine bodyPost_ret (v := .tuple #[zeroSlot, .iface 127 (.pointer (some ⟨fb, 0, none⟩))]) ?_ rfl ⟨rfl, by (repeat (first | exact Below.refl _ _ | assumption | (refine bdrew ?_) | (refine bdrewN ?_ _) | (refine balloc ?_ _) | (refine bset ?_ (by first | omega | (simp; done) | (simp; omega)) _) | (refine bnext ?_ (by assumption))))⟩
  simp [results, Tryz.results76, go_sem, d]
def ReSlot (s : ByteArray) (w : World) (e : Ending) (w' : World) : Prop :=
  Below w.heap.size w w' ∧ match readR s (slotGs s 0) slot0 with
    | .error f => ∃ fb, e = .returned (.tuple #[zeroSlot, .iface 127 (.pointer (some ⟨fb, 0, none⟩))]) ∧ FltB w' fb f.1 f.2
    | .ok x => Kd slot0 x ∧ ∃ (a3 : Option Addr) (c3 : Nat) (a4 : Option Addr) (c4 : Nat), (∃ rb tb, LiesSlot rb tb w' x a3 c3 a4 c4) ∧ e = .returned (.tuple #[.agg (cellsSlot x a3 c3 a4 c4), .nilIface])
set_option maxRecDepth 100000 in
set_option maxHeartbeats 2000000 in
theorem reaSlot_any (B : Nat) (s : ByteArray) (w : World) (hT : Tabs B w) (hET : ErrType w) (hB : B ≤ w.heap.size) (hg : 0 < B) (hs : s.size ≤ 9223372036854775807) :
    Calls Tryz.prog 35 #[.string s] w (ReSlot s w) := by
  have H := Lib.hid (fun (w' : World) (hb : Below w.heap.size w w') => readSlot_any B s w' (hT.below hb) (hET.below hb) (Nat.le_trans hB hb.size) hg hs)
  clear hT hET
  go_enter Tryz.func35, Tryz.ntmps35
  go_wp2_with fail
  refine (H.out _ (balloc (Below.refl _ _) _)).mono ?_
  rintro e w1 ⟨hb1, hh⟩
  have hblk := (hb1.block w.heap.size (by simp)).trans (heap_alloc_new w _)
  have HBK := Lib.hid hblk
  have HB := Lib.hid (bnext (balloc (Below.refl _ _) _) hb1)
  clear hb1 hblk
  cases hr : objR s (slotGs s 0) slot0 0 with
  | error f =>
    rw [hr] at hh
    obtain ⟨fb, rfl, hf⟩ := hh
    have HF := Lib.hid hf
    have HR : Hid (readR s (slotGs s 0) slot0 = .error f) := Lib.hid (by unfold readR; rw [hr])
    clear hf hr
    go_wp2_with fail
    refine (overSlot_no _ _ _ _ _ _ _ _ _ fb w1).mono ?_
    rintro e w2 ⟨rfl, hb2⟩
    have hb := (hb2.block _ (lt_of_block HBK.out)).trans HBK.out
    have HB2 := Lib.hid (bnext HB.out hb2)
    have HF2 := Lib.hid (HF.out.below hb2)
    have HBK2 := Lib.hid hb
    have g0 : ∀ o, w2.cell? ⟨w.heap.size, o, none⟩ = _ := block_cell hb
    have g1 : ∀ o, w2.frozen? ⟨w.heap.size, o, none⟩ = false := block_free hb
    have g2 : w.heap.size < w2.heap.size := lt_of_block hb
    clear hb2 hb
    go_wp2
    have hb := block_setCell (block_setCell (block_setCell (block_setCell (block_setCell (HBK2.out) (o := 0) (.int .u64 0)) (o := 1) (.bool false)) (o := 2) (.int .u64 0)) (o := 3) (.slice none 0 0)) (o := 4) (.slice none 0 0)
    have d : ∀ o, _ = _ := block_cell hb
    have hne : fb ≠ w.heap.size := fun e => by subst e; have h9 := HBK2.out.symm.trans HF2.out; cases h9
    refine bodyPost_ret (v := .tuple #[zeroSlot, .iface 127 (.pointer (some ⟨fb, 0, none⟩))]) ?_ rfl ⟨(bset (bset (bset (bset (bset HB2.out (Nat.le_refl _) _) (Nat.le_refl _) _) (Nat.le_refl _) _) (Nat.le_refl _) _) (Nat.le_refl _) _), ?_⟩
    · simp [results, Tryz.results35, go_sem, d]
    · rw [HR.out]
      exact ⟨fb, rfl, (bsn (bsn (bsn (bsn (bsn HF2.out hne) hne) hne) hne) hne)⟩
  | ok y =>
    rw [hr] at hh
    obtain ⟨hk, hle, a3, c3, a4, c4, ⟨rb, tb, hrb, hl⟩, hh⟩ := hh
    have HL := Lib.hid hl
    by_cases hlt : y.2 < s.size
    · rw [if_pos hlt] at hh
      obtain ⟨fb, rfl, hf⟩ := hh
      have HF := Lib.hid hf
      have HR : Hid (readR s (slotGs s 0) slot0 = .error (5, y.2)) := Lib.hid (by unfold readR; rw [hr]; exact if_pos hlt)
      clear hf hr hlt
      go_wp2_with fail
      refine (overSlot_no _ _ _ _ _ _ _ _ _ fb w1).mono ?_
      rintro e w2 ⟨rfl, hb2⟩
      have hb := (hb2.block _ (lt_of_block HBK.out)).trans HBK.out
      have HB2 := Lib.hid (bnext HB.out hb2)
      have HF2 := Lib.hid (HF.out.below hb2)
      have HBK2 := Lib.hid hb
      have g0 : ∀ o, w2.cell? ⟨w.heap.size, o, none⟩ = _ := block_cell hb
      have g1 : ∀ o, w2.frozen? ⟨w.heap.size, o, none⟩ = false := block_free hb
      have g2 : w.heap.size < w2.heap.size := lt_of_block hb
      clear hb2 hb
      go_wp2
      have hb := block_setCell (block_setCell (block_setCell (block_setCell (block_setCell (HBK2.out) (o := 0) (.int .u64 0)) (o := 1) (.bool false)) (o := 2) (.int .u64 0)) (o := 3) (.slice none 0 0)) (o := 4) (.slice none 0 0)
      have d : ∀ o, _ = _ := block_cell hb
      have hne : fb ≠ w.heap.size := fun e => by subst e; have h9 := HBK2.out.symm.trans HF2.out; cases h9
      refine bodyPost_ret (v := .tuple #[zeroSlot, .iface 127 (.pointer (some ⟨fb, 0, none⟩))]) ?_ rfl ⟨(bset (bset (bset (bset (bset HB2.out (Nat.le_refl _) _) (Nat.le_refl _) _) (Nat.le_refl _) _) (Nat.le_refl _) _) (Nat.le_refl _) _), ?_⟩
      · simp [results, Tryz.results35, go_sem, d]
      · rw [HR.out]
        exact ⟨fb, rfl, (bsn (bsn (bsn (bsn (bsn HF2.out hne) hne) hne) hne) hne)⟩
    · rw [if_neg hlt] at hh
      subst hh
      have HR : Hid (readR s (slotGs s 0) slot0 = .ok y.1) := Lib.hid (by unfold readR; rw [hr]; exact if_neg hlt)
      clear hr hlt
      go_wp2_with fail
      refine (overSlot_ok _ _ _ _ _ _ _ _ _ w1).mono ?_
      rintro e w2 ⟨rfl, hb2⟩
      have hb := (hb2.block _ (lt_of_block HBK.out)).trans HBK.out
      have HB2 := Lib.hid (bnext HB.out hb2)
      have HL2 := Lib.hid (HL.out.below hb2)
      have HBK2 := Lib.hid hb
      have g0 : ∀ o, w2.cell? ⟨w.heap.size, o, none⟩ = _ := block_cell hb
      have g1 : ∀ o, w2.frozen? ⟨w.heap.size, o, none⟩ = false := block_free hb
      have g2 : w.heap.size < w2.heap.size := lt_of_block hb
      clear hb2 hb
      go_wp2
      have hb := block_setCell (block_setCell (block_setCell (block_setCell (block_setCell (HBK2.out) (o := 0) (.int .u64 (y.1 0).n)) (o := 1) (.bool (y.1 1).q)) (o := 2) (.int .u64 (y.1 2).n)) (o := 3) (.slice a3 (len (y.1 3).l) c3)) (o := 4) (.slice a4 (len (y.1 4).l) c4)
      have d : ∀ o, _ = _ := block_cell hb
      refine bodyPost_ret (v := .tuple #[.agg (cellsSlot y.1 a3 c3 a4 c4), .nilIface]) ?_ rfl ⟨(bset (bset (bset (bset (bset HB2.out (Nat.le_refl _) _) (Nat.le_refl _) _) (Nat.le_refl _) _) (Nat.le_refl _) _) (Nat.le_refl _) _), ?_⟩
      · simp [results, Tryz.results35, go_sem, d]
      · rw [HR.out]
        exact ⟨hk, a3, c3, a4, c4, ⟨rb, tb, HL2.out.up (fun b h1 h2 => by
          have h3 : b ≠ w.heap.size := by simp at hrb; omega
          repeat rw [Below.heap_setCell _ _ _ _ h3])⟩, rfl⟩
end Go.Proofs.YtihiaopilnjonaaGreatDoor
namespace Go.Proofs.YtihiaopilnjonaaGreatDoor
open Go.RowKit
set_option linter.unusedSimpArgs false
set_option linter.unusedVariables false
abbrev CP := Nat → Nat → Value → Prop
def StrsC (C : CP) (a : Option Addr) (l : List ByteArray) : Prop := ∀ i, i < len l → ∃ b off, a = some ⟨b, off, none⟩ ∧ C b (off + i) (.string (sth l i))
theorem StrsC.imp {C D : CP} (h : ∀ b o x, C b o x → D b o x) {a : Option Addr} {l : List ByteArray} (hs : StrsC C a l) : StrsC D a l := fun i hi => by
  obtain ⟨b, off, e, hc⟩ := hs i hi; exact ⟨b, off, e, h _ _ _ hc⟩
structure RevCl (C : CP) (b o : Nat) (d : RevD) : Prop where
  c0 : C b o (.int .u64 d.pos)
  c1 : C b (o + 1) (.int .u64 d.L)
  c2 : C b (o + 2) (.bool d.signed)
  c3 : C b (o + 3) (.int .u64 d.idx)
  c4 : ∃ a c, C b (o + 4) (.slice a (len d.ws) c) ∧ StrsC C a d.ws
  c5 : ∃ a c, C b (o + 5) (.slice a (len d.ps) c) ∧ StrsC C a d.ps
  c6 : C b (o + 6) (.string d.root)
  c7 : C b (o + 7) (.int .u64 d.wt)
  c8 : C b (o + 8) (.int .u64 d.first)
  c9 : C b (o + 9) (.int .u64 d.life)
  c10 : C b (o + 10) (.int .u64 d.keys)
theorem RevCl.imp {C D : CP} (h : ∀ b o x, C b o x → D b o x) {b o : Nat} {d : RevD} (k : RevCl C b o d) : RevCl D b o d := by
  obtain ⟨a4, k4, h4, s4⟩ := k.c4
  obtain ⟨a5, k5, h5, s5⟩ := k.c5
  exact ⟨h _ _ _ k.c0, h _ _ _ k.c1, h _ _ _ k.c2, h _ _ _ k.c3, ⟨a4, k4, h _ _ _ h4, s4.imp h⟩, ⟨a5, k5, h _ _ _ h5, s5.imp h⟩, h _ _ _ k.c6, h _ _ _ k.c7, h _ _ _ k.c8, h _ _ _ k.c9, h _ _ _ k.c10⟩
def RvsC (C : CP) (a : Option Addr) (l : List RevD) : Prop := ∀ i, i < len l → ∃ b off, a = some ⟨b, off, none⟩ ∧ RevCl C b (off + i * 11) (lth l i)
theorem RvsC.imp {C D : CP} (h : ∀ b o x, C b o x → D b o x) {a : Option Addr} {l : List RevD} (k : RvsC C a l) : RvsC D a l := fun i hi => by
  obtain ⟨b, off, e, hc⟩ := k i hi; exact ⟨b, off, e, hc.imp h⟩
structure RvBd (d : RevD) : Prop where
  pos : U64i d.pos
  L : U64i d.L
  idx : U64i d.idx
  wt : U64i d.wt
  first : U64i d.first
  life : U64i d.life
  keys : U64i d.keys
  ws : len d.ws ≤ 100000
  ps : len d.ps ≤ 100000
  root : d.root.size ≤ 9223372036854775807
def NoRow (t : Nat) (w : World) : Prop := ∃ cs T fr, w.heap[t]? = some (.cells cs T fr) ∧ T ≠ 172
theorem NoRow.lt {t : Nat} {w : World} (h : NoRow t w) : t < w.heap.size := by obtain ⟨cs, T, fr, h1, _⟩ := h; exact lt_of_block h1
theorem NoRow.below {t : Nat} {w w' : World} (h : NoRow t w) (hb : Below w.heap.size w w') : NoRow t w' := by
  obtain ⟨cs, T, fr, h1, h2⟩ := h; exact ⟨cs, T, fr, (hb.block _ (lt_of_block h1)).trans h1, h2⟩
theorem NoRow.ne {t g : Nat} {w : World} {l : List FVal} (h : NoRow t w) (hF : FRow w g l) : g ≠ t := fun e => by
  subst e
  obtain ⟨cs, T, fr, h1, h2⟩ := h
  obtain ⟨_, cur, h3⟩ := hF
  rw [h1] at h3; cases h3; exact h2 rfl
section
variable {B t : Nat} {w : World}
end
end Go.Proofs.YtihiaopilnjonaaGreatDoor
namespace Go.Proofs.YtihiaopilnjonaaGreatDoor
open Go.RowKit
set_option linter.unusedSimpArgs false
set_option linter.unusedVariables false
theorem hi8_size (n : Int) (k : Nat) : (baL ((hiL n k).map toB)).size = k := by rw [baL_size, List.length_map, hiL_len]
set_option maxRecDepth 100000 in
theorem rone_any (n : Int) (w : World) (h0 : 0 ≤ n) (h1 : n ≤ 255) : Calls Tryz.prog 232 #[.int .u64 n] w fun e w' => e = .returned (.string (baL [toB n])) ∧ Below w.heap.size w w' := by
  have y0 : IntKind.u8.wrap n = n := IntWalk.u8_in _ (by omega)
  have y1 : n % 256 = n := by omega
  have hc : (convert 106 9 (.slice (some ⟨w.heap.size, 0, none⟩) 1 1)).run Tryz.prog (w.alloc (.cells #[.int .u8 n] 5)) = .ok (.string (baL [toB n])) (w.alloc (.cells #[.int .u8 n] 5)) :=
    run_convert_bytes_arg (P := Tryz.prog) _ 106 5 Tryz.underlying106 Tryz.underlying5 w.heap.size 0 1 1 [n] rfl (fun i hi => by
      obtain rfl : i = 0 := by omega
      exact block_cell (heap_alloc_new _ _) 0) 9 Tryz.underlying9
  go_enter Tryz.func232, Tryz.ntmps232
  go_wp2
  go_ret
  exact ⟨rfl, by (repeat (first | exact Below.refl _ _ | assumption | (refine bdrew ?_) | (refine bdrewN ?_ _) | (refine balloc ?_ _) | (refine bset ?_ (by first | omega | (simp; done) | (simp; omega)) _) | (refine bnext ?_ (by assumption))))⟩
set_option maxRecDepth 100000 in
set_option maxHeartbeats 2000000 in
theorem rbytes_any (n : Int) (k : Nat) (w : World) (hk : k ≤ 8) (h0 : 0 ≤ n) (h1 : n ≤ 18446744073709551615) : Calls Tryz.prog 233 #[.int .u64 n, .int .i64 k] w fun e w' => e = .returned (.string (baL ((hiL n k).map toB))) ∧ Below w.heap.size w w' := by
  go_enter Tryz.func233, Tryz.ntmps233
  go_wp2
  go_loopg [0, 5, 6] k (fun g nn s i wr => ∃ j : Nat, ∃ N : Int, ∃ b : ByteArray, g + j = k ∧ nn = .int .u64 N ∧ s = .string b ∧ i = .int .i64 j ∧ Hid (N = n / 256 ^ j ∧ 0 ≤ N ∧ N ≤ 18446744073709551615) ∧ Hid (b = baL ((hiL n j).map toB)) ∧ Hid (Below w.heap.size w wr))
  case atStart => exact ⟨0, n, _, rfl, rfl, rfl, rfl, ⟨by simp, h0, h1⟩, rfl, Below.refl _ _⟩
  case round =>
    obtain ⟨j, N, b, hj, rfl, rfl, rfl, HN, HS, HB⟩ := hrel
    by_cases hlt : j < k
    · have i1 : (j : Int) < k := by omega
      have hn0 := HN.out.2.1
      have hn1 := HN.out.2.2
      obtain ⟨x, hx⟩ : ∃ x, N % 256 = x := ⟨_, rfl⟩
      have hx0 : 0 ≤ x ∧ x ≤ 255 := by omega
      have y0 : N.tmod 256 = x := by rw [Int.tmod_eq_emod_of_nonneg hn0]; exact hx
      have y1 : IntKind.u8.wrap x = x := IntWalk.u8_in _ (by omega)
      have y2 : N.tdiv 256 = N / 256 := Int.tdiv_eq_ediv_of_nonneg hn0
      have y3 : x % 256 = x := by omega
      obtain ⟨M, hM⟩ : ∃ M, N / 256 = M := ⟨_, rfl⟩
      have hM0 : 0 ≤ M ∧ M ≤ 18446744073709551615 := by omega
      have HM : Hid (M = n / 256 ^ (j + 1)) := Lib.hid (by
        have hp : (0 : Int) < 256 ^ j := Int.pow_pos (by decide)
        rw [← hM, HN.out.1, Int.pow_succ, Int.ediv_ediv, if_neg (by omega), Int.sub_zero])
      have HX : Hid (baL ((hiL n (j + 1)).map toB) = baL [toB x] ++ b) := Lib.hid (by
        rw [hiL, List.map_cons, HS.out, ← baL_app, ← HN.out.1, hx]; rfl)
      have hbs : b.size = j := by rw [HS.out, hi8_size]
      have hbz : (baL [toB x]).size = 1 := rfl
      have hc := run_convert_bytes_arg (P := Tryz.prog) (wr.alloc (.cells #[.int .u8 x] 5)) 106 5 Tryz.underlying106 Tryz.underlying5 wr.heap.size 0 1 1 [x] rfl (fun i hi => by
        obtain rfl : i = 0 := by omega
        exact block_cell (heap_alloc_new _ _) 0) 9 Tryz.underlying9
      rw [show strOfNums [x] = baL [toB x] from rfl] at hc
      have HBB : Hid (Below w.heap.size w (wr.alloc (.cells #[.int .u8 x] 5))) := Lib.hid (balloc HB.out _)
      obtain ⟨z, hz⟩ : ∃ z, baL [toB x] = z := ⟨_, rfl⟩
      rw [hz] at hc hbz HX
      rw [hM] at y2
      clear hz HN HS
      go_wp2
      go_roundg (k - (j + 1))
      case rel => exact ⟨j + 1, M, z ++ b, by omega, by first | rfl | simp [hM], rfl, by go_num, ⟨HM.out, hM0⟩, HX.out.symm, HBB.out⟩
      case measure => omega
    · obtain rfl : j = k := by omega
      have i1 : ¬ (j : Int) < j := by omega
      go_wp2
      go_ret
      exact ⟨by rw [HS.out]; rfl, HB.out⟩
set_option maxRecDepth 100000 in
theorem rnum5_any (n : Int) (w : World) (h0 : 0 ≤ n) (h1 : n ≤ 18446744073709551615) : Calls Tryz.prog 158 #[.int .u64 n] w fun e w' => e = .returned (.string (baL (headP 0 n))) ∧ Below w.heap.size w w' := by
  have EQ := Lib.hid (headP0 n)
  by_cases c1 : n < 128
  · have EQ : Hid (headP 0 n = [toB n]) := Lib.hid (by rw [EQ.out, if_pos c1])
    go_enter Tryz.func158, Tryz.ntmps158
    go_wp2_with fail
    refine (rone_any (n) w (by omega) (by omega)).mono ?_
    rintro e w1 ⟨rfl, hb⟩
    have HB := Lib.hid hb
    clear hb
    go_wp2
    go_ret
    exact ⟨congrArg (fun s => Ending.returned (.string s)) (ba_ext (by rw [EQ.out])), HB.out⟩
  by_cases c2 : n < 256
  · have EQ : Hid (headP 0 n = toB 204 :: (hiL n 1).map toB) := Lib.hid (by rw [EQ.out, if_neg c1, if_pos c2])
    go_enter Tryz.func158, Tryz.ntmps158
    have zz := hi8_size n 1
    go_wp2_with fail
    refine (rbytes_any n 1 w (by decide) h0 h1).mono ?_
    rintro e w1 ⟨rfl, hb⟩
    have HB := Lib.hid hb
    clear hb
    go_wp2
    go_ret
    exact ⟨congrArg (fun s => Ending.returned (.string s)) (ba_ext (by rw [EQ.out]; simp [baL]; rfl)), HB.out⟩
  by_cases c3 : n < 65536
  · have EQ : Hid (headP 0 n = toB 205 :: (hiL n 2).map toB) := Lib.hid (by rw [EQ.out, if_neg c1, if_neg c2, if_pos c3])
    go_enter Tryz.func158, Tryz.ntmps158
    have zz := hi8_size n 2
    go_wp2_with fail
    refine (rbytes_any n 2 w (by decide) h0 h1).mono ?_
    rintro e w1 ⟨rfl, hb⟩
    have HB := Lib.hid hb
    clear hb
    go_wp2
    go_ret
    exact ⟨congrArg (fun s => Ending.returned (.string s)) (ba_ext (by rw [EQ.out]; simp [baL]; rfl)), HB.out⟩
  by_cases c4 : n < 4294967296
  · have EQ : Hid (headP 0 n = toB 206 :: (hiL n 4).map toB) := Lib.hid (by rw [EQ.out, if_neg c1, if_neg c2, if_neg c3, if_pos c4])
    go_enter Tryz.func158, Tryz.ntmps158
    have zz := hi8_size n 4
    go_wp2_with fail
    refine (rbytes_any n 4 w (by decide) h0 h1).mono ?_
    rintro e w1 ⟨rfl, hb⟩
    have HB := Lib.hid hb
    clear hb
    go_wp2
    go_ret
    exact ⟨congrArg (fun s => Ending.returned (.string s)) (ba_ext (by rw [EQ.out]; simp [baL]; rfl)), HB.out⟩
  have EQ : Hid (headP 0 n = toB 207 :: (hiL n 8).map toB) := Lib.hid (by rw [EQ.out, if_neg c1, if_neg c2, if_neg c3, if_neg c4])
  go_enter Tryz.func158, Tryz.ntmps158
  have zz := hi8_size n 8
  go_wp2_with fail
  refine (rbytes_any n 8 w (by decide) h0 h1).mono ?_
  rintro e w1 ⟨rfl, hb⟩
  have HB := Lib.hid hb
  clear hb
  go_wp2
  go_ret
  exact ⟨congrArg (fun s => Ending.returned (.string s)) (ba_ext (by rw [EQ.out]; simp [baL]; rfl)), HB.out⟩
set_option maxRecDepth 100000 in
set_option maxHeartbeats 2000000 in
theorem rhead_any (sort : Nat) (n : Int) (w : World) (hs1 : 1 ≤ sort) (hs5 : sort < 5) (h0 : 0 ≤ n) (hn : n < 65536) : Calls Tryz.prog 159 #[.int .i64 sort, .int .u64 n] w fun e w' => e = .returned (.string (baL (headP sort n))) ∧ Below w.heap.size w w' := by
  have h1 : n ≤ 18446744073709551615 := by omega
  have hs : sort = 1 ∨ sort = 2 ∨ sort = 3 ∨ sort = 4 := by omega
  rcases hs with rfl | rfl | rfl | rfl
  · have EQ := Lib.hid (headP1 hn)
    by_cases c1 : n < 256
    · have EQ : Hid (headP 1 n = toB 196 :: (hiL n 1).map toB) := Lib.hid (by rw [EQ.out, if_pos c1])
      show Calls Tryz.prog 159 #[.int .i64 1, .int .u64 n] w _
      go_enter Tryz.func159, Tryz.ntmps159
      have zz := hi8_size n 1
      go_wp2_with fail
      refine (rbytes_any n 1 w (by decide) h0 h1).mono ?_
      rintro e w1 ⟨rfl, hb⟩
      have HB := Lib.hid hb
      clear hb
      go_wp2
      go_ret
      exact ⟨congrArg (fun s => Ending.returned (.string s)) (ba_ext (by rw [EQ.out]; simp [baL]; rfl)), HB.out⟩
    have EQ : Hid (headP 1 n = toB 197 :: (hiL n 2).map toB) := Lib.hid (by rw [EQ.out, if_neg c1])
    show Calls Tryz.prog 159 #[.int .i64 1, .int .u64 n] w _
    go_enter Tryz.func159, Tryz.ntmps159
    have zz := hi8_size n 2
    go_wp2_with fail
    refine (rbytes_any n 2 w (by decide) h0 h1).mono ?_
    rintro e w1 ⟨rfl, hb⟩
    have HB := Lib.hid hb
    clear hb
    go_wp2
    go_ret
    exact ⟨congrArg (fun s => Ending.returned (.string s)) (ba_ext (by rw [EQ.out]; simp [baL]; rfl)), HB.out⟩
  · have EQ := Lib.hid (headP2 hn)
    by_cases c1 : n < 32
    · have EQ : Hid (headP 2 n = [toB (160 + n)]) := Lib.hid (by rw [EQ.out, if_pos c1])
      show Calls Tryz.prog 159 #[.int .i64 2, .int .u64 n] w _
      go_enter Tryz.func159, Tryz.ntmps159
      go_wp2_with fail
      refine (rone_any (160 + n) w (by omega) (by omega)).mono ?_
      rintro e w1 ⟨rfl, hb⟩
      have HB := Lib.hid hb
      clear hb
      go_wp2
      go_ret
      exact ⟨congrArg (fun s => Ending.returned (.string s)) (ba_ext (by rw [EQ.out])), HB.out⟩
    by_cases c2 : n < 256
    · have EQ : Hid (headP 2 n = toB 217 :: (hiL n 1).map toB) := Lib.hid (by rw [EQ.out, if_neg c1, if_pos c2])
      show Calls Tryz.prog 159 #[.int .i64 2, .int .u64 n] w _
      go_enter Tryz.func159, Tryz.ntmps159
      have zz := hi8_size n 1
      go_wp2_with fail
      refine (rbytes_any n 1 w (by decide) h0 h1).mono ?_
      rintro e w1 ⟨rfl, hb⟩
      have HB := Lib.hid hb
      clear hb
      go_wp2
      go_ret
      exact ⟨congrArg (fun s => Ending.returned (.string s)) (ba_ext (by rw [EQ.out]; simp [baL]; rfl)), HB.out⟩
    have EQ : Hid (headP 2 n = toB 218 :: (hiL n 2).map toB) := Lib.hid (by rw [EQ.out, if_neg c1, if_neg c2])
    show Calls Tryz.prog 159 #[.int .i64 2, .int .u64 n] w _
    go_enter Tryz.func159, Tryz.ntmps159
    have zz := hi8_size n 2
    go_wp2_with fail
    refine (rbytes_any n 2 w (by decide) h0 h1).mono ?_
    rintro e w1 ⟨rfl, hb⟩
    have HB := Lib.hid hb
    clear hb
    go_wp2
    go_ret
    exact ⟨congrArg (fun s => Ending.returned (.string s)) (ba_ext (by rw [EQ.out]; simp [baL]; rfl)), HB.out⟩
  · have EQ := Lib.hid (headP3 hn)
    by_cases c1 : n < 16
    · have EQ : Hid (headP 3 n = [toB (144 + n)]) := Lib.hid (by rw [EQ.out, if_pos c1])
      show Calls Tryz.prog 159 #[.int .i64 3, .int .u64 n] w _
      go_enter Tryz.func159, Tryz.ntmps159
      go_wp2_with fail
      refine (rone_any (144 + n) w (by omega) (by omega)).mono ?_
      rintro e w1 ⟨rfl, hb⟩
      have HB := Lib.hid hb
      clear hb
      go_wp2
      go_ret
      exact ⟨congrArg (fun s => Ending.returned (.string s)) (ba_ext (by rw [EQ.out])), HB.out⟩
    have EQ : Hid (headP 3 n = toB 220 :: (hiL n 2).map toB) := Lib.hid (by rw [EQ.out, if_neg c1])
    show Calls Tryz.prog 159 #[.int .i64 3, .int .u64 n] w _
    go_enter Tryz.func159, Tryz.ntmps159
    have zz := hi8_size n 2
    go_wp2_with fail
    refine (rbytes_any n 2 w (by decide) h0 h1).mono ?_
    rintro e w1 ⟨rfl, hb⟩
    have HB := Lib.hid hb
    clear hb
    go_wp2
    go_ret
    exact ⟨congrArg (fun s => Ending.returned (.string s)) (ba_ext (by rw [EQ.out]; simp [baL]; rfl)), HB.out⟩
  · have EQ := Lib.hid (headP4 hn)
    by_cases c1 : n < 16
    · have EQ : Hid (headP 4 n = [toB (128 + n)]) := Lib.hid (by rw [EQ.out, if_pos c1])
      show Calls Tryz.prog 159 #[.int .i64 4, .int .u64 n] w _
      go_enter Tryz.func159, Tryz.ntmps159
      go_wp2_with fail
      refine (rone_any (128 + n) w (by omega) (by omega)).mono ?_
      rintro e w1 ⟨rfl, hb⟩
      have HB := Lib.hid hb
      clear hb
      go_wp2
      go_ret
      exact ⟨congrArg (fun s => Ending.returned (.string s)) (ba_ext (by rw [EQ.out])), HB.out⟩
    have EQ : Hid (headP 4 n = toB 222 :: (hiL n 2).map toB) := Lib.hid (by rw [EQ.out, if_neg c1])
    show Calls Tryz.prog 159 #[.int .i64 4, .int .u64 n] w _
    go_enter Tryz.func159, Tryz.ntmps159
    have zz := hi8_size n 2
    go_wp2_with fail
    refine (rbytes_any n 2 w (by decide) h0 h1).mono ?_
    rintro e w1 ⟨rfl, hb⟩
    have HB := Lib.hid hb
    clear hb
    go_wp2
    go_ret
    exact ⟨congrArg (fun s => Ending.returned (.string s)) (ba_ext (by rw [EQ.out]; simp [baL]; rfl)), HB.out⟩
def Laid5 (b : ByteArray) (w : World) (e : Ending) (w' : World) : Prop := e = .returned (.tuple #[.string b, .int .i64 0]) ∧ Below w.heap.size w w'
set_option maxRecDepth 100000 in
theorem rlaidnum_any (n : Int) (t : ByteArray) (w : World) (h0 : 0 ≤ n) (h1 : n ≤ 18446744073709551615) : Calls Tryz.prog 97 #[.int .i64 0, .int .u64 n, .string t] w (Laid5 (numP n) w) := by
  have H := Lib.hid (rnum5_any n w h0 h1)
  have e : numP n = baL (headP 0 n) := by unfold numP laidP; exact ba_ext (by simp)
  rw [e]
  clear e
  go_enter Tryz.func97, Tryz.ntmps97
  go_wp2_with fail
  refine H.out.mono ?_
  rintro e w1 ⟨rfl, hb⟩
  have HB := Lib.hid hb
  clear hb
  go_wp2
  go_ret2
  exact ⟨rfl, HB.out⟩
set_option maxRecDepth 100000 in
theorem rlaidtext_any (sort : Nat) (n : Int) (t : ByteArray) (w : World) (hs : sort = 1 ∨ sort = 2) (ht : t.size < 65536) : Calls Tryz.prog 97 #[.int .i64 sort, .int .u64 n, .string t] w (Laid5 (laidP sort t.size t) w) := by
  have H := Lib.hid (rhead_any sort t.size w (by omega) (by omega) (by omega) (by omega))
  have e : laidP sort t.size t = baL (headP sort t.size) ++ t := by
    unfold laidP; rw [if_pos hs]
  rw [e]
  have hl := headP_len sort t.size
  have hz : (baL (headP sort t.size)).size ≤ 9 := by rw [baL_size]; exact hl
  have hw : IntKind.u64.wrap (t.size : Int) = t.size := IntWalk.u64_in _ (by omega)
  obtain ⟨z, hzz⟩ : ∃ z, baL (headP sort t.size) = z := ⟨_, rfl⟩
  rw [hzz] at H hz ⊢
  have hd : decide ((65536 : Int) ≤ (t.size : Int)) = false := decide_eq_false (by omega)
  have hi : (t.size : Int) ≤ 70000 := by omega
  clear e hl hzz ht
  rcases hs with rfl | rfl
  · show Calls Tryz.prog 97 #[.int .i64 1, .int .u64 n, .string t] w _
    go_enter Tryz.func97, Tryz.ntmps97
    go_wp2_with fail
    refine H.out.mono ?_
    rintro e w1 ⟨rfl, hb⟩
    have HB := Lib.hid hb
    clear hb
    go_wp2
    go_ret2
    exact ⟨rfl, HB.out⟩
  · show Calls Tryz.prog 97 #[.int .i64 2, .int .u64 n, .string t] w _
    go_enter Tryz.func97, Tryz.ntmps97
    go_wp2_with fail
    refine H.out.mono ?_
    rintro e w1 ⟨rfl, hb⟩
    have HB := Lib.hid hb
    clear hb
    go_wp2
    go_ret2
    exact ⟨rfl, HB.out⟩
set_option maxRecDepth 100000 in
theorem rlaidmany_any (sort n : Nat) (t : ByteArray) (w : World) (hs : sort = 3 ∨ sort = 4) (hn : n < 65536) : Calls Tryz.prog 97 #[.int .i64 sort, .int .u64 n, .string t] w (Laid5 (laidP sort n ByteArray.empty) w) := by
  have H := Lib.hid (rhead_any sort n w (by omega) (by omega) (by omega) (by omega))
  have e : laidP sort n ByteArray.empty = baL (headP sort n) := by
    unfold laidP; rw [if_neg (by omega)]; exact ba_ext (by simp)
  rw [e]
  have hw : IntKind.i64.wrap (n : Int) = n := IntWalk.i64_in _ (by omega)
  have hd : decide ((65536 : Int) ≤ (n : Int)) = false := decide_eq_false (by omega)
  clear e hn
  rcases hs with rfl | rfl
  · show Calls Tryz.prog 97 #[.int .i64 3, .int .u64 n, .string t] w _
    go_enter Tryz.func97, Tryz.ntmps97
    go_wp2_with fail
    refine H.out.mono ?_
    rintro e w1 ⟨rfl, hb⟩
    have HB := Lib.hid hb
    clear hb
    go_wp2
    go_ret2
    exact ⟨rfl, HB.out⟩
  · show Calls Tryz.prog 97 #[.int .i64 4, .int .u64 n, .string t] w _
    go_enter Tryz.func97, Tryz.ntmps97
    go_wp2_with fail
    refine H.out.mono ?_
    rintro e w1 ⟨rfl, hb⟩
    have HB := Lib.hid hb
    clear hb
    go_wp2
    go_ret2
    exact ⟨rfl, HB.out⟩
end Go.Proofs.YtihiaopilnjonaaGreatDoor
namespace Go.Proofs.YtihiaopilnjonaaGreatDoor
open Go.RowKit
set_option linter.unusedSimpArgs false
set_option linter.unusedVariables false
abbrev BPs := List (ByteArray × ByteArray)
def catK (ps : BPs) : ByteArray := catB ((rkept ps).map fun p => strP p.1 ++ p.2)
def LyB (w : World) (b : Nat) (ps : BPs) : Prop := w.heap[b]? = some (.cells #[.int .u64 ((rkept ps).length : Nat), .string (catK ps)] 141 (0, 0))
theorem LyB.below {w w' : World} {b : Nat} {ps : BPs} (h : LyB w b ps) (hb : Below w.heap.size w w') : LyB w' b ps := by
  unfold LyB; rw [hb.block b (lt_of_block h)]; exact h
theorem rkept_none (ps : BPs) (key : ByteArray) (v : ByteArray) (h : v.size = 0) : rkept (ps ++ [(key, v)]) = rkept ps := by
  unfold rkept; rw [List.filter_append, List.filter_cons_of_neg (by simp [h])]; simp
theorem rkept_some (ps : BPs) (key : ByteArray) (v : ByteArray) (h : v.size ≠ 0) : rkept (ps ++ [(key, v)]) = rkept ps ++ [(key, v)] := by
  unfold rkept; rw [List.filter_append, List.filter_cons_of_pos (by simp [h])]; simp
theorem catK_some (ps : BPs) (key : ByteArray) (v : ByteArray) (h : v.size ≠ 0) : catK (ps ++ [(key, v)]) = catK ps ++ strP key ++ v := by
  unfold catK; rw [rkept_some ps key v h, List.map_append, catB_app]; simp [catB, ByteArray.append_assoc]
theorem extB_below {b : Nat} {w w1 : World} (h : Below w.heap.size w w1) : ExtB (some b) w w1 := ⟨h.os, h.tape, h.output, h.size, fun i hi _ => h.block i hi⟩
theorem extB_set {b : Nat} {w w1 : World} (h : ExtB (some b) w w1) (o : Nat) (v : Value) : ExtB (some b) w (w1.setCell ⟨b, o, none⟩ v) := by
  refine ⟨h.os, h.tape, h.output, by rw [show (w1.setCell ⟨b, o, none⟩ v).heap.size = w1.heap.size by simp]; exact h.size, fun i hi hne => ?_⟩
  rw [Below.heap_setCell _ _ _ _ (by rintro e; exact hne (by rw [e]))]; exact h.block i hi hne
theorem extB_to {b n : Nat} {w w1 : World} (h : ExtB (some b) w w1) (hn : n ≤ b) (hw : n ≤ w.heap.size) : Below n w w1 := ⟨h.os, h.tape, h.output, h.size, fun i hi => h.block i (by omega) (by rintro e; cases e; omega)⟩
theorem full5 {t : ByteArray} (h : t.size ≠ 0) : t.toList.isEmpty = false := by
  rw [ByteArray.toList_eq]; cases t with | mk d => simp_all [ByteArray.size]
set_option maxRecDepth 100000 in
set_option maxHeartbeats 2000000 in
theorem put_any (b : Nat) (ps : BPs) (key v : ByteArray) (w : World) (h : LyB w b ps) (hk : key.size < 65536) (hn : ps.length ≤ 1000) (hs : (catK ps).size ≤ 30000000000000) (hv : v.size ≤ 10000000000000) :
    Calls Tryz.prog 81 #[.pointer (some ⟨b, 0, none⟩), .string key, .string v] w fun e w' => e = .returned (.tuple #[]) ∧ ExtB (some b) w w' ∧ LyB w' b (ps ++ [(key, v)]) := by
  have H := Lib.hid h
  have HN := Lib.hid hn
  by_cases h0 : v.size = 0
  · have hv0 : v = ⟨#[]⟩ := by
      have : v = ByteArray.empty := ba_ext (by have := ba_len v; rw [h0] at this; rw [List.length_eq_zero_iff.1 this]; rfl)
      exact this
    have HV0 := Lib.hid h0
    clear h0
    subst hv0
    clear h hn
    go_enter Tryz.func81, Tryz.ntmps81
    go_wp2
    refine bodyPost_ret (results_none rfl _ _ _) rfl ?_
    exact ⟨rfl, extB_below (by (repeat (first | exact Below.refl _ _ | assumption | (refine bdrew ?_) | (refine bdrewN ?_ _) | (refine balloc ?_ _) | (refine bset ?_ (by first | omega | (simp; done) | (simp; omega)) _) | (refine bnext ?_ (by assumption))))), by unfold LyB catK; rw [rkept_none _ _ _ rfl]; exact H.out.below (by (repeat (first | exact Below.refl _ _ | assumption | (refine bdrew ?_) | (refine bdrewN ?_ _) | (refine balloc ?_ _) | (refine bset ?_ (by first | omega | (simp; done) | (simp; omega)) _) | (refine bnext ?_ (by assumption)))))⟩
  · have e1 : v.toList.isEmpty = false := full5 h0
    have HV := Lib.hid h0
    have HL := Lib.hid (rlaidtext_any 2 0 key w (.inr rfl) hk)
    obtain ⟨K, hK⟩ : ∃ K, laidP 2 key.size key = K := ⟨_, rfl⟩
    have hKs : K.size ≤ 70000 := by
      rw [← hK]; unfold laidP; rw [if_pos (.inr rfl)]
      have := headP_len 2 key.size
      rw [ByteArray.size_append, baL_size]; omega
    have HKK : Hid (strP key = K) := Lib.hid hK
    rw [hK] at HL
    obtain ⟨C, hC⟩ : ∃ C, catK ps = C := ⟨_, rfl⟩
    have HC := Lib.hid hC
    rw [hC] at hs
    have hr : (rkept ps).length ≤ 1000 := Nat.le_trans (List.length_filter_le _ _) hn
    obtain ⟨m, hm⟩ : ∃ m, (rkept ps).length = m := ⟨_, rfl⟩
    have HM := Lib.hid hm
    rw [hm] at hr
    have yy : IntKind.u64.wrap ((m : Int) + 1) = ((m + 1 : Nat) : Int) := by rw [IntWalk.u64_in _ (by omega)]; omega
    clear h hn h0 hk hK hC hm
    go_enter Tryz.func81, Tryz.ntmps81
    go_wp2_with fail
    refine HL.out.mono ?_
    rintro e w1 ⟨rfl, hb⟩
    have HB := Lib.hid hb
    have hblk := H.out.below hb
    unfold LyB at hblk
    rw [HC.out, HM.out] at hblk
    have c0 : w1.cell? ⟨b, 0, none⟩ = some (.int .u64 m) := block_cell hblk 0
    have c1 : w1.cell? ⟨b, 1, none⟩ = some (.string C) := block_cell hblk 1
    have f0 : ∀ o, w1.frozen? ⟨b, o, none⟩ = false := block_free hblk
    have HBK := Lib.hid hblk
    clear hb hblk
    go_wp2_with fail
    go_upto_region 3 with fail
    obtain ⟨V, hV⟩ : ∃ V, w1.setCell ⟨b, 1, none⟩ (.string (C ++ K ++ v)) = V := ⟨_, rfl⟩
    have hVb : V.heap[b]? = some (.cells #[.int .u64 m, .string (C ++ K ++ v)] 141 (0, 0)) := by rw [← hV]; exact block_setCell HBK.out _
    have HVE : Hid (ExtB (some b) w V) := Lib.hid (by rw [← hV]; exact extB_set (extB_below HB.out) _ _)
    have c0 : V.cell? ⟨b, 0, none⟩ = some (.int .u64 m) := block_cell hVb 0
    have f0 : ∀ o, V.frozen? ⟨b, o, none⟩ = false := block_free hVb
    have HBK := Lib.hid hVb
    rw [hV]
    clear hV hVb
    go_wp2
    go_end0
    refine ⟨rfl, extB_set HVE.out _ _, ?_⟩
    unfold LyB
    rw [rkept_some _ _ _ HV.out, catK_some _ _ _ HV.out, HC.out, HKK.out, List.length_append, HM.out]
    exact block_setCell HBK.out _
end Go.Proofs.YtihiaopilnjonaaGreatDoor
namespace Go.Proofs.YtihiaopilnjonaaGreatDoor
open Go.RowKit
set_option linter.unusedSimpArgs false
set_option linter.unusedVariables false
theorem laidP_len (sort : Nat) (n : Int) (t : ByteArray) : (laidP sort n t).size ≤ 9 + t.size := by
  unfold laidP
  have := headP_len sort n
  rw [ByteArray.size_append, baL_size]
  split
  · omega
  · show _ + 0 ≤ _; omega
set_option maxRecDepth 100000 in
theorem rwhole_any (b : Nat) (ps : BPs) (w : World) (h : LyB w b ps) (hn : ps.length ≤ 1000) (hs : (catK ps).size ≤ 30000000000000) :
    Calls Tryz.prog 84 #[.pointer (some ⟨b, 0, none⟩)] w fun e w' => e = .returned (.string (rlayP ps)) ∧ Below w.heap.size w w' := by
  have H := Lib.hid h
  have hr : (rkept ps).length ≤ 1000 := Nat.le_trans (List.length_filter_le _ _) hn
  have HE : Hid (rlayP ps = mapP (rkept ps).length ++ catK ps) := Lib.hid rfl
  obtain ⟨m, hm⟩ : ∃ m, (rkept ps).length = m := ⟨_, rfl⟩
  obtain ⟨C, hC⟩ : ∃ C, catK ps = C := ⟨_, rfl⟩
  unfold LyB at h
  rw [hm, hC] at h HE
  rw [hm] at hr
  rw [hC] at hs
  have c0 : w.cell? ⟨b, 0, none⟩ = some (.int .u64 m) := block_cell h 0
  have c1 : w.cell? ⟨b, 1, none⟩ = some (.string C) := block_cell h 1
  have HL := Lib.hid (rlaidmany_any 4 m ⟨#[]⟩ w (.inr rfl) (by omega))
  have hz : (mapP m).size ≤ 9 := laidP_len 4 m ByteArray.empty
  have HE2 := Lib.hid HE.out
  unfold mapP at HE hz
  obtain ⟨K, hK⟩ : ∃ K, laidP 4 m ByteArray.empty = K := ⟨_, rfl⟩
  rw [hK] at HL HE hz
  have hzi : (K.size : Int) ≤ 9 := by omega
  clear h H hm hC HE2 hK hr
  go_enter Tryz.func84, Tryz.ntmps84
  go_wp2_with fail
  refine HL.out.mono ?_
  rintro e w1 ⟨rfl, hb⟩
  have HB := Lib.hid hb
  have c1' : w1.cell? ⟨b, 1, none⟩ = some (.string C) := (hb.cell (lt_of_cell c1)).trans c1
  clear hb c0 c1
  go_wp2
  go_ret
  exact ⟨by rw [HE.out]; rfl, HB.out⟩
def numR (n : Int) : ByteArray := if n = 0 then ⟨#[]⟩ else numP n
set_option maxRecDepth 100000 in
theorem rnum_any (n : Int) (w : World) (h0 : 0 ≤ n) (h1 : n ≤ 18446744073709551615) : Calls Tryz.prog 82 #[.int .u64 n] w fun e w' => e = .returned (.string (numR n)) ∧ Below w.heap.size w w' := by
  by_cases hz : n = 0
  · subst hz
    go_enter Tryz.func82, Tryz.ntmps82
    go_wp2
    go_ret
    exact ⟨rfl, by (repeat (first | exact Below.refl _ _ | assumption | (refine bdrew ?_) | (refine bdrewN ?_ _) | (refine balloc ?_ _) | (refine bset ?_ (by first | omega | (simp; done) | (simp; omega)) _) | (refine bnext ?_ (by assumption))))⟩
  · have HL := Lib.hid (rlaidnum_any n ⟨#[]⟩ w h0 h1)
    have HE : Hid (numR n = numP n) := Lib.hid (by unfold numR; rw [if_neg hz])
    obtain ⟨K, hK⟩ : ∃ K, numP n = K := ⟨_, rfl⟩
    rw [hK] at HL HE
    have hz' : decide (n = 0) = false := decide_eq_false hz
    have hz2 : (n == 0) = false := by simp [hz]
    clear hz hK
    go_enter Tryz.func82, Tryz.ntmps82
    go_wp2_with fail
    refine HL.out.mono ?_
    rintro e w1 ⟨rfl, hb⟩
    have HB := Lib.hid hb
    clear hb
    go_wp2
    go_ret
    exact ⟨by rw [HE.out]; rfl, HB.out⟩
set_option maxRecDepth 100000 in
theorem rbin_any (s : ByteArray) (w : World) (hs : s.size < 65536) : Calls Tryz.prog 83 #[.string s] w fun e w' => e = .returned (.string (binP s)) ∧ Below w.heap.size w w' := by
  have HL := Lib.hid (rlaidtext_any 1 0 s w (.inl rfl) hs)
  have HE : Hid (binP s = laidP 1 s.size s) := Lib.hid rfl
  obtain ⟨K, hK⟩ : ∃ K, laidP 1 s.size s = K := ⟨_, rfl⟩
  rw [hK] at HL HE
  clear hs hK
  go_enter Tryz.func83, Tryz.ntmps83
  go_wp2_with fail
  refine HL.out.mono ?_
  rintro e w1 ⟨rfl, hb⟩
  have HB := Lib.hid hb
  clear hb
  go_wp2
  go_ret
  exact ⟨by rw [HE.out]; rfl, HB.out⟩
set_option maxRecDepth 100000 in
theorem rlist_any (n : Nat) (w : World) (hn : n < 65536) : Calls Tryz.prog 96 #[.int .i64 n] w fun e w' => e = .returned (.string (listP n)) ∧ Below w.heap.size w w' := by
  have HL := Lib.hid (rlaidmany_any 3 n ⟨#[]⟩ w (.inl rfl) hn)
  have HE : Hid (listP n = laidP 3 n ByteArray.empty) := Lib.hid rfl
  obtain ⟨K, hK⟩ : ∃ K, laidP 3 n ByteArray.empty = K := ⟨_, rfl⟩
  rw [hK] at HL HE
  have hw : IntKind.u64.wrap (n : Int) = n := IntWalk.u64_in _ (by omega)
  clear hn hK
  go_enter Tryz.func96, Tryz.ntmps96
  go_wp2_with fail
  refine HL.out.mono ?_
  rintro e w1 ⟨rfl, hb⟩
  have HB := Lib.hid hb
  clear hb
  go_wp2
  go_ret
  exact ⟨by rw [HE.out]; rfl, HB.out⟩
def smallR (s : ByteArray) : ByteArray := if s = ⟨#[128]⟩ then ⟨#[]⟩ else s
set_option maxRecDepth 100000 in
theorem rsmall_any (s : ByteArray) (w : World) : Calls Tryz.prog 138 #[.string s] w fun e w' => e = .returned (.string (smallR s)) ∧ Below w.heap.size w w' := by
  by_cases hz : s = ⟨#[128]⟩
  · subst hz
    go_enter Tryz.func138, Tryz.ntmps138
    go_wp2
    go_ret
    exact ⟨rfl, by (repeat (first | exact Below.refl _ _ | assumption | (refine bdrew ?_) | (refine bdrewN ?_ _) | (refine balloc ?_ _) | (refine bset ?_ (by first | omega | (simp; done) | (simp; omega)) _) | (refine bnext ?_ (by assumption))))⟩
  · have HE : Hid (smallR s = s) := Lib.hid (by unfold smallR; rw [if_neg hz])
    have hz2 : (s.toList == [128]) = false := by
      rw [ByteArray.toList_eq]; exact beq_false_of_ne (fun h => hz (ba_ext h))
    clear hz
    go_enter Tryz.func138, Tryz.ntmps138
    go_wp2
    go_ret
    exact ⟨by rw [HE.out]; rfl, by (repeat (first | exact Below.refl _ _ | assumption | (refine bdrew ?_) | (refine bdrewN ?_ _) | (refine balloc ?_ _) | (refine bset ?_ (by first | omega | (simp; done) | (simp; omega)) _) | (refine bnext ?_ (by assumption))))⟩
set_option maxRecDepth 100000 in
theorem rdigest_any (s : ByteArray) (w : World) (hs : s.size ≤ 9223372036854775807) : Calls Tryz.prog 64 #[.string s] w fun e w' => e = .returned (.bool (decide (s.size = 32))) ∧ Below w.heap.size w w' := by
  have h1 : ((s.size : Int) == 32) = decide (s.size = 32) := by
    by_cases h : s.size = 32
    · rw [decide_eq_true h, h]; rfl
    · rw [decide_eq_false h]; simp; omega
  go_enter Tryz.func64, Tryz.ntmps64
  go_wp2
  go_ret
  exact ⟨by simp, by (repeat (first | exact Below.refl _ _ | assumption | (refine bdrew ?_) | (refine bdrewN ?_ _) | (refine balloc ?_ _) | (refine bset ?_ (by first | omega | (simp; done) | (simp; omega)) _) | (refine bnext ?_ (by assumption))))⟩
set_option maxRecDepth 100000 in
theorem rmay_any (B : Nat) (a : Option Addr) (c most : Nat) (l : List ByteArray) (w : World) (hl : Strs B w a l) (hn : len l ≤ 100000) (hm : most ≤ 100000) (hz : ∀ i, i < len l → (sth l i).size ≤ 9223372036854775807) :
    Calls Tryz.prog 94 #[.slice a (len l) c, .int .i64 most] w fun e w' => e = .returned (.bool (mayB l most)) ∧ Below w.heap.size w w' := by
  have HL := Lib.hid hl
  have HZ := Lib.hid hz
  clear hl hz
  go_enter Tryz.func94, Tryz.ntmps94
  go_wp2
  go_loopg [5] (len l) (fun g i wr => ∃ m : Nat, g + m = len l ∧ i = .int .i64 m ∧ Hid (∀ i, i < m → (sth l i).size = 32) ∧ Hid (Below w.heap.size w wr))
  case atStart => exact ⟨0, rfl, rfl, fun i hi => by omega, Below.refl _ _⟩
  case round =>
    obtain ⟨m, hg, rfl, HN, HB⟩ := hrel
    by_cases hlt : m < len l
    · obtain ⟨b, off, rfl, hc⟩ := (HL.out.below HB.out) m hlt
      have c0 := hc.cell
      have i1 : (m : Int) < len l := by omega
      have hzm := HZ.out m hlt
      have HD := Lib.hid (rdigest_any (sth l m) wr hzm)
      clear hc
      by_cases h32 : (sth l m).size = 32
      · have HN2 : Hid (∀ i, i < m + 1 → (sth l i).size = 32) := Lib.hid (fun i hi => by
          by_cases e : i = m
          · subst e; exact h32
          · exact HN.out i (by omega))
        have hd : decide ((sth l m).size = 32) = true := decide_eq_true h32
        rw [hd] at HD
        generalize sth l m = v at c0 HD
        clear hzm h32 hd
        go_wp2_with fail
        refine HD.out.mono ?_
        rintro e w1 ⟨rfl, hb⟩
        have HB1 : Hid (Below w.heap.size w w1) := Lib.hid (bnext HB.out hb)
        clear hb c0
        go_wp2
        go_roundg (len l - (m + 1))
        case rel => exact ⟨m + 1, by omega, by go_num, HN2.out, HB1.out⟩
        case measure => omega
      · have HF : Hid (mayB l most = false) := Lib.hid (by
          cases hc : mayB l most with
          | false => rfl
          | true => exact absurd ((size32 hc).2 m hlt) h32)
        have hd : decide ((sth l m).size = 32) = false := decide_eq_false h32
        rw [hd] at HD
        generalize sth l m = v at c0 HD
        clear hzm h32 hd
        go_wp2_with fail
        refine HD.out.mono ?_
        rintro e w1 ⟨rfl, hb⟩
        have HB1 : Hid (Below w.heap.size w w1) := Lib.hid (bnext HB.out hb)
        clear hb c0
        go_wp2
        go_ret
        exact ⟨by rw [HF.out]; rfl, HB1.out⟩
    · obtain rfl : m = len l := by omega
      have i1 : ¬ ((len l : Nat) : Int) < (len l : Nat) := by omega
      have hall : (l.all fun x => decide (x.size = 32)) = true := by
        cases hc : (l.all fun x => decide (x.size = 32)) with
        | true => rfl
        | false =>
          obtain ⟨i, hi, h⟩ := (all32_iff l).1 hc
          rw [decide_eq_true (HN.out i hi)] at h
          exact absurd h (by decide)
      have HE : Hid (mayB l most = decide (len l ≤ most)) := Lib.hid (by
        unfold mayB
        rw [hall, Bool.and_true])
      clear hall
      go_wp2
      go_ret
      exact ⟨by rw [HE.out]; simp, HB.out⟩
set_option maxRecDepth 100000 in
theorem rmaysig_any (B : Nat) (idx : Int) (a1 a2 : Option Addr) (k1 k2 : Nat) (wots path : List ByteArray) (w : World) (hs1 : Strs B w a1 wots) (hs2 : Strs B w a2 path) (hw : len wots ≤ 100000) (hp : len path ≤ 100000) (hz1 : ∀ i, i < len wots → (sth wots i).size ≤ 9223372036854775807) (hz2 : ∀ i, i < len path → (sth path i).size ≤ 9223372036854775807) :
    Calls Tryz.prog 74 #[.agg #[.int .u64 idx, .slice a1 (len wots) k1, .slice a2 (len path) k2]] w fun e w' => e = .returned (.bool (mayB path 16 && mayB wots 67)) ∧ Below w.heap.size w w' := by
  have HS1 := Lib.hid hs1
  have HS2 := Lib.hid hs2
  have HZ1 := Lib.hid hz1
  have HZ2 := Lib.hid hz2
  clear hs1 hs2 hz1 hz2
  go_enter Tryz.func74, Tryz.ntmps74
  go_wp2_with fail
  obtain ⟨V, hV⟩ : ∃ V, w.alloc (.cells #[.int .u64 idx, .slice a1 (len wots) k1, .slice a2 (len path) k2] 42) = V := ⟨_, rfl⟩
  have HB : Hid (Below w.heap.size w V) := Lib.hid (by rw [← hV]; (repeat (first | exact Below.refl _ _ | assumption | (refine bdrew ?_) | (refine bdrewN ?_ _) | (refine balloc ?_ _) | (refine bset ?_ (by first | omega | (simp; done) | (simp; omega)) _) | (refine bnext ?_ (by assumption)))))
  have hblk : V.heap[w.heap.size]? = some (.cells #[.int .u64 idx, .slice a1 (len wots) k1, .slice a2 (len path) k2] 42 (0, 0)) := by rw [← hV]; exact heap_alloc_new _ _
  try rw [hV]
  clear hV
  refine (rmay_any B a2 k2 16 path V (HS2.out.below HB.out) hp (by decide) HZ2.out).mono ?_
  rintro e w1 ⟨rfl, hb⟩
  have HB1 : Hid (Below w.heap.size w w1) := Lib.hid (bnext HB.out hb)
  have c1 : w1.cell? ⟨w.heap.size, 1, none⟩ = some (.slice a1 (len wots) k1) := (hb.cell (lt_of_block hblk)).trans (block_cell hblk 1)
  clear hb hblk
  cases hm : mayB path 16 with
  | false =>
    have HM := Lib.hid hm
    clear hm
    go_wp2
    go_ret
    exact ⟨by rw [HM.out]; rfl, HB1.out⟩
  | true =>
    have HM := Lib.hid hm
    clear hm
    go_wp2_with fail
    refine (rmay_any B a1 k1 67 wots w1 (HS1.out.below HB1.out) hw (by decide) HZ1.out).mono ?_
    rintro e w2 ⟨rfl, hb⟩
    have HB2 : Hid (Below w.heap.size w w2) := Lib.hid (bnext HB1.out hb)
    clear hb c1
    go_wp2
    go_ret
    exact ⟨by rw [HM.out]; rfl, HB2.out⟩
end Go.Proofs.YtihiaopilnjonaaGreatDoor
namespace Go.Proofs.YtihiaopilnjonaaGreatDoor
open Go.RowKit
set_option linter.unusedSimpArgs false
set_option linter.unusedVariables false
def dgsR (l : List ByteArray) : ByteArray := if len l = 0 then ⟨#[]⟩ else dgsP l
theorem catB_tk (f : ByteArray → ByteArray) (l : List ByteArray) (m : Nat) (h : m < len l) : catB ((l.take (m + 1)).map f) = catB ((l.take m).map f) ++ f (sth l m) := by
  rw [sth_eq l m h, List.take_succ_eq_append_getElem h, List.map_append, catB_app]
  simp [catB]
theorem catB_le (f : ByteArray → ByteArray) (M : Nat) : ∀ l : List ByteArray, (∀ x ∈ l, (f x).size ≤ M) → (catB (l.map f)).size ≤ l.length * M
  | [], _ => by simp [catB]
  | x :: r, h => by
    have ih := catB_le f M r (fun y hy => h y (List.mem_cons_of_mem _ hy))
    have h0 := h x List.mem_cons_self
    rw [List.map_cons, catB, ByteArray.size_append, List.length_cons, Nat.succ_mul]
    omega
theorem dgsP_len (l : List ByteArray) (h : ∀ i, i < len l → (sth l i).size < 65536) : (dgsP l).size ≤ 9 + len l * 65544 := by
  unfold dgsP
  have h1 : (listP (len l)).size ≤ 9 := laidP_len 3 _ ByteArray.empty
  have h2 := catB_le binP 65544 l (fun x hx => by
    obtain ⟨i, hi, rfl⟩ := List.getElem_of_mem hx
    have := h i hi
    rw [sth_eq l i hi] at this
    have h3 : (binP l[i]).size ≤ 9 + l[i].size := laidP_len 1 _ _
    omega)
  rw [ByteArray.size_append]
  have : l.length = len l := rfl
  omega
theorem dgsR_len (l : List ByteArray) (h : ∀ i, i < len l → (sth l i).size < 65536) (hn : len l ≤ 60000) : (dgsR l).size ≤ 4000000000 := by
  unfold dgsR
  split
  · decide
  · have := dgsP_len l h
    omega
set_option maxRecDepth 100000 in
set_option maxHeartbeats 2000000 in
theorem rdigests_any (B : Nat) (a : Option Addr) (c : Nat) (l : List ByteArray) (w : World) (hl : Strs B w a l) (hn : len l ≤ 60000) (hz : ∀ i, i < len l → (sth l i).size < 65536) :
    Calls Tryz.prog 95 #[.slice a (len l) c] w fun e w' => e = .returned (.string (dgsR l)) ∧ Below w.heap.size w w' := by
  have HL := Lib.hid hl
  have HZ := Lib.hid hz
  by_cases h0 : len l = 0
  · have HE : Hid (dgsR l = ⟨#[]⟩) := Lib.hid (by unfold dgsR; rw [if_pos h0])
    rw [h0]
    clear hl hz hn h0
    go_enter Tryz.func95, Tryz.ntmps95
    go_wp2
    go_ret
    exact ⟨by rw [HE.out]; rfl, by (repeat (first | exact Below.refl _ _ | assumption | (refine bdrew ?_) | (refine bdrewN ?_ _) | (refine balloc ?_ _) | (refine bset ?_ (by first | omega | (simp; done) | (simp; omega)) _) | (refine bnext ?_ (by assumption))))⟩
  have HE : Hid (dgsR l = listP (len l) ++ catB (l.map binP)) := Lib.hid (by unfold dgsR; rw [if_neg h0]; rfl)
  have HLP := Lib.hid (rlist_any (len l) w (by omega))
  obtain ⟨K, hK⟩ : ∃ K, listP (len l) = K := ⟨_, rfl⟩
  have hKs : K.size ≤ 9 := by rw [← hK]; exact laidP_len 3 _ ByteArray.empty
  rw [hK] at HLP HE
  have h0' : (len l == 0) = false := by simp [h0]
  have hd0 : decide (len l = 0) = false := decide_eq_false h0
  have HN := Lib.hid hn
  clear hl hz hK h0
  go_enter Tryz.func95, Tryz.ntmps95
  go_wp2_with fail
  refine HLP.out.mono ?_
  rintro e w1 ⟨rfl, hb⟩
  have HB := Lib.hid hb
  clear hb h0' hd0
  go_wp2
  go_loopg [3, 4] (len l) (fun g s i wr => ∃ m : Nat, ∃ t : ByteArray, g + m = len l ∧ s = .string t ∧ i = .int .i64 m ∧ Hid (t = K ++ catB ((l.take m).map binP) ∧ t.size ≤ 9 + m * 65544) ∧ Hid (Below w.heap.size w wr))
  case atStart => exact ⟨0, K, rfl, rfl, rfl, ⟨by simp [catB], by omega⟩, HB.out⟩
  case round =>
    obtain ⟨m, t, hg, rfl, rfl, HT, HW⟩ := hrel
    by_cases hlt : m < len l
    · obtain ⟨b, off, rfl, hc⟩ := (HL.out.below HW.out) m hlt
      have c0 := hc.cell
      have i1 : (m : Int) < len l := by omega
      have hzm := HZ.out m hlt
      have HD := Lib.hid (rbin_any (sth l m) wr hzm)
      have hts := HT.out.2
      have hbs : (binP (sth l m)).size ≤ 9 + (sth l m).size := laidP_len 1 _ _
      have HT2 : Hid (t ++ binP (sth l m) = K ++ catB ((l.take (m + 1)).map binP)) := Lib.hid (by
        rw [catB_tk _ _ _ hlt, ← ByteArray.append_assoc, ← HT.out.1])
      obtain ⟨z, hzz⟩ : ∃ z, binP (sth l m) = z := ⟨_, rfl⟩
      rw [hzz] at HD HT2 hbs
      have hbz : z.size ≤ 65544 := by omega
      have hmN : m ≤ 60000 := by have := HN.out; omega
      have hti : (t.size : Int) ≤ 5000000000 := by omega
      have hzi : (z.size : Int) ≤ 65544 := by omega
      generalize sth l m = v at c0 HD
      clear hc hzz hzm hbs
      go_wp2_with fail
      refine HD.out.mono ?_
      rintro e w2 ⟨rfl, hb⟩
      have HB1 : Hid (Below w.heap.size w w2) := Lib.hid (bnext HW.out hb)
      clear hb c0
      go_wp2
      go_roundg (len l - (m + 1))
      case rel => exact ⟨m + 1, t ++ z, by omega, rfl, by go_num, ⟨HT2.out, by rw [ByteArray.size_append]; omega⟩, HB1.out⟩
      case measure => omega
    · obtain rfl : m = len l := by omega
      have i1 : ¬ ((len l : Nat) : Int) < (len l : Nat) := by omega
      have HT2 : Hid (t = K ++ catB (l.map binP)) := Lib.hid (by rw [HT.out.1, show l.take (len l) = l from List.take_length])
      clear HT
      go_wp2
      go_ret
      exact ⟨by rw [HE.out, ← HT2.out]; rfl, HW.out⟩
theorem catK_le (ps : BPs) (k v : ByteArray) : (catK (ps ++ [(k, v)])).size ≤ (catK ps).size + k.size + 9 + v.size := by
  by_cases h : v.size = 0
  · unfold catK; rw [rkept_none _ _ _ h]; omega
  · rw [catK_some _ _ _ h, ByteArray.size_append, ByteArray.size_append]
    have : (strP k).size ≤ 9 + k.size := laidP_len 2 _ _
    omega
theorem putZ {j : Nat} {ps : BPs} {k v : ByteArray} (h : Hid ((catK ps).size ≤ j * 25000000000)) (hk : k.size = 1) (hv : v.size ≤ 24900000000) : Hid ((catK (ps ++ [(k, v)])).size ≤ (j + 1) * 25000000000) := Lib.hid (by
  have h1 := h.out
  have h2 := catK_le ps k v
  omega)
theorem numR_len (n : Int) : (numR n).size ≤ 9 := by
  unfold numR
  split
  · decide
  · exact laidP_len 0 n ByteArray.empty
theorem binP_len (s : ByteArray) : (binP s).size ≤ 9 + s.size := laidP_len 1 _ _
def sigPs (idx : Int) (wots path : List ByteArray) : BPs := [(⟨#[105]⟩, numR idx), (⟨#[112]⟩, dgsR path), (⟨#[118]⟩, dgsR wots)]
def slotPs (L : Int) (q : Bool) (idx : Int) (wots path : List ByteArray) : BPs := [(⟨#[103]⟩, smallR (rlayP (sigPs idx wots path))), (⟨#[108]⟩, numR L), (⟨#[115]⟩, if q then numP 1 else ⟨#[]⟩)]
end Go.Proofs.YtihiaopilnjonaaGreatDoor
namespace Go.Proofs.YtihiaopilnjonaaGreatDoor
open Go.RowKit
set_option linter.unusedSimpArgs false
set_option linter.unusedVariables false
def Short (l : List ByteArray) : Prop := len l ≤ 60000 ∧ ∀ i, i < len l → (sth l i).size < 65536
set_option maxRecDepth 100000 in
set_option maxHeartbeats 4000000 in
theorem rlaysig_any (B : Nat) (idx : Int) (a1 a2 : Option Addr) (k1 k2 : Nat) (wots path : List ByteArray) (w : World) (hi : U64i idx) (hs1 : Strs B w a1 wots) (hs2 : Strs B w a2 path) (hw : Short wots) (hp : Short path) :
    Calls Tryz.prog 139 #[.agg #[.int .u64 idx, .slice a1 (len wots) k1, .slice a2 (len path) k2]] w fun e w' => e = .returned (.string (rlayP (sigPs idx wots path))) ∧ Below w.heap.size w w' := by
  have HS1 := Lib.hid hs1
  have HS2 := Lib.hid hs2
  have hd1 := dgsR_len wots hw.2 hw.1
  have hd2 := dgsR_len path hp.2 hp.1
  have HW := Lib.hid hw
  have HPA := Lib.hid hp
  clear hs1 hs2 hw hp
  go_enter Tryz.func139, Tryz.ntmps139
  go_upto_region 2 with fail
  obtain ⟨V, hV⟩ : ∃ V, (w.alloc (.cells #[.int .u64 idx, .slice a1 (len wots) k1, .slice a2 (len path) k2] 42)).alloc (.cells #[.int .u64 0, .string ⟨#[]⟩] 141) = V := ⟨_, rfl⟩
  have HB : Hid (Below w.heap.size w V) := Lib.hid (by rw [← hV]; (repeat (first | exact Below.refl _ _ | assumption | (refine bdrew ?_) | (refine bdrewN ?_ _) | (refine balloc ?_ _) | (refine bset ?_ (by first | omega | (simp; done) | (simp; omega)) _) | (refine bnext ?_ (by assumption)))))
  have HP : Hid (V.heap[w.heap.size]? = some (.cells #[.int .u64 idx, .slice a1 (len wots) k1, .slice a2 (len path) k2] 42 (0, 0))) := Lib.hid (by rw [← hV]; exact block_alloc (heap_alloc_new _ _) _)
  have HY : Hid (LyB V (w.heap.size + 1) []) := Lib.hid (by rw [← hV]; exact alloc_new_at _ (by simp))
  have cP : ∀ o, V.cell? ⟨w.heap.size, o, none⟩ = _ := block_cell HP.out
  rw [hV]
  clear hV
  have HZ : Hid ((catK []).size ≤ 0 * 25000000000) := Lib.hid (by decide)
  go_wp2_with fail
  refine (rnum_any idx V hi.1 hi.2).mono ?_
  rintro e w1 ⟨rfl, hb⟩
  have HP := Lib.hid ((hb.block _ (lt_of_block HP.out)).trans HP.out)
  have HY := Lib.hid (HY.out.below hb)
  have HB := Lib.hid (bnext HB.out hb)
  clear hb
  try clear cP
  go_wp2_with fail
  refine (put_any _ _ ⟨#[105]⟩ (numR idx) w1 HY.out (by decide) (by simp) (by have := HZ.out; omega) (by have := numR_len idx; omega)).mono ?_
  rintro e w2 ⟨rfl, hx, hl⟩
  have HZ := putZ (k := ⟨#[105]⟩) (v := numR idx) HZ rfl (by have := numR_len idx; omega)
  have HP := Lib.hid (extB_block hx (by simp) HP.out)
  have HY := Lib.hid hl
  have HB := Lib.hid (HB.out.trans (extB_to hx (by omega) HB.out.size))
  have cP : ∀ o, World.cell? w2 ⟨w.heap.size, o, none⟩ = _ := block_cell HP.out
  clear hx hl
  go_wp2_with fail
  refine (rdigests_any B a2 k2 path w2 (HS2.out.below HB.out) HPA.out.1 HPA.out.2).mono ?_
  rintro e w3 ⟨rfl, hb⟩
  have HP := Lib.hid ((hb.block _ (lt_of_block HP.out)).trans HP.out)
  have HY := Lib.hid (HY.out.below hb)
  have HB := Lib.hid (bnext HB.out hb)
  clear hb
  try clear cP
  go_wp2_with fail
  refine (put_any _ _ ⟨#[112]⟩ (dgsR path) w3 HY.out (by decide) (by simp) (by have := HZ.out; omega) (by have := hd2; omega)).mono ?_
  rintro e w4 ⟨rfl, hx, hl⟩
  have HZ := putZ (k := ⟨#[112]⟩) (v := dgsR path) HZ rfl (by have := hd2; omega)
  have HP := Lib.hid (extB_block hx (by simp) HP.out)
  have HY := Lib.hid hl
  have HB := Lib.hid (HB.out.trans (extB_to hx (by omega) HB.out.size))
  have cP : ∀ o, World.cell? w4 ⟨w.heap.size, o, none⟩ = _ := block_cell HP.out
  clear hx hl
  go_wp2_with fail
  refine (rdigests_any B a1 k1 wots w4 (HS1.out.below HB.out) HW.out.1 HW.out.2).mono ?_
  rintro e w5 ⟨rfl, hb⟩
  have HP := Lib.hid ((hb.block _ (lt_of_block HP.out)).trans HP.out)
  have HY := Lib.hid (HY.out.below hb)
  have HB := Lib.hid (bnext HB.out hb)
  clear hb
  try clear cP
  go_wp2_with fail
  refine (put_any _ _ ⟨#[118]⟩ (dgsR wots) w5 HY.out (by decide) (by simp) (by have := HZ.out; omega) (by have := hd1; omega)).mono ?_
  rintro e w6 ⟨rfl, hx, hl⟩
  have HZ := putZ (k := ⟨#[118]⟩) (v := dgsR wots) HZ rfl (by have := hd1; omega)
  have HP := Lib.hid (extB_block hx (by simp) HP.out)
  have HY := Lib.hid hl
  have HB := Lib.hid (HB.out.trans (extB_to hx (by omega) HB.out.size))
  have cP : ∀ o, World.cell? w6 ⟨w.heap.size, o, none⟩ = _ := block_cell HP.out
  clear hx hl
  go_wp2_with fail
  refine (rwhole_any _ _ w6 HY.out (by simp) (by have := HZ.out; omega)).mono ?_
  rintro e w11 ⟨rfl, hb⟩
  have HB := Lib.hid (bnext HB.out hb)
  clear hb cP
  go_wp2
  go_ret
  exact ⟨rfl, HB.out⟩
theorem rlayP_len (ps : BPs) : (rlayP ps).size ≤ 9 + (catK ps).size := by
  show (mapP _ ++ catK _).size ≤ _
  rw [ByteArray.size_append]
  have : (mapP (rkept ps).length).size ≤ 9 := laidP_len 4 _ ByteArray.empty
  omega
theorem sigPs_len (idx : Int) {wots path : List ByteArray} (hw : Short wots) (hp : Short path) : (rlayP (sigPs idx wots path)).size ≤ 9000000000 := by
  have h0 := rlayP_len (sigPs idx wots path)
  have h1 : (catK (sigPs idx wots path)).size ≤ _ := catK_le ([] ++ [(⟨#[105]⟩, numR idx)] ++ [(⟨#[112]⟩, dgsR path)]) ⟨#[118]⟩ (dgsR wots)
  have h2 := catK_le ([] ++ [(⟨#[105]⟩, numR idx)]) ⟨#[112]⟩ (dgsR path)
  have h3 := catK_le [] ⟨#[105]⟩ (numR idx)
  have h4 := numR_len idx
  have h5 := dgsR_len wots hw.2 hw.1
  have h6 := dgsR_len path hp.2 hp.1
  have e0 : (catK []).size = 0 := rfl
  have e1 : (⟨#[105]⟩ : ByteArray).size = 1 := rfl
  have e2 : (⟨#[112]⟩ : ByteArray).size = 1 := rfl
  have e3 : (⟨#[118]⟩ : ByteArray).size = 1 := rfl
  omega
theorem smallR_len {s : ByteArray} {n : Nat} (h : s.size ≤ n) : (smallR s).size ≤ n := by
  unfold smallR; split
  · exact Nat.zero_le _
  · exact h
set_option maxRecDepth 100000 in
set_option maxHeartbeats 4000000 in
theorem rlayslot_any (B : Nat) (L : Int) (q : Bool) (idx : Int) (a1 a2 : Option Addr) (k1 k2 : Nat) (wots path : List ByteArray) (w : World) (hi : U64i idx) (hL : U64i L) (hs1 : Strs B w a1 wots) (hs2 : Strs B w a2 path) (hw : Short wots) (hp : Short path) :
    Calls Tryz.prog 75 #[.agg #[.int .u64 L, .bool q, .int .u64 idx, .slice a1 (len wots) k1, .slice a2 (len path) k2]] w fun e w' => e = .returned (.string (rlayP (slotPs L q idx wots path))) ∧ Below w.heap.size w w' := by
  have HS1 := Lib.hid hs1
  have HS2 := Lib.hid hs2
  have hd1 : (smallR (rlayP (sigPs idx wots path))).size ≤ 9000000000 := smallR_len (sigPs_len idx hw hp)
  have HW := Lib.hid hw
  have HPA := Lib.hid hp
  clear hs1 hs2 hw hp
  go_enter Tryz.func75, Tryz.ntmps75
  go_upto_region 2 with fail
  obtain ⟨V, hV⟩ : ∃ V, (w.alloc (.cells #[.int .u64 L, .bool q, .int .u64 idx, .slice a1 (len wots) k1, .slice a2 (len path) k2] 44)).alloc (.cells #[.int .u64 0, .string ⟨#[]⟩] 141) = V := ⟨_, rfl⟩
  have HB : Hid (Below w.heap.size w V) := Lib.hid (by rw [← hV]; (repeat (first | exact Below.refl _ _ | assumption | (refine bdrew ?_) | (refine bdrewN ?_ _) | (refine balloc ?_ _) | (refine bset ?_ (by first | omega | (simp; done) | (simp; omega)) _) | (refine bnext ?_ (by assumption)))))
  have HP : Hid (V.heap[w.heap.size]? = some (.cells #[.int .u64 L, .bool q, .int .u64 idx, .slice a1 (len wots) k1, .slice a2 (len path) k2] 44 (0, 0))) := Lib.hid (by rw [← hV]; exact block_alloc (heap_alloc_new _ _) _)
  have HY : Hid (LyB V (w.heap.size + 1) []) := Lib.hid (by rw [← hV]; exact alloc_new_at _ (by simp))
  have cP : ∀ o, V.cell? ⟨w.heap.size, o, none⟩ = _ := block_cell HP.out
  rw [hV]
  clear hV
  have HZ : Hid ((catK []).size ≤ 0 * 25000000000) := Lib.hid (by decide)
  go_wp2_with fail
  refine (rlaysig_any B idx a1 a2 k1 k2 wots path V hi (HS1.out.below HB.out) (HS2.out.below HB.out) HW.out HPA.out).mono ?_
  rintro e w1 ⟨rfl, hb⟩
  have HP := Lib.hid ((hb.block _ (lt_of_block HP.out)).trans HP.out)
  have HY := Lib.hid (HY.out.below hb)
  have HB := Lib.hid (bnext HB.out hb)
  clear hb
  try clear cP
  go_wp2_with fail
  refine (rsmall_any _ w1).mono ?_
  rintro e w1b ⟨rfl, hb⟩
  have HP := Lib.hid ((hb.block _ (lt_of_block HP.out)).trans HP.out)
  have HY := Lib.hid (HY.out.below hb)
  have HB := Lib.hid (bnext HB.out hb)
  clear hb
  try clear cP
  go_wp2_with fail
  refine (put_any _ _ ⟨#[103]⟩ (smallR (rlayP (sigPs idx wots path))) w1b HY.out (by decide) (by simp) (by have := HZ.out; omega) (by have := hd1; omega)).mono ?_
  rintro e w2 ⟨rfl, hx, hl⟩
  have HZ := putZ (k := ⟨#[103]⟩) (v := smallR (rlayP (sigPs idx wots path))) HZ rfl (by have := hd1; omega)
  have HP := Lib.hid (extB_block hx (by simp) HP.out)
  have HY := Lib.hid hl
  have HB := Lib.hid (HB.out.trans (extB_to hx (by omega) HB.out.size))
  have cP : ∀ o, World.cell? w2 ⟨w.heap.size, o, none⟩ = _ := block_cell HP.out
  clear hx hl
  go_wp2_with fail
  refine (rnum_any L w2 hL.1 hL.2).mono ?_
  rintro e w3 ⟨rfl, hb⟩
  have HP := Lib.hid ((hb.block _ (lt_of_block HP.out)).trans HP.out)
  have HY := Lib.hid (HY.out.below hb)
  have HB := Lib.hid (bnext HB.out hb)
  clear hb
  try clear cP
  go_wp2_with fail
  refine (put_any _ _ ⟨#[108]⟩ (numR L) w3 HY.out (by decide) (by simp) (by have := HZ.out; omega) (by have := numR_len L; omega)).mono ?_
  rintro e w4 ⟨rfl, hx, hl⟩
  have HZ := putZ (k := ⟨#[108]⟩) (v := numR L) HZ rfl (by have := numR_len L; omega)
  have HP := Lib.hid (extB_block hx (by simp) HP.out)
  have HY := Lib.hid hl
  have HB := Lib.hid (HB.out.trans (extB_to hx (by omega) HB.out.size))
  have cP : ∀ o, World.cell? w4 ⟨w.heap.size, o, none⟩ = _ := block_cell HP.out
  clear hx hl
  cases q with
  | true =>
    go_wp2_with fail
    refine (rnum_any 1 w4 (by decide) (by decide)).mono ?_
    rintro e w5 ⟨rfl, hb⟩
    have HP := Lib.hid ((hb.block _ (lt_of_block HP.out)).trans HP.out)
    have HY := Lib.hid (HY.out.below hb)
    have HB := Lib.hid (bnext HB.out hb)
    clear hb
    try clear cP
    go_wp2_with fail
    refine (put_any _ _ ⟨#[115]⟩ (numR 1) w5 HY.out (by decide) (by simp) (by have := HZ.out; omega) (by have := numR_len 1; omega)).mono ?_
    rintro e w6 ⟨rfl, hx, hl⟩
    have HZ := putZ (k := ⟨#[115]⟩) (v := numR 1) HZ rfl (by have := numR_len 1; omega)
    have HP := Lib.hid (extB_block hx (by simp) HP.out)
    have HY := Lib.hid hl
    have HB := Lib.hid (HB.out.trans (extB_to hx (by omega) HB.out.size))
    have cP : ∀ o, World.cell? w6 ⟨w.heap.size, o, none⟩ = _ := block_cell HP.out
    clear hx hl
    go_wp2_with fail
    refine (rwhole_any _ _ w6 HY.out (by simp) (by have := HZ.out; omega)).mono ?_
    rintro e w11 ⟨rfl, hb⟩
    have HB := Lib.hid (bnext HB.out hb)
    clear hb cP
    go_wp2
    go_ret
    exact ⟨rfl, HB.out⟩
  | false =>
    have HY2 : Hid (LyB w4 (w.heap.size + 1) (slotPs L false idx wots path)) := Lib.hid (by
      have e : rkept (slotPs L false idx wots path) = rkept ([] ++ [((⟨#[103]⟩ : ByteArray), smallR (rlayP (sigPs idx wots path)))] ++ [((⟨#[108]⟩ : ByteArray), numR L)]) :=
        rkept_none ([] ++ [((⟨#[103]⟩ : ByteArray), smallR (rlayP (sigPs idx wots path)))] ++ [((⟨#[108]⟩ : ByteArray), numR L)]) ⟨#[115]⟩ ⟨#[]⟩ rfl
      unfold LyB catK
      rw [e]
      exact HY.out)
    have hz2 : (catK (slotPs L false idx wots path)).size ≤ 3 * 25000000000 := by
      have := catK_le ([] ++ [((⟨#[103]⟩ : ByteArray), smallR (rlayP (sigPs idx wots path)))] ++ [((⟨#[108]⟩ : ByteArray), numR L)]) ⟨#[115]⟩ ⟨#[]⟩
      have h0 := HZ.out
      have e3 : (⟨#[115]⟩ : ByteArray).size = 1 := rfl
      have e4 : (⟨#[]⟩ : ByteArray).size = 0 := rfl
      exact Nat.le_trans this (by omega)
    go_wp2_with fail
    refine (rwhole_any _ _ w4 HY2.out (by simp [slotPs]) (by omega)).mono ?_
    rintro e w11 ⟨rfl, hb⟩
    have HB := Lib.hid (bnext HB.out hb)
    clear hb
    go_wp2
    go_ret
    exact ⟨rfl, HB.out⟩
end Go.Proofs.YtihiaopilnjonaaGreatDoor
namespace Go.Proofs.YtihiaopilnjonaaGreatDoor
open Go.RowKit
set_option linter.unusedSimpArgs false
set_option linter.unusedVariables false
def FPs : List FSpec → BPs → Prop
  | [], [] => True
  | f :: l, p :: r => (f.key = p.1 ∧ (f.empty = true ↔ p.2.size = 0) ∧ (f.empty = false → f.bytes = p.2)) ∧ FPs l r
  | _, _ => False
theorem fps_len : ∀ (l : List FSpec) (r : BPs), FPs l r → l.length = r.length ∧ ∀ i (h : i < l.length) (h' : i < r.length), l[i].key = r[i].1 ∧ (l[i].empty = true ↔ r[i].2.size = 0) ∧ (l[i].empty = false → l[i].bytes = r[i].2)
  | [], [], _ => ⟨rfl, fun i h => absurd h (by simp)⟩
  | [], _ :: _, h => h.elim
  | _ :: _, [], h => h.elim
  | f :: l, p :: r, h => by
    obtain ⟨h1, h2⟩ := h
    obtain ⟨h3, h4⟩ := fps_len l r h2
    refine ⟨by simp [h3], fun i hi hi' => ?_⟩
    cases i with
    | zero => exact h1
    | succ j => exact h4 j (by simpa using hi) (by simpa using hi')
theorem fps_lay {l : List FSpec} {r : BPs} (h : FPs l r) : layP l = rlayP r := layP_eq (fps_len l r h).1 (fps_len l r h).2
theorem fps_kept {l : List FSpec} {r : BPs} (h : FPs l r) : (keptF l).length = (rkept r).length := (lay_same l r (fps_len l r h).1 (fps_len l r h).2).1
theorem head_pos (sort : Nat) (n : Int) (h : sort < 5) (h1 : sort ≠ 0 → n < 65536) : 0 < (headP sort n).length := by
  have hs : sort = 0 ∨ sort = 1 ∨ sort = 2 ∨ sort = 3 ∨ sort = 4 := by omega
  rcases hs with rfl | rfl | rfl | rfl | rfl
  · rw [headP0]; repeat (first | split | simp)
  · rw [headP1 (h1 (by decide))]; repeat (first | split | simp)
  · rw [headP2 (h1 (by decide))]; repeat (first | split | simp)
  · rw [headP3 (h1 (by decide))]; repeat (first | split | simp)
  · rw [headP4 (h1 (by decide))]; repeat (first | split | simp)
theorem laid_pos (sort : Nat) (n : Int) (t : ByteArray) (h : sort < 5) (h1 : sort ≠ 0 → n < 65536) : 0 < (laidP sort n t).size := by
  unfold laidP
  rw [ByteArray.size_append, baL_size]
  have := head_pos sort n h h1
  omega
theorem rlay_small (ps : BPs) (hn : ps.length ≤ 1000) (hk : ∀ p ∈ ps, p.1.size < 65536) : rlayP ps = ⟨#[128]⟩ ↔ (rkept ps).length = 0 := by
  constructor
  · intro h
    have hz : (rlayP ps).size = 1 := by rw [h]; rfl
    cases hr : rkept ps with
    | nil => rfl
    | cons p r =>
      exfalso
      unfold rlayP at hz
      rw [hr, List.map_cons, catB] at hz
      rw [ByteArray.size_append, ByteArray.size_append, ByteArray.size_append] at hz
      have h1 : 0 < (mapP (p :: r).length).size := laid_pos 4 _ _ (by decide) (fun _ => by
        have : (rkept ps).length ≤ ps.length := List.length_filter_le _ _
        rw [hr] at this; omega)
      have hp : p ∈ ps := (List.mem_filter.1 (show p ∈ rkept ps by rw [hr]; exact List.mem_cons_self)).1
      have h2 : 0 < (strP p.1).size := laid_pos 2 _ _ (by decide) (fun _ => by have := hk p hp; omega)
      omega
  · intro h
    have hr : rkept ps = [] := List.eq_nil_of_length_eq_zero h
    unfold rlayP
    rw [hr]
    rfl
theorem all_empty (l : List FSpec) : (l.all fun f => f.empty) = true ↔ (keptF l).length = 0 := by
  unfold keptF
  rw [List.length_eq_zero_iff, List.filter_eq_nil_iff, List.all_eq_true]
  constructor
  · intro h f hf; rw [h f hf]; decide
  · intro h f hf
    have := h f hf
    cases he : f.empty with
    | true => rfl
    | false => rw [he] at this; exact absurd rfl this
theorem obj_ok {l : List FSpec} {r : BPs} (h : FPs l r) (hn : r.length ≤ 1000) (hk : ∀ p ∈ r, p.1.size < 65536) :
    ((l.all fun f => f.empty) = true ↔ (smallR (rlayP r)).size = 0) ∧ ((l.all fun f => f.empty) = false → layP l = smallR (rlayP r)) := by
  have h1 := all_empty l
  have h2 := fps_kept h
  have h3 := rlay_small r hn hk
  have hp : 0 < (rlayP r).size := by
    unfold rlayP
    rw [ByteArray.size_append]
    have : 0 < (mapP (rkept r).length).size := laid_pos 4 _ _ (by decide) (fun _ => by
      have : (rkept r).length ≤ r.length := List.length_filter_le _ _
      omega)
    omega
  by_cases hc : rlayP r = ⟨#[128]⟩
  · have e : smallR (rlayP r) = ⟨#[]⟩ := by unfold smallR; rw [if_pos hc]
    have ha : (l.all fun f => f.empty) = true := h1.2 (by rw [h2]; exact h3.1 hc)
    rw [ha, e]
    exact ⟨⟨fun _ => rfl, fun _ => rfl⟩, fun h => absurd h (by decide)⟩
  · have e : smallR (rlayP r) = rlayP r := by unfold smallR; rw [if_neg hc]
    have ha : (l.all fun f => f.empty) = false := by
      cases hx : (l.all fun f => f.empty) with
      | false => rfl
      | true => exact absurd (h3.2 (by rw [← h2]; exact h1.1 hx)) hc
    rw [ha, e]
    exact ⟨⟨fun h => absurd h (by decide), fun h => by omega⟩, fun _ => fps_lay h⟩
theorem num_ok (key : ByteArray) (n : Int) : ((n == 0) = true ↔ (numR n).size = 0) ∧ ((n == 0) = false → numP n = numR n) := by
  unfold numR
  by_cases h : n = 0
  · rw [if_pos h, h]
    exact ⟨⟨fun _ => rfl, fun _ => rfl⟩, fun h => absurd h (by decide)⟩
  · rw [if_neg h]
    have e : (n == 0) = false := by simp [h]
    rw [e]
    have h1 : 0 < (numP n).size := laid_pos 0 n ByteArray.empty (by decide) (fun h => absurd rfl h)
    exact ⟨⟨fun h => absurd h (by decide), fun h => by omega⟩, fun _ => rfl⟩
theorem dgs_ok (l : List ByteArray) (hn : len l < 65536) : (decide (len l = 0) = true ↔ (dgsR l).size = 0) ∧ (decide (len l = 0) = false → dgsP l = dgsR l) := by
  unfold dgsR
  by_cases h : len l = 0
  · rw [if_pos h, decide_eq_true h]
    exact ⟨⟨fun _ => rfl, fun _ => rfl⟩, fun h => absurd h (by decide)⟩
  · rw [if_neg h, decide_eq_false h]
    have h1 : 0 < (dgsP l).size := by
      unfold dgsP
      rw [ByteArray.size_append]
      have : 0 < (listP (len l)).size := laid_pos 3 _ ByteArray.empty (by decide) (fun _ => by omega)
      omega
    exact ⟨⟨fun h => absurd h (by decide), fun h => by omega⟩, fun _ => rfl⟩
theorem sig_same (idx : Int) (wots path : List ByteArray) (hw : len wots < 65536) (hp : len path < 65536) : FPs (sigSpecs idx wots path) (sigPs idx wots path) :=
  ⟨⟨rfl, num_ok ⟨#[]⟩ idx⟩, ⟨rfl, dgs_ok path hp⟩, ⟨rfl, dgs_ok wots hw⟩, trivial⟩
theorem one_ok (q : Bool) : ((!q) = true ↔ (if q then numP 1 else (⟨#[]⟩ : ByteArray)).size = 0) ∧ ((!q) = false → numP 1 = if q then numP 1 else (⟨#[]⟩ : ByteArray)) := by
  cases q with
  | true => exact ⟨⟨fun h => absurd h (by decide), fun h => absurd h (by decide)⟩, fun _ => rfl⟩
  | false => exact ⟨⟨fun _ => rfl, fun _ => rfl⟩, fun h => absurd h (by decide)⟩
theorem slot_same (L : Int) (q : Bool) (idx : Int) (wots path : List ByteArray) (hw : len wots < 65536) (hp : len path < 65536) : layP (slotSpecs L q idx wots path) = rlayP (slotPs L q idx wots path) :=
  fps_lay ⟨⟨rfl, obj_ok (sig_same idx wots path hw hp) (by simp [sigPs]) (fun p hp => by
    simp only [sigPs, List.mem_cons, List.not_mem_nil, or_false] at hp
    rcases hp with rfl | rfl | rfl <;> (show (1 : Nat) < 65536; decide))⟩, ⟨rfl, num_ok ⟨#[]⟩ L⟩, ⟨rfl, one_ok q⟩, trivial⟩
theorem may_slot (L : Int) (q : Bool) (idx : Int) (wots path : List ByteArray) : allMay (slotSpecs L q idx wots path) = (mayB path 16 && mayB wots 67) := by
  show (allMay (sigSpecs idx wots path) && (true && (true && true))) = _
  show ((true && (mayB path 16 && (mayB wots 67 && true))) && (true && (true && true))) = _
  cases mayB path 16 <;> cases mayB wots 67 <;> rfl
theorem short_of {l : List ByteArray} {n : Nat} (h : mayB l n = true) (hn : n ≤ 60000) : Short l := ⟨by have := (size32 h).1; omega, fun i hi => by rw [(size32 h).2 i hi]; decide⟩
set_option maxRecDepth 100000 in
theorem rslot_any (B : Nat) (L : Int) (q : Bool) (idx : Int) (a1 a2 : Option Addr) (k1 k2 : Nat) (wots path : List ByteArray) (w : World) (hi : U64i idx) (hL : U64i L) (hs1 : Strs B w a1 wots) (hs2 : Strs B w a2 path) (hw : len wots ≤ 100000) (hp : len path ≤ 100000) (hz1 : ∀ i, i < len wots → (sth wots i).size ≤ 9223372036854775807) (hz2 : ∀ i, i < len path → (sth path i).size ≤ 9223372036854775807) :
    Calls Tryz.prog 34 #[.agg #[.int .u64 L, .bool q, .int .u64 idx, .slice a1 (len wots) k1, .slice a2 (len path) k2]] w (LaidIs (slotSpecs L q idx wots path) w) := by
  have HM := Lib.hid (may_slot L q idx wots path)
  have HS1 := Lib.hid hs1
  have HS2 := Lib.hid hs2
  have HZ1 := Lib.hid hz1
  have HZ2 := Lib.hid hz2
  clear hs1 hs2 hz1 hz2
  go_enter Tryz.func34, Tryz.ntmps34
  go_wp2_with fail
  obtain ⟨V, hV⟩ : ∃ V, w.alloc (.cells #[.int .u64 L, .bool q, .int .u64 idx, .slice a1 (len wots) k1, .slice a2 (len path) k2] 44) = V := ⟨_, rfl⟩
  have HB : Hid (Below w.heap.size w V) := Lib.hid (by rw [← hV]; (repeat (first | exact Below.refl _ _ | assumption | (refine bdrew ?_) | (refine bdrewN ?_ _) | (refine balloc ?_ _) | (refine bset ?_ (by first | omega | (simp; done) | (simp; omega)) _) | (refine bnext ?_ (by assumption)))))
  have HP : Hid (V.heap[w.heap.size]? = some (.cells #[.int .u64 L, .bool q, .int .u64 idx, .slice a1 (len wots) k1, .slice a2 (len path) k2] 44 (0, 0))) := Lib.hid (by rw [← hV]; exact heap_alloc_new _ _)
  try rw [hV]
  clear hV
  refine (rmaysig_any B idx a1 a2 k1 k2 wots path V (HS1.out.below HB.out) (HS2.out.below HB.out) hw hp HZ1.out HZ2.out).mono ?_
  rintro e w1 ⟨rfl, hb⟩
  have HP := Lib.hid ((hb.block _ (lt_of_block HP.out)).trans HP.out)
  have HB := Lib.hid (bnext HB.out hb)
  have cP : ∀ o, w1.cell? ⟨w.heap.size, o, none⟩ = _ := block_cell HP.out
  clear hb
  cases hm : (mayB path 16 && mayB wots 67) with
  | true =>
    have HMT : Hid (allMay (slotSpecs L q idx wots path) = true) := Lib.hid (by rw [HM.out, hm])
    have h1 := (Bool.and_eq_true _ _ ▸ hm : mayB path 16 = true ∧ mayB wots 67 = true)
    have hsp := short_of h1.1 (by decide)
    have hsw := short_of h1.2 (by decide)
    have HS := Lib.hid (slot_same L q idx wots path (by have := hsw.1; omega) (by have := hsp.1; omega))
    have HSP := Lib.hid hsp
    have HSW := Lib.hid hsw
    clear hm h1 hsp hsw
    go_wp2_with fail
    refine (rlayslot_any B L q idx a1 a2 k1 k2 wots path w1 hi hL (HS1.out.below HB.out) (HS2.out.below HB.out) HSW.out HSP.out).mono ?_
    rintro e w2 ⟨rfl, hb⟩
    have HB := Lib.hid (bnext HB.out hb)
    clear hb cP
    go_wp2
    go_ret2
    exact ⟨by rw [HMT.out, HS.out]; rfl, HB.out⟩
  | false =>
    have HMF : Hid (allMay (slotSpecs L q idx wots path) = false) := Lib.hid (by rw [HM.out, hm])
    clear hm
    go_wp2
    go_ret2
    exact ⟨by rw [HMF.out]; rfl, HB.out⟩
end Go.Proofs.YtihiaopilnjonaaGreatDoor
namespace Go.Proofs.YtihiaopilnjonaaGreatDoor
open Go.RowKit
set_option linter.unusedSimpArgs false
set_option linter.unusedVariables false
structure CtBd (root : ByteArray) (sg : Int) (rs : List RevD) (cs : List Int) (sp pp : List ByteArray) : Prop where
  root : root.size ≤ 9223372036854775807
  sg : U64i sg
  rl : len rs ≤ 100000
  rs : ∀ i, i < len rs → RvBd (lth rs i)
  cl : len cs ≤ 100000
  cs : ∀ i, i < len cs → U64i (nth cs i)
  sp : len sp ≤ 100000
  pp : len pp ≤ 100000
theorem catB_size_le {α : Type} (f : α → ByteArray) (M : Nat) : ∀ l : List α, (∀ x ∈ l, (f x).size ≤ M) → (catB (l.map f)).size ≤ l.length * M
  | [], _ => by simp [catB]
  | x :: r, h => by
    rw [List.map_cons, catB, ByteArray.size_append, List.length_cons, Nat.succ_mul]
    have h1 := h x (List.mem_cons_self ..)
    have h2 := catB_size_le f M r (fun y hy => h y (List.mem_cons_of_mem _ hy))
    omega
theorem layP_size (fs : List FSpec) (M : Nat) (h : ∀ f ∈ fs, f.key.size ≤ 1 ∧ f.bytes.size ≤ M) : (layP fs).size ≤ 9 + fs.length * (M + 10) := by
  unfold layP
  rw [ByteArray.size_append]
  have h1 : (mapP (keptF fs).length).size ≤ 9 := laidP_len 4 _ ByteArray.empty
  have h2 := catB_size_le fieldP (M + 10) (keptF fs) (fun f hf => by
    obtain ⟨h3, h4⟩ := h f (List.mem_filter.1 hf).1
    unfold fieldP
    rw [ByteArray.size_append]
    have h5 : (strP f.key).size ≤ 9 + f.key.size := laidP_len 2 _ _
    omega)
  have h3 := Nat.mul_le_mul_right (M + 10) (kept_le fs)
  omega
theorem dgsP_size {l : List ByteArray} {n : Nat} (h : mayB l n = true) : (dgsP l).size ≤ 9 + n * 41 := by
  obtain ⟨h1, h2⟩ := (mayB_iff l n).1 h
  unfold dgsP
  rw [ByteArray.size_append]
  have h3 : (listP (len l)).size ≤ 9 := laidP_len 3 _ ByteArray.empty
  have h4 := catB_size_le binP 41 l (fun x hx => by have := binP_len x; rw [h2 x hx] at this; exact this)
  have h5 := Nat.mul_le_mul_right 41 h1
  rw [len_eq] at h5
  omega
theorem numP_size (n : Int) : (numP n).size ≤ 9 := laidP_len 0 _ ByteArray.empty
theorem may_all {fs : List FSpec} (h : allMay fs = true) : ∀ f ∈ fs, f.may = true := List.all_eq_true.1 h
theorem sigSz {idx : Int} {ws ps : List ByteArray} (h : allMay (sigSpecs idx ws ps) = true) : (layP (sigSpecs idx ws ps)).size ≤ 9000 := by
  have h1 := may_all h ⟨⟨#[112]⟩, false, decide (len ps = 0), mayB ps 16, dgsP ps⟩ (by unfold sigSpecs; simp)
  have h2 := may_all h ⟨⟨#[118]⟩, false, decide (len ws = 0), mayB ws 67, dgsP ws⟩ (by unfold sigSpecs; simp)
  refine Nat.le_trans (layP_size _ 2756 fun f hf => ?_) (show 9 + 3 * 2766 ≤ 9000 by decide)
  unfold sigSpecs at hf
  simp only [List.mem_cons, List.not_mem_nil, or_false] at hf
  rcases hf with rfl | rfl | rfl
  · exact ⟨Nat.le_refl _, Nat.le_trans (numP_size _) (by decide)⟩
  · exact ⟨Nat.le_refl _, Nat.le_trans (dgsP_size h1) (by decide)⟩
  · exact ⟨Nat.le_refl _, Nat.le_trans (dgsP_size h2) (by decide)⟩
theorem slotSz {L : Int} {q : Bool} {idx : Int} {ws ps : List ByteArray} (h : allMay (slotSpecs L q idx ws ps) = true) : (layP (slotSpecs L q idx ws ps)).size ≤ 28000 := by
  have h1 : allMay (sigSpecs idx ws ps) = true := may_all h (objSpec ⟨#[103]⟩ (sigSpecs idx ws ps)) (by unfold slotSpecs; simp)
  refine Nat.le_trans (layP_size _ 9000 fun f hf => ?_) (show 9 + 3 * 9010 ≤ 28000 by decide)
  unfold slotSpecs at hf
  simp only [List.mem_cons, List.not_mem_nil, or_false] at hf
  rcases hf with rfl | rfl | rfl
  · exact ⟨Nat.le_refl _, sigSz h1⟩
  · exact ⟨Nat.le_refl _, Nat.le_trans (numP_size _) (by decide)⟩
  · exact ⟨Nat.le_refl _, Nat.le_trans (numP_size _) (by decide)⟩
end Go.Proofs.YtihiaopilnjonaaGreatDoor
namespace Go.Proofs.YtihiaopilnjonaaGreatDoor
open Go.RowKit
set_option linter.unusedSimpArgs false
set_option linter.unusedVariables false
theorem extS_cell {VO : Nat → Option Nat} {w w1 : World} (h : ExtS VO w.drew w1) {b o : Nat} (hn : ∀ j, VO j ≠ some b) {v : Value} (hc : w.cell? ⟨b, o, none⟩ = some v) : w1.cell? ⟨b, o, none⟩ = some v := by
  rw [World.cell?_of_block (w := w) (h.block b (lt_of_cell hc) hn)]; exact hc
theorem told_none (w : World) : Calls Tryz.prog 31 #[.nilIface, .agg #[.int .i64 0, .int .i64 0]] w fun e w' => e = .returned (.bool true) ∧ Below w.heap.size w w' := by
  go_enter Tryz.func31, Tryz.ntmps31
  go_wp2
  go_ret
  exact ⟨rfl, by (repeat (first | exact Below.refl _ _ | assumption | (refine bdrew ?_) | (refine bdrewN ?_ _) | (refine balloc ?_ _) | (refine bset ?_ (by first | omega | (simp; done) | (simp; omega)) _) | (refine bnext ?_ (by assumption))))⟩
set_option maxRecDepth 100000 in
set_option maxHeartbeats 4000000 in
theorem told_fault (fb : Nat) (k : Int) (a : Nat) (w : World) (het : ErrType w) (h : FltB w fb k a) (hk : k ≠ 0) (hg : 0 < w.heap.size) : Calls Tryz.prog 31 #[.iface 127 (.pointer (some ⟨fb, 0, none⟩)), .agg #[.int .i64 k, .int .i64 a]] w fun e w' => e = .returned (.bool true) ∧ Below w.heap.size w w' := by
  have H := Lib.hid h
  have HET0 := Lib.hid het
  have hk1 : (k == 0) = false := by simpa using hk
  have hfl := lt_of_block h
  clear h het hk
  go_enter Tryz.func31, Tryz.ntmps31
  go_upto_region 4 with fail
  obtain ⟨b3, hb3⟩ : ∃ b3, w.heap.size = b3 := ⟨_, rfl⟩
  obtain ⟨W, hW⟩ : ∃ W, (w.alloc (.cells #[.int .i64 k, .int .i64 a] 63)).alloc (.cells #[.pointer none] 127) = W := ⟨_, rfl⟩
  have WB : Hid (Below w.heap.size w W) := Lib.hid (by rw [← hW]; exact balloc (balloc (Below.refl _ _) _) _)
  have W3 : Hid (W.heap[b3]? = some (.cells #[.int .i64 k, .int .i64 a] 63 (0, 0))) := Lib.hid (by rw [← hW, ← hb3]; exact block_alloc (heap_alloc_new _ _) _)
  obtain ⟨gb, hgb⟩ : ∃ gb, b3 + 1 = gb := ⟨_, rfl⟩
  have WG : Hid (W.heap[gb]? = some (.cells #[.pointer none] 127 (0, 0))) := Lib.hid (by rw [← hW, ← hgb]; exact alloc_new_at _ (by simp [hb3]))
  try rw [hW]
  try simp only [hb3, hgb]
  have hyg : fb ≠ gb := by omega
  have hzg : b3 ≠ gb := by omega
  have hgg : 0 ≠ gb := by omega
  have HET : Hid (ErrType W) := Lib.hid (HET0.out.below WB.out)
  have y0 : W.cell? ⟨fb, 0, none⟩ = some (.int .i64 k) := block_cell (H.out.below WB.out) 0
  have y1 : W.cell? ⟨fb, 1, none⟩ = some (.int .i64 a) := block_cell (H.out.below WB.out) 1
  have z0 : W.cell? ⟨b3, 0, none⟩ = some (.int .i64 k) := block_cell W3.out 0
  have z1 : W.cell? ⟨b3, 1, none⟩ = some (.int .i64 a) := block_cell W3.out 1
  have HGB : Hid (w.heap.size ≤ gb) := Lib.hid (by omega)
  clear hW hb3 hgb
  obtain ⟨VO, hVO⟩ : ∃ VO : Nat → Option Nat, VO = fun j => if j = 2 then some (gb) else none := ⟨_, rfl⟩
  have vok : VO 2 = some (gb) := by rw [hVO]; rfl
  have von : ∀ j, j ≠ 2 → VO j = none := fun j h1 => by rw [hVO]; simp [h1]
  have vob : ∀ j b, b ≠ gb → VO j ≠ some b := fun j b hb => by
    by_cases h : j = 2
    · subst h; rw [vok]; simp; exact fun e => hb e.symm
    · rw [von j h]; simp
  clear hVO
  have xrefl : ∀ j w, (fun (_ : Nat) (w1 w2 : World) => w1.heap[gb]? = some (.cells #[.pointer (some ⟨fb, 0, none⟩)] 127 (0, 0)) → w2.heap[gb]? = some (.cells #[.pointer (some ⟨fb, 0, none⟩)] 127 (0, 0))) j w w := fun j w h => h
  have voi : ∀ i j b, VO i = some b → VO j = some b → i = j := fun i j b h1 h2 => by
    by_cases e1 : i = 2
    · by_cases e2 : j = 2
      · rw [e1, e2]
      · rw [von j e2] at h2; cases h2
    · rw [von i e1] at h1; cases h1
  refine wp_region_tailV 17 VO voi (fun (_ : Nat) (w1 w2 : World) => w1.heap[gb]? = some (.cells #[.pointer (some ⟨fb, 0, none⟩)] 127 (0, 0)) → w2.heap[gb]? = some (.cells #[.pointer (some ⟨fb, 0, none⟩)] 127 (0, 0))) (fun _ => True) (fun _ _ _ _ _ => True) xrefl trivial (phis [fun u _ => u = (.iface 127 (.pointer (some ⟨fb, 0, none⟩))), fun u _ => u = (.iface 129 (.pointer (some ⟨gb, 0, none⟩))), fun u w' => u = .bool true ∧ w'.heap[gb]? = some (.cells #[.pointer (some ⟨fb, 0, none⟩)] 127 (0, 0)), fun u w' => u = .bool true ∧ w'.heap[gb]? = some (.cells #[.pointer (some ⟨fb, 0, none⟩)] 127 (0, 0)), fun u _ => u = (.pointer (some ⟨fb, 0, none⟩)), fun u _ => u = (.pointer (some ⟨fb, 0, none⟩)), fun u _ => u = (.agg #[.int .i64 k, .int .i64 a]), fun u _ => u = (.agg #[.int .i64 k, .int .i64 a]), fun u _ => u = (.bool true), fun u _ => u = (.bool true), fun u _ => u = (.bool true), fun u _ => u = (.iface 127 (.pointer (some ⟨fb, 0, none⟩))), fun u _ => u = (.pointer (some ⟨b3, 0, none⟩)), fun u _ => u = (.int .i64 k), fun u _ => u = (.iface 30 (.int .i64 k)), fun u _ => u = (.bool true), fun u _ => u = (.bool true)]) rfl (by kernel_rfl) (by kernel_rfl) (monoV_of ⟨monoV_eq, monoV_eq, ?m2, ?m3, monoV_eq, monoV_eq, monoV_eq, monoV_eq, monoV_eq, monoV_eq, monoV_eq, monoV_eq, monoV_eq, monoV_eq, monoV_eq, monoV_eq, monoV_eq, trivial⟩) (fun _ _ _ _ _ => trivial) (fun _ _ _ _ _ _ _ _ _ _ _ => trivial) (stepsV_of 17 ⟨?s0, ?s1, ?s2, ?s3, ?s4, ?s5, ?s6, ?s7, ?s8, ?s9, ?s10, ?s11, ?s12, ?s13, ?s14, ?s15, ?s16, trivial⟩) ?_
  case m2 =>
    exact fun j hj u w1 w2 he ⟨h1, h2⟩ => ⟨h1, he.2 h2⟩
  case m3 =>
    exact fun j hj u w1 w2 he ⟨h1, h2⟩ => ⟨h1, he.2 h2⟩
  case s0 =>
    refine stepV_val (v := (.iface 127 (.pointer (some ⟨fb, 0, none⟩)))) xrefl (fun _ _ _ _ => ⟨trivial, trivial⟩) (fun D av wv hE hO hD => ?_) (fun _ => rfl)
    have h0 : av.eval (.tmp 0) = (.iface 127 (.pointer (some ⟨fb, 0, none⟩))) := hO.2.2 0 rfl
    have f0 := (ev_form av 0).symm.trans h0
    refine ⟨rfl, ?_⟩
    simp [go_sem, f0]
  case s1 =>
    refine stepV_val (v := (.iface 129 (.pointer (some ⟨gb, 0, none⟩)))) xrefl (fun _ _ _ _ => ⟨trivial, trivial⟩) (fun D av wv hE hO hD => ?_) (fun _ => rfl)
    have h5 : av.eval (.tmp 5) = (.pointer (some ⟨gb, 0, none⟩)) := hO.2.2 5 rfl
    have f5 := (ev_form av 5).symm.trans h5
    refine ⟨rfl, ?_⟩
    simp [go_sem, f5]
  case s2 =>
    refine stepV_wp (fun D av wv hPP hE hO hD => ?_)
    have d20 : av.eval (.tmp 20) = (.iface 127 (.pointer (some ⟨fb, 0, none⟩))) := hD.1 rfl _ rfl
    have f20 := (ev_form av 20).symm.trans d20
    have d21 : av.eval (.tmp 21) = (.iface 129 (.pointer (some ⟨gb, 0, none⟩))) := hD.2.1 rfl _ rfl
    have f21 := (ev_form av 21).symm.trans d21
    refine ⟨rfl, ?_⟩
    have hg0 : wv.heap[gb]? = some (.cells #[.pointer none] 127 (0, 0)) := (hE.own gb vok (lt_of_block WG.out)).trans WG.out
    have het : ErrType wv := extS_cell hE.ext (fun j => vob j _ hgg) HET.out
    refine wp_of_callR (f := 71) (args := #[.iface 127 (.pointer (some ⟨fb, 0, none⟩)), .iface 129 (.pointer (some ⟨gb, 0, none⟩))]) (R := fun u w2 => (u = .bool true ∧ w2.heap[gb]? = some (.cells #[.pointer (some ⟨fb, 0, none⟩)] 127 (0, 0))) ∧ ExtB (some gb) wv w2) (by simp [go_sem, f20, f21]) ((as_fault fb gb none wv het hg0).mono (fun e w2 ⟨h1, h2, h3⟩ => ⟨_, h1, ⟨rfl, h3⟩, h2⟩)) (fun u w2 ⟨h1, h2⟩ => ⟨u, rfl, ⟨by rw [vok]; exact h2, fun _ => h1.2⟩, h1, fun _ _ _ _ _ => ⟨trivial, trivial⟩⟩)
  case s3 =>
    refine stepV_wp (fun D av wv hPP hE hO hD => ?_)
    have d22 : (fun u w' => u = .bool true ∧ w'.heap[gb]? = some (.cells #[.pointer (some ⟨fb, 0, none⟩)] 127 (0, 0))) (av.eval (.tmp 22)) wv := hD.1 rfl _ rfl
    refine ⟨rfl, ?_⟩
    obtain ⟨g1, g2⟩ := d22
    have f22 := (ev_form av 22).symm.trans g1
    exact wp_of_run (v := .bool true) (by simp [go_sem, f22]) ⟨_, rfl, esV_of_ext (Ext_refl _) (xrefl 0 _), ⟨rfl, g2⟩, fun _ _ _ _ _ => ⟨trivial, trivial⟩⟩
  case s4 =>
    refine stepV_val (v := (.pointer (some ⟨fb, 0, none⟩))) xrefl (fun _ _ _ _ => ⟨trivial, trivial⟩) (fun D av wv hE hO hD => ?_) (fun _ => rfl)
    have h5 : av.eval (.tmp 5) = (.pointer (some ⟨gb, 0, none⟩)) := hO.2.2 5 rfl
    have f5 := (ev_form av 5).symm.trans h5
    have d23 : (fun u w' => u = .bool true ∧ w'.heap[gb]? = some (.cells #[.pointer (some ⟨fb, 0, none⟩)] 127 (0, 0))) (av.eval (.tmp 23)) wv := hD.1 rfl _ rfl
    have g23 : av.eval (.tmp 23) = .bool true := d23.1
    have f23 := (ev_form av 23).symm.trans g23
    have y0 := extS_cell hE.ext (fun j => vob j _ hyg) y0
    have y1 := extS_cell hE.ext (fun j => vob j _ hyg) y1
    have z0 := extS_cell hE.ext (fun j => vob j _ hzg) z0
    have z1 := extS_cell hE.ext (fun j => vob j _ hzg) z1
    refine ⟨(wanted_of (d := 23) (b := true) (want := true) rfl rfl rfl g23), ?_⟩
    have q0 : wv.cell? ⟨gb, 0, none⟩ = some (.pointer (some ⟨fb, 0, none⟩)) := block_cell d23.2 0
    simp [go_sem, f5, q0]
  case s5 =>
    refine stepV_val (v := (.pointer (some ⟨fb, 0, none⟩))) xrefl (fun _ _ _ _ => ⟨trivial, trivial⟩) (fun D av wv hE hO hD => ?_) (fun _ => rfl)
    have d24 : av.eval (.tmp 24) = (.pointer (some ⟨fb, 0, none⟩)) := hD.1 rfl _ rfl
    have f24 := (ev_form av 24).symm.trans d24
    have d23 : (fun u w' => u = .bool true ∧ w'.heap[gb]? = some (.cells #[.pointer (some ⟨fb, 0, none⟩)] 127 (0, 0))) (av.eval (.tmp 23)) wv := hD.2.1 rfl _ rfl
    have g23 : av.eval (.tmp 23) = .bool true := d23.1
    have f23 := (ev_form av 23).symm.trans g23
    refine ⟨(wanted_of (d := 23) (b := true) (want := true) rfl rfl rfl g23), ?_⟩
    simp [go_sem, f24, f23]
  case s6 =>
    refine stepV_val (v := (.agg #[.int .i64 k, .int .i64 a])) xrefl (fun _ _ _ _ => ⟨trivial, trivial⟩) (fun D av wv hE hO hD => ?_) (fun _ => rfl)
    have d25 : av.eval (.tmp 25) = (.pointer (some ⟨fb, 0, none⟩)) := hD.1 rfl _ rfl
    have f25 := (ev_form av 25).symm.trans d25
    have d23 : (fun u w' => u = .bool true ∧ w'.heap[gb]? = some (.cells #[.pointer (some ⟨fb, 0, none⟩)] 127 (0, 0))) (av.eval (.tmp 23)) wv := hD.2.1 rfl _ rfl
    have g23 : av.eval (.tmp 23) = .bool true := d23.1
    have f23 := (ev_form av 23).symm.trans g23
    have y0 := extS_cell hE.ext (fun j => vob j _ hyg) y0
    have y1 := extS_cell hE.ext (fun j => vob j _ hyg) y1
    have z0 := extS_cell hE.ext (fun j => vob j _ hzg) z0
    have z1 := extS_cell hE.ext (fun j => vob j _ hzg) z1
    refine ⟨(wanted_of (d := 23) (b := true) (want := true) rfl rfl rfl g23), ?_⟩
    simp [go_sem, f25, f23, y0, y1, z0, z1]
  case s7 =>
    refine stepV_val (v := (.agg #[.int .i64 k, .int .i64 a])) xrefl (fun _ _ _ _ => ⟨trivial, trivial⟩) (fun D av wv hE hO hD => ?_) (fun _ => rfl)
    have h3 : av.eval (.tmp 3) = (.pointer (some ⟨b3, 0, none⟩)) := hO.2.2 3 rfl
    have f3 := (ev_form av 3).symm.trans h3
    have d23 : (fun u w' => u = .bool true ∧ w'.heap[gb]? = some (.cells #[.pointer (some ⟨fb, 0, none⟩)] 127 (0, 0))) (av.eval (.tmp 23)) wv := hD.1 rfl _ rfl
    have g23 : av.eval (.tmp 23) = .bool true := d23.1
    have f23 := (ev_form av 23).symm.trans g23
    have y0 := extS_cell hE.ext (fun j => vob j _ hyg) y0
    have y1 := extS_cell hE.ext (fun j => vob j _ hyg) y1
    have z0 := extS_cell hE.ext (fun j => vob j _ hzg) z0
    have z1 := extS_cell hE.ext (fun j => vob j _ hzg) z1
    refine ⟨(wanted_of (d := 23) (b := true) (want := true) rfl rfl rfl g23), ?_⟩
    simp [go_sem, f3, f23, y0, y1, z0, z1]
  case s8 =>
    refine stepV_val (v := (.bool true)) xrefl (fun _ _ _ _ => ⟨trivial, trivial⟩) (fun D av wv hE hO hD => ?_) (fun _ => rfl)
    have d26 : av.eval (.tmp 26) = (.agg #[.int .i64 k, .int .i64 a]) := hD.1 rfl _ rfl
    have f26 := (ev_form av 26).symm.trans d26
    have d27 : av.eval (.tmp 27) = (.agg #[.int .i64 k, .int .i64 a]) := hD.2.1 rfl _ rfl
    have f27 := (ev_form av 27).symm.trans d27
    have d23 : (fun u w' => u = .bool true ∧ w'.heap[gb]? = some (.cells #[.pointer (some ⟨fb, 0, none⟩)] 127 (0, 0))) (av.eval (.tmp 23)) wv := hD.2.2.1 rfl _ rfl
    have g23 : av.eval (.tmp 23) = .bool true := d23.1
    have f23 := (ev_form av 23).symm.trans g23
    refine ⟨(wanted_of (d := 23) (b := true) (want := true) rfl rfl rfl g23), ?_⟩
    simp [go_sem, f26, f27, f23]
  case s9 =>
    refine stepV_val (v := (.bool true)) xrefl (fun _ _ _ _ => ⟨trivial, trivial⟩) (fun D av wv hE hO hD => ?_) (fun _ => rfl)
    have d23 : (fun u w' => u = .bool true ∧ w'.heap[gb]? = some (.cells #[.pointer (some ⟨fb, 0, none⟩)] 127 (0, 0))) (av.eval (.tmp 23)) wv := hD.1 rfl _ rfl
    have g23 : av.eval (.tmp 23) = .bool true := d23.1
    have f23 := (ev_form av 23).symm.trans g23
    have d28 : av.eval (.tmp 28) = (.bool true) := hD.2.1 rfl _ rfl
    have f28 := (ev_form av 28).symm.trans d28
    refine ⟨rfl, ?_⟩
    simp [go_sem, f23, f28]
  case s10 =>
    refine stepV_val (v := (.bool true)) xrefl (fun _ _ _ _ => ⟨trivial, trivial⟩) (fun D av wv hE hO hD => ?_) (fun _ => rfl)
    have d29 : av.eval (.tmp 29) = (.bool true) := hD.1 rfl _ rfl
    have f29 := (ev_form av 29).symm.trans d29
    refine ⟨rfl, ?_⟩
    simp [go_sem, f29]
  case s11 =>
    refine stepV_val (v := (.iface 127 (.pointer (some ⟨fb, 0, none⟩)))) xrefl (fun _ _ _ _ => ⟨trivial, trivial⟩) (fun D av wv hE hO hD => ?_) (fun _ => rfl)
    have h0 : av.eval (.tmp 0) = (.iface 127 (.pointer (some ⟨fb, 0, none⟩))) := hO.2.2 0 rfl
    have f0 := (ev_form av 0).symm.trans h0
    have d30 : av.eval (.tmp 30) = (.bool true) := hD.1 rfl _ rfl
    have f30 := (ev_form av 30).symm.trans d30
    refine ⟨(wanted_of (d := 30) (b := true) (want := true) rfl rfl rfl d30), ?_⟩
    simp [go_sem, f0, f30]
  case s12 =>
    refine stepV_val (v := (.pointer (some ⟨b3, 0, none⟩))) xrefl (fun _ _ _ _ => ⟨trivial, trivial⟩) (fun D av wv hE hO hD => ?_) (fun _ => rfl)
    have h3 : av.eval (.tmp 3) = (.pointer (some ⟨b3, 0, none⟩)) := hO.2.2 3 rfl
    have f3 := (ev_form av 3).symm.trans h3
    have d30 : av.eval (.tmp 30) = (.bool true) := hD.1 rfl _ rfl
    have f30 := (ev_form av 30).symm.trans d30
    refine ⟨(wanted_of (d := 30) (b := true) (want := true) rfl rfl rfl d30), ?_⟩
    simp [go_sem, f3, f30]
  case s13 =>
    refine stepV_val (v := (.int .i64 k)) xrefl (fun _ _ _ _ => ⟨trivial, trivial⟩) (fun D av wv hE hO hD => ?_) (fun _ => rfl)
    have d32 : av.eval (.tmp 32) = (.pointer (some ⟨b3, 0, none⟩)) := hD.1 rfl _ rfl
    have f32 := (ev_form av 32).symm.trans d32
    have d30 : av.eval (.tmp 30) = (.bool true) := hD.2.1 rfl _ rfl
    have f30 := (ev_form av 30).symm.trans d30
    have y0 := extS_cell hE.ext (fun j => vob j _ hyg) y0
    have y1 := extS_cell hE.ext (fun j => vob j _ hyg) y1
    have z0 := extS_cell hE.ext (fun j => vob j _ hzg) z0
    have z1 := extS_cell hE.ext (fun j => vob j _ hzg) z1
    refine ⟨(wanted_of (d := 30) (b := true) (want := true) rfl rfl rfl d30), ?_⟩
    simp [go_sem, f32, f30, y0, y1, z0, z1]
  case s14 =>
    refine stepV_val (v := (.iface 30 (.int .i64 k))) xrefl (fun _ _ _ _ => ⟨trivial, trivial⟩) (fun D av wv hE hO hD => ?_) (fun _ => rfl)
    have d33 : av.eval (.tmp 33) = (.int .i64 k) := hD.1 rfl _ rfl
    have f33 := (ev_form av 33).symm.trans d33
    have d30 : av.eval (.tmp 30) = (.bool true) := hD.2.1 rfl _ rfl
    have f30 := (ev_form av 30).symm.trans d30
    refine ⟨(wanted_of (d := 30) (b := true) (want := true) rfl rfl rfl d30), ?_⟩
    simp [go_sem, f33, f30]
  case s15 =>
    refine stepV_wp (fun D av wv hPP hE hO hD => ?_)
    have d31 : av.eval (.tmp 31) = (.iface 127 (.pointer (some ⟨fb, 0, none⟩))) := hD.1 rfl _ rfl
    have f31 := (ev_form av 31).symm.trans d31
    have d34 : av.eval (.tmp 34) = (.iface 30 (.int .i64 k)) := hD.2.1 rfl _ rfl
    have f34 := (ev_form av 34).symm.trans d34
    have d30 : av.eval (.tmp 30) = (.bool true) := hD.2.2.1 rfl _ rfl
    have f30 := (ev_form av 30).symm.trans d30
    refine ⟨(wanted_of (d := 30) (b := true) (want := true) rfl rfl rfl d30), ?_⟩
    refine wp_of_callR (f := 72) (args := #[.iface 127 (.pointer (some ⟨fb, 0, none⟩)), .iface 30 (.int .i64 k)]) (R := fun u w2 => u = .bool true ∧ w2 = wv) (by simp [go_sem, f31, f34]) ((is_fault fb k k wv (extS_cell hE.ext (fun j => vob j _ hyg) y0)).mono (fun e w2 ⟨h1, h2⟩ => ⟨_, h1, by simp, h2⟩)) (fun u w2 ⟨h1, h2⟩ => ⟨u, rfl, esV_of_ext (by rw [h2]; exact Ext_refl _) (by rw [h2]; exact xrefl 0 _), h1, fun _ _ _ _ _ => ⟨trivial, trivial⟩⟩)
  case s16 =>
    refine stepV_val (v := (.bool true)) xrefl (fun _ _ _ _ => ⟨trivial, trivial⟩) (fun D av wv hE hO hD => ?_) (fun _ => rfl)
    have d30 : av.eval (.tmp 30) = (.bool true) := hD.1 rfl _ rfl
    have f30 := (ev_form av 30).symm.trans d30
    have d35 : av.eval (.tmp 35) = (.bool true) := hD.2.1 rfl _ rfl
    have f35 := (ev_form av 35).symm.trans d35
    refine ⟨rfl, ?_⟩
    simp [go_sem, f30, f35]
  intro a' w' hE _ hO hall _
  have hA := act_of_outer (ds := [20, 21, 22, 23, 24, 25, 26, 27, 28, 29, 30, 31, 32, 33, 34, 35, 36]) rfl hO (by kernel_rfl)
  have e20 : (fun u _ => u = (.iface 127 (.pointer (some ⟨fb, 0, none⟩)))) (a'.eval (.tmp 20)) w' := hall.1 _ rfl
  have e21 : (fun u _ => u = (.iface 129 (.pointer (some ⟨gb, 0, none⟩)))) (a'.eval (.tmp 21)) w' := hall.2.1 _ rfl
  have e22 : (fun u w' => u = .bool true ∧ w'.heap[gb]? = some (.cells #[.pointer (some ⟨fb, 0, none⟩)] 127 (0, 0))) (a'.eval (.tmp 22)) w' := hall.2.2.1 _ rfl
  have e23 : (fun u w' => u = .bool true ∧ w'.heap[gb]? = some (.cells #[.pointer (some ⟨fb, 0, none⟩)] 127 (0, 0))) (a'.eval (.tmp 23)) w' := hall.2.2.2.1 _ rfl
  have e24 : (fun u _ => u = (.pointer (some ⟨fb, 0, none⟩))) (a'.eval (.tmp 24)) w' := hall.2.2.2.2.1 _ rfl
  have e25 : (fun u _ => u = (.pointer (some ⟨fb, 0, none⟩))) (a'.eval (.tmp 25)) w' := hall.2.2.2.2.2.1 _ rfl
  have e26 : (fun u _ => u = (.agg #[.int .i64 k, .int .i64 a])) (a'.eval (.tmp 26)) w' := hall.2.2.2.2.2.2.1 _ rfl
  have e27 : (fun u _ => u = (.agg #[.int .i64 k, .int .i64 a])) (a'.eval (.tmp 27)) w' := hall.2.2.2.2.2.2.2.1 _ rfl
  have e28 : (fun u _ => u = (.bool true)) (a'.eval (.tmp 28)) w' := hall.2.2.2.2.2.2.2.2.1 _ rfl
  have e29 : (fun u _ => u = (.bool true)) (a'.eval (.tmp 29)) w' := hall.2.2.2.2.2.2.2.2.2.1 _ rfl
  have e30 : (fun u _ => u = (.bool true)) (a'.eval (.tmp 30)) w' := hall.2.2.2.2.2.2.2.2.2.2.1 _ rfl
  have e31 : (fun u _ => u = (.iface 127 (.pointer (some ⟨fb, 0, none⟩)))) (a'.eval (.tmp 31)) w' := hall.2.2.2.2.2.2.2.2.2.2.2.1 _ rfl
  have e32 : (fun u _ => u = (.pointer (some ⟨b3, 0, none⟩))) (a'.eval (.tmp 32)) w' := hall.2.2.2.2.2.2.2.2.2.2.2.2.1 _ rfl
  have e33 : (fun u _ => u = (.int .i64 k)) (a'.eval (.tmp 33)) w' := hall.2.2.2.2.2.2.2.2.2.2.2.2.2.1 _ rfl
  have e34 : (fun u _ => u = (.iface 30 (.int .i64 k))) (a'.eval (.tmp 34)) w' := hall.2.2.2.2.2.2.2.2.2.2.2.2.2.2.1 _ rfl
  have e35 : (fun u _ => u = (.bool true)) (a'.eval (.tmp 35)) w' := hall.2.2.2.2.2.2.2.2.2.2.2.2.2.2.2.1 _ rfl
  have e36 : (fun u _ => u = (.bool true)) (a'.eval (.tmp 36)) w' := hall.2.2.2.2.2.2.2.2.2.2.2.2.2.2.2.2.1 _ rfl
  obtain ⟨v22, hv22⟩ : ∃ v, a'.eval (.tmp 22) = v := ⟨_, rfl⟩
  rw [hv22] at e22
  obtain ⟨v23, hv23⟩ : ∃ v, a'.eval (.tmp 23) = v := ⟨_, rfl⟩
  rw [hv23] at e23
  simp only [List.foldl_cons, List.foldl_nil, Act.put, List.setIfInBounds_toArray, List.set_cons_succ, List.set_cons_zero, e20, e21, hv22, hv23, e24, e25, e26, e27, e28, e29, e30, e31, e32, e33, e34, e35, e36] at hA
  clear hO hall e20 e21 hv22 hv23 e24 e25 e26 e27 e28 e29 e30 e31 e32 e33 e34 e35 e36
  subst hA
  have HX : Hid (ExtS VO W w') := Lib.hid ⟨hE.os, hE.tape, hE.output, hE.size, hE.block⟩
  have HV : Hid (∀ j b, b ≠ gb → VO j ≠ some b) := Lib.hid vob
  clear hE vob von vok voi xrefl y0 y1 z0 z1
  go_wp2
  go_ret
  exact ⟨rfl, HX.out.os.trans WB.out.os, HX.out.tape.trans WB.out.tape, HX.out.output.trans WB.out.output, Nat.le_trans WB.out.size HX.out.size, fun i hi => (HX.out.block i (Nat.lt_of_lt_of_le hi WB.out.size) (fun j => HV.out j i (by have := HGB.out; omega))).trans (WB.out.block i hi)⟩
end Go.Proofs.YtihiaopilnjonaaGreatDoor
namespace Go.Proofs
set_option linter.unusedSimpArgs false
set_option linter.unusedVariables false
open Go.Shelf
def Tryz.lays105_ren : Go.Shelf.Ren := ⟨fun | 105 => 102 | 212 => 164 | 99 => 165 | 165 => 166 | 166 => 167 | 170 => 168 | 169 => 169 | 263 => 234 | 264 => 235 | 206 => 236 | 240 => 237 | 241 => 238 | 276 => 257 | 277 => 258 | n => n, fun | 9 => 9 | 3 => 3 | 4 => 4 | 20 => 20 | 0 => 0 | 46 => 251 | 109 => 252 | 5 => 5 | 72 => 257 | 76 => 259 | 51 => 315 | 146 => 316 | 53 => 23 | 148 => 318 | 70 => 255 | 37 => 106 | 75 => 59 | 127 => 320 | 164 => 211 | 80 => 144 | n => n, fun | n => n⟩
theorem Tryz.lays105 : Go.Proofs.Lays.n105 Tryz.prog Tryz.lays105_ren := {
  mixed := by kernel_rfl
  f99 := Tryz.func165.trans (congrArg some (by kernel_rfl))
  f105 := Tryz.func102.trans (congrArg some (by kernel_rfl))
  f165 := Tryz.func166.trans (congrArg some (by kernel_rfl))
  f166 := Tryz.func167.trans (congrArg some (by kernel_rfl))
  f169 := Tryz.func169.trans (congrArg some (by kernel_rfl))
  f170 := Tryz.func168.trans (congrArg some (by kernel_rfl))
  f206 := Tryz.func236.trans (congrArg some (by kernel_rfl))
  f212 := Tryz.func164.trans (congrArg some (by kernel_rfl))
  f240 := Tryz.func237.trans (congrArg some (by kernel_rfl))
  f241 := Tryz.func238.trans (congrArg some (by kernel_rfl))
  f263 := Tryz.func234.trans (congrArg some (by kernel_rfl))
  f264 := Tryz.func235.trans (congrArg some (by kernel_rfl))
  f276 := Tryz.func257.trans (congrArg some (by kernel_rfl))
  f277 := Tryz.func258.trans (congrArg some (by kernel_rfl))
  t0 := Tryz.underlying0
  a0 := Tryz.isAgg0
  z0 := Tryz.sizeOf0
  v0 := Tryz.zeroValue0
  t3 := Tryz.underlying3
  a3 := Tryz.isAgg3
  z3 := Tryz.sizeOf3
  v3 := Tryz.zeroValue3
  t4 := Tryz.underlying4
  a4 := Tryz.isAgg4
  z4 := Tryz.sizeOf4
  v4 := Tryz.zeroValue4
  t5 := Tryz.underlying5
  a5 := Tryz.isAgg5
  z5 := Tryz.sizeOf5
  v5 := Tryz.zeroValue5
  t9 := Tryz.underlying9
  a9 := Tryz.isAgg9
  z9 := Tryz.sizeOf9
  v9 := Tryz.zeroValue9
  t20 := Tryz.underlying20
  a20 := Tryz.isAgg20
  z20 := Tryz.sizeOf20
  v20 := Tryz.zeroValue20
  t37 := Tryz.underlying106
  a37 := Tryz.isAgg106
  z37 := Tryz.sizeOf106
  v37 := Tryz.zeroValue106
  t46 := Tryz.underlying251
  a46 := Tryz.isAgg251
  z46 := Tryz.sizeOf251
  v46 := Tryz.zeroValue251
  t51 := Tryz.underlying315
  a51 := Tryz.isAgg315
  z51 := Tryz.sizeOf315
  v51 := Tryz.zeroValue315
  t53 := Tryz.underlying23
  a53 := Tryz.isAgg23
  z53 := Tryz.sizeOf23
  v53 := Tryz.zeroValue23
  t70 := Tryz.underlying255
  a70 := Tryz.isAgg255
  z70 := Tryz.sizeOf255
  v70 := Tryz.zeroValue255
  t72 := Tryz.underlying257
  a72 := Tryz.isAgg257
  z72 := Tryz.sizeOf257
  v72 := Tryz.zeroValue257
  t75 := Tryz.underlying59
  a75 := Tryz.isAgg59
  z75 := Tryz.sizeOf59
  v75 := Tryz.zeroValue59
  t76 := Tryz.underlying259
  a76 := Tryz.isAgg259
  z76 := Tryz.sizeOf259
  v76 := Tryz.zeroValue259
  t109 := Tryz.underlying252
  a109 := Tryz.isAgg252
  z109 := Tryz.sizeOf252
  v109 := Tryz.zeroValue252
  t127 := Tryz.underlying320
  a127 := Tryz.isAgg320
  z127 := Tryz.sizeOf320
  v127 := Tryz.zeroValue320
  t146 := Tryz.underlying316
  a146 := Tryz.isAgg316
  z146 := Tryz.sizeOf316
  v146 := Tryz.zeroValue316
  t148 := Tryz.underlying318
  a148 := Tryz.isAgg318
  z148 := Tryz.sizeOf318
  v148 := Tryz.zeroValue318
  t164 := Tryz.underlying211
  a164 := Tryz.isAgg211
  z164 := Tryz.sizeOf211
  v164 := Tryz.zeroValue211 }
theorem Tryz.Builder_Extra_105 : Builder.Extra Tryz.prog Tryz.lays105_ren := {
  sizeBuilder := by kernel_rfl
  liesBuilder := by kernel_rfl
  t5 := Tryz.underlying5
  a5 := Tryz.isAgg5
  z5 := Tryz.sizeOf5
  v5 := Tryz.zeroValue5
  infoByte := by kernel_rfl
  cellsByte := by kernel_rfl
  sizeByte := by kernel_rfl
  neB5 := by decide }
open Go.RowKit Go.Lib in
theorem Tryz.strings_Repeat (s : ByteArray) (c : Nat) (w : World) (hc : c ≤ 9223372036854775807) (hlen : s.size * c ≤ 140737488355328) :
    Calls Tryz.prog 102 #[.string s, .int .i64 c] w fun e w' => e = .returned (.string ⟨(Lib.repeatL s.data.toList c).toArray⟩) ∧ Below w.heap.size w w' := Any.strings_Repeat Tryz.lays105 Tryz.Builder_Extra_105 s c w hc hlen
end Go.Proofs

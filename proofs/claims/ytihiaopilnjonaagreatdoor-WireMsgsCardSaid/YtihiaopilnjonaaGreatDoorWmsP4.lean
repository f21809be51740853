/- Parts of the proof, one behind the other. -/
import Derived.Test.YtihiaopilnjonaaGreatDoorWmsP3
import Derived.Deep.QuietTactic
import Derived.BigQuiet
import Derived.StillTailTactics
import Derived.Laws.BytesArg
import Derived.WalkMore
import Derived.Laws.Strings
namespace Go.Proofs.YtihiaopilnjonaaGreatDoor
open Go.RowKit
set_option linter.unusedSimpArgs false
set_option linter.unusedVariables false
section
variable {B qb rb tb n : Nat} {T : TypeId} {w : World} {x0 : Rcd} {s : ByteArray}
theorem made_num (E : TEnv B qb rb tb n T w) (key : ByteArray) {o : Nat} (ho : o < n) (h0 : kindD (x0 o) = 0) : Calls Tryz.prog 109 #[.string key, .pointer (some ⟨tb, o, none⟩)] w (MadeG (fun w v => GSem B qb rb tb x0 T n s w v (gnum s key o)) w) :=
  (snum_any key tb o w).mono fun e w2 ⟨v, he, hs, hb⟩ => ⟨v.val, he, v, rfl, gsem_num (E.below hb) hs E.rlt E.tlt ho h0, hb⟩
theorem made_flag (E : TEnv B qb rb tb n T w) (key : ByteArray) {o : Nat} (ho : o < n) (h0 : kindD (x0 o) = 1) : Calls Tryz.prog 110 #[.string key, .pointer (some ⟨tb, o, none⟩)] w (MadeG (fun w v => GSem B qb rb tb x0 T n s w v (gflag s key o)) w) :=
  (sflag_any key tb o w).mono fun e w2 ⟨v, he, hs, hb⟩ => ⟨v.val, he, v, rfl, gsem_flag (E.below hb) hs E.rlt E.tlt ho h0, hb⟩
theorem made_dig (E : TEnv B qb rb tb n T w) (key : ByteArray) {o : Nat} (ho : o < n) : Calls Tryz.prog 111 #[.string key, .pointer (some ⟨tb, o, none⟩)] w (MadeG (fun w v => GSem B qb rb tb x0 T n s w v (gdig s key o)) w) :=
  (sdigest_any key tb o w).mono fun e w2 ⟨v, he, hs, hb⟩ => ⟨v.val, he, v, rfl, gsem_dig (E.below hb) hs E.rlt E.tlt ho, hb⟩
set_option maxRecDepth 100000 in
theorem dgs3_any (xb a : Nat) (he : RdEnv B w qb rb s a) (hx : w.heap[xb]? = some (.cells #[.string ⟨#[]⟩] 9 (0, 0))) (hne : xb ≠ rb) : Calls Tryz.prog 213 #[.pointer (some ⟨qb, 0, none⟩), .pointer (some ⟨xb, 0, none⟩)] w (ElIs (rdig s a) (fun y _ c => c = #[.string y]) rb xb 9 s w) := by
  have H := Lib.hid (dgRead_any B qb rb s a w he)
  have HX := Lib.hid hx
  clear he hx
  go_enter Tryz.func213, Tryz.ntmps213
  go_wp2_with fail
  refine H.out.mono ?_
  intro e w1 hh
  cases hr : rdig s a with
  | error f =>
    rw [hr] at hh
    obtain ⟨fb, rfl, hf, hE⟩ := vIs_err hh
    have HF := Lib.hid hf
    have HE := Lib.hid hE
    have HR := Lib.hid hr
    clear hh hf hE hr
    go_wp2
    refine ⟨rfl, ?_⟩
    rw [HR.out]
    exact ⟨Chg.of_ext HE.out, fb, rfl, HF.out⟩
  | ok y =>
    rw [hr] at hh
    obtain ⟨rfl, hrd, hle, hE⟩ := vIs_ok hh
    have hb1 : w1.heap[xb]? = some (.cells #[.string ⟨#[]⟩] 9 (0, 0)) := (hE.block _ (lt_of_block HX.out) (by simpa using hne)).trans HX.out
    have q0 : w1.cell? ⟨xb, 0, none⟩ = some (.string ⟨#[]⟩) := block_cell hb1 0
    have f0 : w1.frozen? ⟨xb, 0, none⟩ = false := block_free hb1 0
    have HB1 := Lib.hid hb1
    have HRD := Lib.hid hrd
    have HE := Lib.hid hE
    have HR := Lib.hid hr
    clear hh hrd hE hr hb1
    go_wp2
    go_end0
    rw [HR.out]
    exact ⟨(Chg.of_ext HE.out).set 0 _, rfl, block_setCell_ne HRD.out (by exact fun e => hne e.symm) _, hle, _, block_setCell HB1.out _, rfl⟩
theorem made_digs (E : TEnv B qb rb tb n T w) (key : ByteArray) {o most : Nat} (ho : o < n) (hm : most ≤ 10240) (h0 : x0 o = .strs []) : Calls Tryz.prog 145 #[.string key, .pointer (some ⟨tb, o, none⟩), .int .i64 most] w (MadeG (fun w v => GSem B qb rb tb x0 T n s w v (gdigs s key o most)) w) :=
  (sdigests_any key tb o most w).mono fun e w2 ⟨v, he, hs, hb⟩ => ⟨v.val, he, v, rfl, gsem_manys (E.below hb) hs E.rlt E.tlt ho hm h0 (fun w' xb a' hc hxb hx he2 => dgs3_any xb a' he2 hx (by have := (E.below hb).rlt; omega)), hb⟩
theorem made_obj (E : TEnv B qb rb tb n T w) (key : ByteArray) {g c : Nat} {l : List FVal} {gs : List GSpec} (hF : FRow w g l) (hc : len l ≤ c) (hS : GSems B qb rb tb x0 T n s w l gs) (hG : GOk x0 gs) (hn : gs.length ≤ 1000) : Calls Tryz.prog 107 #[.string key, .slice (some ⟨g, 0, none⟩) (len l) c] w (MadeG (fun w v => GSem B qb rb tb x0 T n s w v (gobj s key gs)) w) := by
  have hl : gs.length = l.length := hS.1
  have hn2 : len l ≤ 1000 := by show l.length ≤ 1000; omega
  exact (sobject_any key g c l w hF hn2).mono fun e w2 ⟨v, he, hs, hb⟩ => ⟨v.val, he, v, rfl, gsem_obj (E.below hb) hs E.rlt E.tlt (hF.below hb) hc hn2 (hS.later (Chg.of_below hb)) hG, hb⟩
theorem gsem_lasts (g : GSpec) : Lasts (fun w v => GSem B qb rb tb x0 T n s w v g) := fun w w' v hb h => h.later (Chg.of_below hb)
theorem gsems_lasts (gs : List GSpec) : LastsR (fun w l => GSems B qb rb tb x0 T n s w l gs) := fun w w' l hb h => h.later (Chg.of_below hb)
end
theorem RowG.imp {P Q : World → List FVal → Prop} {u : Value} {w : World} (h : RowG P u w) (hi : ∀ l, P w l → Q w l) : RowG Q u w := by
  obtain ⟨g, c, l, hu, hc, hF, hp⟩ := h
  exact ⟨g, c, l, hu, hc, hF, hi l hp⟩
theorem keysOk_of {gs : List GSpec} {ks : List ByteArray} (h : gs.map (fun g => g.key) = ks) (hn : ks.Nodup) : KeysOk gs := fun i j hi hj e => by
  subst h
  rw [gth_eq gs i hi, gth_eq gs j hj] at e
  exact (List.getElem_inj (i := i) (j := j) (h₀ := by simpa using hi) (h₁ := by simpa using hj) hn).1 (by simpa using e)
theorem disj_of {gs : List GSpec} {L : List (List Nat)} (h : gs.map (fun g => g.offs) = L) (hp : L.Pairwise (fun a b => ∀ o, o ∈ a → o ∉ b)) : Disj gs := fun i j hi hj hne o ho hin => by
  subst h
  rw [gth_eq gs i hi] at ho
  rw [gth_eq gs j hj] at hin
  rcases Nat.lt_or_gt_of_ne hne with hlt | hlt
  · exact List.pairwise_iff_getElem.1 hp i j (by simpa using hi) (by simpa using hj) hlt o (by simpa using ho) (by simpa using hin)
  · exact List.pairwise_iff_getElem.1 hp j i (by simpa using hj) (by simpa using hi) hlt o (by simpa using hin) (by simpa using ho)
structure KPart (x0 : Rcd) (o : Nat) : Prop where
  c0 : kindD (x0 o) = 2
  c1 : kindD (x0 (o + 1)) = 0
  c2 : kindD (x0 (o + 2)) = 0
  c3 : kindD (x0 (o + 3)) = 0
  c4 : kindD (x0 (o + 4)) = 0
structure KSig (x0 : Rcd) (o : Nat) : Prop where
  c0 : kindD (x0 o) = 0
  c1 : x0 (o + 1) = .strs []
  c2 : x0 (o + 2) = .strs []
structure KSlot (x0 : Rcd) (o : Nat) : Prop where
  c0 : kindD (x0 o) = 0
  c1 : kindD (x0 (o + 1)) = 1
  c2 : KSig x0 (o + 2)
theorem PartOk {x0 : Rcd} (s : ByteArray) (o : Nat) (hK : KPart x0 o) : GOk x0 (partGs s o) := by
  refine ⟨keysOk_of (ks := [⟨#[102]⟩, ⟨#[107]⟩, ⟨#[108]⟩, ⟨#[114]⟩, ⟨#[119]⟩]) rfl (by decide), disj_of rfl ?_, fun g hg => ?_, fun g hg => ?_⟩
  · simp only [partGs, sigGs, slotGs, partGs, gnum, gflag, gdig, gdigs, gmany, gobj, List.map_cons, List.map_nil, List.flatMap_cons, List.flatMap_nil, List.pairwise_cons, List.mem_cons, List.mem_append, List.not_mem_nil, or_false, List.Pairwise.nil, and_true, List.append_nil, List.singleton_append, List.cons_append, List.nil_append, forall_eq_or_imp, forall_eq]; (repeat' apply And.intro) <;> first | omega | (intro a h; exact h.elim)
  · simp only [partGs, List.mem_cons, List.not_mem_nil, or_false] at hg; rcases hg with rfl | rfl | rfl | rfl | rfl
    · exact gnum_frames _ _ _
    · exact gnum_frames _ _ _
    · exact gnum_frames _ _ _
    · exact gdig_frames _ _ _
    · exact gnum_frames _ _ _
  · simp only [partGs, List.mem_cons, List.not_mem_nil, or_false] at hg; rcases hg with rfl | rfl | rfl | rfl | rfl
    · exact gnum_kinds _ _ (hK.c2)
    · exact gnum_kinds _ _ (hK.c4)
    · exact gnum_kinds _ _ (hK.c3)
    · exact gdig_kinds _ _ (hK.c0)
    · exact gnum_kinds _ _ (hK.c1)
theorem rofPart_any {B qb rb tb n : Nat} {T : TypeId} {w : World} {x0 : Rcd} {s : ByteArray} (E : TEnv B qb rb tb n T w) (o : Nat) (hn : o + 5 ≤ n) (hK : KPart x0 o) : Calls Tryz.prog 62 #[.pointer (some ⟨tb, o, none⟩)] w (RowIs (fun w l => GSems B qb rb tb x0 T n s w l (partGs s o)) w) := by
  refine (gofPart_any tb o w
    (fun w v => GSem B qb rb tb x0 T n s w v (gnum s ⟨#[102]⟩ (o + 2))) (fun w v => GSem B qb rb tb x0 T n s w v (gnum s ⟨#[107]⟩ (o + 4))) (fun w v => GSem B qb rb tb x0 T n s w v (gnum s ⟨#[108]⟩ (o + 3))) (fun w v => GSem B qb rb tb x0 T n s w v (gdig s ⟨#[114]⟩ (o))) (fun w v => GSem B qb rb tb x0 T n s w v (gnum s ⟨#[119]⟩ (o + 1)))
    (fun w' hb => made_num (E.below hb) ⟨#[102]⟩ (by omega) hK.c2)
    (gsem_lasts _)
    (fun w' hb => made_num (E.below hb) ⟨#[107]⟩ (by omega) hK.c4)
    (gsem_lasts _)
    (fun w' hb => made_num (E.below hb) ⟨#[108]⟩ (by omega) hK.c3)
    (gsem_lasts _)
    (fun w' hb => made_dig (E.below hb) ⟨#[114]⟩ (by omega))
    (gsem_lasts _)
    (fun w' hb => made_num (E.below hb) ⟨#[119]⟩ (by omega) hK.c1)
    (gsem_lasts _)).mono ?_
  rintro e w' ⟨u, he, hu, hb⟩
  refine ⟨u, he, hu.imp fun l h => ?_, hb⟩
  obtain ⟨x0, x1, x2, x3, x4, rfl, p0, p1, p2, p3, p4⟩ := h
  refine ⟨rfl, fun i hi => ?_⟩
  match i, hi with
  | 0, _ => exact p0
  | 1, _ => exact p1
  | 2, _ => exact p2
  | 3, _ => exact p3
  | 4, _ => exact p4
theorem SigOk {x0 : Rcd} (s : ByteArray) (o : Nat) (hK : KSig x0 o) : GOk x0 (sigGs s o) := by
  refine ⟨keysOk_of (ks := [⟨#[105]⟩, ⟨#[112]⟩, ⟨#[118]⟩]) rfl (by decide), disj_of rfl ?_, fun g hg => ?_, fun g hg => ?_⟩
  · simp only [sigGs, sigGs, slotGs, partGs, gnum, gflag, gdig, gdigs, gmany, gobj, List.map_cons, List.map_nil, List.flatMap_cons, List.flatMap_nil, List.pairwise_cons, List.mem_cons, List.mem_append, List.not_mem_nil, or_false, List.Pairwise.nil, and_true, List.append_nil, List.singleton_append, List.cons_append, List.nil_append, forall_eq_or_imp, forall_eq]; (repeat' apply And.intro) <;> first | omega | (intro a h; exact h.elim)
  · simp only [sigGs, List.mem_cons, List.not_mem_nil, or_false] at hg; rcases hg with rfl | rfl | rfl
    · exact gnum_frames _ _ _
    · exact gmany_frames _ _ _ _ _ _
    · exact gmany_frames _ _ _ _ _ _
  · simp only [sigGs, List.mem_cons, List.not_mem_nil, or_false] at hg; rcases hg with rfl | rfl | rfl
    · exact gnum_kinds _ _ (hK.c0)
    · exact gmany_kinds _ _ (fun l => by rw [hK.c2]; rfl)
    · exact gmany_kinds _ _ (fun l => by rw [hK.c1]; rfl)
theorem rofSig_any {B qb rb tb n : Nat} {T : TypeId} {w : World} {x0 : Rcd} {s : ByteArray} (E : TEnv B qb rb tb n T w) (o : Nat) (hn : o + 3 ≤ n) (hK : KSig x0 o) : Calls Tryz.prog 108 #[.pointer (some ⟨tb, o, none⟩)] w (RowIs (fun w l => GSems B qb rb tb x0 T n s w l (sigGs s o)) w) := by
  refine (gofSig_any tb o w
    (fun w v => GSem B qb rb tb x0 T n s w v (gnum s ⟨#[105]⟩ (o))) (fun w v => GSem B qb rb tb x0 T n s w v (gdigs s ⟨#[112]⟩ (o + 2) 16)) (fun w v => GSem B qb rb tb x0 T n s w v (gdigs s ⟨#[118]⟩ (o + 1) 67))
    (fun w' hb => made_num (E.below hb) ⟨#[105]⟩ (by omega) hK.c0)
    (gsem_lasts _)
    (fun w' hb => made_digs (E.below hb) ⟨#[112]⟩ (by omega) (by decide) hK.c2)
    (gsem_lasts _)
    (fun w' hb => made_digs (E.below hb) ⟨#[118]⟩ (by omega) (by decide) hK.c1)
    (gsem_lasts _)).mono ?_
  rintro e w' ⟨u, he, hu, hb⟩
  refine ⟨u, he, hu.imp fun l h => ?_, hb⟩
  obtain ⟨x0, x1, x2, rfl, p0, p1, p2⟩ := h
  refine ⟨rfl, fun i hi => ?_⟩
  match i, hi with
  | 0, _ => exact p0
  | 1, _ => exact p1
  | 2, _ => exact p2
theorem SlotOk {x0 : Rcd} (s : ByteArray) (o : Nat) (hK : KSlot x0 o) : GOk x0 (slotGs s o) := by
  have hS0 := SigOk (x0 := x0) s (o + 2) hK.c2
  refine ⟨keysOk_of (ks := [⟨#[103]⟩, ⟨#[108]⟩, ⟨#[115]⟩]) rfl (by decide), disj_of rfl ?_, fun g hg => ?_, fun g hg => ?_⟩
  · simp only [slotGs, sigGs, slotGs, partGs, gnum, gflag, gdig, gdigs, gmany, gobj, List.map_cons, List.map_nil, List.flatMap_cons, List.flatMap_nil, List.pairwise_cons, List.mem_cons, List.mem_append, List.not_mem_nil, or_false, List.Pairwise.nil, and_true, List.append_nil, List.singleton_append, List.cons_append, List.nil_append, forall_eq_or_imp, forall_eq]; (repeat' apply And.intro) <;> first | omega | (intro a h; exact h.elim)
  · simp only [slotGs, List.mem_cons, List.not_mem_nil, or_false] at hg; rcases hg with rfl | rfl | rfl
    · exact gobj_frames (hS0).frames
    · exact gnum_frames _ _ _
    · exact gflag_frames _ _ _
  · simp only [slotGs, List.mem_cons, List.not_mem_nil, or_false] at hg; rcases hg with rfl | rfl | rfl
    · exact gobj_kinds (hS0).kinds
    · exact gnum_kinds _ _ (hK.c0)
    · exact gflag_kinds _ _ (hK.c1)
theorem rofSlot_any {B qb rb tb n : Nat} {T : TypeId} {w : World} {x0 : Rcd} {s : ByteArray} (E : TEnv B qb rb tb n T w) (o : Nat) (hn : o + 5 ≤ n) (hK : KSlot x0 o) : Calls Tryz.prog 61 #[.pointer (some ⟨tb, o, none⟩)] w (RowIs (fun w l => GSems B qb rb tb x0 T n s w l (slotGs s o)) w) := by
  refine (gofSlot_any tb o w
    (fun w v => GSem B qb rb tb x0 T n s w v (gobj s ⟨#[103]⟩ (sigGs s (o + 2)))) (fun w v => GSem B qb rb tb x0 T n s w v (gnum s ⟨#[108]⟩ (o))) (fun w v => GSem B qb rb tb x0 T n s w v (gflag s ⟨#[115]⟩ (o + 1))) (fun w l => GSems B qb rb tb x0 T n s w l (sigGs s (o + 2)))
    (gsems_lasts _) (fun w' hb => rofSig_any (E.below hb) (o + 2) (by omega) hK.c2)
    (fun w' g c l hb hF hc hS => made_obj (E.below hb) ⟨#[103]⟩ hF hc hS (SigOk s (o + 2) hK.c2) (show (3 : Nat) ≤ 1000 by decide))
    (gsem_lasts _)
    (fun w' hb => made_num (E.below hb) ⟨#[108]⟩ (by omega) hK.c0)
    (gsem_lasts _)
    (fun w' hb => made_flag (E.below hb) ⟨#[115]⟩ (by omega) hK.c1)
    (gsem_lasts _)).mono ?_
  rintro e w' ⟨u, he, hu, hb⟩
  refine ⟨u, he, hu.imp fun l h => ?_, hb⟩
  obtain ⟨x0, x1, x2, rfl, p0, p1, p2⟩ := h
  refine ⟨rfl, fun i hi => ?_⟩
  match i, hi with
  | 0, _ => exact p0
  | 1, _ => exact p1
  | 2, _ => exact p2
theorem MsgOk (s : ByteArray) : GOk msg0 (msgGs s) := by
  refine ⟨keysOk_of (ks := [⟨#[102]⟩, ⟨#[104]⟩, ⟨#[108]⟩, ⟨#[110]⟩, ⟨#[118]⟩, ⟨#[119]⟩]) rfl (by decide), disj_of rfl ?_, fun g hg => ?_, fun g hg => ?_⟩
  · simp only [msgGs, sigGs, slotGs, partGs, gnum, gflag, gdig, gdigs, gmany, gobj, List.map_cons, List.map_nil, List.flatMap_cons, List.flatMap_nil, List.pairwise_cons, List.mem_cons, List.mem_append, List.not_mem_nil, or_false, List.Pairwise.nil, and_true, List.append_nil, List.singleton_append, List.cons_append, List.nil_append, forall_eq_or_imp, forall_eq]; (repeat' apply And.intro) <;> first | omega | (intro a h; exact h.elim)
  · simp only [msgGs, List.mem_cons, List.not_mem_nil, or_false] at hg; rcases hg with rfl | rfl | rfl | rfl | rfl | rfl
    · exact gnum_frames _ _ _
    · exact gdig_frames _ _ _
    · exact gnum_frames _ _ _
    · exact gnum_frames _ _ _
    · exact gdig_frames _ _ _
    · exact gnum_frames _ _ _
  · simp only [msgGs, List.mem_cons, List.not_mem_nil, or_false] at hg; rcases hg with rfl | rfl | rfl | rfl | rfl | rfl
    · exact gnum_kinds _ _ (rfl)
    · exact gdig_kinds _ _ (rfl)
    · exact gnum_kinds _ _ (rfl)
    · exact gnum_kinds _ _ (rfl)
    · exact gdig_kinds _ _ (rfl)
    · exact gnum_kinds _ _ (rfl)
theorem rofMsg_any {B qb rb tb : Nat} {T : TypeId} {w : World} {s : ByteArray} (E : TEnv B qb rb tb 6 T w) : Calls Tryz.prog 80 #[.pointer (some ⟨tb, 0, none⟩)] w (RowIs (fun w l => GSems B qb rb tb msg0 T 6 s w l (msgGs s)) w) := by
  refine (gofMsg_any tb 0 w
    (fun w v => GSem B qb rb tb msg0 T 6 s w v (gnum s ⟨#[102]⟩ (4))) (fun w v => GSem B qb rb tb msg0 T 6 s w v (gdig s ⟨#[104]⟩ (0))) (fun w v => GSem B qb rb tb msg0 T 6 s w v (gnum s ⟨#[108]⟩ (5))) (fun w v => GSem B qb rb tb msg0 T 6 s w v (gnum s ⟨#[110]⟩ (2))) (fun w v => GSem B qb rb tb msg0 T 6 s w v (gdig s ⟨#[118]⟩ (1))) (fun w v => GSem B qb rb tb msg0 T 6 s w v (gnum s ⟨#[119]⟩ (3)))
    (fun w' hb => made_num (E.below hb) ⟨#[102]⟩ (by omega) rfl)
    (gsem_lasts _)
    (fun w' hb => made_dig (E.below hb) ⟨#[104]⟩ (by omega))
    (gsem_lasts _)
    (fun w' hb => made_num (E.below hb) ⟨#[108]⟩ (by omega) rfl)
    (gsem_lasts _)
    (fun w' hb => made_num (E.below hb) ⟨#[110]⟩ (by omega) rfl)
    (gsem_lasts _)
    (fun w' hb => made_dig (E.below hb) ⟨#[118]⟩ (by omega))
    (gsem_lasts _)
    (fun w' hb => made_num (E.below hb) ⟨#[119]⟩ (by omega) rfl)
    (gsem_lasts _)).mono ?_
  rintro e w' ⟨u, he, hu, hb⟩
  refine ⟨u, he, hu.imp fun l h => ?_, hb⟩
  obtain ⟨x0, x1, x2, x3, x4, x5, rfl, p0, p1, p2, p3, p4, p5⟩ := h
  refine ⟨rfl, fun i hi => ?_⟩
  match i, hi with
  | 0, _ => exact p0
  | 1, _ => exact p1
  | 2, _ => exact p2
  | 3, _ => exact p3
  | 4, _ => exact p4
  | 5, _ => exact p5
theorem HeaderOk (s : ByteArray) : GOk header0 (headerGs s) := by
  refine ⟨keysOk_of (ks := [⟨#[112]⟩, ⟨#[114]⟩, ⟨#[115]⟩, ⟨#[116]⟩]) rfl (by decide), disj_of rfl ?_, fun g hg => ?_, fun g hg => ?_⟩
  · simp only [headerGs, sigGs, slotGs, partGs, gnum, gflag, gdig, gdigs, gmany, gobj, List.map_cons, List.map_nil, List.flatMap_cons, List.flatMap_nil, List.pairwise_cons, List.mem_cons, List.mem_append, List.not_mem_nil, or_false, List.Pairwise.nil, and_true, List.append_nil, List.singleton_append, List.cons_append, List.nil_append, forall_eq_or_imp, forall_eq]; (repeat' apply And.intro) <;> first | omega | (intro a h; exact h.elim)
  · simp only [headerGs, List.mem_cons, List.not_mem_nil, or_false] at hg; rcases hg with rfl | rfl | rfl | rfl
    · exact gdig_frames _ _ _
    · exact gnum_frames _ _ _
    · exact gdig_frames _ _ _
    · exact gdig_frames _ _ _
  · simp only [headerGs, List.mem_cons, List.not_mem_nil, or_false] at hg; rcases hg with rfl | rfl | rfl | rfl
    · exact gdig_kinds _ _ (rfl)
    · exact gnum_kinds _ _ (rfl)
    · exact gdig_kinds _ _ (rfl)
    · exact gdig_kinds _ _ (rfl)
theorem rofHeader_any {B qb rb tb : Nat} {T : TypeId} {w : World} {s : ByteArray} (E : TEnv B qb rb tb 4 T w) : Calls Tryz.prog 85 #[.pointer (some ⟨tb, 0, none⟩)] w (RowIs (fun w l => GSems B qb rb tb header0 T 4 s w l (headerGs s)) w) := by
  refine (gofHeader_any tb 0 w
    (fun w v => GSem B qb rb tb header0 T 4 s w v (gdig s ⟨#[112]⟩ (1))) (fun w v => GSem B qb rb tb header0 T 4 s w v (gnum s ⟨#[114]⟩ (0))) (fun w v => GSem B qb rb tb header0 T 4 s w v (gdig s ⟨#[115]⟩ (3))) (fun w v => GSem B qb rb tb header0 T 4 s w v (gdig s ⟨#[116]⟩ (2)))
    (fun w' hb => made_dig (E.below hb) ⟨#[112]⟩ (by omega))
    (gsem_lasts _)
    (fun w' hb => made_num (E.below hb) ⟨#[114]⟩ (by omega) rfl)
    (gsem_lasts _)
    (fun w' hb => made_dig (E.below hb) ⟨#[115]⟩ (by omega))
    (gsem_lasts _)
    (fun w' hb => made_dig (E.below hb) ⟨#[116]⟩ (by omega))
    (gsem_lasts _)).mono ?_
  rintro e w' ⟨u, he, hu, hb⟩
  refine ⟨u, he, hu.imp fun l h => ?_, hb⟩
  obtain ⟨x0, x1, x2, x3, rfl, p0, p1, p2, p3⟩ := h
  refine ⟨rfl, fun i hi => ?_⟩
  match i, hi with
  | 0, _ => exact p0
  | 1, _ => exact p1
  | 2, _ => exact p2
  | 3, _ => exact p3
end Go.Proofs.YtihiaopilnjonaaGreatDoor
namespace Go.Proofs.YtihiaopilnjonaaGreatDoor
open Go.RowKit
set_option linter.unusedSimpArgs false
set_option linter.unusedVariables false
theorem rec_zero {rb tb : Nat} {T : TypeId} {w : World} {x : Rcd} {cs : Array Value} (h : w.heap[tb]? = some (.cells cs T (0, 0))) {n : Nat} (hn : cs.size = n) (hz : ∀ i, i < n → ∃ v, cs[i]? = some v ∧ (match x i with | .num k => v = .int .u64 k | .flag q => v = .bool q | .str t => v = .string t | .strs l => l = [] ∧ v = .slice none 0 0 | .nums l => l = [] ∧ v = .slice none 0 0 | .revs l => l = [] ∧ v = .slice none 0 0)) : RecAt rb tb T n w x := by
  refine ⟨cs, h, hn, fun i hi => ?_⟩
  obtain ⟨v, h1, h2⟩ := hz i hi
  refine ⟨v, h1, ?_⟩
  cases hx : x i with
  | num k => rw [hx] at h2; exact h2
  | flag q => rw [hx] at h2; exact h2
  | str t => rw [hx] at h2; exact h2
  | strs l =>
    rw [hx] at h2; obtain ⟨rfl, rfl⟩ := h2
    exact ⟨none, 0, rfl, fun _ => ⟨rfl, rfl⟩, fun b off e => (by cases e), fun i hi => (by simp [len] at hi), fun b off e => (by cases e)⟩
  | nums l =>
    rw [hx] at h2; obtain ⟨rfl, rfl⟩ := h2
    exact ⟨none, 0, rfl, fun _ => ⟨rfl, rfl⟩, fun b off e => (by cases e), fun i hi => (by simp [len] at hi), fun b off e => (by cases e)⟩
  | revs l =>
    rw [hx] at h2; obtain ⟨rfl, rfl⟩ := h2
    exact ⟨none, 0, rfl, fun _ => ⟨rfl, rfl⟩, fun b off e => (by cases e), [], rfl, fun i hi => (by simp [len] at hi), fun i hi => (by simp [len] at hi)⟩
theorem Kd.str {x0 x : Rcd} (h : Kd x0 x) {o : Nat} (h0 : kindD (x0 o) = 2) : ∃ n, x o = .str n := by
  have := (h o).trans h0
  cases hx : x o <;> rw [hx] at this <;> first | exact ⟨_, rfl⟩ | cases this
theorem objR_kinds {x0 : Rcd} {s : ByteArray} {fs : List GSpec} (hf : ∀ g ∈ fs, g.Kinds x0) {x : Rcd} {a : Nat} {y : Rcd × Nat} (h : objR s fs x a = .ok y) (hk : Kd x0 x) : Kd x0 y.1 := gobj_kinds (s := s) (key := ByteArray.empty) hf x a y h hk
section
variable {B qb rb tb n : Nat} {T : TypeId} {w : World} {x0 : Rcd} {s : ByteArray}
end
end Go.Proofs.YtihiaopilnjonaaGreatDoor
namespace Go.Proofs.YtihiaopilnjonaaGreatDoor
open Go.RowKit
set_option linter.unusedSimpArgs false
set_option linter.unusedVariables false
def At (s : ByteArray) (a : Nat) (t : ByteArray) : Prop := a ≤ s.size ∧ ∃ R, s.data.toList.drop a = t.data.toList ++ R
theorem At.le {s t : ByteArray} {a : Nat} (h : At s a t) : a + t.size ≤ s.size := by
  obtain ⟨h1, R, h2⟩ := h
  have := congrArg List.length h2
  rw [List.length_drop, List.length_append, ba_len, ba_len] at this
  omega
theorem At.nil {s : ByteArray} {a : Nat} (h : a ≤ s.size) : At s a ByteArray.empty := ⟨h, s.data.toList.drop a, by rfl⟩
def POk : DV → Prop
  | .num n => U64i n
  | .nums l => ∀ n ∈ l, U64i n
  | _ => True
def DOk : DV → Prop
  | .revs l => ∀ r ∈ l, ∀ o, POk (revC r o)
  | d => POk d
structure FG (s : ByteArray) (x0 : Rcd) (g : GSpec) (f : Rcd → FSpec) : Prop where
  key : ∀ y, (f y).key = g.key
  ksz : g.key.size ≤ 10240
  must : ∀ y, (f y).must = g.must
  loc : ∀ y z, (∀ o, o ∈ g.offs → y o = z o) → f y = f z
  emp : ∀ y, Kd x0 y → (f y).empty = g.empty y
  full : g.must = true → ∀ y, (f y).empty = false
  un : g.must = false → (f x0).empty = true ∧ (f x0).may = true
  zero : ∀ v, Kd x0 v → (f v).empty = true → ∀ o, o ∈ g.offs → v o = x0 o
  back : ∀ x a y, a ≤ s.size → fresh x0 g x → Kd x0 x → g.read x a = .ok y → g.empty y.1 = false → (f y.1).may = true ∧ At s a (f y.1).bytes ∧ y.2 = a + (f y.1).bytes.size ∧ ∀ o, o ∈ g.offs → DOk (y.1 o)
  forth : ∀ v x a, Kd x0 v → (∀ o, DOk (v o)) → fresh x0 g x → Kd x0 x → (f v).may = true → (f v).empty = false → At s a (f v).bytes → ∃ y, g.read x a = .ok (y, a + (f v).bytes.size) ∧ ∀ o, o ∈ g.offs → y o = v o
variable {s : ByteArray} {x0 : Rcd}
end Go.Proofs.YtihiaopilnjonaaGreatDoor
namespace Go.Proofs.YtihiaopilnjonaaGreatDoor
open Go.RowKit
set_option linter.unusedSimpArgs false
set_option linter.unusedVariables false
abbrev FPair := GSpec × (Rcd → FSpec)
def gsOf (P : List FPair) : List GSpec := P.map fun p => p.1
def pth (P : List FPair) (i : Nat) : FPair := P.getD i (GSpec.zero, fun _ => ⟨ByteArray.empty, false, false, false, ByteArray.empty⟩)
theorem pth_eq (P : List FPair) (i : Nat) (h : i < P.length) : pth P i = P[i] := by unfold pth; rw [List.getD_eq_getElem?_getD, List.getElem?_eq_getElem h]; rfl
theorem gsOf_len (P : List FPair) : (gsOf P).length = P.length := List.length_map _
theorem gth_of {P : List FPair} {i : Nat} (h : i < P.length) : gth (gsOf P) i = (pth P i).1 := by
  rw [gth_eq _ _ (by rw [gsOf_len]; exact h), pth_eq P i h]; unfold gsOf; rw [List.getElem_map]
structure FGs (s : ByteArray) (x0 : Rcd) (P : List FPair) : Prop where
  fg : ∀ p ∈ P, FG s x0 p.1 p.2
  ok : GOk x0 (gsOf P)
  len : P.length ≤ 1000
variable {s : ByteArray} {x0 : Rcd} {P : List FPair}
theorem FGs.at (h : FGs s x0 P) {i : Nat} (hi : i < P.length) : FG s x0 (gth (gsOf P) i) (pth P i).2 := by
  rw [gth_of hi]; exact h.fg _ (by rw [pth_eq P i hi]; exact List.getElem_mem _)
theorem kept_le (l : List FSpec) : (keptF l).length ≤ l.length := List.length_filter_le _ _
end Go.Proofs.YtihiaopilnjonaaGreatDoor
namespace Go.Proofs.YtihiaopilnjonaaGreatDoor
open Go.RowKit
set_option linter.unusedSimpArgs false
set_option linter.unusedVariables false
def putB (w : World) (t : Nat) (y : Obj) : World := { w with heap := w.heap.setIfInBounds t y }
theorem putB_ne {w : World} {t k : Nat} {y : Obj} (h : k ≠ t) : (putB w t y).heap[k]? = w.heap[k]? := by
  show (w.heap.setIfInBounds t y)[k]? = _
  rw [Array.getElem?_setIfInBounds_ne (fun e => h e.symm)]
theorem putB_size (w : World) (t : Nat) (y : Obj) : (putB w t y).heap.size = w.heap.size := Array.size_setIfInBounds
theorem putB_at {w : World} {t : Nat} {y x : Obj} (h : (putB w t y).heap[t]? = some x) : x = y := by
  have h' : (w.heap.setIfInBounds t y)[t]? = some x := h
  by_cases hl : t < w.heap.size
  · rw [Array.getElem?_setIfInBounds_self_of_lt hl] at h'; cases h'; rfl
  · rw [Array.getElem?_eq_none (by rw [Array.size_setIfInBounds]; omega)] at h'; cases h'
theorem keep_putB {B t : Nat} {w w' : World} (hb : Below w.heap.size w w') (hB : B ≤ w.heap.size) (ht : B ≤ t) (y : Obj) : Keep8 B (putB w t y) (putB w' t y) := by
  refine ⟨by rw [putB_size]; exact hB, by rw [putB_size, putB_size]; exact hb.size, fun k hk => ?_, fun k x hx hn => ?_⟩
  · rw [putB_ne (by omega), putB_ne (by omega)]; exact hb.block k (by omega)
  · by_cases e : k = t
    · subst e
      have hl : k < w.heap.size := by have := lt_of_block hx; rw [putB_size] at this; exact this
      have := putB_at hx
      subst this
      show (w'.heap.setIfInBounds k x)[k]? = some x
      rw [Array.getElem?_setIfInBounds_self_of_lt (Nat.lt_of_lt_of_le hl hb.size)]
    · rw [putB_ne e] at hx ⊢
      rw [hb.block k (lt_of_block hx)]; exact hx
def FIT (B t : Nat) (w : World) (v : FVal) (f : FSpec) : Prop := B ≤ w.heap.size ∧ B ≤ t ∧ ∀ y, FSem B (putB w t y) v f
theorem FIT.below {B t : Nat} {w w' : World} {v : FVal} {f : FSpec} (h : FIT B t w v f) (hb : Below w.heap.size w w') : FIT B t w' v f :=
  ⟨Nat.le_trans h.1 hb.size, h.2.1, fun y => (h.2.2 y).later (keep_putB hb h.1 h.2.1 y)⟩
def CellOff (B t : Nat) (w : World) (b o : Nat) (x : Value) : Prop := CellAt B w b o x ∧ b ≠ t
theorem CellOff.below {B t : Nat} {w w' : World} {b o : Nat} {x : Value} (h : CellOff B t w b o x) (hb : Below w.heap.size w w') : CellOff B t w' b o x := ⟨h.1.below hb, h.2⟩
def StrsOff (B t : Nat) (w : World) (a : Option Addr) (l : List ByteArray) : Prop := ∀ i, i < len l → ∃ b off, a = some ⟨b, off, none⟩ ∧ CellOff B t w b (off + i) (.string (sth l i))
theorem StrsOff.below {B t : Nat} {w w' : World} {a : Option Addr} {l : List ByteArray} (h : StrsOff B t w a l) (hb : Below w.heap.size w w') : StrsOff B t w' a l := fun i hi => by
  obtain ⟨b, off, e, hc⟩ := h i hi; exact ⟨b, off, e, hc.below hb⟩
section
variable {B t : Nat} {w : World}
end
end Go.Proofs.YtihiaopilnjonaaGreatDoor
namespace Go.Proofs.YtihiaopilnjonaaGreatDoor
set_option linter.unusedSimpArgs false
open Go.RowKit
set_option linter.unusedVariables false
def EsV (VO : Nat → Option Nat) (X : Nat → World → World → Prop) (j : Nat) (w w' : World) : Prop := w.grownBy w' (VO j) ∧ X j w w'
theorem esV_refl {VO : Nat → Option Nat} {X : Nat → World → World → Prop} {j : Nat} (hX : ∀ j w, X j w w) (w : World) : EsV VO X j w w := ⟨⟨rfl, rfl, rfl, Nat.le_refl _, fun _ _ _ => rfl⟩, hX j w⟩
theorem esV_of_ext {VO : Nat → Option Nat} {X : Nat → World → World → Prop} {j : Nat} {w w' : World} (h : Ext w w') (hx : X j w w') : EsV VO X j w w' := ⟨⟨h.os, h.tape, h.output, h.size, fun i hi _ => h.block i hi⟩, hx⟩
structure ExtS (VO : Nat → Option Nat) (w w' : World) : Prop where
  os : w'.os = w.os
  tape : w'.tape = w.tape
  output : w'.output = w.output
  size : w.heap.size ≤ w'.heap.size
  block : ∀ k, k < w.heap.size → (∀ j, VO j ≠ some k) → w'.heap[k]? = w.heap[k]?
theorem ExtS.refl (VO : Nat → Option Nat) (w : World) : ExtS VO w w := ⟨rfl, rfl, rfl, Nat.le_refl _, fun _ _ _ => rfl⟩
theorem ExtS.step {VO : Nat → Option Nat} {X : Nat → World → World → Prop} {j : Nat} {a b c : World} (h : ExtS VO a b) (k' : EsV VO X j b c) : ExtS VO a c :=
  have k := k'.1
  ⟨k.os.trans h.os, k.tape.trans h.tape, k.output.trans h.output, Nat.le_trans h.size k.size, fun i hi hn => (k.block i (Nat.lt_of_lt_of_le hi h.size) (fun e => hn j e.symm)).trans (h.block i hi hn)⟩
structure Here (VO : Nat → Option Nat) (I : World → Prop) (ops : List Oper) (w0 w : World) (D : Nat → Prop) (i : Nat) : Prop where
  ext : ExtS VO w0 w
  inv : I w
  late : ∀ j, ¬ D j → ∀ b, VO j = some b → b < w0.heap.size → w.heap[b]? = w0.heap[b]?
  notyet : ∀ (j : Nat) oj, ops[j]? = some oj → ∀ e ∈ oj.after, Region.binds .any e = true → ¬ D e.on → ¬ D j
  me : ¬ D i
theorem Here.own {VO : Nat → Option Nat} {I : World → Prop} {ops : List Oper} {w0 w : World} {D : Nat → Prop} {i : Nat} (h : Here VO I ops w0 w D i) : ∀ b, VO i = some b → b < w0.heap.size → w.heap[b]? = w0.heap[b]? := h.late i h.me
section
variable (P : Program) (ops : List Oper) (a0 : Act) (w0 : World) (VO : Nat → Option Nat) (X : Nat → World → World → Prop) (I : World → Prop) (PR : Nat → Nat → Value → Value → World → Prop) (Φ : Nat → Value → World → Prop) (Q : Exit → Act → World → Prop)
def PairAt (D : Nat → Prop) (a : Act) (i : Nat) (v : Value) (w' : World) : Prop := ∀ j oj, ops[j]? = some oj → D j → j ≠ i → PR i j v (slotOf oj a) w' ∧ PR j i (slotOf oj a) v w'
def StepAtV (hd : Nat) (i : Nat) (o : Oper) : Prop := ∀ (D : Nat → Prop) a w, (∀ j oj, ops[j]? = some oj → D j → Φ j (slotOf oj a) w) → Here VO I ops w0 w D i → Outer ops a0 hd a → Deps ops Φ a w o.after.toList →
  if Region.wanted o (yielded ops.toArray a.tmps) then o.wp P a w (fun a' w' => ∃ v, a' = a.put o.dst v ∧ EsV VO X i w w' ∧ Φ i (valOf o v) w' ∧ PairAt ops PR D a i (valOf o v) w') Q else Φ i undef w ∧ ∀ j vi vj w, PR i j vi vj w ∧ PR j i vi vj w
structure RInvV (n : Nat) (listed : Array Bool) (a : Act) (w : World) : Prop where
  head : HeadInv .any ops.toArray n listed
  ext : ExtS VO w0 w
  inv : I w
  ext0 : ∀ i, listed.getD i true = false → ∀ b, VO i = some b → b < w0.heap.size → w.heap[b]? = w0.heap[b]?
  outer : Outer ops a0 n a
  done : ∀ (i : Nat) o, ops[i]? = some o → listed.getD i true = true → Φ i (slotOf o a) w
  pair : ∀ i j oi oj, ops[i]? = some oi → ops[j]? = some oj → listed.getD i true = true → listed.getD j true = true → i ≠ j → PR i j (slotOf oi a) (slotOf oj a) w
variable {P ops a0 w0 VO X I PR Φ Q}
theorem slotv_same {o : Oper} {i : Nat} {a : Act} {v : Value} (hB : regOk ops a0.tmps.size = true) (hs : a.tmps.size = a0.tmps.size) (ho : ops[i]? = some o) : slotOf o (a.put o.dst v) = valOf o v := by
  unfold slotOf valOf
  cases hd : o.dst with
  | none => rfl
  | some d =>
    have hdl : ∀ d ∈ dstsOf ops, d < a0.tmps.size := by
      unfold regOk at hB; simp only [Bool.and_eq_true] at hB
      intro d hd; simpa using List.all_eq_true.1 hB.2 d hd
    have hmem : d ∈ dstsOf ops := List.mem_filterMap.2 ⟨o, List.mem_of_getElem? ho, hd⟩
    exact eval_put_same (by rw [hs]; exact hdl d hmem)
theorem slot_other {o oj : Oper} {i j : Nat} {a : Act} {v : Value} (hB : regOk ops a0.tmps.size = true) (hij : i ≠ j) (ho : ops[i]? = some o) (hoj : ops[j]? = some oj) : slotOf oj (a.put o.dst v) = slotOf oj a := by
  have hnd : (dstsOf ops).Nodup := by unfold regOk at hB; simp only [Bool.and_eq_true, decide_eq_true_eq] at hB; exact hB.1.2
  unfold slotOf
  cases hdj : oj.dst with
  | none => rfl
  | some d =>
    cases hdo : o.dst with
    | none => rfl
    | some d' =>
      have hne : d ≠ d' := by
        rintro rfl
        exact dst_two hnd hij ho hoj hdo hdj
      exact eval_put_ne hne
theorem RInvV.next {n : Nat} (hB : regOk ops a0.tmps.size = true) (hVO : ∀ i j b, VO i = some b → VO j = some b → i = j)
    (hmono : ∀ i j v w w', i ≠ j → EsV VO X j w w' → Φ i v w → Φ i v w') (hI : ∀ j w w', EsV VO X j w w' → I w → I w') (hmonoP : ∀ i j k vi vj w w', k ≠ i → k ≠ j → EsV VO X k w w' → PR i j vi vj w → PR i j vi vj w') {listed : Array Bool} {a : Act} {w : World} (inv : RInvV ops a0 w0 VO I PR Φ n listed a w)
    {i : Nat} {o : Oper} (hi : i ∈ Region.ready .any ops.toArray listed) (hin : i < n) (ho' : ops[i]? = some o) {v : Value} {w' : World} (he : EsV VO X i w w') (hv : Φ i (valOf o v) w') (hpr : PairAt ops PR (fun j => listed.getD j true = true) a i (valOf o v) w') :
    RInvV ops a0 w0 VO I PR Φ n (listed.setIfInBounds i true) (a.put o.dst v) w' := by
  have hnd : (dstsOf ops).Nodup := by unfold regOk at hB; simp only [Bool.and_eq_true, decide_eq_true_eq] at hB; exact hB.1.2
  have hdl : ∀ d ∈ dstsOf ops, d < a0.tmps.size := by
    unfold regOk at hB; simp only [Bool.and_eq_true] at hB
    intro d hd; simpa using List.all_eq_true.1 hB.2 d hd
  refine ⟨inv.head.set hi hin, inv.ext.step he, hI _ _ _ he inv.inv, fun k hl b hb hlt => ?_, ?_, ?_, fun i1 j1 oi oj hoi hoj l1 l2 hne => ?_⟩
  · by_cases his : k = i
    · exfalso
      subst his
      obtain ⟨hun, o', ho, _⟩ := mem_ready.1 hi
      have hil : k < listed.size := by rw [inv.head.size]; exact (Array.getElem?_eq_some_iff.1 ho).1
      simp [hil] at hl
    · rw [getD_set_ne true (Ne.symm his)] at hl
      have h1 := inv.ext0 k hl b hb hlt
      rw [← h1]
      exact he.1.block b (Nat.lt_of_lt_of_le hlt inv.ext.size) (fun e => his (hVO k i b hb e.symm))
  · obtain ⟨h1, h2, h3⟩ := inv.outer
    cases hd : o.dst with
    | none => exact ⟨h1, h2, h3⟩
    | some d =>
      refine ⟨h1, by simp [Act.put, h2], fun t ht => ?_⟩
      have hmem : d ∈ dstsOf (ops.take n) := List.mem_filterMap.2 ⟨o, List.mem_of_getElem? (i := i) (by rw [List.getElem?_take, if_pos hin]; exact ho'), hd⟩
      rw [eval_put_ne (by rintro rfl; simp at ht; exact ht hmem)]; exact h3 t ht
  · intro j oj hoj hl
    by_cases hij : j = i
    · subst hij
      have : oj = o := Option.some.inj (hoj.symm.trans ho')
      subst this
      unfold slotOf
      unfold valOf at hv
      cases hd : oj.dst with
      | none => simpa [hd] using hv
      | some d =>
        simp only [hd] at hv
        have hmem : d ∈ dstsOf ops := List.mem_filterMap.2 ⟨oj, List.mem_of_getElem? ho', hd⟩
        simp only
        rw [eval_put_same (by rw [inv.outer.2.1]; exact hdl d hmem)]; exact hv
    · rw [getD_set_ne true (Ne.symm hij)] at hl
      have h1 := hmono j i _ w w' hij he (inv.done j oj hoj hl)
      unfold slotOf at h1 ⊢
      cases hdj : oj.dst with
      | none => first | exact h1 | simpa [hdj] using h1
      | some d =>
        try simp only [hdj] at h1 ⊢
        cases hdo : o.dst with
        | none => exact h1
        | some d' =>
          have hne : d ≠ d' := by
            rintro rfl
            exact dst_two hnd (Ne.symm hij) ho' hoj hdo hdj
          rw [eval_put_ne hne]; exact h1
  · by_cases h1 : i1 = i
    · subst h1
      have e : oi = o := Option.some.inj (hoi.symm.trans ho')
      subst e
      rw [slotv_same hB inv.outer.2.1 ho', slot_other hB hne ho' hoj]
      exact (hpr j1 oj hoj (by rwa [getD_set_ne true hne] at l2) (Ne.symm hne)).1
    · by_cases h2 : j1 = i
      · subst h2
        have e : oj = o := Option.some.inj (hoj.symm.trans ho')
        subst e
        rw [slotv_same hB inv.outer.2.1 ho', slot_other hB (Ne.symm hne) ho' hoi]
        exact (hpr i1 oi hoi (by rwa [getD_set_ne true (Ne.symm hne)] at l1) hne).2
      · rw [slot_other hB (Ne.symm h1) ho' hoi, slot_other hB (Ne.symm h2) ho' hoj]
        exact hmonoP i1 j1 i _ _ w w' (Ne.symm h1) (Ne.symm h2) he (inv.pair i1 j1 oi oj hoi hoj (by rwa [getD_set_ne true (Ne.symm h1)] at l1) (by rwa [getD_set_ne true (Ne.symm h2)] at l2) hne)
theorem wpAnyV_head {n g : Nat} (hB : regOk ops a0.tmps.size = true) (hVO : ∀ i j b, VO i = some b → VO j = some b → i = j)
    (hmono : ∀ i j v w w', i ≠ j → EsV VO X j w w' → Φ i v w → Φ i v w') (hI : ∀ j w w', EsV VO X j w w' → I w → I w') (hmonoP : ∀ i j k vi vj w w', k ≠ i → k ≠ j → EsV VO X k w w' → PR i j vi vj w → PR i j vi vj w') (hX : ∀ j w, X j w w) (hnN : n ≤ ops.length)
    (hstep : ∀ (i : Nat) o, i < n → ops[i]? = some o → StepAtV P ops a0 w0 VO X I PR Φ Q n i o)
    (hlate : ∀ listed, HeadInv .any ops.toArray n listed → (∃ i, i < n ∧ listed.getD i true = false) → Region.ready .any ops.toArray listed ≠ [] ∧ ∀ t ∈ Region.ready .any ops.toArray listed, t < n)
    (hend : ∀ listed a w, RInvV ops a0 w0 VO I PR Φ n listed a w → (∀ i, i < n → listed.getD i true = true) → wpAny P .any ops.toArray Q g listed a w) :
    ∀ (fuel : Nat) (listed : Array Bool) (a : Act) (w : World), ((List.range n).filter (fun i => !listed.getD i true)).length = fuel → RInvV ops a0 w0 VO I PR Φ n listed a w →
      wpAny P .any ops.toArray Q (fuel + g) listed a w := by
  intro fuel
  induction fuel with
  | zero =>
    intro listed a w hf inv
    rw [Nat.zero_add]
    refine hend listed a w inv fun i hi => ?_
    cases h : listed.getD i true with
    | true => rfl
    | false =>
      have : i ∈ (List.range n).filter (fun i => !listed.getD i true) := List.mem_filter.2 ⟨List.mem_range.2 hi, by rw [h]; rfl⟩
      rw [List.eq_nil_of_length_eq_zero hf] at this; cases this
  | succ fuel ih =>
    intro listed a w hf inv
    rw [show fuel + 1 + g = (fuel + g) + 1 by omega]
    have hex : ∃ i, i < n ∧ listed.getD i true = false := by
      cases hl : (List.range n).filter (fun i => !listed.getD i true) with
      | nil => rw [hl] at hf; cases hf
      | cons x L =>
        have : x ∈ (List.range n).filter (fun i => !listed.getD i true) := by rw [hl]; exact List.mem_cons_self ..
        obtain ⟨h1, h2⟩ := List.mem_filter.1 this
        exact ⟨x, List.mem_range.1 h1, by simpa using h2⟩
    obtain ⟨hne, hlt⟩ := hlate listed inv.head hex
    refine ⟨fun hr => absurd hr hne, fun i hi => ?_⟩
    have hin := hlt i hi
    obtain ⟨hun, o, ho, hall⟩ := mem_ready.1 hi
    have ho' : ops[i]? = some o := by simpa using ho
    have hls : listed.size = ops.length := by rw [inv.head.size]; simp
    have hdep : Deps ops Φ a w o.after.toList := deps_of fun e he hb oj hoj => by
      have h1 := hall e (by simpa using he) hb
      refine inv.done e.on oj hoj ?_
      have h2 : e.on < listed.size := by
        rcases Nat.lt_or_ge e.on listed.size with h | h
        · exact h
        · simp [Array.getElem?_eq_none h] at h1
      simp [h2] at h1 ⊢; exact h1
    have hst := hstep i o hin ho' (fun j => listed.getD j true = true) a w (fun j oj hoj hl => inv.done j oj hoj hl)
      ⟨inv.ext, inv.inv, fun j hj => inv.ext0 j (by simpa using hj), fun j oj hoj e he hb hne hD => (by
        have hjl : j < listed.size := by rw [hls]; exact (List.getElem?_eq_some_iff.1 hoj).1
        have h1 := inv.head.closed j oj (by simpa using hoj) (by simp [hjl] at hD ⊢; exact hD) e he hb
        rcases Nat.lt_or_ge e.on listed.size with h | h
        · simp [h] at h1 hne; rw [h1] at hne; cases hne
        · simp [Array.getElem?_eq_none h] at h1), (by rw [hun]; exact Bool.false_ne_true)⟩ inv.outer hdep
    have next : ∀ v w', EsV VO X i w w' → Φ i (valOf o v) w' → PairAt ops PR (fun j => listed.getD j true = true) a i (valOf o v) w' → wpAny P .any ops.toArray Q (fuel + g) (listed.setIfInBounds i true) (a.put o.dst v) w' := by
      intro v w' he hv hpr
      refine ih _ _ _ ?_ (inv.next hB hVO hmono hI hmonoP hi hin ho' he hv hpr)
      have := head_count (listed := listed) (i := i) (by omega) hun _ List.nodup_range (List.mem_range.2 hin)
      omega
    unfold wpOp
    rw [ho]
    dsimp only
    by_cases hw : Region.wanted o (yielded ops.toArray a.tmps) = true
    · rw [if_pos hw] at hst ⊢
      left
      refine Oper.wp_mono (fun a' w' h => ?_) hst
      obtain ⟨v, rfl, he, hv, hpr⟩ := h
      exact next v w' he hv hpr
    · rw [if_neg hw] at hst ⊢
      have e : valOf o undef = undef := by unfold valOf; cases o.dst <;> rfl
      exact next undef w (esV_refl hX w) (by rw [e]; exact hst.1) (fun j oj _ _ _ => ⟨(hst.2 j _ _ w).1, (hst.2 j _ _ w).2⟩)
end
section
variable {P : Program} {Q : Exit → Act → World → Prop} {a : Act} {w : World} {l : List Oper} {VO : Nat → Option Nat} {X : Nat → World → World → Prop} {I : World → Prop} {PR : Nat → Nat → Value → Value → World → Prop} {Φ : Nat → Value → World → Prop}
theorem rinvV_start {n : Nat} (hI0 : I w.drew) (hn : n ≤ l.length) : RInvV l a w.drew VO I PR Φ n (Array.replicate l.length false) a w.drew :=
  ⟨⟨by simp, fun j oj _ hl => (by rw [getD_replicate_false] at hl; cases hl), fun t _ ht => getD_in (by simpa using ht) (getD_replicate_false _ _)⟩, ExtS.refl _ _, hI0, fun _ _ _ _ _ => rfl, ⟨rfl, rfl, fun _ _ => rfl⟩,
    fun i o ho hl => (by
      have hi := (List.getElem?_eq_some_iff.1 ho).1
      rw [getD_in (by simpa using hi) (getD_replicate_false _ _)] at hl; cases hl), fun i1 _ oi _ hoi _ l1 _ _ => (by
      have hi := (List.getElem?_eq_some_iff.1 hoi).1
      rw [getD_in (by simpa using hi) (getD_replicate_false _ _)] at l1; cases l1)⟩
theorem wp_region_tailV {id : Nat} (n : Nat) (VO : Nat → Option Nat) (hVO : ∀ i j b, VO i = some b → VO j = some b → i = j) (X : Nat → World → World → Prop) (I : World → Prop) (PR : Nat → Nat → Value → Value → World → Prop) (hX : ∀ j w, X j w w) (hI0 : I w.drew) (Φ : Nat → Value → World → Prop) (hm : P.follows .mixedOrders = true) (hB : regOk l a.tmps.size = true) (hT : regTail l n = true)
    (hmono : ∀ i j v w1 w', i ≠ j → EsV VO X j w1 w' → Φ i v w1 → Φ i v w') (hI : ∀ j w w', EsV VO X j w w' → I w → I w') (hmonoP : ∀ i j k vi vj w w', k ≠ i → k ≠ j → EsV VO X k w w' → PR i j vi vj w → PR i j vi vj w')
    (hstep : ∀ (i : Nat) o, i < n → l[i]? = some o → StepAtV P l a w.drew VO X I PR Φ Q n i o)
    (hend : ∀ a' w', ExtS VO w.drew w' → I w' → Outer l a n a' → AllDone l Φ a' w' 0 n → (∀ i j oi oj, l[i]? = some oi → l[j]? = some oj → i < n → j < n → i ≠ j → PR i j (slotOf oi a') (slotOf oj a') w') → wpList P l.toArray Q (l.drop n) a' w') : (Code.region id l.toArray true).wp P Q a w := by
  unfold regTail at hT
  simp only [Bool.and_eq_true, decide_eq_true_eq] at hT
  obtain ⟨⟨⟨hn, hs⟩, hc⟩, hseq⟩ := hT
  refine wp_region_any hm ?_
  have H := wpAnyV_head (P := P) (ops := l) (a0 := a) (w0 := w.drew) (VO := VO) (X := X) (I := I) (PR := PR) (Φ := Φ) (Q := Q) (n := n) (g := l.length - n) hB hVO hmono hI hmonoP hX (by omega) hstep
    (fun listed inv ⟨i, hi, hun⟩ => ⟨fun hr => (by
        have := all_of_ready_nil (a0 := a) hB (by rw [inv.size]; simp) hr i (by omega)
        rw [hun] at this; cases this), fun t ht => (by
        rcases Nat.lt_or_ge t n with h | h
        · exact h
        · exact absurd ht (tail_waits hs hc (by simpa using hn) inv (n - i) i rfl hi hun t h))⟩)
    (fun listed a' w' inv hall => (by
        have e := headDone_of (n := n) (N := l.length) (by rw [inv.head.size]; simp) hall (fun i h1 h2 => inv.head.tail i h1 (by simpa using h2)) (by omega)
        have h := wpAny_of_seq (P := P) (md := .any) (Q' := Q) (ops := l.toArray) (l.drop n) n listed a' w' (fun j => by simp [List.getElem?_drop]) (by rw [List.length_drop, e]; exact hseq)
          (hend a' w' inv.ext inv.inv inv.outer (allDone_of _ _ fun j _ h2 o ho => inv.done j o ho (hall j (by omega))) (fun i j oi oj hoi hoj h1 h2 hne => inv.pair i j oi oj hoi hoj (hall i h1) (hall j h2) hne))
        rwa [List.length_drop] at h))
    n (Array.replicate l.length false) a w.drew (start_count _ _ (by omega)) (rinvV_start hI0 (by omega))
  rw [show n + (l.length - n) = l.length by omega] at H
  simpa using H
end
def MonoAllV (VO : Nat → Option Nat) (X : Nat → World → World → Prop) : Nat → List (Value → World → Prop) → Prop
  | _, [] => True
  | i, φ :: r => (∀ j, j ≠ i → ∀ v w1 w', EsV VO X j w1 w' → φ v w1 → φ v w') ∧ MonoAllV VO X (i + 1) r
theorem monoV_at {VO : Nat → Option Nat} {X : Nat → World → World → Prop} : ∀ {L : List (Value → World → Prop)} {k : Nat}, MonoAllV VO X k L → ∀ i j v w1 w', j ≠ k + i → EsV VO X j w1 w' → L.getD i (fun _ _ => True) v w1 → L.getD i (fun _ _ => True) v w'
  | [], _, _, _, _, _, _, _, _, _, _ => by simp
  | φ :: r, k, h, 0, j, v, w1, w', hj, he, hp => h.1 j hj v w1 w' he hp
  | φ :: r, k, h, i + 1, j, v, w1, w', hj, he, hp => monoV_at (L := r) h.2 i j v w1 w' (by omega) he hp
theorem monoV_of {VO : Nat → Option Nat} {X : Nat → World → World → Prop} {L : List (Value → World → Prop)} (h : MonoAllV VO X 0 L) : ∀ i j v w1 w', i ≠ j → EsV VO X j w1 w' → phis L i v w1 → phis L i v w' := fun i j v w1 w' hij he hp =>
  monoV_at h i j v w1 w' (by omega) he hp
theorem monoV_eq {VO : Nat → Option Nat} {X : Nat → World → World → Prop} {i : Nat} {f : Value → Prop} : ∀ j, j ≠ i → ∀ v w1 w', EsV VO X j w1 w' → (fun v (_ : World) => f v) v w1 → (fun v (_ : World) => f v) v w' := fun _ _ _ _ _ _ h => h
def StepsFromV (P : Program) (ops : List Oper) (a0 : Act) (w0 : World) (VO : Nat → Option Nat) (X : Nat → World → World → Prop) (I : World → Prop) (PR : Nat → Nat → Value → Value → World → Prop) (Φ : Nat → Value → World → Prop) (Q : Exit → Act → World → Prop) (hd : Nat) : Nat → Nat → List Oper → Prop
  | _, 0, _ => True
  | _, _ + 1, [] => True
  | i, n + 1, o :: r => StepAtV P ops a0 w0 VO X I PR Φ Q hd i o ∧ StepsFromV P ops a0 w0 VO X I PR Φ Q hd (i + 1) n r
theorem stepsV_from {P : Program} {ops : List Oper} {a0 : Act} {w0 : World} {VO : Nat → Option Nat} {X : Nat → World → World → Prop} {I : World → Prop} {PR : Nat → Nat → Value → Value → World → Prop} {Φ : Nat → Value → World → Prop} {Q : Exit → Act → World → Prop} {hd : Nat} :
    ∀ (n k : Nat) (r : List Oper), StepsFromV P ops a0 w0 VO X I PR Φ Q hd k n r → ∀ (i : Nat) o, i < n → r[i]? = some o → StepAtV P ops a0 w0 VO X I PR Φ Q hd (k + i) o
  | 0, _, _, _, _, _, h, _ => by omega
  | _ + 1, _, [], _, _, _, _, h => by simp at h
  | n + 1, k, x :: r, h, 0, o, _, ho => by simp at ho; subst ho; exact h.1
  | n + 1, k, x :: r, h, i + 1, o, hi, ho => by
    have := stepsV_from n (k + 1) r h.2 i o (by omega) (by simpa using ho)
    rwa [Nat.add_assoc, Nat.add_comm 1 i] at this
theorem stepsV_of {P : Program} {ops : List Oper} {a0 : Act} {w0 : World} {VO : Nat → Option Nat} {X : Nat → World → World → Prop} {I : World → Prop} {PR : Nat → Nat → Value → Value → World → Prop} {Φ : Nat → Value → World → Prop} {Q : Exit → Act → World → Prop} {hd : Nat} (n : Nat)
    (h : StepsFromV P ops a0 w0 VO X I PR Φ Q hd 0 n ops) : ∀ (i : Nat) o, i < n → ops[i]? = some o → StepAtV P ops a0 w0 VO X I PR Φ Q hd i o := fun i o hi ho => by
  have := stepsV_from n 0 ops h i o hi ho
  rwa [Nat.zero_add] at this
section
variable {P : Program} {ops : List Oper} {a0 : Act} {w0 : World} {VO : Nat → Option Nat} {X : Nat → World → World → Prop} {I : World → Prop} {PR : Nat → Nat → Value → Value → World → Prop} {Φ : Nat → Value → World → Prop} {Q : Exit → Act → World → Prop} {hd : Nat} {i : Nat} {o : Oper}
theorem stepV_wp (h : ∀ (D : Nat → Prop) a w1, (∀ j oj, ops[j]? = some oj → D j → Φ j (slotOf oj a) w1) → Here VO I ops w0 w1 D i → Outer ops a0 hd a → Deps ops Φ a w1 o.after.toList →
    Region.wanted o (yielded ops.toArray a.tmps) = true ∧ o.wp P a w1 (fun a' w' => ∃ v, a' = a.put o.dst v ∧ EsV VO X i w1 w' ∧ Φ i (valOf o v) w' ∧ PairAt ops PR D a i (valOf o v) w') Q) : StepAtV P ops a0 w0 VO X I PR Φ Q hd i o := fun D a w1 hP hE hO hD => by
  obtain ⟨h1, h2⟩ := h D a w1 hP hE hO hD
  rw [if_pos h1]; exact h2
theorem stepV_val {v : Value} (hX : ∀ j w, X j w w) (hp : ∀ j vi vj w, PR i j vi vj w ∧ PR j i vi vj w) (h : ∀ (D : Nat → Prop) a w1, Here VO I ops w0 w1 D i → Outer ops a0 hd a → Deps ops Φ a w1 o.after.toList →
    Region.wanted o (yielded ops.toArray a.tmps) = true ∧ (execOp a.eval o).run P w1 = .ok (.value v) w1) (hφ : ∀ w1, Φ i (valOf o v) w1) : StepAtV P ops a0 w0 VO X I PR Φ Q hd i o := fun D a w1 hP hE hO hD => by
  obtain ⟨h1, h2⟩ := h D a w1 hE hO hD
  rw [if_pos h1]
  unfold Oper.wp
  rw [h2]
  exact ⟨v, rfl, esV_refl hX w1, hφ w1, fun j oj _ _ _ => ⟨(hp j _ _ w1).1, (hp j _ _ w1).2⟩⟩
end
end Go.Proofs.YtihiaopilnjonaaGreatDoor
namespace Go.Proofs.YtihiaopilnjonaaGreatDoor
open Go.RowKit
set_option linter.unusedSimpArgs false
set_option linter.unusedVariables false
theorem extB_setIn {w w1 : World} {b : Nat} (h : ExtB (some b) w w1) (o : Nat) (v : Value) : ExtB (some b) w (w1.setCell ⟨b, o, none⟩ v) :=
  ⟨h.os, h.tape, h.output, by simpa using h.size, fun i hi hn => by rw [Below.heap_setCell _ _ _ _ (fun e => hn (by rw [e]))]; exact h.block i hi hn⟩
def Up (rb : Nat) (w w' : World) : Prop := ∀ b, rb < b → b < w.heap.size → w'.heap[b]? = w.heap[b]?
theorem Tx.up {rb tb : Nat} {w w' : World} {a : Option Addr} {l : List ByteArray} (h : Tx w a l) (ho : Off rb tb a) (hu : Up rb w w') : Tx w' a l := h.keep fun b off cs e h2 => hu b (ho b off e).1 (lt_of_block h2)
theorem Ux.up {rb tb : Nat} {w w' : World} {a : Option Addr} {l : List Int} (h : Ux w a l) (ho : Off rb tb a) (hu : Up rb w w') : Ux w' a l := h.keep fun b off cs e h2 => hu b (ho b off e).1 (lt_of_block h2)
theorem RevIs.up {rb tb : Nat} {w w' : World} {r : Rev} {d : RevD} (h : RevIs rb tb w r d) (hu : Up rb w w') : RevIs rb tb w' r d :=
  ⟨h.pos, h.L, h.signed, h.idx, h.wn, h.ws.up h.wo hu, h.wo, h.pn, h.ps.up h.po hu, h.po, h.root, h.wt, h.first, h.life, h.keys⟩
theorem HoldsD.up {rb tb : Nat} {w w' : World} {v : Value} {d : DV} (h : HoldsD rb tb w v d) (hu : Up rb w w') : HoldsD rb tb w' v d := by
  cases d with
  | num n => exact h
  | flag q => exact h
  | str s => exact h
  | strs l => obtain ⟨a, c, h1, h2, h3, h4⟩ := h; exact ⟨a, c, h1, h2, h3, h4.up h3 hu⟩
  | nums l => obtain ⟨a, c, h1, h2, h3, h4⟩ := h; exact ⟨a, c, h1, h2, h3, h4.up h3 hu⟩
  | revs l =>
    obtain ⟨a, c, h1, h2, h3, rs, h4, h5, h6⟩ := h
    refine ⟨a, c, h1, h2, h3, rs, h4, fun i hi => ?_, fun i hi => (h6 i hi).up hu⟩
    obtain ⟨b, off, rfl, hc⟩ := h5 i hi
    have e : ∀ q, w'.cell? ⟨b, q, none⟩ = w.cell? ⟨b, q, none⟩ := fun q => World.cell?_of_block (w := w) (hu b (h3 b off rfl).1 (lt_of_cell hc.c0))
    obtain ⟨c0, c1, c2, c3, c4, c5, c6, c7, c8, c9, c10⟩ := hc
    exact ⟨b, off, rfl, by constructor <;> (rw [e]; assumption)⟩
theorem arr5 {cs : Array Value} (h : cs.size = 5) : ∃ u0 u1 u2 u3 u4 : Value, cs = #[u0, u1, u2, u3, u4] := by
  obtain ⟨l⟩ := cs
  match l, h with
  | [a, b, c, d, e], _ => exact ⟨a, b, c, d, e, rfl⟩
theorem arr4 {cs : Array Value} (h : cs.size = 4) : ∃ u0 u1 u2 u3 : Value, cs = #[u0, u1, u2, u3] := by
  obtain ⟨l⟩ := cs
  match l, h with
  | [a, b, c, d], _ => exact ⟨a, b, c, d, rfl⟩
theorem arr6 {cs : Array Value} (h : cs.size = 6) : ∃ u0 u1 u2 u3 u4 u5 : Value, cs = #[u0, u1, u2, u3, u4, u5] := by
  obtain ⟨l⟩ := cs
  match l, h with
  | [a, b, c, d, e, f], _ => exact ⟨a, b, c, d, e, f, rfl⟩
theorem assert_stop (f : Nat) (w : World) : (Instr.typeAssert (.iface 193 (.agg #[.iface 127 (.pointer (some ⟨f, 0, none⟩))])) 20 193 true).run Tryz.prog w = .ok (.tuple #[.agg #[.iface 127 (.pointer (some ⟨f, 0, none⟩))], .bool true]) w := by kernel_rfl
set_option maxRecDepth 100000 in
theorem read1_frame (p q x : Value) : #[p, q] ++ ((Array.replicate 18 undef).setIfInBounds 4 x).setIfInBounds 0 x = #[p, q, x, undef, undef, undef, x, undef, undef, undef, undef, undef, undef, undef, undef, undef, undef, undef, undef, undef] := by
  simp [Array.replicate, List.replicate]
abbrev cellsPart (x : Rcd) : Array Value := #[.string (x 0).s, .int .u64 (x 1).n, .int .u64 (x 2).n, .int .u64 (x 3).n, .int .u64 (x 4).n]
abbrev zeroPart : Value := .agg #[.string ⟨#[]⟩, .int .u64 0, .int .u64 0, .int .u64 0, .int .u64 0]
def LiesPart (rb tb : Nat) (w : World) (x : Rcd) : Prop := True
theorem LiesPart.below {rb tb : Nat} {w w' : World} {x : Rcd} (h : LiesPart rb tb w x) (hb : Below w.heap.size w w') : LiesPart rb tb w' x := trivial
theorem LiesPart.chg {rb tb : Nat} {w w' : World} {x : Rcd} (h : LiesPart rb tb w x) (hb : Chg rb tb w w') : LiesPart rb tb w' x := trivial
theorem LiesPart.up {rb tb : Nat} {w w' : World} {x : Rcd} (h : LiesPart rb tb w x) (hb : Up rb w w') : LiesPart rb tb w' x := trivial
theorem part_of_rec {rb tb : Nat} {w : World} {x : Rcd} (h : RecAt rb tb 46 5 w x) (hk : Kd part0 x) : ∃ (_ : Unit), w.heap[tb]? = some (.cells (cellsPart x) 46 (0, 0)) ∧ LiesPart rb tb w x := by
  obtain ⟨cs, h1, h2, h3⟩ := h
  obtain ⟨m0, e0⟩ := hk.str (show kindD (part0 0) = _ from rfl)
  obtain ⟨u0, g0, d0⟩ := h3 0 (by decide)
  rw [e0] at d0
  simp only [HoldsD] at d0
  subst d0
  obtain ⟨m1, e1⟩ := hk.num (show kindD (part0 1) = _ from rfl)
  obtain ⟨u1, g1, d1⟩ := h3 1 (by decide)
  rw [e1] at d1
  simp only [HoldsD] at d1
  subst d1
  obtain ⟨m2, e2⟩ := hk.num (show kindD (part0 2) = _ from rfl)
  obtain ⟨u2, g2, d2⟩ := h3 2 (by decide)
  rw [e2] at d2
  simp only [HoldsD] at d2
  subst d2
  obtain ⟨m3, e3⟩ := hk.num (show kindD (part0 3) = _ from rfl)
  obtain ⟨u3, g3, d3⟩ := h3 3 (by decide)
  rw [e3] at d3
  simp only [HoldsD] at d3
  subst d3
  obtain ⟨m4, e4⟩ := hk.num (show kindD (part0 4) = _ from rfl)
  obtain ⟨u4, g4, d4⟩ := h3 4 (by decide)
  rw [e4] at d4
  simp only [HoldsD] at d4
  subst d4
  refine ⟨(), ?_, ?_⟩
  · rw [h1]; congr 2; apply Array.ext_getElem?; intro i
    match i with
    | 0 => rw [g0]; simp [e0, DV.n, DV.q, DV.s, DV.l, DV.ns, DV.rs]
    | 1 => rw [g1]; simp [e1, DV.n, DV.q, DV.s, DV.l, DV.ns, DV.rs]
    | 2 => rw [g2]; simp [e2, DV.n, DV.q, DV.s, DV.l, DV.ns, DV.rs]
    | 3 => rw [g3]; simp [e3, DV.n, DV.q, DV.s, DV.l, DV.ns, DV.rs]
    | 4 => rw [g4]; simp [e4, DV.n, DV.q, DV.s, DV.l, DV.ns, DV.rs]
    | i + 5 => rw [Array.getElem?_eq_none (by omega), Array.getElem?_eq_none (by simp)]
  · trivial
set_option maxRecDepth 100000 in
theorem read1Part_idle (p q : Value) (w : World) : CallsD Tryz.prog 121 #[p, q] .returning w fun e u' w' => e = .returned (.tuple #[]) ∧ u' = .returning ∧ w' = w := by
  refine callsD_of_wpS Tryz.func121 rfl fun c₀ cs hu => ?_
  apply wpS_seq
  apply wpS_region
  simp [wpOpsS, go_sem, recoverD, hu, Tryz.ntmps121, Exit.thenS]
  refine wpS_of_wp ?_
  obtain ⟨Q, hQ⟩ : ∃ Q : Exit → Act → World → Prop, (fun e a' w' => bodyPostS Tryz.prog Tryz.f121 c₀ cs (fun e u' w' => e = Ending.returned (.tuple #[]) ∧ u' = .returning ∧ w' = w) e a' (c₀ :: cs) w') = Q := ⟨_, rfl⟩
  rw [hQ, read1_frame]
  have HQ := Lib.hid hQ
  clear hQ
  go_wp2
  rw [← HQ.out]
  simp [bodyPostS, results, Tryz.results121]
  cases c₀; simp_all
structure AfterPart (tb eb fb : Nat) (w w' : World) : Prop where
  os : w'.os = w.os
  tape : w'.tape = w.tape
  output : w'.output = w.output
  size : w.heap.size ≤ w'.heap.size
  block : ∀ i, i < w.heap.size → i ≠ tb → i ≠ eb → w'.heap[i]? = w.heap[i]?
  th : w'.heap[tb]? = some (.cells #[.string ⟨#[]⟩, .int .u64 0, .int .u64 0, .int .u64 0, .int .u64 0] 46 (0, 0))
  er : w'.heap[eb]? = some (.cells #[.iface 127 (.pointer (some ⟨fb, 0, none⟩))] 59 (0, 0))
set_option maxRecDepth 100000 in
set_option maxHeartbeats 4000000 in
theorem read1Part_some (tb eb fb : Nat) (cs : Array Value) (w : World) (ht : w.heap[tb]? = some (.cells cs 46 (0, 0))) (hcs : ∃ u0 u1 u2 u3 u4 : Value, cs = #[u0, u1, u2, u3, u4] ) (he : w.heap[eb]? = some (.cells #[.nilIface] 59 (0, 0))) (hne : tb ≠ eb) :
    CallsD Tryz.prog 121 #[.pointer (some ⟨tb, 0, none⟩), .pointer (some ⟨eb, 0, none⟩)] (.panicking (stopC fb)) w fun e u' w' =>
      e = .returned (.tuple #[]) ∧ u' = .panicking [{ v := .iface 193 (.agg #[.iface 127 (.pointer (some ⟨fb, 0, none⟩))]), recovered := true }] ∧ AfterPart tb eb fb w w' := by
  obtain ⟨u0, u1, u2, u3, u4, rfl⟩ := hcs
  refine callsD_of_wpS Tryz.func121 rfl fun c₀ cs hu => ?_
  apply wpS_seq
  apply wpS_region
  simp [wpOpsS, go_sem, recoverD, hu, stopC, Tryz.ntmps121, Exit.thenS]
  refine wpS_of_wp ?_
  obtain ⟨Q, hQ⟩ : ∃ Q : Exit → Act → World → Prop, (fun e a' w' => bodyPostS Tryz.prog Tryz.f121 c₀ cs (fun e u' w' => e = Ending.returned (.tuple #[]) ∧ u' = .panicking [{ v := .iface 193 (.agg #[.iface 127 (.pointer (some ⟨fb, 0, none⟩))]), recovered := true }] ∧ AfterPart tb eb fb w w') e a' ({ c₀ with mode := .panicking [{ v := .iface 193 (.agg #[.iface 127 (.pointer (some ⟨fb, 0, none⟩))]), recovered := true }] } :: cs) w') = Q := ⟨_, rfl⟩
  rw [hQ, read1_frame]
  have HQ := Lib.hid hQ
  have HT := Lib.hid ht
  have HE := Lib.hid he
  clear hQ hu ht he
  have ha := assert_stop fb
  go_wp2_with fail
  obtain ⟨V, hV⟩ : ∃ V, (w.alloc (.cells #[.iface 127 (.pointer (some ⟨fb, 0, none⟩))] 193)).alloc (.cells #[.string ⟨#[]⟩, .int .u64 0, .int .u64 0, .int .u64 0, .int .u64 0] 46) = V := ⟨_, rfl⟩
  obtain ⟨sb, hsb⟩ : ∃ sb, w.heap.size = sb := ⟨_, rfl⟩
  have HV : Hid (Below w.heap.size w V) := Lib.hid (by rw [← hV]; exact balloc (balloc (Below.refl _ _) _) _)
  have hbs : V.heap[sb]? = some (.cells #[.iface 127 (.pointer (some ⟨fb, 0, none⟩))] 193 (0, 0)) := by rw [← hV, ← hsb]; exact block_alloc (heap_alloc_new _ _) _
  have hbn : V.heap[sb + 1]? = some (.cells #[.string ⟨#[]⟩, .int .u64 0, .int .u64 0, .int .u64 0, .int .u64 0] 46 (0, 0)) := by rw [← hV]; exact alloc_new_at _ (by simp [hsb])
  have hbt : V.heap[tb]? = some (.cells #[u0, u1, u2, u3, u4] 46 (0, 0)) := (HV.out.block _ (lt_of_block HT.out)).trans HT.out
  have hbe : V.heap[eb]? = some (.cells #[.nilIface] 59 (0, 0)) := (HV.out.block _ (lt_of_block HE.out)).trans HE.out
  have k0 : V.cell? ⟨sb, 0, none⟩ = some (.iface 127 (.pointer (some ⟨fb, 0, none⟩))) := block_cell hbs 0
  have m0 : V.cell? ⟨sb + 1, 0, none⟩ = some (.string ⟨#[]⟩) := block_cell hbn 0
  have m1 : V.cell? ⟨sb + 1, 1, none⟩ = some (.int .u64 0) := block_cell hbn 1
  have m2 : V.cell? ⟨sb + 1, 2, none⟩ = some (.int .u64 0) := block_cell hbn 2
  have m3 : V.cell? ⟨sb + 1, 3, none⟩ = some (.int .u64 0) := block_cell hbn 3
  have m4 : V.cell? ⟨sb + 1, 4, none⟩ = some (.int .u64 0) := block_cell hbn 4
  have hts : tb < sb := by have := lt_of_block HT.out; omega
  have hnt : some (sb + 1) ≠ some tb := by simp; omega
  have hst : some sb ≠ some tb := by simp; omega
  have HBT := Lib.hid hbt
  have HBE := Lib.hid hbe
  try rw [hV]
  try simp only [hsb]
  clear hV hbs hbn hbt hbe ha
  refine wp_region_tail 4 3 ((some tb)) (phis [fun u _ => u = (.agg #[.string ⟨#[]⟩, .int .u64 0, .int .u64 0, .int .u64 0, .int .u64 0]), fun u _ => u = (.pointer (some ⟨sb, 0, none⟩)), fun u _ => u = (.iface 127 (.pointer (some ⟨fb, 0, none⟩))), fun _ w' => w'.heap[tb]? = some (.cells #[.string ⟨#[]⟩, .int .u64 0, .int .u64 0, .int .u64 0, .int .u64 0] 46 (0, 0))]) rfl (by kernel_rfl) (by kernel_rfl) (mono_of ⟨mono_eq, mono_eq, mono_eq, ?m3, trivial⟩) (steps_of 4 ⟨?s0, ?s1, ?s2, ?s3, trivial⟩) ?_
  case m3 =>
    exact ⟨fun u w1 w2 h hb => ext_block h hb, fun hn => absurd rfl hn⟩
  case s0 =>
    refine step_val (v := (.agg #[.string ⟨#[]⟩, .int .u64 0, .int .u64 0, .int .u64 0, .int .u64 0])) (fun av wv hE hS hO hD => ?_) (fun _ => rfl)
    have h5 : av.eval (.tmp 5) = (.pointer (some ⟨sb + 1, 0, none⟩)) := hO.2.2 5 rfl
    have f5 := (ev_form av 5).symm.trans h5
    have k0 := extB_cell hE hst k0
    have m0 := extB_cell hE hnt m0
    have m1 := extB_cell hE hnt m1
    have m2 := extB_cell hE hnt m2
    have m3 := extB_cell hE hnt m3
    have m4 := extB_cell hE hnt m4
    refine ⟨rfl, ?_⟩
    simp [go_sem, f5, k0, m0, m1, m2, m3, m4]
  case s1 =>
    refine step_val (v := (.pointer (some ⟨sb, 0, none⟩))) (fun av wv hE hS hO hD => ?_) (fun _ => rfl)
    have h3 : av.eval (.tmp 3) = (.pointer (some ⟨sb, 0, none⟩)) := hO.2.2 3 rfl
    have f3 := (ev_form av 3).symm.trans h3
    refine ⟨rfl, ?_⟩
    simp [go_sem, f3]
  case s2 =>
    refine step_val (v := (.iface 127 (.pointer (some ⟨fb, 0, none⟩)))) (fun av wv hE hS hO hD => ?_) (fun _ => rfl)
    have d18 : av.eval (.tmp 18) = (.pointer (some ⟨sb, 0, none⟩)) := hD.1 rfl _ rfl
    have f18 := (ev_form av 18).symm.trans d18
    have k0 := extB_cell hE hst k0
    have m0 := extB_cell hE hnt m0
    have m1 := extB_cell hE hnt m1
    have m2 := extB_cell hE hnt m2
    have m3 := extB_cell hE hnt m3
    have m4 := extB_cell hE hnt m4
    refine ⟨rfl, ?_⟩
    simp [go_sem, f18, k0, m0, m1, m2, m3, m4]
  case s3 =>
    refine step_wp (fun av wv hE hS hO hD => ?_)
    have h0 : av.eval (.tmp 0) = (.pointer (some ⟨tb, 0, none⟩)) := hO.2.2 0 rfl
    have f0 := (ev_form av 0).symm.trans h0
    have d17 : av.eval (.tmp 17) = (.agg #[.string ⟨#[]⟩, .int .u64 0, .int .u64 0, .int .u64 0, .int .u64 0]) := hD.1 rfl _ rfl
    have f17 := (ev_form av 17).symm.trans d17
    refine ⟨rfl, ?_⟩
    have hq : wv.heap[tb]? = some (.cells #[u0, u1, u2, u3, u4] 46 (0, 0)) := ext_block (w := V.drew) (hS rfl) HBT.out
    have q0 : wv.cell? ⟨tb, 0, none⟩ = some u0 := block_cell hq 0
    have q1 : wv.cell? ⟨tb, 1, none⟩ = some u1 := block_cell hq 1
    have q2 : wv.cell? ⟨tb, 2, none⟩ = some u2 := block_cell hq 2
    have q3 : wv.cell? ⟨tb, 3, none⟩ = some u3 := block_cell hq 3
    have q4 : wv.cell? ⟨tb, 4, none⟩ = some u4 := block_cell hq 4
    have hz : ∀ o, wv.frozen? ⟨tb, o, none⟩ = false := block_free hq
    unfold Oper.wp
    have l0 : tb < wv.heap.size := lt_of_block hq
    have h0 : av.eval (.tmp 0) = (.pointer (some ⟨tb, 0, none⟩)) := hO.2.2 0 rfl
    have f0 := (ev_form av 0).symm.trans h0
    simp [go_sem, f0, f17, hz, l0, q0, q1, q2, q3, q4]
    exact ⟨es_sp (extB_setIn (extB_setIn (extB_setIn (extB_setIn (extB_setIn (ExtB_refl _ _) 0 _) 1 _) 2 _) 3 _) 4 _), undef, (block_setCell (block_setCell (block_setCell (block_setCell (block_setCell hq (o := 0) _) (o := 1) _) (o := 2) _) (o := 3) _) (o := 4) _)⟩
  intro a' w' hE hO hall
  have hA := act_of_outer (ds := [17, 18, 19]) rfl hO (by kernel_rfl)
  have e17 : (fun u _ => u = (.agg #[.string ⟨#[]⟩, .int .u64 0, .int .u64 0, .int .u64 0, .int .u64 0])) (a'.eval (.tmp 17)) w' := hall.1 _ rfl
  have e18 : (fun u _ => u = (.pointer (some ⟨sb, 0, none⟩))) (a'.eval (.tmp 18)) w' := hall.2.1 _ rfl
  have e19 : (fun u _ => u = (.iface 127 (.pointer (some ⟨fb, 0, none⟩)))) (a'.eval (.tmp 19)) w' := hall.2.2.1 _ rfl
  have z3 : (fun _ w' => w'.heap[tb]? = some (.cells #[.string ⟨#[]⟩, .int .u64 0, .int .u64 0, .int .u64 0, .int .u64 0] 46 (0, 0))) undef w' := hall.2.2.2.1 _ rfl
  simp only [List.foldl_cons, List.foldl_nil, Act.put, List.setIfInBounds_toArray, List.set_cons_succ, List.set_cons_zero, e17, e18, e19] at hA
  clear hO hall e17 e18 e19
  subst hA
  have HE := Lib.hid (of_drewE hE)
  have HZ := Lib.hid z3
  have hbe : w'.heap[eb]? = some (.cells #[.nilIface] 59 (0, 0)) := extB_block HE.out (by simp; exact fun e => hne e.symm) HBE.out
  have HBE := Lib.hid hbe
  have q0 : w'.cell? ⟨eb, 0, none⟩ = some .nilIface := block_cell hbe 0
  have q1 : w'.frozen? ⟨eb, 0, none⟩ = false := block_free hbe 0
  clear hE z3 hbe
  go_wp2
  rw [← HQ.out]
  have hs1 : (w'.setCell ⟨eb, 0, none⟩ (.iface 127 (.pointer (some ⟨fb, 0, none⟩)))).heap.size = w'.heap.size := by simp
  refine ⟨rfl, _, rfl, .tuple #[], by simp [results, Tryz.results121], rfl, rfl, ?_⟩
  exact ⟨HE.out.os.trans HV.out.os, HE.out.tape.trans HV.out.tape, HE.out.output.trans HV.out.output, by rw [hs1]; exact Nat.le_trans HV.out.size HE.out.size, fun i hi h1 h2 => by
    rw [Below.heap_setCell _ _ _ _ h2]
    exact (HE.out.block i (Nat.lt_of_lt_of_le hi HV.out.size) (by simpa using h1)).trans (HV.out.block i hi), block_setCell_ne HZ.out hne _, block_setCell HBE.out _⟩
def RdPart (s : ByteArray) (w : World) (e : Ending) (w' : World) : Prop :=
  Below w.heap.size w w' ∧ match objR s (partGs s 0) part0 0 with
    | .error f => ∃ fb, e = .returned (.tuple #[zeroPart, .iface 127 (.pointer (some ⟨fb, 0, none⟩))]) ∧ FltB w' fb f.1 f.2
    | .ok y => Kd part0 y.1 ∧ y.2 ≤ s.size ∧ (∃ rb tb, w.heap.size ≤ rb ∧ LiesPart rb tb w' y.1) ∧ (if y.2 < s.size then ∃ fb, e = .returned (.tuple #[.agg (cellsPart y.1), .iface 127 (.pointer (some ⟨fb, 0, none⟩))]) ∧ FltB w' fb 5 y.2 else e = .returned (.tuple #[.agg (cellsPart y.1), .nilIface]))
set_option maxRecDepth 100000 in
set_option maxHeartbeats 8000000 in
theorem readPart_any (B : Nat) (s : ByteArray) (w : World) (hT : Tabs B w) (hET : ErrType w) (hB : B ≤ w.heap.size) (hg : 0 < B) (hs : s.size ≤ 9223372036854775807) :
    Calls Tryz.prog 67 #[.string s, .func (.func 62) #[] #[]] w (RdPart s w) := by
  have HT := Lib.hid hT
  have HET := Lib.hid hET
  have ef := enters_of Tryz.func62 (by kernel_rfl) rfl
  clear hT hET
  go_enter_defers Tryz.func67, Tryz.ntmps67
  go_wp2_with fail
  obtain ⟨tb, htb⟩ : ∃ tb, w.heap.size = tb := ⟨_, rfl⟩
  obtain ⟨W, hW⟩ : ∃ W, (w.alloc (.cells #[.string ⟨#[]⟩, .int .u64 0, .int .u64 0, .int .u64 0, .int .u64 0] 46)).alloc (.cells #[.nilIface] 59) = W := ⟨_, rfl⟩
  have WB : Hid (Below w.heap.size w W) := Lib.hid (by rw [← hW]; exact balloc (balloc (Below.refl _ _) _) _)
  have W0 : Hid (W.heap[tb]? = some (.cells #[.string ⟨#[]⟩, .int .u64 0, .int .u64 0, .int .u64 0, .int .u64 0] 46 (0, 0))) := Lib.hid (by rw [← hW, ← htb]; exact block_alloc (heap_alloc_new _ _) _)
  have W1 : Hid (W.heap[tb + 1]? = some (.cells #[.nilIface] 59 (0, 0))) := Lib.hid (by rw [← hW]; exact alloc_new_at _ (by simp [htb]))
  have hWs : W.heap.size = tb + 1 + 1 := by rw [← hW]; simp [htb]
  have HTW : Hid (w.heap.size = tb) := Lib.hid htb
  try rw [hW]
  try simp only [htb]
  clear hW htb
  refine (New_any W s 10240).mono ?_
  rintro e w1 ⟨rfl, hw1⟩
  have hm : max (10240 : Int) 0 = 10240 := by decide
  rw [hm] at hw1
  obtain ⟨rb, hrb⟩ : ∃ rb, W.heap.size = rb := ⟨_, rfl⟩
  have R1 : Hid (RdB w1 rb s 0 10240) := Lib.hid (by rw [hw1, ← hrb]; exact heap_alloc_new _ _)
  have WB1 : Hid (Below W.heap.size W w1) := Lib.hid (by rw [hw1]; exact balloc (Below.refl _ _) _)
  have hs1 : w1.heap.size = rb + 1 := by rw [hw1, ← hrb]; simp
  try rw [hrb]
  clear hw1
  go_upto_region 3 with fail
  obtain ⟨V, hV⟩ : ∃ V, w1.alloc (.cells #[.pointer (some ⟨rb, 0, none⟩)] 199) = V := ⟨_, rfl⟩
  have VB : Hid (Below w1.heap.size w1 V) := Lib.hid (by rw [← hV]; exact balloc (Below.refl _ _) _)
  have VQ : Hid (V.heap[rb + 1]? = some (.cells #[.pointer (some ⟨rb, 0, none⟩)] 199 (0, 0))) := Lib.hid (by rw [← hV]; exact alloc_new_at _ hs1)
  try rw [hV]
  try simp only [hs1]
  have hrbt : rb = tb + 1 + 1 := hrb.symm.trans hWs
  have hTW := HTW.out
  have BV : Hid (Below w.heap.size w V) := Lib.hid (bnext (bnext WB.out WB1.out) VB.out)
  have WV : Hid (Below W.heap.size W V) := Lib.hid (bnext WB1.out VB.out)
  have VT : Hid (V.heap[tb]? = some (.cells #[.string ⟨#[]⟩, .int .u64 0, .int .u64 0, .int .u64 0, .int .u64 0] 46 (0, 0))) := Lib.hid ((WV.out.block _ (lt_of_block W0.out)).trans W0.out)
  have VE : Hid (V.heap[tb + 1]? = some (.cells #[.nilIface] 59 (0, 0))) := Lib.hid ((WV.out.block _ (lt_of_block W1.out)).trans W1.out)
  have VR : Hid (RdB V rb s 0 10240) := Lib.hid (R1.out.below VB.out)
  have ENV : Hid (RdEnv B V (rb + 1) rb s 0) := Lib.hid ⟨VQ.out, VR.out, HT.out.below BV.out, by omega, by omega, by omega, Nat.zero_le _, hs⟩
  have E : TEnv B (rb + 1) rb tb 5 46 V := ⟨⟨_, VR.out⟩, ⟨_, VT.out⟩, by omega, by omega, by omega, by decide, by decide⟩
  have REC : Hid (RecAt rb tb 46 5 V part0) := Lib.hid (rec_zero VT.out rfl (fun i hi => by
    match i, hi with
    | 0, _ => exact ⟨_, rfl, rfl⟩
    | 1, _ => exact ⟨_, rfl, rfl⟩
    | 2, _ => exact ⟨_, rfl, rfl⟩
    | 3, _ => exact ⟨_, rfl, rfl⟩
    | 4, _ => exact ⟨_, rfl, rfl⟩))
  have HOF := Lib.hid (rofPart_any (x0 := part0) (s := s) E 0 (by omega) ⟨rfl, rfl, rfl, rfl, rfl⟩)
  have HE := Lib.hid E
  have G : Hid (GOk part0 (partGs s 0)) := Lib.hid (PartOk s 0 ⟨rfl, rfl, rfl, rfl, rfl⟩)
  have HRBT := Lib.hid hrbt
  clear hV E hrb hs1 hWs hrbt hTW
  go_wp2_with fail
  refine HOF.out.mono ?_
  rintro e w2 ⟨u, rfl, ⟨g, c, l, rfl, hc, hF, hS⟩, hb⟩
  have hl : (partGs s 0).length = l.length := hS.1
  have hg := (HE.out.below hb).apart hF.ex
  have H2 := Lib.hid (robject_any B (rb + 1) rb tb g 0 c part0 46 5 s w2 w2 l (partGs s 0) 0 part0 hF.flds hc (show l.length ≤ 1000 by rw [← hl]; exact Nat.le_of_ble_eq_true rfl) hS (Chg.refl _ _ _) hg HE.out.nq HE.out.le HE.out.ne G.out.keys G.out.disj G.out.frames G.out.kinds (fun i => rfl) (REC.out.below hb) (ENV.out.below hb) (fun i hi o ho => rfl))
  have HB := Lib.hid hb
  clear hF hS hb hl hc hg HOF ef
  go_wp2_with fail
  refine H2.out.mono ?_
  intro e w3 hh
  cases hr : objR s (partGs s 0) part0 0 with
  | error f =>
    rw [hr] at hh
    have HTH := Lib.hid (getIs_th hh)
    obtain ⟨fb, rfl, hf, hc3⟩ := getIs_err hh
    have HF := Lib.hid hf
    have HC := Lib.hid hc3
    have HR := Lib.hid hr
    clear hh hf hc3 hr H2
    go_wp2
    obtain ⟨cs, hcs, hcn⟩ := HTH.out
    have hce : w3.heap[tb + 1]? = some (.cells #[.nilIface] 59 (0, 0)) := (HC.out.block _ (Nat.lt_of_lt_of_le (lt_of_block VE.out) HB.out.size) (by have := HRBT.out; omega) (by omega)).trans ((HB.out.block _ (lt_of_block VE.out)).trans VE.out)
    refine leaves_cons (f := 121) (args := #[.pointer (some ⟨tb, 0, none⟩), .pointer (some ⟨tb + 1, 0, none⟩)]) (by simp) (by simp [go_sem]) ?_
    refine (read1Part_some tb (tb + 1) fb cs w3 hcs (arr5 hcn) hce (by omega)).mono ?_
    rintro e u' w4 ⟨rfl, rfl, HA⟩
    have y0 : ∀ o, w4.cell? ⟨tb, o, none⟩ = _ := block_cell HA.th
    have y1 : w4.cell? ⟨tb + 1, 0, none⟩ = some (.iface 127 (.pointer (some ⟨fb, 0, none⟩))) := block_cell HA.er 0
    refine ⟨_, by simp [results, Tryz.results67, go_sem, y0, y1]; rfl, ?_⟩
    refine ⟨?_, by
      rw [HR.out]
      refine ⟨fb, rfl, (HA.block fb (lt_of_block HF.out) (fun e => ?_) (fun e => ?_)).trans HF.out⟩
      · subst e; have h9 := hcs.symm.trans HF.out; cases h9
      · subst e; have h9 := hce.symm.trans HF.out; cases h9⟩
    have hsz := HTW.out
    have hb9 := HRBT.out
    refine ⟨HA.os.trans (HC.out.os.trans (HB.out.os.trans BV.out.os)), HA.tape.trans (HC.out.tape.trans (HB.out.tape.trans BV.out.tape)), HA.output.trans (HC.out.output.trans (HB.out.output.trans BV.out.output)), Nat.le_trans BV.out.size (Nat.le_trans HB.out.size (Nat.le_trans HC.out.size HA.size)), fun i hi => ?_⟩
    have l1 := Nat.lt_of_lt_of_le hi BV.out.size
    have l2 := Nat.lt_of_lt_of_le l1 HB.out.size
    exact (HA.block i (Nat.lt_of_lt_of_le l2 HC.out.size) (by omega) (by omega)).trans ((HC.out.block i l2 (by omega) (by omega)).trans ((HB.out.block i l1).trans (BV.out.block i hi)))
  | ok q =>
    rw [hr] at hh
    obtain ⟨rfl, hrd, hle, hx3, hc3⟩ := getIs_ok hh
    have HRD := Lib.hid hrd
    have HC := Lib.hid hc3
    have HR := Lib.hid hr
    have HKD : Hid (Kd part0 q.1) := Lib.hid (objR_kinds G.out.kinds hr (fun i => rfl))
    obtain ⟨_, hth, hlies⟩ := part_of_rec hx3 HKD.out
    have HTH := Lib.hid hth
    have HLI := Lib.hid hlies
    clear hh hrd hx3 hc3 hr H2 hth hlies
    obtain ⟨x, a⟩ := q
    have hts : tb < w3.heap.size := lt_of_block HTH.out
    have HQ3 : Hid (w3.heap[rb + 1]? = some (.cells #[.pointer (some ⟨rb, 0, none⟩)] 199 (0, 0))) := Lib.hid ((HC.out.block _ (Nat.lt_of_lt_of_le (lt_of_block VQ.out) HB.out.size) (by omega) (by have := HRBT.out; omega)).trans ((HB.out.block _ (lt_of_block VQ.out)).trans VQ.out))
    have HE3 : Hid (w3.heap[tb + 1]? = some (.cells #[.nilIface] 59 (0, 0))) := Lib.hid ((HC.out.block _ (Nat.lt_of_lt_of_le (lt_of_block VE.out) HB.out.size) (by have := HRBT.out; omega) (by omega)).trans ((HB.out.block _ (lt_of_block VE.out)).trans VE.out))
    have HET3 : Hid (ErrType w3) := Lib.hid (by
      have h1 := HET.out.below BV.out
      have h2 := h1.below HB.out
      unfold ErrType at h2 ⊢
      rw [World.cell?_of_block (w := w2) (HC.out.block _ (lt_of_cell h2) (show 0 ≠ rb by have := HRBT.out; have := HTW.out; omega) (show 0 ≠ tb by have := HTW.out; omega))]
      exact h2)
    go_upto_region 4 with fail
    obtain ⟨VO, hVO⟩ : ∃ VO : Nat → Option Nat, VO = fun j => if j = 6 then some tb else none := ⟨_, rfl⟩
    have vo6 : VO 6 = some tb := by rw [hVO]; rfl
    have von : ∀ j, j ≠ 6 → VO j = none := fun j h1 => by rw [hVO]; simp [h1]
    have vob : ∀ j b, b ≠ tb → VO j ≠ some b := fun j b hb => by
      by_cases h : j = 6
      · subst h; rw [vo6]; simp; exact fun e => hb e.symm
      · rw [von j h]; simp
    clear hVO
    refine wp_region_tailV 7 VO (fun i j b h1 h2 => by
        by_cases e1 : i = 6
        · by_cases e2 : j = 6
          · rw [e1, e2]
          · rw [von j e2] at h2; cases h2
        · rw [von i e1] at h1; cases h1) (fun _ _ _ => True) (fun _ => True) (fun _ _ _ _ _ => True) (fun _ _ => trivial) trivial
      (phis [fun u _ => u = .agg (cellsPart x), fun u _ => u = .pointer (some ⟨rb + 1, 0, none⟩), fun u _ => u = .pointer (some ⟨rb + 1, 0, none⟩), fun u _ => u = .pointer (some ⟨rb + 1, 0, none⟩), fun u _ => u = .pointer (some ⟨rb, 0, none⟩), fun u w' => if a < s.size then ∃ fb, u = .iface 127 (.pointer (some ⟨fb, 0, none⟩)) ∧ FltB w' fb 5 a ∧ fb ≠ tb else u = .nilIface, fun _ w' => w'.heap[tb]? = some (.cells (cellsPart x) 46 (0, 0))]) rfl (by kernel_rfl) (by kernel_rfl)
      (monoV_of ⟨monoV_eq, monoV_eq, monoV_eq, monoV_eq, monoV_eq, ?m5, ?m6, trivial⟩) (fun _ _ _ _ _ => trivial) (fun _ _ _ _ _ _ _ _ _ _ _ => trivial) (stepsV_of 7 ⟨?s0, ?s1, ?s2, ?s3, ?s4, ?s5, ?s6, trivial⟩) ?_
    case m5 =>
      intro j hj u w1 w2 he hp
      by_cases hlt : a < s.size
      · simp only [hlt, if_true] at hp ⊢
        obtain ⟨fb, h1, h2, h3⟩ := hp
        refine ⟨fb, h1, (he.1.block fb (lt_of_block h2) ?_).trans h2, h3⟩
        exact fun e => vob j fb h3 e.symm
      · simp only [hlt, if_false] at hp ⊢; exact hp
    case m6 =>
      intro j hj u w1 w2 he hp
      refine (he.1.block tb (lt_of_block hp) ?_).trans hp
      rw [von j hj]; simp
    case s0 =>
      refine stepV_val (v := .agg (cellsPart x)) (fun _ _ => trivial) (fun _ _ _ _ => ⟨trivial, trivial⟩) (fun D av wv hE hO hD => ?_) (fun _ => rfl)
      have h6 : ¬ D 6 := hE.notyet 6 _ rfl { on := 0, ground := .data } (by simp) rfl hE.me
      have hb0 : wv.heap[tb]? = some (.cells (cellsPart x) 46 (0, 0)) := (hE.late 6 h6 tb vo6 hts).trans HTH.out
      have k0 : wv.cell? ⟨tb, 0, none⟩ = some (.string (x 0).s) := block_cell hb0 0
      have k1 : wv.cell? ⟨tb, 1, none⟩ = some (.int .u64 (x 1).n) := block_cell hb0 1
      have k2 : wv.cell? ⟨tb, 2, none⟩ = some (.int .u64 (x 2).n) := block_cell hb0 2
      have k3 : wv.cell? ⟨tb, 3, none⟩ = some (.int .u64 (x 3).n) := block_cell hb0 3
      have k4 : wv.cell? ⟨tb, 4, none⟩ = some (.int .u64 (x 4).n) := block_cell hb0 4
      have h4 : av.eval (.tmp 4) = .pointer (some ⟨tb, 0, none⟩) := hO.2.2 4 rfl
      have f4 := (ev_form av 4).symm.trans h4
      refine ⟨rfl, ?_⟩
      simp [go_sem, f4, k0, k1, k2, k3, k4]
    case s1 =>
      refine stepV_val (v := .pointer (some ⟨rb + 1, 0, none⟩)) (fun _ _ => trivial) (fun _ _ _ _ => ⟨trivial, trivial⟩) (fun D av wv hE hO hD => ?_) (fun _ => rfl)
      have h6 : av.eval (.tmp 6) = .pointer (some ⟨rb + 1, 0, none⟩) := hO.2.2 6 rfl
      have f6 := (ev_form av 6).symm.trans h6
      refine ⟨rfl, ?_⟩
      simp [go_sem, f6]
    case s2 =>
      refine stepV_val (v := .pointer (some ⟨rb + 1, 0, none⟩)) (fun _ _ => trivial) (fun _ _ _ _ => ⟨trivial, trivial⟩) (fun D av wv hE hO hD => ?_) (fun _ => rfl)
      have d17 : av.eval (.tmp 17) = .pointer (some ⟨rb + 1, 0, none⟩) := hD.1 rfl _ rfl
      have f17 := (ev_form av 17).symm.trans d17
      refine ⟨rfl, ?_⟩
      simp [go_sem, f17]
    case s3 =>
      refine stepV_val (v := .pointer (some ⟨rb + 1, 0, none⟩)) (fun _ _ => trivial) (fun _ _ _ _ => ⟨trivial, trivial⟩) (fun D av wv hE hO hD => ?_) (fun _ => rfl)
      have d18 : av.eval (.tmp 18) = .pointer (some ⟨rb + 1, 0, none⟩) := hD.1 rfl _ rfl
      have f18 := (ev_form av 18).symm.trans d18
      refine ⟨rfl, ?_⟩
      simp [go_sem, f18]
    case s4 =>
      refine stepV_val (v := .pointer (some ⟨rb, 0, none⟩)) (fun _ _ => trivial) (fun _ _ _ _ => ⟨trivial, trivial⟩) (fun D av wv hE hO hD => ?_) (fun _ => rfl)
      have d19 : av.eval (.tmp 19) = .pointer (some ⟨rb + 1, 0, none⟩) := hD.1 rfl _ rfl
      have f19 := (ev_form av 19).symm.trans d19
      have k0 : wv.cell? ⟨rb + 1, 0, none⟩ = some (.pointer (some ⟨rb, 0, none⟩)) := block_cell ((hE.ext.block (rb + 1) (lt_of_block HQ3.out) (fun j => vob j _ (by have := HRBT.out; omega))).trans HQ3.out) 0
      refine ⟨rfl, ?_⟩
      simp [go_sem, f19, k0]
    case s5 =>
      refine stepV_wp (fun D av wv hPP hE hO hD => ?_)
      have d20 : av.eval (.tmp 20) = .pointer (some ⟨rb, 0, none⟩) := hD.1 rfl _ rfl
      have f20 := (ev_form av 20).symm.trans d20
      have hrd : RdB wv rb s a 10240 := (hE.ext.block rb (lt_of_block HRD.out) (fun j => vob j _ (by have := HRBT.out; omega))).trans HRD.out
      have het : ErrType wv := by
        have h2 : ErrType w3.drew := HET3.out
        unfold ErrType at h2 ⊢
        rw [World.cell?_of_block (w := w3.drew) (hE.ext.block _ (lt_of_cell h2) (fun j => vob j _ (show 0 ≠ tb by have := HTW.out; omega)))]
        exact h2
      have hvs : w3.heap.size ≤ wv.heap.size := hE.ext.size
      refine ⟨rfl, wp_of_callR (f := 124) (args := #[.pointer (some ⟨rb, 0, none⟩)]) (R := fun u w2 => Below wv.heap.size wv w2 ∧ (if a < s.size then ∃ fb, u = .iface 127 (.pointer (some ⟨fb, 0, none⟩)) ∧ FltB w2 fb 5 a ∧ fb ≠ tb else u = .nilIface)) (by simp [go_sem, f20]) ((End_any wv rb s a 10240 het hrd hle hs).mono fun e w2 hh => ?_) (fun u w2 ⟨h1, h2⟩ => ⟨u, rfl, esV_of_ext h1 trivial, h2, fun _ _ _ _ _ => ⟨trivial, trivial⟩⟩)⟩
      obtain ⟨h1, h2⟩ := hh
      unfold leftOf at h2
      by_cases hlt : a < s.size
      · simp only [hlt, if_true] at h2 ⊢
        obtain ⟨fb, h3, h4, h5⟩ := h2
        exact ⟨_, h3, h1, fb, rfl, h5, by omega⟩
      · simp only [hlt, if_false] at h2 ⊢
        exact ⟨_, h2, h1, rfl⟩
    case s6 =>
      refine stepV_wp (fun D av wv hPP hE hO hD => ?_)
      have d16 : av.eval (.tmp 16) = .agg (cellsPart x) := hD.1 rfl _ rfl
      have f16 := (ev_form av 16).symm.trans d16
      have h4 : av.eval (.tmp 4) = .pointer (some ⟨tb, 0, none⟩) := hO.2.2 4 rfl
      have f4 := (ev_form av 4).symm.trans h4
      have hq : wv.heap[tb]? = some (.cells (cellsPart x) 46 (0, 0)) := (hE.own tb vo6 hts).trans HTH.out
      have k0 : wv.cell? ⟨tb, 0, none⟩ = some (.string (x 0).s) := block_cell hq 0
      have k1 : wv.cell? ⟨tb, 1, none⟩ = some (.int .u64 (x 1).n) := block_cell hq 1
      have k2 : wv.cell? ⟨tb, 2, none⟩ = some (.int .u64 (x 2).n) := block_cell hq 2
      have k3 : wv.cell? ⟨tb, 3, none⟩ = some (.int .u64 (x 3).n) := block_cell hq 3
      have k4 : wv.cell? ⟨tb, 4, none⟩ = some (.int .u64 (x 4).n) := block_cell hq 4
      have hz : ∀ o, wv.frozen? ⟨tb, o, none⟩ = false := block_free hq
      have l0 : tb < wv.heap.size := lt_of_block hq
      refine ⟨rfl, ?_⟩
      unfold Oper.wp
      simp [go_sem, f4, f16, hz, l0, k0, k1, k2, k3, k4]
      exact ⟨⟨by rw [vo6]; exact (extB_setIn (extB_setIn (extB_setIn (extB_setIn (extB_setIn (ExtB_refl _ _) 0 _) 1 _) 2 _) 3 _) 4 _), trivial⟩, undef, (block_setCell (block_setCell (block_setCell (block_setCell (block_setCell hq (o := 0) _) (o := 1) _) (o := 2) _) (o := 3) _) (o := 4) _), fun _ _ _ _ _ => ⟨trivial, trivial⟩⟩
    intro a' w' hE _ hO hall _
    have hA := act_of_outer (ds := [16, 17, 18, 19, 20, 21]) rfl hO (by kernel_rfl)
    have e16 : (fun u (_ : World) => u = .agg (cellsPart x)) (a'.eval (.tmp 16)) w' := hall.1 _ rfl
    have e17 : (fun u (_ : World) => u = .pointer (some ⟨rb + 1, 0, none⟩)) (a'.eval (.tmp 17)) w' := hall.2.1 _ rfl
    have e18 : (fun u (_ : World) => u = .pointer (some ⟨rb + 1, 0, none⟩)) (a'.eval (.tmp 18)) w' := hall.2.2.1 _ rfl
    have e19 : (fun u (_ : World) => u = .pointer (some ⟨rb + 1, 0, none⟩)) (a'.eval (.tmp 19)) w' := hall.2.2.2.1 _ rfl
    have e20 : (fun u (_ : World) => u = .pointer (some ⟨rb, 0, none⟩)) (a'.eval (.tmp 20)) w' := hall.2.2.2.2.1 _ rfl
    have e21 : (fun u w' => if a < s.size then ∃ fb, u = .iface 127 (.pointer (some ⟨fb, 0, none⟩)) ∧ FltB w' fb 5 a ∧ fb ≠ tb else u = .nilIface) (a'.eval (.tmp 21)) w' := hall.2.2.2.2.2.1 _ rfl
    have z6 : w'.heap[tb]? = some (.cells (cellsPart x) 46 (0, 0)) := hall.2.2.2.2.2.2.1 _ rfl
    obtain ⟨v21, hv21⟩ : ∃ v, a'.eval (.tmp 21) = v := ⟨_, rfl⟩
    rw [hv21] at e21
    simp only [List.foldl_cons, List.foldl_nil, Act.put, List.setIfInBounds_toArray, List.set_cons_succ, List.set_cons_zero, e16, e17, e18, e19, e20, hv21] at hA
    clear hO hall e16 e17 e18 e19 e20 hv21
    subst hA
    have HX4 : Hid (ExtS VO w3 w') := Lib.hid ⟨hE.os, hE.tape, hE.output, hE.size, hE.block⟩
    have HZ6 := Lib.hid z6
    have hbe : w'.heap[tb + 1]? = some (.cells #[.nilIface] 59 (0, 0)) := (HX4.out.block _ (lt_of_block HE3.out) (fun j => vob j _ (by omega))).trans HE3.out
    have HBE := Lib.hid hbe
    have g0 : w'.cell? ⟨tb + 1, 0, none⟩ = some .nilIface := block_cell hbe 0
    have g1 : w'.frozen? ⟨tb + 1, 0, none⟩ = false := block_free hbe 0
    have HVO : Hid (∀ j b, b ≠ tb → VO j ≠ some b) := Lib.hid vob
    have HFIN : ∀ v, Hid (Below w.heap.size w (w'.setCell ⟨tb + 1, 0, none⟩ v)) := fun v => Lib.hid (by
      have hsz := HTW.out
      have hb9 := HRBT.out
      refine ⟨HX4.out.os.trans (HC.out.os.trans (HB.out.os.trans BV.out.os)), HX4.out.tape.trans (HC.out.tape.trans (HB.out.tape.trans BV.out.tape)), HX4.out.output.trans (HC.out.output.trans (HB.out.output.trans BV.out.output)), by simpa using Nat.le_trans BV.out.size (Nat.le_trans HB.out.size (Nat.le_trans HC.out.size HX4.out.size)), fun i hi => ?_⟩
      have l1 := Nat.lt_of_lt_of_le hi BV.out.size
      have l2 := Nat.lt_of_lt_of_le l1 HB.out.size
      rw [Below.heap_setCell _ _ _ _ (show i ≠ tb + 1 by omega)]
      exact (HX4.out.block i (Nat.lt_of_lt_of_le l2 HC.out.size) (fun j => HVO.out j i (by omega))).trans ((HC.out.block i l2 (by omega) (by omega)).trans ((HB.out.block i l1).trans (BV.out.block i hi))))
    have HLF : ∀ v, Hid (LiesPart rb tb (w'.setCell ⟨tb + 1, 0, none⟩ v) x) := fun v => Lib.hid (HLI.out.up (fun b h1 h2 => by
      have hb9 := HRBT.out
      rw [Below.heap_setCell _ _ _ _ (show b ≠ tb + 1 by omega)]
      exact HX4.out.block b h2 (fun j => HVO.out j b (by omega))))
    have HTF : ∀ v o, (w'.setCell ⟨tb + 1, 0, none⟩ v).cell? ⟨tb, o, none⟩ = (cellsPart x)[o]? := fun v o => block_cell (block_setCell_ne HZ6.out (by show tb ≠ tb + 1; omega) v) o
    have HEF : ∀ v, (w'.setCell ⟨tb + 1, 0, none⟩ v).cell? ⟨tb + 1, 0, none⟩ = some v := fun v => block_cell (block_setCell HBE.out v) 0
    have HTFH := Lib.hid HTF
    have HEFH := Lib.hid HEF
    clear hE z6 hbe vo6 von vob HTF HEF
    by_cases hlt : a < s.size
    · simp only [hlt, if_true] at e21
      obtain ⟨fb, rfl, hf, hft⟩ := e21
      have HF := Lib.hid hf
      have HLT := Lib.hid hlt
      clear hf hlt
      go_wp2
      refine leaves_cons (f := 121) (args := #[.pointer (some ⟨tb, 0, none⟩), .pointer (some ⟨tb + 1, 0, none⟩)]) (by simp) (by simp [go_sem]) ?_
      refine (read1Part_idle _ _ _).mono ?_
      rintro e u' w'' ⟨rfl, rfl, rfl⟩
      have y0 := HTFH.out (.iface 127 (.pointer (some ⟨fb, 0, none⟩)))
      have y1 := HEFH.out (.iface 127 (.pointer (some ⟨fb, 0, none⟩)))
      refine ⟨_, by simp [results, Tryz.results67, go_sem, y0, y1]; rfl, ?_⟩
      refine ⟨(HFIN _).out, ?_⟩
      rw [HR.out]
      refine ⟨HKD.out, hle, ⟨rb, tb, by have := HRBT.out; have := HTW.out; omega, (HLF _).out⟩, ?_⟩
      rw [if_pos HLT.out]
      exact ⟨fb, rfl, block_setCell_ne HF.out (by intro e; subst e; have h9 := HBE.out.symm.trans HF.out; cases h9) _⟩
    · simp only [hlt, if_false] at e21
      subst e21
      have HLT := Lib.hid hlt
      clear hlt
      go_wp2
      refine leaves_cons (f := 121) (args := #[.pointer (some ⟨tb, 0, none⟩), .pointer (some ⟨tb + 1, 0, none⟩)]) (by simp) (by simp [go_sem]) ?_
      refine (read1Part_idle _ _ _).mono ?_
      rintro e u' w'' ⟨rfl, rfl, rfl⟩
      have y0 := HTFH.out .nilIface
      have y1 := HEFH.out .nilIface
      refine ⟨_, by simp [results, Tryz.results67, go_sem, y0, y1]; rfl, ?_⟩
      refine ⟨(HFIN _).out, ?_⟩
      rw [HR.out]
      refine ⟨HKD.out, hle, ⟨rb, tb, by have := HRBT.out; have := HTW.out; omega, (HLF _).out⟩, ?_⟩
      rw [if_neg HLT.out]
abbrev cellsSlot (x : Rcd) (a3 : Option Addr) (c3 : Nat) (a4 : Option Addr) (c4 : Nat) : Array Value := #[.int .u64 (x 0).n, .bool (x 1).q, .int .u64 (x 2).n, .slice a3 (len (x 3).l) c3, .slice a4 (len (x 4).l) c4]
abbrev zeroSlot : Value := .agg #[.int .u64 0, .bool false, .int .u64 0, .slice none 0 0, .slice none 0 0]
def LiesSlot (rb tb : Nat) (w : World) (x : Rcd) (a3 : Option Addr) (c3 : Nat) (a4 : Option Addr) (c4 : Nat) : Prop := HoldsD rb tb w (.slice a3 (len (x 3).l) c3) (x 3) ∧ HoldsD rb tb w (.slice a4 (len (x 4).l) c4) (x 4)
theorem LiesSlot.below {rb tb : Nat} {w w' : World} {x : Rcd} {a3 : Option Addr} {c3 : Nat} {a4 : Option Addr} {c4 : Nat} (h : LiesSlot rb tb w x a3 c3 a4 c4) (hb : Below w.heap.size w w') : LiesSlot rb tb w' x a3 c3 a4 c4 := ⟨h.1.chg (Chg.of_below hb), h.2.chg (Chg.of_below hb)⟩
theorem LiesSlot.chg {rb tb : Nat} {w w' : World} {x : Rcd} {a3 : Option Addr} {c3 : Nat} {a4 : Option Addr} {c4 : Nat} (h : LiesSlot rb tb w x a3 c3 a4 c4) (hb : Chg rb tb w w') : LiesSlot rb tb w' x a3 c3 a4 c4 := ⟨h.1.chg hb, h.2.chg hb⟩
theorem LiesSlot.up {rb tb : Nat} {w w' : World} {x : Rcd} {a3 : Option Addr} {c3 : Nat} {a4 : Option Addr} {c4 : Nat} (h : LiesSlot rb tb w x a3 c3 a4 c4) (hb : Up rb w w') : LiesSlot rb tb w' x a3 c3 a4 c4 := ⟨h.1.up hb, h.2.up hb⟩
theorem slot_of_rec {rb tb : Nat} {w : World} {x : Rcd} (h : RecAt rb tb 44 5 w x) (hk : Kd slot0 x) : ∃ (a3 : Option Addr) (c3 : Nat) (a4 : Option Addr) (c4 : Nat), w.heap[tb]? = some (.cells (cellsSlot x a3 c3 a4 c4) 44 (0, 0)) ∧ LiesSlot rb tb w x a3 c3 a4 c4 := by
  obtain ⟨cs, h1, h2, h3⟩ := h
  obtain ⟨m0, e0⟩ := hk.num (show kindD (slot0 0) = _ from rfl)
  obtain ⟨u0, g0, d0⟩ := h3 0 (by decide)
  rw [e0] at d0
  simp only [HoldsD] at d0
  subst d0
  obtain ⟨m1, e1⟩ := hk.flag (show kindD (slot0 1) = _ from rfl)
  obtain ⟨u1, g1, d1⟩ := h3 1 (by decide)
  rw [e1] at d1
  simp only [HoldsD] at d1
  subst d1
  obtain ⟨m2, e2⟩ := hk.num (show kindD (slot0 2) = _ from rfl)
  obtain ⟨u2, g2, d2⟩ := h3 2 (by decide)
  rw [e2] at d2
  simp only [HoldsD] at d2
  subst d2
  obtain ⟨m3, e3⟩ := hk.strs (show kindD (slot0 3) = _ from rfl)
  obtain ⟨u3, g3, d3⟩ := h3 3 (by decide)
  have D3 := d3
  rw [e3] at d3
  obtain ⟨a3, c3, q3, -⟩ := d3
  subst q3
  obtain ⟨m4, e4⟩ := hk.strs (show kindD (slot0 4) = _ from rfl)
  obtain ⟨u4, g4, d4⟩ := h3 4 (by decide)
  have D4 := d4
  rw [e4] at d4
  obtain ⟨a4, c4, q4, -⟩ := d4
  subst q4
  refine ⟨a3, c3, a4, c4, ?_, ?_⟩
  · rw [h1]; congr 2; apply Array.ext_getElem?; intro i
    match i with
    | 0 => rw [g0]; simp [e0, DV.n, DV.q, DV.s, DV.l, DV.ns, DV.rs]
    | 1 => rw [g1]; simp [e1, DV.n, DV.q, DV.s, DV.l, DV.ns, DV.rs]
    | 2 => rw [g2]; simp [e2, DV.n, DV.q, DV.s, DV.l, DV.ns, DV.rs]
    | 3 => rw [g3]; simp [e3, DV.n, DV.q, DV.s, DV.l, DV.ns, DV.rs]
    | 4 => rw [g4]; simp [e4, DV.n, DV.q, DV.s, DV.l, DV.ns, DV.rs]
    | i + 5 => rw [Array.getElem?_eq_none (by omega), Array.getElem?_eq_none (by simp)]
  · exact ⟨(by rw [e3] at D3 ⊢; exact D3), (by rw [e4] at D4 ⊢; exact D4)⟩
set_option maxRecDepth 100000 in
theorem read1Slot_idle (p q : Value) (w : World) : CallsD Tryz.prog 140 #[p, q] .returning w fun e u' w' => e = .returned (.tuple #[]) ∧ u' = .returning ∧ w' = w := by
  refine callsD_of_wpS Tryz.func140 rfl fun c₀ cs hu => ?_
  apply wpS_seq
  apply wpS_region
  simp [wpOpsS, go_sem, recoverD, hu, Tryz.ntmps140, Exit.thenS]
  refine wpS_of_wp ?_
  obtain ⟨Q, hQ⟩ : ∃ Q : Exit → Act → World → Prop, (fun e a' w' => bodyPostS Tryz.prog Tryz.f140 c₀ cs (fun e u' w' => e = Ending.returned (.tuple #[]) ∧ u' = .returning ∧ w' = w) e a' (c₀ :: cs) w') = Q := ⟨_, rfl⟩
  rw [hQ, read1_frame]
  have HQ := Lib.hid hQ
  clear hQ
  go_wp2
  rw [← HQ.out]
  simp [bodyPostS, results, Tryz.results140]
  cases c₀; simp_all
structure AfterSlot (tb eb fb : Nat) (w w' : World) : Prop where
  os : w'.os = w.os
  tape : w'.tape = w.tape
  output : w'.output = w.output
  size : w.heap.size ≤ w'.heap.size
  block : ∀ i, i < w.heap.size → i ≠ tb → i ≠ eb → w'.heap[i]? = w.heap[i]?
  th : w'.heap[tb]? = some (.cells #[.int .u64 0, .bool false, .int .u64 0, .slice none 0 0, .slice none 0 0] 44 (0, 0))
  er : w'.heap[eb]? = some (.cells #[.iface 127 (.pointer (some ⟨fb, 0, none⟩))] 59 (0, 0))
set_option maxRecDepth 100000 in
set_option maxHeartbeats 4000000 in
theorem read1Slot_some (tb eb fb : Nat) (cs : Array Value) (w : World) (ht : w.heap[tb]? = some (.cells cs 44 (0, 0))) (hcs : ∃ u0 u1 u2 u3 u4 : Value, cs = #[u0, u1, u2, u3, u4] ) (he : w.heap[eb]? = some (.cells #[.nilIface] 59 (0, 0))) (hne : tb ≠ eb) :
    CallsD Tryz.prog 140 #[.pointer (some ⟨tb, 0, none⟩), .pointer (some ⟨eb, 0, none⟩)] (.panicking (stopC fb)) w fun e u' w' =>
      e = .returned (.tuple #[]) ∧ u' = .panicking [{ v := .iface 193 (.agg #[.iface 127 (.pointer (some ⟨fb, 0, none⟩))]), recovered := true }] ∧ AfterSlot tb eb fb w w' := by
  obtain ⟨u0, u1, u2, u3, u4, rfl⟩ := hcs
  refine callsD_of_wpS Tryz.func140 rfl fun c₀ cs hu => ?_
  apply wpS_seq
  apply wpS_region
  simp [wpOpsS, go_sem, recoverD, hu, stopC, Tryz.ntmps140, Exit.thenS]
  refine wpS_of_wp ?_
  obtain ⟨Q, hQ⟩ : ∃ Q : Exit → Act → World → Prop, (fun e a' w' => bodyPostS Tryz.prog Tryz.f140 c₀ cs (fun e u' w' => e = Ending.returned (.tuple #[]) ∧ u' = .panicking [{ v := .iface 193 (.agg #[.iface 127 (.pointer (some ⟨fb, 0, none⟩))]), recovered := true }] ∧ AfterSlot tb eb fb w w') e a' ({ c₀ with mode := .panicking [{ v := .iface 193 (.agg #[.iface 127 (.pointer (some ⟨fb, 0, none⟩))]), recovered := true }] } :: cs) w') = Q := ⟨_, rfl⟩
  rw [hQ, read1_frame]
  have HQ := Lib.hid hQ
  have HT := Lib.hid ht
  have HE := Lib.hid he
  clear hQ hu ht he
  have ha := assert_stop fb
  go_wp2_with fail
  obtain ⟨V, hV⟩ : ∃ V, (w.alloc (.cells #[.iface 127 (.pointer (some ⟨fb, 0, none⟩))] 193)).alloc (.cells #[.int .u64 0, .bool false, .int .u64 0, .slice none 0 0, .slice none 0 0] 44) = V := ⟨_, rfl⟩
  obtain ⟨sb, hsb⟩ : ∃ sb, w.heap.size = sb := ⟨_, rfl⟩
  have HV : Hid (Below w.heap.size w V) := Lib.hid (by rw [← hV]; exact balloc (balloc (Below.refl _ _) _) _)
  have hbs : V.heap[sb]? = some (.cells #[.iface 127 (.pointer (some ⟨fb, 0, none⟩))] 193 (0, 0)) := by rw [← hV, ← hsb]; exact block_alloc (heap_alloc_new _ _) _
  have hbn : V.heap[sb + 1]? = some (.cells #[.int .u64 0, .bool false, .int .u64 0, .slice none 0 0, .slice none 0 0] 44 (0, 0)) := by rw [← hV]; exact alloc_new_at _ (by simp [hsb])
  have hbt : V.heap[tb]? = some (.cells #[u0, u1, u2, u3, u4] 44 (0, 0)) := (HV.out.block _ (lt_of_block HT.out)).trans HT.out
  have hbe : V.heap[eb]? = some (.cells #[.nilIface] 59 (0, 0)) := (HV.out.block _ (lt_of_block HE.out)).trans HE.out
  have k0 : V.cell? ⟨sb, 0, none⟩ = some (.iface 127 (.pointer (some ⟨fb, 0, none⟩))) := block_cell hbs 0
  have m0 : V.cell? ⟨sb + 1, 0, none⟩ = some (.int .u64 0) := block_cell hbn 0
  have m1 : V.cell? ⟨sb + 1, 1, none⟩ = some (.bool false) := block_cell hbn 1
  have m2 : V.cell? ⟨sb + 1, 2, none⟩ = some (.int .u64 0) := block_cell hbn 2
  have m3 : V.cell? ⟨sb + 1, 3, none⟩ = some (.slice none 0 0) := block_cell hbn 3
  have m4 : V.cell? ⟨sb + 1, 4, none⟩ = some (.slice none 0 0) := block_cell hbn 4
  have hts : tb < sb := by have := lt_of_block HT.out; omega
  have hnt : some (sb + 1) ≠ some tb := by simp; omega
  have hst : some sb ≠ some tb := by simp; omega
  have HBT := Lib.hid hbt
  have HBE := Lib.hid hbe
  try rw [hV]
  try simp only [hsb]
  clear hV hbs hbn hbt hbe ha
  refine wp_region_tail 4 3 ((some tb)) (phis [fun u _ => u = (.agg #[.int .u64 0, .bool false, .int .u64 0, .slice none 0 0, .slice none 0 0]), fun u _ => u = (.pointer (some ⟨sb, 0, none⟩)), fun u _ => u = (.iface 127 (.pointer (some ⟨fb, 0, none⟩))), fun _ w' => w'.heap[tb]? = some (.cells #[.int .u64 0, .bool false, .int .u64 0, .slice none 0 0, .slice none 0 0] 44 (0, 0))]) rfl (by kernel_rfl) (by kernel_rfl) (mono_of ⟨mono_eq, mono_eq, mono_eq, ?m3, trivial⟩) (steps_of 4 ⟨?s0, ?s1, ?s2, ?s3, trivial⟩) ?_
  case m3 =>
    exact ⟨fun u w1 w2 h hb => ext_block h hb, fun hn => absurd rfl hn⟩
  case s0 =>
    refine step_val (v := (.agg #[.int .u64 0, .bool false, .int .u64 0, .slice none 0 0, .slice none 0 0])) (fun av wv hE hS hO hD => ?_) (fun _ => rfl)
    have h5 : av.eval (.tmp 5) = (.pointer (some ⟨sb + 1, 0, none⟩)) := hO.2.2 5 rfl
    have f5 := (ev_form av 5).symm.trans h5
    have k0 := extB_cell hE hst k0
    have m0 := extB_cell hE hnt m0
    have m1 := extB_cell hE hnt m1
    have m2 := extB_cell hE hnt m2
    have m3 := extB_cell hE hnt m3
    have m4 := extB_cell hE hnt m4
    refine ⟨rfl, ?_⟩
    simp [go_sem, f5, k0, m0, m1, m2, m3, m4]
  case s1 =>
    refine step_val (v := (.pointer (some ⟨sb, 0, none⟩))) (fun av wv hE hS hO hD => ?_) (fun _ => rfl)
    have h3 : av.eval (.tmp 3) = (.pointer (some ⟨sb, 0, none⟩)) := hO.2.2 3 rfl
    have f3 := (ev_form av 3).symm.trans h3
    refine ⟨rfl, ?_⟩
    simp [go_sem, f3]
  case s2 =>
    refine step_val (v := (.iface 127 (.pointer (some ⟨fb, 0, none⟩)))) (fun av wv hE hS hO hD => ?_) (fun _ => rfl)
    have d18 : av.eval (.tmp 18) = (.pointer (some ⟨sb, 0, none⟩)) := hD.1 rfl _ rfl
    have f18 := (ev_form av 18).symm.trans d18
    have k0 := extB_cell hE hst k0
    have m0 := extB_cell hE hnt m0
    have m1 := extB_cell hE hnt m1
    have m2 := extB_cell hE hnt m2
    have m3 := extB_cell hE hnt m3
    have m4 := extB_cell hE hnt m4
    refine ⟨rfl, ?_⟩
    simp [go_sem, f18, k0, m0, m1, m2, m3, m4]
  case s3 =>
    refine step_wp (fun av wv hE hS hO hD => ?_)
    have h0 : av.eval (.tmp 0) = (.pointer (some ⟨tb, 0, none⟩)) := hO.2.2 0 rfl
    have f0 := (ev_form av 0).symm.trans h0
    have d17 : av.eval (.tmp 17) = (.agg #[.int .u64 0, .bool false, .int .u64 0, .slice none 0 0, .slice none 0 0]) := hD.1 rfl _ rfl
    have f17 := (ev_form av 17).symm.trans d17
    refine ⟨rfl, ?_⟩
    have hq : wv.heap[tb]? = some (.cells #[u0, u1, u2, u3, u4] 44 (0, 0)) := ext_block (w := V.drew) (hS rfl) HBT.out
    have q0 : wv.cell? ⟨tb, 0, none⟩ = some u0 := block_cell hq 0
    have q1 : wv.cell? ⟨tb, 1, none⟩ = some u1 := block_cell hq 1
    have q2 : wv.cell? ⟨tb, 2, none⟩ = some u2 := block_cell hq 2
    have q3 : wv.cell? ⟨tb, 3, none⟩ = some u3 := block_cell hq 3
    have q4 : wv.cell? ⟨tb, 4, none⟩ = some u4 := block_cell hq 4
    have hz : ∀ o, wv.frozen? ⟨tb, o, none⟩ = false := block_free hq
    unfold Oper.wp
    have l0 : tb < wv.heap.size := lt_of_block hq
    have h0 : av.eval (.tmp 0) = (.pointer (some ⟨tb, 0, none⟩)) := hO.2.2 0 rfl
    have f0 := (ev_form av 0).symm.trans h0
    simp [go_sem, f0, f17, hz, l0, q0, q1, q2, q3, q4]
    exact ⟨es_sp (extB_setIn (extB_setIn (extB_setIn (extB_setIn (extB_setIn (ExtB_refl _ _) 0 _) 1 _) 2 _) 3 _) 4 _), undef, (block_setCell (block_setCell (block_setCell (block_setCell (block_setCell hq (o := 0) _) (o := 1) _) (o := 2) _) (o := 3) _) (o := 4) _)⟩
  intro a' w' hE hO hall
  have hA := act_of_outer (ds := [17, 18, 19]) rfl hO (by kernel_rfl)
  have e17 : (fun u _ => u = (.agg #[.int .u64 0, .bool false, .int .u64 0, .slice none 0 0, .slice none 0 0])) (a'.eval (.tmp 17)) w' := hall.1 _ rfl
  have e18 : (fun u _ => u = (.pointer (some ⟨sb, 0, none⟩))) (a'.eval (.tmp 18)) w' := hall.2.1 _ rfl
  have e19 : (fun u _ => u = (.iface 127 (.pointer (some ⟨fb, 0, none⟩)))) (a'.eval (.tmp 19)) w' := hall.2.2.1 _ rfl
  have z3 : (fun _ w' => w'.heap[tb]? = some (.cells #[.int .u64 0, .bool false, .int .u64 0, .slice none 0 0, .slice none 0 0] 44 (0, 0))) undef w' := hall.2.2.2.1 _ rfl
  simp only [List.foldl_cons, List.foldl_nil, Act.put, List.setIfInBounds_toArray, List.set_cons_succ, List.set_cons_zero, e17, e18, e19] at hA
  clear hO hall e17 e18 e19
  subst hA
  have HE := Lib.hid (of_drewE hE)
  have HZ := Lib.hid z3
  have hbe : w'.heap[eb]? = some (.cells #[.nilIface] 59 (0, 0)) := extB_block HE.out (by simp; exact fun e => hne e.symm) HBE.out
  have HBE := Lib.hid hbe
  have q0 : w'.cell? ⟨eb, 0, none⟩ = some .nilIface := block_cell hbe 0
  have q1 : w'.frozen? ⟨eb, 0, none⟩ = false := block_free hbe 0
  clear hE z3 hbe
  go_wp2
  rw [← HQ.out]
  have hs1 : (w'.setCell ⟨eb, 0, none⟩ (.iface 127 (.pointer (some ⟨fb, 0, none⟩)))).heap.size = w'.heap.size := by simp
  refine ⟨rfl, _, rfl, .tuple #[], by simp [results, Tryz.results140], rfl, rfl, ?_⟩
  exact ⟨HE.out.os.trans HV.out.os, HE.out.tape.trans HV.out.tape, HE.out.output.trans HV.out.output, by rw [hs1]; exact Nat.le_trans HV.out.size HE.out.size, fun i hi h1 h2 => by
    rw [Below.heap_setCell _ _ _ _ h2]
    exact (HE.out.block i (Nat.lt_of_lt_of_le hi HV.out.size) (by simpa using h1)).trans (HV.out.block i hi), block_setCell_ne HZ.out hne _, block_setCell HBE.out _⟩
def RdSlot (s : ByteArray) (w : World) (e : Ending) (w' : World) : Prop :=
  Below w.heap.size w w' ∧ match objR s (slotGs s 0) slot0 0 with
    | .error f => ∃ fb, e = .returned (.tuple #[zeroSlot, .iface 127 (.pointer (some ⟨fb, 0, none⟩))]) ∧ FltB w' fb f.1 f.2
    | .ok y => Kd slot0 y.1 ∧ y.2 ≤ s.size ∧ ∃ (a3 : Option Addr) (c3 : Nat) (a4 : Option Addr) (c4 : Nat), (∃ rb tb, w.heap.size ≤ rb ∧ LiesSlot rb tb w' y.1 a3 c3 a4 c4) ∧ (if y.2 < s.size then ∃ fb, e = .returned (.tuple #[.agg (cellsSlot y.1 a3 c3 a4 c4), .iface 127 (.pointer (some ⟨fb, 0, none⟩))]) ∧ FltB w' fb 5 y.2 else e = .returned (.tuple #[.agg (cellsSlot y.1 a3 c3 a4 c4), .nilIface]))
set_option maxRecDepth 100000 in
set_option maxHeartbeats 8000000 in
theorem readSlot_any (B : Nat) (s : ByteArray) (w : World) (hT : Tabs B w) (hET : ErrType w) (hB : B ≤ w.heap.size) (hg : 0 < B) (hs : s.size ≤ 9223372036854775807) :
    Calls Tryz.prog 77 #[.string s, .func (.func 61) #[] #[]] w (RdSlot s w) := by
  have HT := Lib.hid hT
  have HET := Lib.hid hET
  have ef := enters_of Tryz.func61 (by kernel_rfl) rfl
  clear hT hET
  go_enter_defers Tryz.func77, Tryz.ntmps77
  go_wp2_with fail
  obtain ⟨tb, htb⟩ : ∃ tb, w.heap.size = tb := ⟨_, rfl⟩
  obtain ⟨W, hW⟩ : ∃ W, (w.alloc (.cells #[.int .u64 0, .bool false, .int .u64 0, .slice none 0 0, .slice none 0 0] 44)).alloc (.cells #[.nilIface] 59) = W := ⟨_, rfl⟩
  have WB : Hid (Below w.heap.size w W) := Lib.hid (by rw [← hW]; exact balloc (balloc (Below.refl _ _) _) _)
  have W0 : Hid (W.heap[tb]? = some (.cells #[.int .u64 0, .bool false, .int .u64 0, .slice none 0 0, .slice none 0 0] 44 (0, 0))) := Lib.hid (by rw [← hW, ← htb]; exact block_alloc (heap_alloc_new _ _) _)
  have W1 : Hid (W.heap[tb + 1]? = some (.cells #[.nilIface] 59 (0, 0))) := Lib.hid (by rw [← hW]; exact alloc_new_at _ (by simp [htb]))
  have hWs : W.heap.size = tb + 1 + 1 := by rw [← hW]; simp [htb]
  have HTW : Hid (w.heap.size = tb) := Lib.hid htb
  try rw [hW]
  try simp only [htb]
  clear hW htb
  refine (New_any W s 10240).mono ?_
  rintro e w1 ⟨rfl, hw1⟩
  have hm : max (10240 : Int) 0 = 10240 := by decide
  rw [hm] at hw1
  obtain ⟨rb, hrb⟩ : ∃ rb, W.heap.size = rb := ⟨_, rfl⟩
  have R1 : Hid (RdB w1 rb s 0 10240) := Lib.hid (by rw [hw1, ← hrb]; exact heap_alloc_new _ _)
  have WB1 : Hid (Below W.heap.size W w1) := Lib.hid (by rw [hw1]; exact balloc (Below.refl _ _) _)
  have hs1 : w1.heap.size = rb + 1 := by rw [hw1, ← hrb]; simp
  try rw [hrb]
  clear hw1
  go_upto_region 3 with fail
  obtain ⟨V, hV⟩ : ∃ V, w1.alloc (.cells #[.pointer (some ⟨rb, 0, none⟩)] 199) = V := ⟨_, rfl⟩
  have VB : Hid (Below w1.heap.size w1 V) := Lib.hid (by rw [← hV]; exact balloc (Below.refl _ _) _)
  have VQ : Hid (V.heap[rb + 1]? = some (.cells #[.pointer (some ⟨rb, 0, none⟩)] 199 (0, 0))) := Lib.hid (by rw [← hV]; exact alloc_new_at _ hs1)
  try rw [hV]
  try simp only [hs1]
  have hrbt : rb = tb + 1 + 1 := hrb.symm.trans hWs
  have hTW := HTW.out
  have BV : Hid (Below w.heap.size w V) := Lib.hid (bnext (bnext WB.out WB1.out) VB.out)
  have WV : Hid (Below W.heap.size W V) := Lib.hid (bnext WB1.out VB.out)
  have VT : Hid (V.heap[tb]? = some (.cells #[.int .u64 0, .bool false, .int .u64 0, .slice none 0 0, .slice none 0 0] 44 (0, 0))) := Lib.hid ((WV.out.block _ (lt_of_block W0.out)).trans W0.out)
  have VE : Hid (V.heap[tb + 1]? = some (.cells #[.nilIface] 59 (0, 0))) := Lib.hid ((WV.out.block _ (lt_of_block W1.out)).trans W1.out)
  have VR : Hid (RdB V rb s 0 10240) := Lib.hid (R1.out.below VB.out)
  have ENV : Hid (RdEnv B V (rb + 1) rb s 0) := Lib.hid ⟨VQ.out, VR.out, HT.out.below BV.out, by omega, by omega, by omega, Nat.zero_le _, hs⟩
  have E : TEnv B (rb + 1) rb tb 5 44 V := ⟨⟨_, VR.out⟩, ⟨_, VT.out⟩, by omega, by omega, by omega, by decide, by decide⟩
  have REC : Hid (RecAt rb tb 44 5 V slot0) := Lib.hid (rec_zero VT.out rfl (fun i hi => by
    match i, hi with
    | 0, _ => exact ⟨_, rfl, rfl⟩
    | 1, _ => exact ⟨_, rfl, rfl⟩
    | 2, _ => exact ⟨_, rfl, rfl⟩
    | 3, _ => exact ⟨_, rfl, rfl, rfl⟩
    | 4, _ => exact ⟨_, rfl, rfl, rfl⟩))
  have HOF := Lib.hid (rofSlot_any (x0 := slot0) (s := s) E 0 (by omega) ⟨rfl, rfl, ⟨rfl, rfl, rfl⟩⟩)
  have HE := Lib.hid E
  have G : Hid (GOk slot0 (slotGs s 0)) := Lib.hid (SlotOk s 0 ⟨rfl, rfl, ⟨rfl, rfl, rfl⟩⟩)
  have HRBT := Lib.hid hrbt
  clear hV E hrb hs1 hWs hrbt hTW
  go_wp2_with fail
  refine HOF.out.mono ?_
  rintro e w2 ⟨u, rfl, ⟨g, c, l, rfl, hc, hF, hS⟩, hb⟩
  have hl : (slotGs s 0).length = l.length := hS.1
  have hg := (HE.out.below hb).apart hF.ex
  have H2 := Lib.hid (robject_any B (rb + 1) rb tb g 0 c slot0 44 5 s w2 w2 l (slotGs s 0) 0 slot0 hF.flds hc (show l.length ≤ 1000 by rw [← hl]; exact Nat.le_of_ble_eq_true rfl) hS (Chg.refl _ _ _) hg HE.out.nq HE.out.le HE.out.ne G.out.keys G.out.disj G.out.frames G.out.kinds (fun i => rfl) (REC.out.below hb) (ENV.out.below hb) (fun i hi o ho => rfl))
  have HB := Lib.hid hb
  clear hF hS hb hl hc hg HOF ef
  go_wp2_with fail
  refine H2.out.mono ?_
  intro e w3 hh
  cases hr : objR s (slotGs s 0) slot0 0 with
  | error f =>
    rw [hr] at hh
    have HTH := Lib.hid (getIs_th hh)
    obtain ⟨fb, rfl, hf, hc3⟩ := getIs_err hh
    have HF := Lib.hid hf
    have HC := Lib.hid hc3
    have HR := Lib.hid hr
    clear hh hf hc3 hr H2
    go_wp2
    obtain ⟨cs, hcs, hcn⟩ := HTH.out
    have hce : w3.heap[tb + 1]? = some (.cells #[.nilIface] 59 (0, 0)) := (HC.out.block _ (Nat.lt_of_lt_of_le (lt_of_block VE.out) HB.out.size) (by have := HRBT.out; omega) (by omega)).trans ((HB.out.block _ (lt_of_block VE.out)).trans VE.out)
    refine leaves_cons (f := 140) (args := #[.pointer (some ⟨tb, 0, none⟩), .pointer (some ⟨tb + 1, 0, none⟩)]) (by simp) (by simp [go_sem]) ?_
    refine (read1Slot_some tb (tb + 1) fb cs w3 hcs (arr5 hcn) hce (by omega)).mono ?_
    rintro e u' w4 ⟨rfl, rfl, HA⟩
    have y0 : ∀ o, w4.cell? ⟨tb, o, none⟩ = _ := block_cell HA.th
    have y1 : w4.cell? ⟨tb + 1, 0, none⟩ = some (.iface 127 (.pointer (some ⟨fb, 0, none⟩))) := block_cell HA.er 0
    refine ⟨_, by simp [results, Tryz.results77, go_sem, y0, y1]; rfl, ?_⟩
    refine ⟨?_, by
      rw [HR.out]
      refine ⟨fb, rfl, (HA.block fb (lt_of_block HF.out) (fun e => ?_) (fun e => ?_)).trans HF.out⟩
      · subst e; have h9 := hcs.symm.trans HF.out; cases h9
      · subst e; have h9 := hce.symm.trans HF.out; cases h9⟩
    have hsz := HTW.out
    have hb9 := HRBT.out
    refine ⟨HA.os.trans (HC.out.os.trans (HB.out.os.trans BV.out.os)), HA.tape.trans (HC.out.tape.trans (HB.out.tape.trans BV.out.tape)), HA.output.trans (HC.out.output.trans (HB.out.output.trans BV.out.output)), Nat.le_trans BV.out.size (Nat.le_trans HB.out.size (Nat.le_trans HC.out.size HA.size)), fun i hi => ?_⟩
    have l1 := Nat.lt_of_lt_of_le hi BV.out.size
    have l2 := Nat.lt_of_lt_of_le l1 HB.out.size
    exact (HA.block i (Nat.lt_of_lt_of_le l2 HC.out.size) (by omega) (by omega)).trans ((HC.out.block i l2 (by omega) (by omega)).trans ((HB.out.block i l1).trans (BV.out.block i hi)))
  | ok q =>
    rw [hr] at hh
    obtain ⟨rfl, hrd, hle, hx3, hc3⟩ := getIs_ok hh
    have HRD := Lib.hid hrd
    have HC := Lib.hid hc3
    have HR := Lib.hid hr
    have HKD : Hid (Kd slot0 q.1) := Lib.hid (objR_kinds G.out.kinds hr (fun i => rfl))
    obtain ⟨a3, c3, a4, c4, hth, hlies⟩ := slot_of_rec hx3 HKD.out
    have HTH := Lib.hid hth
    have HLI := Lib.hid hlies
    clear hh hrd hx3 hc3 hr H2 hth hlies
    obtain ⟨x, a⟩ := q
    have hts : tb < w3.heap.size := lt_of_block HTH.out
    have HQ3 : Hid (w3.heap[rb + 1]? = some (.cells #[.pointer (some ⟨rb, 0, none⟩)] 199 (0, 0))) := Lib.hid ((HC.out.block _ (Nat.lt_of_lt_of_le (lt_of_block VQ.out) HB.out.size) (by omega) (by have := HRBT.out; omega)).trans ((HB.out.block _ (lt_of_block VQ.out)).trans VQ.out))
    have HE3 : Hid (w3.heap[tb + 1]? = some (.cells #[.nilIface] 59 (0, 0))) := Lib.hid ((HC.out.block _ (Nat.lt_of_lt_of_le (lt_of_block VE.out) HB.out.size) (by have := HRBT.out; omega) (by omega)).trans ((HB.out.block _ (lt_of_block VE.out)).trans VE.out))
    have HET3 : Hid (ErrType w3) := Lib.hid (by
      have h1 := HET.out.below BV.out
      have h2 := h1.below HB.out
      unfold ErrType at h2 ⊢
      rw [World.cell?_of_block (w := w2) (HC.out.block _ (lt_of_cell h2) (show 0 ≠ rb by have := HRBT.out; have := HTW.out; omega) (show 0 ≠ tb by have := HTW.out; omega))]
      exact h2)
    go_upto_region 4 with fail
    obtain ⟨VO, hVO⟩ : ∃ VO : Nat → Option Nat, VO = fun j => if j = 6 then some tb else none := ⟨_, rfl⟩
    have vo6 : VO 6 = some tb := by rw [hVO]; rfl
    have von : ∀ j, j ≠ 6 → VO j = none := fun j h1 => by rw [hVO]; simp [h1]
    have vob : ∀ j b, b ≠ tb → VO j ≠ some b := fun j b hb => by
      by_cases h : j = 6
      · subst h; rw [vo6]; simp; exact fun e => hb e.symm
      · rw [von j h]; simp
    clear hVO
    refine wp_region_tailV 7 VO (fun i j b h1 h2 => by
        by_cases e1 : i = 6
        · by_cases e2 : j = 6
          · rw [e1, e2]
          · rw [von j e2] at h2; cases h2
        · rw [von i e1] at h1; cases h1) (fun _ _ _ => True) (fun _ => True) (fun _ _ _ _ _ => True) (fun _ _ => trivial) trivial
      (phis [fun u _ => u = .agg (cellsSlot x a3 c3 a4 c4), fun u _ => u = .pointer (some ⟨rb + 1, 0, none⟩), fun u _ => u = .pointer (some ⟨rb + 1, 0, none⟩), fun u _ => u = .pointer (some ⟨rb + 1, 0, none⟩), fun u _ => u = .pointer (some ⟨rb, 0, none⟩), fun u w' => if a < s.size then ∃ fb, u = .iface 127 (.pointer (some ⟨fb, 0, none⟩)) ∧ FltB w' fb 5 a ∧ fb ≠ tb else u = .nilIface, fun _ w' => w'.heap[tb]? = some (.cells (cellsSlot x a3 c3 a4 c4) 44 (0, 0))]) rfl (by kernel_rfl) (by kernel_rfl)
      (monoV_of ⟨monoV_eq, monoV_eq, monoV_eq, monoV_eq, monoV_eq, ?m5, ?m6, trivial⟩) (fun _ _ _ _ _ => trivial) (fun _ _ _ _ _ _ _ _ _ _ _ => trivial) (stepsV_of 7 ⟨?s0, ?s1, ?s2, ?s3, ?s4, ?s5, ?s6, trivial⟩) ?_
    case m5 =>
      intro j hj u w1 w2 he hp
      by_cases hlt : a < s.size
      · simp only [hlt, if_true] at hp ⊢
        obtain ⟨fb, h1, h2, h3⟩ := hp
        refine ⟨fb, h1, (he.1.block fb (lt_of_block h2) ?_).trans h2, h3⟩
        exact fun e => vob j fb h3 e.symm
      · simp only [hlt, if_false] at hp ⊢; exact hp
    case m6 =>
      intro j hj u w1 w2 he hp
      refine (he.1.block tb (lt_of_block hp) ?_).trans hp
      rw [von j hj]; simp
    case s0 =>
      refine stepV_val (v := .agg (cellsSlot x a3 c3 a4 c4)) (fun _ _ => trivial) (fun _ _ _ _ => ⟨trivial, trivial⟩) (fun D av wv hE hO hD => ?_) (fun _ => rfl)
      have h6 : ¬ D 6 := hE.notyet 6 _ rfl { on := 0, ground := .data } (by simp) rfl hE.me
      have hb0 : wv.heap[tb]? = some (.cells (cellsSlot x a3 c3 a4 c4) 44 (0, 0)) := (hE.late 6 h6 tb vo6 hts).trans HTH.out
      have k0 : wv.cell? ⟨tb, 0, none⟩ = some (.int .u64 (x 0).n) := block_cell hb0 0
      have k1 : wv.cell? ⟨tb, 1, none⟩ = some (.bool (x 1).q) := block_cell hb0 1
      have k2 : wv.cell? ⟨tb, 2, none⟩ = some (.int .u64 (x 2).n) := block_cell hb0 2
      have k3 : wv.cell? ⟨tb, 3, none⟩ = some (.slice a3 (len (x 3).l) c3) := block_cell hb0 3
      have k4 : wv.cell? ⟨tb, 4, none⟩ = some (.slice a4 (len (x 4).l) c4) := block_cell hb0 4
      have h4 : av.eval (.tmp 4) = .pointer (some ⟨tb, 0, none⟩) := hO.2.2 4 rfl
      have f4 := (ev_form av 4).symm.trans h4
      refine ⟨rfl, ?_⟩
      simp [go_sem, f4, k0, k1, k2, k3, k4]
    case s1 =>
      refine stepV_val (v := .pointer (some ⟨rb + 1, 0, none⟩)) (fun _ _ => trivial) (fun _ _ _ _ => ⟨trivial, trivial⟩) (fun D av wv hE hO hD => ?_) (fun _ => rfl)
      have h6 : av.eval (.tmp 6) = .pointer (some ⟨rb + 1, 0, none⟩) := hO.2.2 6 rfl
      have f6 := (ev_form av 6).symm.trans h6
      refine ⟨rfl, ?_⟩
      simp [go_sem, f6]
    case s2 =>
      refine stepV_val (v := .pointer (some ⟨rb + 1, 0, none⟩)) (fun _ _ => trivial) (fun _ _ _ _ => ⟨trivial, trivial⟩) (fun D av wv hE hO hD => ?_) (fun _ => rfl)
      have d17 : av.eval (.tmp 17) = .pointer (some ⟨rb + 1, 0, none⟩) := hD.1 rfl _ rfl
      have f17 := (ev_form av 17).symm.trans d17
      refine ⟨rfl, ?_⟩
      simp [go_sem, f17]
    case s3 =>
      refine stepV_val (v := .pointer (some ⟨rb + 1, 0, none⟩)) (fun _ _ => trivial) (fun _ _ _ _ => ⟨trivial, trivial⟩) (fun D av wv hE hO hD => ?_) (fun _ => rfl)
      have d18 : av.eval (.tmp 18) = .pointer (some ⟨rb + 1, 0, none⟩) := hD.1 rfl _ rfl
      have f18 := (ev_form av 18).symm.trans d18
      refine ⟨rfl, ?_⟩
      simp [go_sem, f18]
    case s4 =>
      refine stepV_val (v := .pointer (some ⟨rb, 0, none⟩)) (fun _ _ => trivial) (fun _ _ _ _ => ⟨trivial, trivial⟩) (fun D av wv hE hO hD => ?_) (fun _ => rfl)
      have d19 : av.eval (.tmp 19) = .pointer (some ⟨rb + 1, 0, none⟩) := hD.1 rfl _ rfl
      have f19 := (ev_form av 19).symm.trans d19
      have k0 : wv.cell? ⟨rb + 1, 0, none⟩ = some (.pointer (some ⟨rb, 0, none⟩)) := block_cell ((hE.ext.block (rb + 1) (lt_of_block HQ3.out) (fun j => vob j _ (by have := HRBT.out; omega))).trans HQ3.out) 0
      refine ⟨rfl, ?_⟩
      simp [go_sem, f19, k0]
    case s5 =>
      refine stepV_wp (fun D av wv hPP hE hO hD => ?_)
      have d20 : av.eval (.tmp 20) = .pointer (some ⟨rb, 0, none⟩) := hD.1 rfl _ rfl
      have f20 := (ev_form av 20).symm.trans d20
      have hrd : RdB wv rb s a 10240 := (hE.ext.block rb (lt_of_block HRD.out) (fun j => vob j _ (by have := HRBT.out; omega))).trans HRD.out
      have het : ErrType wv := by
        have h2 : ErrType w3.drew := HET3.out
        unfold ErrType at h2 ⊢
        rw [World.cell?_of_block (w := w3.drew) (hE.ext.block _ (lt_of_cell h2) (fun j => vob j _ (show 0 ≠ tb by have := HTW.out; omega)))]
        exact h2
      have hvs : w3.heap.size ≤ wv.heap.size := hE.ext.size
      refine ⟨rfl, wp_of_callR (f := 124) (args := #[.pointer (some ⟨rb, 0, none⟩)]) (R := fun u w2 => Below wv.heap.size wv w2 ∧ (if a < s.size then ∃ fb, u = .iface 127 (.pointer (some ⟨fb, 0, none⟩)) ∧ FltB w2 fb 5 a ∧ fb ≠ tb else u = .nilIface)) (by simp [go_sem, f20]) ((End_any wv rb s a 10240 het hrd hle hs).mono fun e w2 hh => ?_) (fun u w2 ⟨h1, h2⟩ => ⟨u, rfl, esV_of_ext h1 trivial, h2, fun _ _ _ _ _ => ⟨trivial, trivial⟩⟩)⟩
      obtain ⟨h1, h2⟩ := hh
      unfold leftOf at h2
      by_cases hlt : a < s.size
      · simp only [hlt, if_true] at h2 ⊢
        obtain ⟨fb, h3, h4, h5⟩ := h2
        exact ⟨_, h3, h1, fb, rfl, h5, by omega⟩
      · simp only [hlt, if_false] at h2 ⊢
        exact ⟨_, h2, h1, rfl⟩
    case s6 =>
      refine stepV_wp (fun D av wv hPP hE hO hD => ?_)
      have d16 : av.eval (.tmp 16) = .agg (cellsSlot x a3 c3 a4 c4) := hD.1 rfl _ rfl
      have f16 := (ev_form av 16).symm.trans d16
      have h4 : av.eval (.tmp 4) = .pointer (some ⟨tb, 0, none⟩) := hO.2.2 4 rfl
      have f4 := (ev_form av 4).symm.trans h4
      have hq : wv.heap[tb]? = some (.cells (cellsSlot x a3 c3 a4 c4) 44 (0, 0)) := (hE.own tb vo6 hts).trans HTH.out
      have k0 : wv.cell? ⟨tb, 0, none⟩ = some (.int .u64 (x 0).n) := block_cell hq 0
      have k1 : wv.cell? ⟨tb, 1, none⟩ = some (.bool (x 1).q) := block_cell hq 1
      have k2 : wv.cell? ⟨tb, 2, none⟩ = some (.int .u64 (x 2).n) := block_cell hq 2
      have k3 : wv.cell? ⟨tb, 3, none⟩ = some (.slice a3 (len (x 3).l) c3) := block_cell hq 3
      have k4 : wv.cell? ⟨tb, 4, none⟩ = some (.slice a4 (len (x 4).l) c4) := block_cell hq 4
      have hz : ∀ o, wv.frozen? ⟨tb, o, none⟩ = false := block_free hq
      have l0 : tb < wv.heap.size := lt_of_block hq
      refine ⟨rfl, ?_⟩
      unfold Oper.wp
      simp [go_sem, f4, f16, hz, l0, k0, k1, k2, k3, k4]
      exact ⟨⟨by rw [vo6]; exact (extB_setIn (extB_setIn (extB_setIn (extB_setIn (extB_setIn (ExtB_refl _ _) 0 _) 1 _) 2 _) 3 _) 4 _), trivial⟩, undef, (block_setCell (block_setCell (block_setCell (block_setCell (block_setCell hq (o := 0) _) (o := 1) _) (o := 2) _) (o := 3) _) (o := 4) _), fun _ _ _ _ _ => ⟨trivial, trivial⟩⟩
    intro a' w' hE _ hO hall _
    have hA := act_of_outer (ds := [16, 17, 18, 19, 20, 21]) rfl hO (by kernel_rfl)
    have e16 : (fun u (_ : World) => u = .agg (cellsSlot x a3 c3 a4 c4)) (a'.eval (.tmp 16)) w' := hall.1 _ rfl
    have e17 : (fun u (_ : World) => u = .pointer (some ⟨rb + 1, 0, none⟩)) (a'.eval (.tmp 17)) w' := hall.2.1 _ rfl
    have e18 : (fun u (_ : World) => u = .pointer (some ⟨rb + 1, 0, none⟩)) (a'.eval (.tmp 18)) w' := hall.2.2.1 _ rfl
    have e19 : (fun u (_ : World) => u = .pointer (some ⟨rb + 1, 0, none⟩)) (a'.eval (.tmp 19)) w' := hall.2.2.2.1 _ rfl
    have e20 : (fun u (_ : World) => u = .pointer (some ⟨rb, 0, none⟩)) (a'.eval (.tmp 20)) w' := hall.2.2.2.2.1 _ rfl
    have e21 : (fun u w' => if a < s.size then ∃ fb, u = .iface 127 (.pointer (some ⟨fb, 0, none⟩)) ∧ FltB w' fb 5 a ∧ fb ≠ tb else u = .nilIface) (a'.eval (.tmp 21)) w' := hall.2.2.2.2.2.1 _ rfl
    have z6 : w'.heap[tb]? = some (.cells (cellsSlot x a3 c3 a4 c4) 44 (0, 0)) := hall.2.2.2.2.2.2.1 _ rfl
    obtain ⟨v21, hv21⟩ : ∃ v, a'.eval (.tmp 21) = v := ⟨_, rfl⟩
    rw [hv21] at e21
    simp only [List.foldl_cons, List.foldl_nil, Act.put, List.setIfInBounds_toArray, List.set_cons_succ, List.set_cons_zero, e16, e17, e18, e19, e20, hv21] at hA
    clear hO hall e16 e17 e18 e19 e20 hv21
    subst hA
    have HX4 : Hid (ExtS VO w3 w') := Lib.hid ⟨hE.os, hE.tape, hE.output, hE.size, hE.block⟩
    have HZ6 := Lib.hid z6
    have hbe : w'.heap[tb + 1]? = some (.cells #[.nilIface] 59 (0, 0)) := (HX4.out.block _ (lt_of_block HE3.out) (fun j => vob j _ (by omega))).trans HE3.out
    have HBE := Lib.hid hbe
    have g0 : w'.cell? ⟨tb + 1, 0, none⟩ = some .nilIface := block_cell hbe 0
    have g1 : w'.frozen? ⟨tb + 1, 0, none⟩ = false := block_free hbe 0
    have HVO : Hid (∀ j b, b ≠ tb → VO j ≠ some b) := Lib.hid vob
    have HFIN : ∀ v, Hid (Below w.heap.size w (w'.setCell ⟨tb + 1, 0, none⟩ v)) := fun v => Lib.hid (by
      have hsz := HTW.out
      have hb9 := HRBT.out
      refine ⟨HX4.out.os.trans (HC.out.os.trans (HB.out.os.trans BV.out.os)), HX4.out.tape.trans (HC.out.tape.trans (HB.out.tape.trans BV.out.tape)), HX4.out.output.trans (HC.out.output.trans (HB.out.output.trans BV.out.output)), by simpa using Nat.le_trans BV.out.size (Nat.le_trans HB.out.size (Nat.le_trans HC.out.size HX4.out.size)), fun i hi => ?_⟩
      have l1 := Nat.lt_of_lt_of_le hi BV.out.size
      have l2 := Nat.lt_of_lt_of_le l1 HB.out.size
      rw [Below.heap_setCell _ _ _ _ (show i ≠ tb + 1 by omega)]
      exact (HX4.out.block i (Nat.lt_of_lt_of_le l2 HC.out.size) (fun j => HVO.out j i (by omega))).trans ((HC.out.block i l2 (by omega) (by omega)).trans ((HB.out.block i l1).trans (BV.out.block i hi))))
    have HLF : ∀ v, Hid (LiesSlot rb tb (w'.setCell ⟨tb + 1, 0, none⟩ v) x a3 c3 a4 c4) := fun v => Lib.hid (HLI.out.up (fun b h1 h2 => by
      have hb9 := HRBT.out
      rw [Below.heap_setCell _ _ _ _ (show b ≠ tb + 1 by omega)]
      exact HX4.out.block b h2 (fun j => HVO.out j b (by omega))))
    have HTF : ∀ v o, (w'.setCell ⟨tb + 1, 0, none⟩ v).cell? ⟨tb, o, none⟩ = (cellsSlot x a3 c3 a4 c4)[o]? := fun v o => block_cell (block_setCell_ne HZ6.out (by show tb ≠ tb + 1; omega) v) o
    have HEF : ∀ v, (w'.setCell ⟨tb + 1, 0, none⟩ v).cell? ⟨tb + 1, 0, none⟩ = some v := fun v => block_cell (block_setCell HBE.out v) 0
    have HTFH := Lib.hid HTF
    have HEFH := Lib.hid HEF
    clear hE z6 hbe vo6 von vob HTF HEF
    by_cases hlt : a < s.size
    · simp only [hlt, if_true] at e21
      obtain ⟨fb, rfl, hf, hft⟩ := e21
      have HF := Lib.hid hf
      have HLT := Lib.hid hlt
      clear hf hlt
      go_wp2
      refine leaves_cons (f := 140) (args := #[.pointer (some ⟨tb, 0, none⟩), .pointer (some ⟨tb + 1, 0, none⟩)]) (by simp) (by simp [go_sem]) ?_
      refine (read1Slot_idle _ _ _).mono ?_
      rintro e u' w'' ⟨rfl, rfl, rfl⟩
      have y0 := HTFH.out (.iface 127 (.pointer (some ⟨fb, 0, none⟩)))
      have y1 := HEFH.out (.iface 127 (.pointer (some ⟨fb, 0, none⟩)))
      refine ⟨_, by simp [results, Tryz.results77, go_sem, y0, y1]; rfl, ?_⟩
      refine ⟨(HFIN _).out, ?_⟩
      rw [HR.out]
      refine ⟨HKD.out, hle, a3, c3, a4, c4, ⟨rb, tb, by have := HRBT.out; have := HTW.out; omega, (HLF _).out⟩, ?_⟩
      rw [if_pos HLT.out]
      exact ⟨fb, rfl, block_setCell_ne HF.out (by intro e; subst e; have h9 := HBE.out.symm.trans HF.out; cases h9) _⟩
    · simp only [hlt, if_false] at e21
      subst e21
      have HLT := Lib.hid hlt
      clear hlt
      go_wp2
      refine leaves_cons (f := 140) (args := #[.pointer (some ⟨tb, 0, none⟩), .pointer (some ⟨tb + 1, 0, none⟩)]) (by simp) (by simp [go_sem]) ?_
      refine (read1Slot_idle _ _ _).mono ?_
      rintro e u' w'' ⟨rfl, rfl, rfl⟩
      have y0 := HTFH.out .nilIface
      have y1 := HEFH.out .nilIface
      refine ⟨_, by simp [results, Tryz.results77, go_sem, y0, y1]; rfl, ?_⟩
      refine ⟨(HFIN _).out, ?_⟩
      rw [HR.out]
      refine ⟨HKD.out, hle, a3, c3, a4, c4, ⟨rb, tb, by have := HRBT.out; have := HTW.out; omega, (HLF _).out⟩, ?_⟩
      rw [if_neg HLT.out]
def LiesCert (rb tb : Nat) (w : World) (x : Rcd) (a2 : Option Addr) (c2 : Nat) (a3 : Option Addr) (c3 : Nat) (a4 : Option Addr) (c4 : Nat) (a5 : Option Addr) (c5 : Nat) : Prop := HoldsD rb tb w (.slice a2 (len (x 2).rs) c2) (x 2) ∧ HoldsD rb tb w (.slice a3 (len (x 3).ns) c3) (x 3) ∧ HoldsD rb tb w (.slice a4 (len (x 4).l) c4) (x 4) ∧ HoldsD rb tb w (.slice a5 (len (x 5).l) c5) (x 5)
theorem LiesCert.below {rb tb : Nat} {w w' : World} {x : Rcd} {a2 : Option Addr} {c2 : Nat} {a3 : Option Addr} {c3 : Nat} {a4 : Option Addr} {c4 : Nat} {a5 : Option Addr} {c5 : Nat} (h : LiesCert rb tb w x a2 c2 a3 c3 a4 c4 a5 c5) (hb : Below w.heap.size w w') : LiesCert rb tb w' x a2 c2 a3 c3 a4 c4 a5 c5 := ⟨h.1.chg (Chg.of_below hb), h.2.1.chg (Chg.of_below hb), h.2.2.1.chg (Chg.of_below hb), h.2.2.2.chg (Chg.of_below hb)⟩
theorem LiesCert.chg {rb tb : Nat} {w w' : World} {x : Rcd} {a2 : Option Addr} {c2 : Nat} {a3 : Option Addr} {c3 : Nat} {a4 : Option Addr} {c4 : Nat} {a5 : Option Addr} {c5 : Nat} (h : LiesCert rb tb w x a2 c2 a3 c3 a4 c4 a5 c5) (hb : Chg rb tb w w') : LiesCert rb tb w' x a2 c2 a3 c3 a4 c4 a5 c5 := ⟨h.1.chg hb, h.2.1.chg hb, h.2.2.1.chg hb, h.2.2.2.chg hb⟩
theorem LiesCert.up {rb tb : Nat} {w w' : World} {x : Rcd} {a2 : Option Addr} {c2 : Nat} {a3 : Option Addr} {c3 : Nat} {a4 : Option Addr} {c4 : Nat} {a5 : Option Addr} {c5 : Nat} (h : LiesCert rb tb w x a2 c2 a3 c3 a4 c4 a5 c5) (hb : Up rb w w') : LiesCert rb tb w' x a2 c2 a3 c3 a4 c4 a5 c5 := ⟨h.1.up hb, h.2.1.up hb, h.2.2.1.up hb, h.2.2.2.up hb⟩
abbrev cellsMsg (x : Rcd) : Array Value := #[.string (x 0).s, .string (x 1).s, .int .u64 (x 2).n, .int .u64 (x 3).n, .int .u64 (x 4).n, .int .u64 (x 5).n]
abbrev zeroMsg : Value := .agg #[.string ⟨#[]⟩, .string ⟨#[]⟩, .int .u64 0, .int .u64 0, .int .u64 0, .int .u64 0]
def LiesMsg (rb tb : Nat) (w : World) (x : Rcd) : Prop := True
theorem LiesMsg.below {rb tb : Nat} {w w' : World} {x : Rcd} (h : LiesMsg rb tb w x) (hb : Below w.heap.size w w') : LiesMsg rb tb w' x := trivial
theorem LiesMsg.chg {rb tb : Nat} {w w' : World} {x : Rcd} (h : LiesMsg rb tb w x) (hb : Chg rb tb w w') : LiesMsg rb tb w' x := trivial
theorem LiesMsg.up {rb tb : Nat} {w w' : World} {x : Rcd} (h : LiesMsg rb tb w x) (hb : Up rb w w') : LiesMsg rb tb w' x := trivial
theorem msg_of_rec {rb tb : Nat} {w : World} {x : Rcd} (h : RecAt rb tb 76 6 w x) (hk : Kd msg0 x) : ∃ (_ : Unit), w.heap[tb]? = some (.cells (cellsMsg x) 76 (0, 0)) ∧ LiesMsg rb tb w x := by
  obtain ⟨cs, h1, h2, h3⟩ := h
  obtain ⟨m0, e0⟩ := hk.str (show kindD (msg0 0) = _ from rfl)
  obtain ⟨u0, g0, d0⟩ := h3 0 (by decide)
  rw [e0] at d0
  simp only [HoldsD] at d0
  subst d0
  obtain ⟨m1, e1⟩ := hk.str (show kindD (msg0 1) = _ from rfl)
  obtain ⟨u1, g1, d1⟩ := h3 1 (by decide)
  rw [e1] at d1
  simp only [HoldsD] at d1
  subst d1
  obtain ⟨m2, e2⟩ := hk.num (show kindD (msg0 2) = _ from rfl)
  obtain ⟨u2, g2, d2⟩ := h3 2 (by decide)
  rw [e2] at d2
  simp only [HoldsD] at d2
  subst d2
  obtain ⟨m3, e3⟩ := hk.num (show kindD (msg0 3) = _ from rfl)
  obtain ⟨u3, g3, d3⟩ := h3 3 (by decide)
  rw [e3] at d3
  simp only [HoldsD] at d3
  subst d3
  obtain ⟨m4, e4⟩ := hk.num (show kindD (msg0 4) = _ from rfl)
  obtain ⟨u4, g4, d4⟩ := h3 4 (by decide)
  rw [e4] at d4
  simp only [HoldsD] at d4
  subst d4
  obtain ⟨m5, e5⟩ := hk.num (show kindD (msg0 5) = _ from rfl)
  obtain ⟨u5, g5, d5⟩ := h3 5 (by decide)
  rw [e5] at d5
  simp only [HoldsD] at d5
  subst d5
  refine ⟨(), ?_, ?_⟩
  · rw [h1]; congr 2; apply Array.ext_getElem?; intro i
    match i with
    | 0 => rw [g0]; simp [e0, DV.n, DV.q, DV.s, DV.l, DV.ns, DV.rs]
    | 1 => rw [g1]; simp [e1, DV.n, DV.q, DV.s, DV.l, DV.ns, DV.rs]
    | 2 => rw [g2]; simp [e2, DV.n, DV.q, DV.s, DV.l, DV.ns, DV.rs]
    | 3 => rw [g3]; simp [e3, DV.n, DV.q, DV.s, DV.l, DV.ns, DV.rs]
    | 4 => rw [g4]; simp [e4, DV.n, DV.q, DV.s, DV.l, DV.ns, DV.rs]
    | 5 => rw [g5]; simp [e5, DV.n, DV.q, DV.s, DV.l, DV.ns, DV.rs]
    | i + 6 => rw [Array.getElem?_eq_none (by omega), Array.getElem?_eq_none (by simp)]
  · trivial
set_option maxRecDepth 100000 in
theorem read1Msg_idle (p q : Value) (w : World) : CallsD Tryz.prog 143 #[p, q] .returning w fun e u' w' => e = .returned (.tuple #[]) ∧ u' = .returning ∧ w' = w := by
  refine callsD_of_wpS Tryz.func143 rfl fun c₀ cs hu => ?_
  apply wpS_seq
  apply wpS_region
  simp [wpOpsS, go_sem, recoverD, hu, Tryz.ntmps143, Exit.thenS]
  refine wpS_of_wp ?_
  obtain ⟨Q, hQ⟩ : ∃ Q : Exit → Act → World → Prop, (fun e a' w' => bodyPostS Tryz.prog Tryz.f143 c₀ cs (fun e u' w' => e = Ending.returned (.tuple #[]) ∧ u' = .returning ∧ w' = w) e a' (c₀ :: cs) w') = Q := ⟨_, rfl⟩
  rw [hQ, read1_frame]
  have HQ := Lib.hid hQ
  clear hQ
  go_wp2
  rw [← HQ.out]
  simp [bodyPostS, results, Tryz.results143]
  cases c₀; simp_all
structure AfterMsg (tb eb fb : Nat) (w w' : World) : Prop where
  os : w'.os = w.os
  tape : w'.tape = w.tape
  output : w'.output = w.output
  size : w.heap.size ≤ w'.heap.size
  block : ∀ i, i < w.heap.size → i ≠ tb → i ≠ eb → w'.heap[i]? = w.heap[i]?
  th : w'.heap[tb]? = some (.cells #[.string ⟨#[]⟩, .string ⟨#[]⟩, .int .u64 0, .int .u64 0, .int .u64 0, .int .u64 0] 76 (0, 0))
  er : w'.heap[eb]? = some (.cells #[.iface 127 (.pointer (some ⟨fb, 0, none⟩))] 59 (0, 0))
set_option maxRecDepth 100000 in
set_option maxHeartbeats 4000000 in
theorem read1Msg_some (tb eb fb : Nat) (cs : Array Value) (w : World) (ht : w.heap[tb]? = some (.cells cs 76 (0, 0))) (hcs : ∃ u0 u1 u2 u3 u4 u5 : Value, cs = #[u0, u1, u2, u3, u4, u5] ) (he : w.heap[eb]? = some (.cells #[.nilIface] 59 (0, 0))) (hne : tb ≠ eb) :
    CallsD Tryz.prog 143 #[.pointer (some ⟨tb, 0, none⟩), .pointer (some ⟨eb, 0, none⟩)] (.panicking (stopC fb)) w fun e u' w' =>
      e = .returned (.tuple #[]) ∧ u' = .panicking [{ v := .iface 193 (.agg #[.iface 127 (.pointer (some ⟨fb, 0, none⟩))]), recovered := true }] ∧ AfterMsg tb eb fb w w' := by
  obtain ⟨u0, u1, u2, u3, u4, u5, rfl⟩ := hcs
  refine callsD_of_wpS Tryz.func143 rfl fun c₀ cs hu => ?_
  apply wpS_seq
  apply wpS_region
  simp [wpOpsS, go_sem, recoverD, hu, stopC, Tryz.ntmps143, Exit.thenS]
  refine wpS_of_wp ?_
  obtain ⟨Q, hQ⟩ : ∃ Q : Exit → Act → World → Prop, (fun e a' w' => bodyPostS Tryz.prog Tryz.f143 c₀ cs (fun e u' w' => e = Ending.returned (.tuple #[]) ∧ u' = .panicking [{ v := .iface 193 (.agg #[.iface 127 (.pointer (some ⟨fb, 0, none⟩))]), recovered := true }] ∧ AfterMsg tb eb fb w w') e a' ({ c₀ with mode := .panicking [{ v := .iface 193 (.agg #[.iface 127 (.pointer (some ⟨fb, 0, none⟩))]), recovered := true }] } :: cs) w') = Q := ⟨_, rfl⟩
  rw [hQ, read1_frame]
  have HQ := Lib.hid hQ
  have HT := Lib.hid ht
  have HE := Lib.hid he
  clear hQ hu ht he
  have ha := assert_stop fb
  go_wp2_with fail
  obtain ⟨V, hV⟩ : ∃ V, (w.alloc (.cells #[.iface 127 (.pointer (some ⟨fb, 0, none⟩))] 193)).alloc (.cells #[.string ⟨#[]⟩, .string ⟨#[]⟩, .int .u64 0, .int .u64 0, .int .u64 0, .int .u64 0] 76) = V := ⟨_, rfl⟩
  obtain ⟨sb, hsb⟩ : ∃ sb, w.heap.size = sb := ⟨_, rfl⟩
  have HV : Hid (Below w.heap.size w V) := Lib.hid (by rw [← hV]; exact balloc (balloc (Below.refl _ _) _) _)
  have hbs : V.heap[sb]? = some (.cells #[.iface 127 (.pointer (some ⟨fb, 0, none⟩))] 193 (0, 0)) := by rw [← hV, ← hsb]; exact block_alloc (heap_alloc_new _ _) _
  have hbn : V.heap[sb + 1]? = some (.cells #[.string ⟨#[]⟩, .string ⟨#[]⟩, .int .u64 0, .int .u64 0, .int .u64 0, .int .u64 0] 76 (0, 0)) := by rw [← hV]; exact alloc_new_at _ (by simp [hsb])
  have hbt : V.heap[tb]? = some (.cells #[u0, u1, u2, u3, u4, u5] 76 (0, 0)) := (HV.out.block _ (lt_of_block HT.out)).trans HT.out
  have hbe : V.heap[eb]? = some (.cells #[.nilIface] 59 (0, 0)) := (HV.out.block _ (lt_of_block HE.out)).trans HE.out
  have k0 : V.cell? ⟨sb, 0, none⟩ = some (.iface 127 (.pointer (some ⟨fb, 0, none⟩))) := block_cell hbs 0
  have m0 : V.cell? ⟨sb + 1, 0, none⟩ = some (.string ⟨#[]⟩) := block_cell hbn 0
  have m1 : V.cell? ⟨sb + 1, 1, none⟩ = some (.string ⟨#[]⟩) := block_cell hbn 1
  have m2 : V.cell? ⟨sb + 1, 2, none⟩ = some (.int .u64 0) := block_cell hbn 2
  have m3 : V.cell? ⟨sb + 1, 3, none⟩ = some (.int .u64 0) := block_cell hbn 3
  have m4 : V.cell? ⟨sb + 1, 4, none⟩ = some (.int .u64 0) := block_cell hbn 4
  have m5 : V.cell? ⟨sb + 1, 5, none⟩ = some (.int .u64 0) := block_cell hbn 5
  have hts : tb < sb := by have := lt_of_block HT.out; omega
  have hnt : some (sb + 1) ≠ some tb := by simp; omega
  have hst : some sb ≠ some tb := by simp; omega
  have HBT := Lib.hid hbt
  have HBE := Lib.hid hbe
  try rw [hV]
  try simp only [hsb]
  clear hV hbs hbn hbt hbe ha
  refine wp_region_tail 4 3 ((some tb)) (phis [fun u _ => u = (.agg #[.string ⟨#[]⟩, .string ⟨#[]⟩, .int .u64 0, .int .u64 0, .int .u64 0, .int .u64 0]), fun u _ => u = (.pointer (some ⟨sb, 0, none⟩)), fun u _ => u = (.iface 127 (.pointer (some ⟨fb, 0, none⟩))), fun _ w' => w'.heap[tb]? = some (.cells #[.string ⟨#[]⟩, .string ⟨#[]⟩, .int .u64 0, .int .u64 0, .int .u64 0, .int .u64 0] 76 (0, 0))]) rfl (by kernel_rfl) (by kernel_rfl) (mono_of ⟨mono_eq, mono_eq, mono_eq, ?m3, trivial⟩) (steps_of 4 ⟨?s0, ?s1, ?s2, ?s3, trivial⟩) ?_
  case m3 =>
    exact ⟨fun u w1 w2 h hb => ext_block h hb, fun hn => absurd rfl hn⟩
  case s0 =>
    refine step_val (v := (.agg #[.string ⟨#[]⟩, .string ⟨#[]⟩, .int .u64 0, .int .u64 0, .int .u64 0, .int .u64 0])) (fun av wv hE hS hO hD => ?_) (fun _ => rfl)
    have h5 : av.eval (.tmp 5) = (.pointer (some ⟨sb + 1, 0, none⟩)) := hO.2.2 5 rfl
    have f5 := (ev_form av 5).symm.trans h5
    have k0 := extB_cell hE hst k0
    have m0 := extB_cell hE hnt m0
    have m1 := extB_cell hE hnt m1
    have m2 := extB_cell hE hnt m2
    have m3 := extB_cell hE hnt m3
    have m4 := extB_cell hE hnt m4
    have m5 := extB_cell hE hnt m5
    refine ⟨rfl, ?_⟩
    simp [go_sem, f5, k0, m0, m1, m2, m3, m4, m5]
  case s1 =>
    refine step_val (v := (.pointer (some ⟨sb, 0, none⟩))) (fun av wv hE hS hO hD => ?_) (fun _ => rfl)
    have h3 : av.eval (.tmp 3) = (.pointer (some ⟨sb, 0, none⟩)) := hO.2.2 3 rfl
    have f3 := (ev_form av 3).symm.trans h3
    refine ⟨rfl, ?_⟩
    simp [go_sem, f3]
  case s2 =>
    refine step_val (v := (.iface 127 (.pointer (some ⟨fb, 0, none⟩)))) (fun av wv hE hS hO hD => ?_) (fun _ => rfl)
    have d18 : av.eval (.tmp 18) = (.pointer (some ⟨sb, 0, none⟩)) := hD.1 rfl _ rfl
    have f18 := (ev_form av 18).symm.trans d18
    have k0 := extB_cell hE hst k0
    have m0 := extB_cell hE hnt m0
    have m1 := extB_cell hE hnt m1
    have m2 := extB_cell hE hnt m2
    have m3 := extB_cell hE hnt m3
    have m4 := extB_cell hE hnt m4
    have m5 := extB_cell hE hnt m5
    refine ⟨rfl, ?_⟩
    simp [go_sem, f18, k0, m0, m1, m2, m3, m4, m5]
  case s3 =>
    refine step_wp (fun av wv hE hS hO hD => ?_)
    have h0 : av.eval (.tmp 0) = (.pointer (some ⟨tb, 0, none⟩)) := hO.2.2 0 rfl
    have f0 := (ev_form av 0).symm.trans h0
    have d17 : av.eval (.tmp 17) = (.agg #[.string ⟨#[]⟩, .string ⟨#[]⟩, .int .u64 0, .int .u64 0, .int .u64 0, .int .u64 0]) := hD.1 rfl _ rfl
    have f17 := (ev_form av 17).symm.trans d17
    refine ⟨rfl, ?_⟩
    have hq : wv.heap[tb]? = some (.cells #[u0, u1, u2, u3, u4, u5] 76 (0, 0)) := ext_block (w := V.drew) (hS rfl) HBT.out
    have q0 : wv.cell? ⟨tb, 0, none⟩ = some u0 := block_cell hq 0
    have q1 : wv.cell? ⟨tb, 1, none⟩ = some u1 := block_cell hq 1
    have q2 : wv.cell? ⟨tb, 2, none⟩ = some u2 := block_cell hq 2
    have q3 : wv.cell? ⟨tb, 3, none⟩ = some u3 := block_cell hq 3
    have q4 : wv.cell? ⟨tb, 4, none⟩ = some u4 := block_cell hq 4
    have q5 : wv.cell? ⟨tb, 5, none⟩ = some u5 := block_cell hq 5
    have hz : ∀ o, wv.frozen? ⟨tb, o, none⟩ = false := block_free hq
    unfold Oper.wp
    have l0 : tb < wv.heap.size := lt_of_block hq
    have h0 : av.eval (.tmp 0) = (.pointer (some ⟨tb, 0, none⟩)) := hO.2.2 0 rfl
    have f0 := (ev_form av 0).symm.trans h0
    simp [go_sem, f0, f17, hz, l0, q0, q1, q2, q3, q4, q5]
    exact ⟨es_sp (extB_setIn (extB_setIn (extB_setIn (extB_setIn (extB_setIn (extB_setIn (ExtB_refl _ _) 0 _) 1 _) 2 _) 3 _) 4 _) 5 _), undef, (block_setCell (block_setCell (block_setCell (block_setCell (block_setCell (block_setCell hq (o := 0) _) (o := 1) _) (o := 2) _) (o := 3) _) (o := 4) _) (o := 5) _)⟩
  intro a' w' hE hO hall
  have hA := act_of_outer (ds := [17, 18, 19]) rfl hO (by kernel_rfl)
  have e17 : (fun u _ => u = (.agg #[.string ⟨#[]⟩, .string ⟨#[]⟩, .int .u64 0, .int .u64 0, .int .u64 0, .int .u64 0])) (a'.eval (.tmp 17)) w' := hall.1 _ rfl
  have e18 : (fun u _ => u = (.pointer (some ⟨sb, 0, none⟩))) (a'.eval (.tmp 18)) w' := hall.2.1 _ rfl
  have e19 : (fun u _ => u = (.iface 127 (.pointer (some ⟨fb, 0, none⟩)))) (a'.eval (.tmp 19)) w' := hall.2.2.1 _ rfl
  have z3 : (fun _ w' => w'.heap[tb]? = some (.cells #[.string ⟨#[]⟩, .string ⟨#[]⟩, .int .u64 0, .int .u64 0, .int .u64 0, .int .u64 0] 76 (0, 0))) undef w' := hall.2.2.2.1 _ rfl
  simp only [List.foldl_cons, List.foldl_nil, Act.put, List.setIfInBounds_toArray, List.set_cons_succ, List.set_cons_zero, e17, e18, e19] at hA
  clear hO hall e17 e18 e19
  subst hA
  have HE := Lib.hid (of_drewE hE)
  have HZ := Lib.hid z3
  have hbe : w'.heap[eb]? = some (.cells #[.nilIface] 59 (0, 0)) := extB_block HE.out (by simp; exact fun e => hne e.symm) HBE.out
  have HBE := Lib.hid hbe
  have q0 : w'.cell? ⟨eb, 0, none⟩ = some .nilIface := block_cell hbe 0
  have q1 : w'.frozen? ⟨eb, 0, none⟩ = false := block_free hbe 0
  clear hE z3 hbe
  go_wp2
  rw [← HQ.out]
  have hs1 : (w'.setCell ⟨eb, 0, none⟩ (.iface 127 (.pointer (some ⟨fb, 0, none⟩)))).heap.size = w'.heap.size := by simp
  refine ⟨rfl, _, rfl, .tuple #[], by simp [results, Tryz.results143], rfl, rfl, ?_⟩
  exact ⟨HE.out.os.trans HV.out.os, HE.out.tape.trans HV.out.tape, HE.out.output.trans HV.out.output, by rw [hs1]; exact Nat.le_trans HV.out.size HE.out.size, fun i hi h1 h2 => by
    rw [Below.heap_setCell _ _ _ _ h2]
    exact (HE.out.block i (Nat.lt_of_lt_of_le hi HV.out.size) (by simpa using h1)).trans (HV.out.block i hi), block_setCell_ne HZ.out hne _, block_setCell HBE.out _⟩
def RdMsg (s : ByteArray) (w : World) (e : Ending) (w' : World) : Prop :=
  Below w.heap.size w w' ∧ match objR s (msgGs s) msg0 0 with
    | .error f => ∃ fb, e = .returned (.tuple #[zeroMsg, .iface 127 (.pointer (some ⟨fb, 0, none⟩))]) ∧ FltB w' fb f.1 f.2
    | .ok y => Kd msg0 y.1 ∧ y.2 ≤ s.size ∧ (∃ rb tb, w.heap.size ≤ rb ∧ LiesMsg rb tb w' y.1) ∧ (if y.2 < s.size then ∃ fb, e = .returned (.tuple #[.agg (cellsMsg y.1), .iface 127 (.pointer (some ⟨fb, 0, none⟩))]) ∧ FltB w' fb 5 y.2 else e = .returned (.tuple #[.agg (cellsMsg y.1), .nilIface]))
set_option maxRecDepth 100000 in
set_option maxHeartbeats 8000000 in
theorem readMsg_any (B : Nat) (s : ByteArray) (w : World) (hT : Tabs B w) (hET : ErrType w) (hB : B ≤ w.heap.size) (hg : 0 < B) (hs : s.size ≤ 9223372036854775807) :
    Calls Tryz.prog 87 #[.string s, .func (.func 80) #[] #[]] w (RdMsg s w) := by
  have HT := Lib.hid hT
  have HET := Lib.hid hET
  have ef := enters_of Tryz.func80 (by kernel_rfl) rfl
  clear hT hET
  go_enter_defers Tryz.func87, Tryz.ntmps87
  go_wp2_with fail
  obtain ⟨tb, htb⟩ : ∃ tb, w.heap.size = tb := ⟨_, rfl⟩
  obtain ⟨W, hW⟩ : ∃ W, (w.alloc (.cells #[.string ⟨#[]⟩, .string ⟨#[]⟩, .int .u64 0, .int .u64 0, .int .u64 0, .int .u64 0] 76)).alloc (.cells #[.nilIface] 59) = W := ⟨_, rfl⟩
  have WB : Hid (Below w.heap.size w W) := Lib.hid (by rw [← hW]; exact balloc (balloc (Below.refl _ _) _) _)
  have W0 : Hid (W.heap[tb]? = some (.cells #[.string ⟨#[]⟩, .string ⟨#[]⟩, .int .u64 0, .int .u64 0, .int .u64 0, .int .u64 0] 76 (0, 0))) := Lib.hid (by rw [← hW, ← htb]; exact block_alloc (heap_alloc_new _ _) _)
  have W1 : Hid (W.heap[tb + 1]? = some (.cells #[.nilIface] 59 (0, 0))) := Lib.hid (by rw [← hW]; exact alloc_new_at _ (by simp [htb]))
  have hWs : W.heap.size = tb + 1 + 1 := by rw [← hW]; simp [htb]
  have HTW : Hid (w.heap.size = tb) := Lib.hid htb
  try rw [hW]
  try simp only [htb]
  clear hW htb
  refine (New_any W s 10240).mono ?_
  rintro e w1 ⟨rfl, hw1⟩
  have hm : max (10240 : Int) 0 = 10240 := by decide
  rw [hm] at hw1
  obtain ⟨rb, hrb⟩ : ∃ rb, W.heap.size = rb := ⟨_, rfl⟩
  have R1 : Hid (RdB w1 rb s 0 10240) := Lib.hid (by rw [hw1, ← hrb]; exact heap_alloc_new _ _)
  have WB1 : Hid (Below W.heap.size W w1) := Lib.hid (by rw [hw1]; exact balloc (Below.refl _ _) _)
  have hs1 : w1.heap.size = rb + 1 := by rw [hw1, ← hrb]; simp
  try rw [hrb]
  clear hw1
  go_upto_region 3 with fail
  obtain ⟨V, hV⟩ : ∃ V, w1.alloc (.cells #[.pointer (some ⟨rb, 0, none⟩)] 199) = V := ⟨_, rfl⟩
  have VB : Hid (Below w1.heap.size w1 V) := Lib.hid (by rw [← hV]; exact balloc (Below.refl _ _) _)
  have VQ : Hid (V.heap[rb + 1]? = some (.cells #[.pointer (some ⟨rb, 0, none⟩)] 199 (0, 0))) := Lib.hid (by rw [← hV]; exact alloc_new_at _ hs1)
  try rw [hV]
  try simp only [hs1]
  have hrbt : rb = tb + 1 + 1 := hrb.symm.trans hWs
  have hTW := HTW.out
  have BV : Hid (Below w.heap.size w V) := Lib.hid (bnext (bnext WB.out WB1.out) VB.out)
  have WV : Hid (Below W.heap.size W V) := Lib.hid (bnext WB1.out VB.out)
  have VT : Hid (V.heap[tb]? = some (.cells #[.string ⟨#[]⟩, .string ⟨#[]⟩, .int .u64 0, .int .u64 0, .int .u64 0, .int .u64 0] 76 (0, 0))) := Lib.hid ((WV.out.block _ (lt_of_block W0.out)).trans W0.out)
  have VE : Hid (V.heap[tb + 1]? = some (.cells #[.nilIface] 59 (0, 0))) := Lib.hid ((WV.out.block _ (lt_of_block W1.out)).trans W1.out)
  have VR : Hid (RdB V rb s 0 10240) := Lib.hid (R1.out.below VB.out)
  have ENV : Hid (RdEnv B V (rb + 1) rb s 0) := Lib.hid ⟨VQ.out, VR.out, HT.out.below BV.out, by omega, by omega, by omega, Nat.zero_le _, hs⟩
  have E : TEnv B (rb + 1) rb tb 6 76 V := ⟨⟨_, VR.out⟩, ⟨_, VT.out⟩, by omega, by omega, by omega, by decide, by decide⟩
  have REC : Hid (RecAt rb tb 76 6 V msg0) := Lib.hid (rec_zero VT.out rfl (fun i hi => by
    match i, hi with
    | 0, _ => exact ⟨_, rfl, rfl⟩
    | 1, _ => exact ⟨_, rfl, rfl⟩
    | 2, _ => exact ⟨_, rfl, rfl⟩
    | 3, _ => exact ⟨_, rfl, rfl⟩
    | 4, _ => exact ⟨_, rfl, rfl⟩
    | 5, _ => exact ⟨_, rfl, rfl⟩))
  have HOF := Lib.hid (rofMsg_any (s := s) E)
  have HE := Lib.hid E
  have G : Hid (GOk msg0 (msgGs s)) := Lib.hid (MsgOk s)
  have HRBT := Lib.hid hrbt
  clear hV E hrb hs1 hWs hrbt hTW
  go_wp2_with fail
  refine HOF.out.mono ?_
  rintro e w2 ⟨u, rfl, ⟨g, c, l, rfl, hc, hF, hS⟩, hb⟩
  have hl : (msgGs s).length = l.length := hS.1
  have hg := (HE.out.below hb).apart hF.ex
  have H2 := Lib.hid (robject_any B (rb + 1) rb tb g 0 c msg0 76 6 s w2 w2 l (msgGs s) 0 msg0 hF.flds hc (show l.length ≤ 1000 by rw [← hl]; exact Nat.le_of_ble_eq_true rfl) hS (Chg.refl _ _ _) hg HE.out.nq HE.out.le HE.out.ne G.out.keys G.out.disj G.out.frames G.out.kinds (fun i => rfl) (REC.out.below hb) (ENV.out.below hb) (fun i hi o ho => rfl))
  have HB := Lib.hid hb
  clear hF hS hb hl hc hg HOF ef
  go_wp2_with fail
  refine H2.out.mono ?_
  intro e w3 hh
  cases hr : objR s (msgGs s) msg0 0 with
  | error f =>
    rw [hr] at hh
    have HTH := Lib.hid (getIs_th hh)
    obtain ⟨fb, rfl, hf, hc3⟩ := getIs_err hh
    have HF := Lib.hid hf
    have HC := Lib.hid hc3
    have HR := Lib.hid hr
    clear hh hf hc3 hr H2
    go_wp2
    obtain ⟨cs, hcs, hcn⟩ := HTH.out
    have hce : w3.heap[tb + 1]? = some (.cells #[.nilIface] 59 (0, 0)) := (HC.out.block _ (Nat.lt_of_lt_of_le (lt_of_block VE.out) HB.out.size) (by have := HRBT.out; omega) (by omega)).trans ((HB.out.block _ (lt_of_block VE.out)).trans VE.out)
    refine leaves_cons (f := 143) (args := #[.pointer (some ⟨tb, 0, none⟩), .pointer (some ⟨tb + 1, 0, none⟩)]) (by simp) (by simp [go_sem]) ?_
    refine (read1Msg_some tb (tb + 1) fb cs w3 hcs (arr6 hcn) hce (by omega)).mono ?_
    rintro e u' w4 ⟨rfl, rfl, HA⟩
    have y0 : ∀ o, w4.cell? ⟨tb, o, none⟩ = _ := block_cell HA.th
    have y1 : w4.cell? ⟨tb + 1, 0, none⟩ = some (.iface 127 (.pointer (some ⟨fb, 0, none⟩))) := block_cell HA.er 0
    refine ⟨_, by simp [results, Tryz.results87, go_sem, y0, y1]; rfl, ?_⟩
    refine ⟨?_, by
      rw [HR.out]
      refine ⟨fb, rfl, (HA.block fb (lt_of_block HF.out) (fun e => ?_) (fun e => ?_)).trans HF.out⟩
      · subst e; have h9 := hcs.symm.trans HF.out; cases h9
      · subst e; have h9 := hce.symm.trans HF.out; cases h9⟩
    have hsz := HTW.out
    have hb9 := HRBT.out
    refine ⟨HA.os.trans (HC.out.os.trans (HB.out.os.trans BV.out.os)), HA.tape.trans (HC.out.tape.trans (HB.out.tape.trans BV.out.tape)), HA.output.trans (HC.out.output.trans (HB.out.output.trans BV.out.output)), Nat.le_trans BV.out.size (Nat.le_trans HB.out.size (Nat.le_trans HC.out.size HA.size)), fun i hi => ?_⟩
    have l1 := Nat.lt_of_lt_of_le hi BV.out.size
    have l2 := Nat.lt_of_lt_of_le l1 HB.out.size
    exact (HA.block i (Nat.lt_of_lt_of_le l2 HC.out.size) (by omega) (by omega)).trans ((HC.out.block i l2 (by omega) (by omega)).trans ((HB.out.block i l1).trans (BV.out.block i hi)))
  | ok q =>
    rw [hr] at hh
    obtain ⟨rfl, hrd, hle, hx3, hc3⟩ := getIs_ok hh
    have HRD := Lib.hid hrd
    have HC := Lib.hid hc3
    have HR := Lib.hid hr
    have HKD : Hid (Kd msg0 q.1) := Lib.hid (objR_kinds G.out.kinds hr (fun i => rfl))
    obtain ⟨_, hth, hlies⟩ := msg_of_rec hx3 HKD.out
    have HTH := Lib.hid hth
    have HLI := Lib.hid hlies
    clear hh hrd hx3 hc3 hr H2 hth hlies
    obtain ⟨x, a⟩ := q
    have hts : tb < w3.heap.size := lt_of_block HTH.out
    have HQ3 : Hid (w3.heap[rb + 1]? = some (.cells #[.pointer (some ⟨rb, 0, none⟩)] 199 (0, 0))) := Lib.hid ((HC.out.block _ (Nat.lt_of_lt_of_le (lt_of_block VQ.out) HB.out.size) (by omega) (by have := HRBT.out; omega)).trans ((HB.out.block _ (lt_of_block VQ.out)).trans VQ.out))
    have HE3 : Hid (w3.heap[tb + 1]? = some (.cells #[.nilIface] 59 (0, 0))) := Lib.hid ((HC.out.block _ (Nat.lt_of_lt_of_le (lt_of_block VE.out) HB.out.size) (by have := HRBT.out; omega) (by omega)).trans ((HB.out.block _ (lt_of_block VE.out)).trans VE.out))
    have HET3 : Hid (ErrType w3) := Lib.hid (by
      have h1 := HET.out.below BV.out
      have h2 := h1.below HB.out
      unfold ErrType at h2 ⊢
      rw [World.cell?_of_block (w := w2) (HC.out.block _ (lt_of_cell h2) (show 0 ≠ rb by have := HRBT.out; have := HTW.out; omega) (show 0 ≠ tb by have := HTW.out; omega))]
      exact h2)
    go_upto_region 4 with fail
    obtain ⟨VO, hVO⟩ : ∃ VO : Nat → Option Nat, VO = fun j => if j = 6 then some tb else none := ⟨_, rfl⟩
    have vo6 : VO 6 = some tb := by rw [hVO]; rfl
    have von : ∀ j, j ≠ 6 → VO j = none := fun j h1 => by rw [hVO]; simp [h1]
    have vob : ∀ j b, b ≠ tb → VO j ≠ some b := fun j b hb => by
      by_cases h : j = 6
      · subst h; rw [vo6]; simp; exact fun e => hb e.symm
      · rw [von j h]; simp
    clear hVO
    refine wp_region_tailV 7 VO (fun i j b h1 h2 => by
        by_cases e1 : i = 6
        · by_cases e2 : j = 6
          · rw [e1, e2]
          · rw [von j e2] at h2; cases h2
        · rw [von i e1] at h1; cases h1) (fun _ _ _ => True) (fun _ => True) (fun _ _ _ _ _ => True) (fun _ _ => trivial) trivial
      (phis [fun u _ => u = .agg (cellsMsg x), fun u _ => u = .pointer (some ⟨rb + 1, 0, none⟩), fun u _ => u = .pointer (some ⟨rb + 1, 0, none⟩), fun u _ => u = .pointer (some ⟨rb + 1, 0, none⟩), fun u _ => u = .pointer (some ⟨rb, 0, none⟩), fun u w' => if a < s.size then ∃ fb, u = .iface 127 (.pointer (some ⟨fb, 0, none⟩)) ∧ FltB w' fb 5 a ∧ fb ≠ tb else u = .nilIface, fun _ w' => w'.heap[tb]? = some (.cells (cellsMsg x) 76 (0, 0))]) rfl (by kernel_rfl) (by kernel_rfl)
      (monoV_of ⟨monoV_eq, monoV_eq, monoV_eq, monoV_eq, monoV_eq, ?m5, ?m6, trivial⟩) (fun _ _ _ _ _ => trivial) (fun _ _ _ _ _ _ _ _ _ _ _ => trivial) (stepsV_of 7 ⟨?s0, ?s1, ?s2, ?s3, ?s4, ?s5, ?s6, trivial⟩) ?_
    case m5 =>
      intro j hj u w1 w2 he hp
      by_cases hlt : a < s.size
      · simp only [hlt, if_true] at hp ⊢
        obtain ⟨fb, h1, h2, h3⟩ := hp
        refine ⟨fb, h1, (he.1.block fb (lt_of_block h2) ?_).trans h2, h3⟩
        exact fun e => vob j fb h3 e.symm
      · simp only [hlt, if_false] at hp ⊢; exact hp
    case m6 =>
      intro j hj u w1 w2 he hp
      refine (he.1.block tb (lt_of_block hp) ?_).trans hp
      rw [von j hj]; simp
    case s0 =>
      refine stepV_val (v := .agg (cellsMsg x)) (fun _ _ => trivial) (fun _ _ _ _ => ⟨trivial, trivial⟩) (fun D av wv hE hO hD => ?_) (fun _ => rfl)
      have h6 : ¬ D 6 := hE.notyet 6 _ rfl { on := 0, ground := .data } (by simp) rfl hE.me
      have hb0 : wv.heap[tb]? = some (.cells (cellsMsg x) 76 (0, 0)) := (hE.late 6 h6 tb vo6 hts).trans HTH.out
      have k0 : wv.cell? ⟨tb, 0, none⟩ = some (.string (x 0).s) := block_cell hb0 0
      have k1 : wv.cell? ⟨tb, 1, none⟩ = some (.string (x 1).s) := block_cell hb0 1
      have k2 : wv.cell? ⟨tb, 2, none⟩ = some (.int .u64 (x 2).n) := block_cell hb0 2
      have k3 : wv.cell? ⟨tb, 3, none⟩ = some (.int .u64 (x 3).n) := block_cell hb0 3
      have k4 : wv.cell? ⟨tb, 4, none⟩ = some (.int .u64 (x 4).n) := block_cell hb0 4
      have k5 : wv.cell? ⟨tb, 5, none⟩ = some (.int .u64 (x 5).n) := block_cell hb0 5
      have h4 : av.eval (.tmp 4) = .pointer (some ⟨tb, 0, none⟩) := hO.2.2 4 rfl
      have f4 := (ev_form av 4).symm.trans h4
      refine ⟨rfl, ?_⟩
      simp [go_sem, f4, k0, k1, k2, k3, k4, k5]
    case s1 =>
      refine stepV_val (v := .pointer (some ⟨rb + 1, 0, none⟩)) (fun _ _ => trivial) (fun _ _ _ _ => ⟨trivial, trivial⟩) (fun D av wv hE hO hD => ?_) (fun _ => rfl)
      have h6 : av.eval (.tmp 6) = .pointer (some ⟨rb + 1, 0, none⟩) := hO.2.2 6 rfl
      have f6 := (ev_form av 6).symm.trans h6
      refine ⟨rfl, ?_⟩
      simp [go_sem, f6]
    case s2 =>
      refine stepV_val (v := .pointer (some ⟨rb + 1, 0, none⟩)) (fun _ _ => trivial) (fun _ _ _ _ => ⟨trivial, trivial⟩) (fun D av wv hE hO hD => ?_) (fun _ => rfl)
      have d17 : av.eval (.tmp 17) = .pointer (some ⟨rb + 1, 0, none⟩) := hD.1 rfl _ rfl
      have f17 := (ev_form av 17).symm.trans d17
      refine ⟨rfl, ?_⟩
      simp [go_sem, f17]
    case s3 =>
      refine stepV_val (v := .pointer (some ⟨rb + 1, 0, none⟩)) (fun _ _ => trivial) (fun _ _ _ _ => ⟨trivial, trivial⟩) (fun D av wv hE hO hD => ?_) (fun _ => rfl)
      have d18 : av.eval (.tmp 18) = .pointer (some ⟨rb + 1, 0, none⟩) := hD.1 rfl _ rfl
      have f18 := (ev_form av 18).symm.trans d18
      refine ⟨rfl, ?_⟩
      simp [go_sem, f18]
    case s4 =>
      refine stepV_val (v := .pointer (some ⟨rb, 0, none⟩)) (fun _ _ => trivial) (fun _ _ _ _ => ⟨trivial, trivial⟩) (fun D av wv hE hO hD => ?_) (fun _ => rfl)
      have d19 : av.eval (.tmp 19) = .pointer (some ⟨rb + 1, 0, none⟩) := hD.1 rfl _ rfl
      have f19 := (ev_form av 19).symm.trans d19
      have k0 : wv.cell? ⟨rb + 1, 0, none⟩ = some (.pointer (some ⟨rb, 0, none⟩)) := block_cell ((hE.ext.block (rb + 1) (lt_of_block HQ3.out) (fun j => vob j _ (by have := HRBT.out; omega))).trans HQ3.out) 0
      refine ⟨rfl, ?_⟩
      simp [go_sem, f19, k0]
    case s5 =>
      refine stepV_wp (fun D av wv hPP hE hO hD => ?_)
      have d20 : av.eval (.tmp 20) = .pointer (some ⟨rb, 0, none⟩) := hD.1 rfl _ rfl
      have f20 := (ev_form av 20).symm.trans d20
      have hrd : RdB wv rb s a 10240 := (hE.ext.block rb (lt_of_block HRD.out) (fun j => vob j _ (by have := HRBT.out; omega))).trans HRD.out
      have het : ErrType wv := by
        have h2 : ErrType w3.drew := HET3.out
        unfold ErrType at h2 ⊢
        rw [World.cell?_of_block (w := w3.drew) (hE.ext.block _ (lt_of_cell h2) (fun j => vob j _ (show 0 ≠ tb by have := HTW.out; omega)))]
        exact h2
      have hvs : w3.heap.size ≤ wv.heap.size := hE.ext.size
      refine ⟨rfl, wp_of_callR (f := 124) (args := #[.pointer (some ⟨rb, 0, none⟩)]) (R := fun u w2 => Below wv.heap.size wv w2 ∧ (if a < s.size then ∃ fb, u = .iface 127 (.pointer (some ⟨fb, 0, none⟩)) ∧ FltB w2 fb 5 a ∧ fb ≠ tb else u = .nilIface)) (by simp [go_sem, f20]) ((End_any wv rb s a 10240 het hrd hle hs).mono fun e w2 hh => ?_) (fun u w2 ⟨h1, h2⟩ => ⟨u, rfl, esV_of_ext h1 trivial, h2, fun _ _ _ _ _ => ⟨trivial, trivial⟩⟩)⟩
      obtain ⟨h1, h2⟩ := hh
      unfold leftOf at h2
      by_cases hlt : a < s.size
      · simp only [hlt, if_true] at h2 ⊢
        obtain ⟨fb, h3, h4, h5⟩ := h2
        exact ⟨_, h3, h1, fb, rfl, h5, by omega⟩
      · simp only [hlt, if_false] at h2 ⊢
        exact ⟨_, h2, h1, rfl⟩
    case s6 =>
      refine stepV_wp (fun D av wv hPP hE hO hD => ?_)
      have d16 : av.eval (.tmp 16) = .agg (cellsMsg x) := hD.1 rfl _ rfl
      have f16 := (ev_form av 16).symm.trans d16
      have h4 : av.eval (.tmp 4) = .pointer (some ⟨tb, 0, none⟩) := hO.2.2 4 rfl
      have f4 := (ev_form av 4).symm.trans h4
      have hq : wv.heap[tb]? = some (.cells (cellsMsg x) 76 (0, 0)) := (hE.own tb vo6 hts).trans HTH.out
      have k0 : wv.cell? ⟨tb, 0, none⟩ = some (.string (x 0).s) := block_cell hq 0
      have k1 : wv.cell? ⟨tb, 1, none⟩ = some (.string (x 1).s) := block_cell hq 1
      have k2 : wv.cell? ⟨tb, 2, none⟩ = some (.int .u64 (x 2).n) := block_cell hq 2
      have k3 : wv.cell? ⟨tb, 3, none⟩ = some (.int .u64 (x 3).n) := block_cell hq 3
      have k4 : wv.cell? ⟨tb, 4, none⟩ = some (.int .u64 (x 4).n) := block_cell hq 4
      have k5 : wv.cell? ⟨tb, 5, none⟩ = some (.int .u64 (x 5).n) := block_cell hq 5
      have hz : ∀ o, wv.frozen? ⟨tb, o, none⟩ = false := block_free hq
      have l0 : tb < wv.heap.size := lt_of_block hq
      refine ⟨rfl, ?_⟩
      unfold Oper.wp
      simp [go_sem, f4, f16, hz, l0, k0, k1, k2, k3, k4, k5]
      exact ⟨⟨by rw [vo6]; exact (extB_setIn (extB_setIn (extB_setIn (extB_setIn (extB_setIn (extB_setIn (ExtB_refl _ _) 0 _) 1 _) 2 _) 3 _) 4 _) 5 _), trivial⟩, undef, (block_setCell (block_setCell (block_setCell (block_setCell (block_setCell (block_setCell hq (o := 0) _) (o := 1) _) (o := 2) _) (o := 3) _) (o := 4) _) (o := 5) _), fun _ _ _ _ _ => ⟨trivial, trivial⟩⟩
    intro a' w' hE _ hO hall _
    have hA := act_of_outer (ds := [16, 17, 18, 19, 20, 21]) rfl hO (by kernel_rfl)
    have e16 : (fun u (_ : World) => u = .agg (cellsMsg x)) (a'.eval (.tmp 16)) w' := hall.1 _ rfl
    have e17 : (fun u (_ : World) => u = .pointer (some ⟨rb + 1, 0, none⟩)) (a'.eval (.tmp 17)) w' := hall.2.1 _ rfl
    have e18 : (fun u (_ : World) => u = .pointer (some ⟨rb + 1, 0, none⟩)) (a'.eval (.tmp 18)) w' := hall.2.2.1 _ rfl
    have e19 : (fun u (_ : World) => u = .pointer (some ⟨rb + 1, 0, none⟩)) (a'.eval (.tmp 19)) w' := hall.2.2.2.1 _ rfl
    have e20 : (fun u (_ : World) => u = .pointer (some ⟨rb, 0, none⟩)) (a'.eval (.tmp 20)) w' := hall.2.2.2.2.1 _ rfl
    have e21 : (fun u w' => if a < s.size then ∃ fb, u = .iface 127 (.pointer (some ⟨fb, 0, none⟩)) ∧ FltB w' fb 5 a ∧ fb ≠ tb else u = .nilIface) (a'.eval (.tmp 21)) w' := hall.2.2.2.2.2.1 _ rfl
    have z6 : w'.heap[tb]? = some (.cells (cellsMsg x) 76 (0, 0)) := hall.2.2.2.2.2.2.1 _ rfl
    obtain ⟨v21, hv21⟩ : ∃ v, a'.eval (.tmp 21) = v := ⟨_, rfl⟩
    rw [hv21] at e21
    simp only [List.foldl_cons, List.foldl_nil, Act.put, List.setIfInBounds_toArray, List.set_cons_succ, List.set_cons_zero, e16, e17, e18, e19, e20, hv21] at hA
    clear hO hall e16 e17 e18 e19 e20 hv21
    subst hA
    have HX4 : Hid (ExtS VO w3 w') := Lib.hid ⟨hE.os, hE.tape, hE.output, hE.size, hE.block⟩
    have HZ6 := Lib.hid z6
    have hbe : w'.heap[tb + 1]? = some (.cells #[.nilIface] 59 (0, 0)) := (HX4.out.block _ (lt_of_block HE3.out) (fun j => vob j _ (by omega))).trans HE3.out
    have HBE := Lib.hid hbe
    have g0 : w'.cell? ⟨tb + 1, 0, none⟩ = some .nilIface := block_cell hbe 0
    have g1 : w'.frozen? ⟨tb + 1, 0, none⟩ = false := block_free hbe 0
    have HVO : Hid (∀ j b, b ≠ tb → VO j ≠ some b) := Lib.hid vob
    have HFIN : ∀ v, Hid (Below w.heap.size w (w'.setCell ⟨tb + 1, 0, none⟩ v)) := fun v => Lib.hid (by
      have hsz := HTW.out
      have hb9 := HRBT.out
      refine ⟨HX4.out.os.trans (HC.out.os.trans (HB.out.os.trans BV.out.os)), HX4.out.tape.trans (HC.out.tape.trans (HB.out.tape.trans BV.out.tape)), HX4.out.output.trans (HC.out.output.trans (HB.out.output.trans BV.out.output)), by simpa using Nat.le_trans BV.out.size (Nat.le_trans HB.out.size (Nat.le_trans HC.out.size HX4.out.size)), fun i hi => ?_⟩
      have l1 := Nat.lt_of_lt_of_le hi BV.out.size
      have l2 := Nat.lt_of_lt_of_le l1 HB.out.size
      rw [Below.heap_setCell _ _ _ _ (show i ≠ tb + 1 by omega)]
      exact (HX4.out.block i (Nat.lt_of_lt_of_le l2 HC.out.size) (fun j => HVO.out j i (by omega))).trans ((HC.out.block i l2 (by omega) (by omega)).trans ((HB.out.block i l1).trans (BV.out.block i hi))))
    have HLF : ∀ v, Hid (LiesMsg rb tb (w'.setCell ⟨tb + 1, 0, none⟩ v) x) := fun v => Lib.hid (HLI.out.up (fun b h1 h2 => by
      have hb9 := HRBT.out
      rw [Below.heap_setCell _ _ _ _ (show b ≠ tb + 1 by omega)]
      exact HX4.out.block b h2 (fun j => HVO.out j b (by omega))))
    have HTF : ∀ v o, (w'.setCell ⟨tb + 1, 0, none⟩ v).cell? ⟨tb, o, none⟩ = (cellsMsg x)[o]? := fun v o => block_cell (block_setCell_ne HZ6.out (by show tb ≠ tb + 1; omega) v) o
    have HEF : ∀ v, (w'.setCell ⟨tb + 1, 0, none⟩ v).cell? ⟨tb + 1, 0, none⟩ = some v := fun v => block_cell (block_setCell HBE.out v) 0
    have HTFH := Lib.hid HTF
    have HEFH := Lib.hid HEF
    clear hE z6 hbe vo6 von vob HTF HEF
    by_cases hlt : a < s.size
    · simp only [hlt, if_true] at e21
      obtain ⟨fb, rfl, hf, hft⟩ := e21
      have HF := Lib.hid hf
      have HLT := Lib.hid hlt
      clear hf hlt
      go_wp2
      refine leaves_cons (f := 143) (args := #[.pointer (some ⟨tb, 0, none⟩), .pointer (some ⟨tb + 1, 0, none⟩)]) (by simp) (by simp [go_sem]) ?_
      refine (read1Msg_idle _ _ _).mono ?_
      rintro e u' w'' ⟨rfl, rfl, rfl⟩
      have y0 := HTFH.out (.iface 127 (.pointer (some ⟨fb, 0, none⟩)))
      have y1 := HEFH.out (.iface 127 (.pointer (some ⟨fb, 0, none⟩)))
      refine ⟨_, by simp [results, Tryz.results87, go_sem, y0, y1]; rfl, ?_⟩
      refine ⟨(HFIN _).out, ?_⟩
      rw [HR.out]
      refine ⟨HKD.out, hle, ⟨rb, tb, by have := HRBT.out; have := HTW.out; omega, (HLF _).out⟩, ?_⟩
      rw [if_pos HLT.out]
      exact ⟨fb, rfl, block_setCell_ne HF.out (by intro e; subst e; have h9 := HBE.out.symm.trans HF.out; cases h9) _⟩
    · simp only [hlt, if_false] at e21
      subst e21
      have HLT := Lib.hid hlt
      clear hlt
      go_wp2
      refine leaves_cons (f := 143) (args := #[.pointer (some ⟨tb, 0, none⟩), .pointer (some ⟨tb + 1, 0, none⟩)]) (by simp) (by simp [go_sem]) ?_
      refine (read1Msg_idle _ _ _).mono ?_
      rintro e u' w'' ⟨rfl, rfl, rfl⟩
      have y0 := HTFH.out .nilIface
      have y1 := HEFH.out .nilIface
      refine ⟨_, by simp [results, Tryz.results87, go_sem, y0, y1]; rfl, ?_⟩
      refine ⟨(HFIN _).out, ?_⟩
      rw [HR.out]
      refine ⟨HKD.out, hle, ⟨rb, tb, by have := HRBT.out; have := HTW.out; omega, (HLF _).out⟩, ?_⟩
      rw [if_neg HLT.out]
abbrev cellsHeader (x : Rcd) : Array Value := #[.int .u64 (x 0).n, .string (x 1).s, .string (x 2).s, .string (x 3).s]
abbrev zeroHeader : Value := .agg #[.int .u64 0, .string ⟨#[]⟩, .string ⟨#[]⟩, .string ⟨#[]⟩]
def LiesHeader (rb tb : Nat) (w : World) (x : Rcd) : Prop := True
theorem LiesHeader.below {rb tb : Nat} {w w' : World} {x : Rcd} (h : LiesHeader rb tb w x) (hb : Below w.heap.size w w') : LiesHeader rb tb w' x := trivial
theorem LiesHeader.chg {rb tb : Nat} {w w' : World} {x : Rcd} (h : LiesHeader rb tb w x) (hb : Chg rb tb w w') : LiesHeader rb tb w' x := trivial
theorem LiesHeader.up {rb tb : Nat} {w w' : World} {x : Rcd} (h : LiesHeader rb tb w x) (hb : Up rb w w') : LiesHeader rb tb w' x := trivial
theorem header_of_rec {rb tb : Nat} {w : World} {x : Rcd} (h : RecAt rb tb 78 4 w x) (hk : Kd header0 x) : ∃ (_ : Unit), w.heap[tb]? = some (.cells (cellsHeader x) 78 (0, 0)) ∧ LiesHeader rb tb w x := by
  obtain ⟨cs, h1, h2, h3⟩ := h
  obtain ⟨m0, e0⟩ := hk.num (show kindD (header0 0) = _ from rfl)
  obtain ⟨u0, g0, d0⟩ := h3 0 (by decide)
  rw [e0] at d0
  simp only [HoldsD] at d0
  subst d0
  obtain ⟨m1, e1⟩ := hk.str (show kindD (header0 1) = _ from rfl)
  obtain ⟨u1, g1, d1⟩ := h3 1 (by decide)
  rw [e1] at d1
  simp only [HoldsD] at d1
  subst d1
  obtain ⟨m2, e2⟩ := hk.str (show kindD (header0 2) = _ from rfl)
  obtain ⟨u2, g2, d2⟩ := h3 2 (by decide)
  rw [e2] at d2
  simp only [HoldsD] at d2
  subst d2
  obtain ⟨m3, e3⟩ := hk.str (show kindD (header0 3) = _ from rfl)
  obtain ⟨u3, g3, d3⟩ := h3 3 (by decide)
  rw [e3] at d3
  simp only [HoldsD] at d3
  subst d3
  refine ⟨(), ?_, ?_⟩
  · rw [h1]; congr 2; apply Array.ext_getElem?; intro i
    match i with
    | 0 => rw [g0]; simp [e0, DV.n, DV.q, DV.s, DV.l, DV.ns, DV.rs]
    | 1 => rw [g1]; simp [e1, DV.n, DV.q, DV.s, DV.l, DV.ns, DV.rs]
    | 2 => rw [g2]; simp [e2, DV.n, DV.q, DV.s, DV.l, DV.ns, DV.rs]
    | 3 => rw [g3]; simp [e3, DV.n, DV.q, DV.s, DV.l, DV.ns, DV.rs]
    | i + 4 => rw [Array.getElem?_eq_none (by omega), Array.getElem?_eq_none (by simp)]
  · trivial
set_option maxRecDepth 100000 in
theorem read1Header_idle (p q : Value) (w : World) : CallsD Tryz.prog 144 #[p, q] .returning w fun e u' w' => e = .returned (.tuple #[]) ∧ u' = .returning ∧ w' = w := by
  refine callsD_of_wpS Tryz.func144 rfl fun c₀ cs hu => ?_
  apply wpS_seq
  apply wpS_region
  simp [wpOpsS, go_sem, recoverD, hu, Tryz.ntmps144, Exit.thenS]
  refine wpS_of_wp ?_
  obtain ⟨Q, hQ⟩ : ∃ Q : Exit → Act → World → Prop, (fun e a' w' => bodyPostS Tryz.prog Tryz.f144 c₀ cs (fun e u' w' => e = Ending.returned (.tuple #[]) ∧ u' = .returning ∧ w' = w) e a' (c₀ :: cs) w') = Q := ⟨_, rfl⟩
  rw [hQ, read1_frame]
  have HQ := Lib.hid hQ
  clear hQ
  go_wp2
  rw [← HQ.out]
  simp [bodyPostS, results, Tryz.results144]
  cases c₀; simp_all
structure AfterHeader (tb eb fb : Nat) (w w' : World) : Prop where
  os : w'.os = w.os
  tape : w'.tape = w.tape
  output : w'.output = w.output
  size : w.heap.size ≤ w'.heap.size
  block : ∀ i, i < w.heap.size → i ≠ tb → i ≠ eb → w'.heap[i]? = w.heap[i]?
  th : w'.heap[tb]? = some (.cells #[.int .u64 0, .string ⟨#[]⟩, .string ⟨#[]⟩, .string ⟨#[]⟩] 78 (0, 0))
  er : w'.heap[eb]? = some (.cells #[.iface 127 (.pointer (some ⟨fb, 0, none⟩))] 59 (0, 0))
set_option maxRecDepth 100000 in
set_option maxHeartbeats 4000000 in
theorem read1Header_some (tb eb fb : Nat) (cs : Array Value) (w : World) (ht : w.heap[tb]? = some (.cells cs 78 (0, 0))) (hcs : ∃ u0 u1 u2 u3 : Value, cs = #[u0, u1, u2, u3] ) (he : w.heap[eb]? = some (.cells #[.nilIface] 59 (0, 0))) (hne : tb ≠ eb) :
    CallsD Tryz.prog 144 #[.pointer (some ⟨tb, 0, none⟩), .pointer (some ⟨eb, 0, none⟩)] (.panicking (stopC fb)) w fun e u' w' =>
      e = .returned (.tuple #[]) ∧ u' = .panicking [{ v := .iface 193 (.agg #[.iface 127 (.pointer (some ⟨fb, 0, none⟩))]), recovered := true }] ∧ AfterHeader tb eb fb w w' := by
  obtain ⟨u0, u1, u2, u3, rfl⟩ := hcs
  refine callsD_of_wpS Tryz.func144 rfl fun c₀ cs hu => ?_
  apply wpS_seq
  apply wpS_region
  simp [wpOpsS, go_sem, recoverD, hu, stopC, Tryz.ntmps144, Exit.thenS]
  refine wpS_of_wp ?_
  obtain ⟨Q, hQ⟩ : ∃ Q : Exit → Act → World → Prop, (fun e a' w' => bodyPostS Tryz.prog Tryz.f144 c₀ cs (fun e u' w' => e = Ending.returned (.tuple #[]) ∧ u' = .panicking [{ v := .iface 193 (.agg #[.iface 127 (.pointer (some ⟨fb, 0, none⟩))]), recovered := true }] ∧ AfterHeader tb eb fb w w') e a' ({ c₀ with mode := .panicking [{ v := .iface 193 (.agg #[.iface 127 (.pointer (some ⟨fb, 0, none⟩))]), recovered := true }] } :: cs) w') = Q := ⟨_, rfl⟩
  rw [hQ, read1_frame]
  have HQ := Lib.hid hQ
  have HT := Lib.hid ht
  have HE := Lib.hid he
  clear hQ hu ht he
  have ha := assert_stop fb
  go_wp2_with fail
  obtain ⟨V, hV⟩ : ∃ V, (w.alloc (.cells #[.iface 127 (.pointer (some ⟨fb, 0, none⟩))] 193)).alloc (.cells #[.int .u64 0, .string ⟨#[]⟩, .string ⟨#[]⟩, .string ⟨#[]⟩] 78) = V := ⟨_, rfl⟩
  obtain ⟨sb, hsb⟩ : ∃ sb, w.heap.size = sb := ⟨_, rfl⟩
  have HV : Hid (Below w.heap.size w V) := Lib.hid (by rw [← hV]; exact balloc (balloc (Below.refl _ _) _) _)
  have hbs : V.heap[sb]? = some (.cells #[.iface 127 (.pointer (some ⟨fb, 0, none⟩))] 193 (0, 0)) := by rw [← hV, ← hsb]; exact block_alloc (heap_alloc_new _ _) _
  have hbn : V.heap[sb + 1]? = some (.cells #[.int .u64 0, .string ⟨#[]⟩, .string ⟨#[]⟩, .string ⟨#[]⟩] 78 (0, 0)) := by rw [← hV]; exact alloc_new_at _ (by simp [hsb])
  have hbt : V.heap[tb]? = some (.cells #[u0, u1, u2, u3] 78 (0, 0)) := (HV.out.block _ (lt_of_block HT.out)).trans HT.out
  have hbe : V.heap[eb]? = some (.cells #[.nilIface] 59 (0, 0)) := (HV.out.block _ (lt_of_block HE.out)).trans HE.out
  have k0 : V.cell? ⟨sb, 0, none⟩ = some (.iface 127 (.pointer (some ⟨fb, 0, none⟩))) := block_cell hbs 0
  have m0 : V.cell? ⟨sb + 1, 0, none⟩ = some (.int .u64 0) := block_cell hbn 0
  have m1 : V.cell? ⟨sb + 1, 1, none⟩ = some (.string ⟨#[]⟩) := block_cell hbn 1
  have m2 : V.cell? ⟨sb + 1, 2, none⟩ = some (.string ⟨#[]⟩) := block_cell hbn 2
  have m3 : V.cell? ⟨sb + 1, 3, none⟩ = some (.string ⟨#[]⟩) := block_cell hbn 3
  have hts : tb < sb := by have := lt_of_block HT.out; omega
  have hnt : some (sb + 1) ≠ some tb := by simp; omega
  have hst : some sb ≠ some tb := by simp; omega
  have HBT := Lib.hid hbt
  have HBE := Lib.hid hbe
  try rw [hV]
  try simp only [hsb]
  clear hV hbs hbn hbt hbe ha
  refine wp_region_tail 4 3 ((some tb)) (phis [fun u _ => u = (.agg #[.int .u64 0, .string ⟨#[]⟩, .string ⟨#[]⟩, .string ⟨#[]⟩]), fun u _ => u = (.pointer (some ⟨sb, 0, none⟩)), fun u _ => u = (.iface 127 (.pointer (some ⟨fb, 0, none⟩))), fun _ w' => w'.heap[tb]? = some (.cells #[.int .u64 0, .string ⟨#[]⟩, .string ⟨#[]⟩, .string ⟨#[]⟩] 78 (0, 0))]) rfl (by kernel_rfl) (by kernel_rfl) (mono_of ⟨mono_eq, mono_eq, mono_eq, ?m3, trivial⟩) (steps_of 4 ⟨?s0, ?s1, ?s2, ?s3, trivial⟩) ?_
  case m3 =>
    exact ⟨fun u w1 w2 h hb => ext_block h hb, fun hn => absurd rfl hn⟩
  case s0 =>
    refine step_val (v := (.agg #[.int .u64 0, .string ⟨#[]⟩, .string ⟨#[]⟩, .string ⟨#[]⟩])) (fun av wv hE hS hO hD => ?_) (fun _ => rfl)
    have h5 : av.eval (.tmp 5) = (.pointer (some ⟨sb + 1, 0, none⟩)) := hO.2.2 5 rfl
    have f5 := (ev_form av 5).symm.trans h5
    have k0 := extB_cell hE hst k0
    have m0 := extB_cell hE hnt m0
    have m1 := extB_cell hE hnt m1
    have m2 := extB_cell hE hnt m2
    have m3 := extB_cell hE hnt m3
    refine ⟨rfl, ?_⟩
    simp [go_sem, f5, k0, m0, m1, m2, m3]
  case s1 =>
    refine step_val (v := (.pointer (some ⟨sb, 0, none⟩))) (fun av wv hE hS hO hD => ?_) (fun _ => rfl)
    have h3 : av.eval (.tmp 3) = (.pointer (some ⟨sb, 0, none⟩)) := hO.2.2 3 rfl
    have f3 := (ev_form av 3).symm.trans h3
    refine ⟨rfl, ?_⟩
    simp [go_sem, f3]
  case s2 =>
    refine step_val (v := (.iface 127 (.pointer (some ⟨fb, 0, none⟩)))) (fun av wv hE hS hO hD => ?_) (fun _ => rfl)
    have d18 : av.eval (.tmp 18) = (.pointer (some ⟨sb, 0, none⟩)) := hD.1 rfl _ rfl
    have f18 := (ev_form av 18).symm.trans d18
    have k0 := extB_cell hE hst k0
    have m0 := extB_cell hE hnt m0
    have m1 := extB_cell hE hnt m1
    have m2 := extB_cell hE hnt m2
    have m3 := extB_cell hE hnt m3
    refine ⟨rfl, ?_⟩
    simp [go_sem, f18, k0, m0, m1, m2, m3]
  case s3 =>
    refine step_wp (fun av wv hE hS hO hD => ?_)
    have h0 : av.eval (.tmp 0) = (.pointer (some ⟨tb, 0, none⟩)) := hO.2.2 0 rfl
    have f0 := (ev_form av 0).symm.trans h0
    have d17 : av.eval (.tmp 17) = (.agg #[.int .u64 0, .string ⟨#[]⟩, .string ⟨#[]⟩, .string ⟨#[]⟩]) := hD.1 rfl _ rfl
    have f17 := (ev_form av 17).symm.trans d17
    refine ⟨rfl, ?_⟩
    have hq : wv.heap[tb]? = some (.cells #[u0, u1, u2, u3] 78 (0, 0)) := ext_block (w := V.drew) (hS rfl) HBT.out
    have q0 : wv.cell? ⟨tb, 0, none⟩ = some u0 := block_cell hq 0
    have q1 : wv.cell? ⟨tb, 1, none⟩ = some u1 := block_cell hq 1
    have q2 : wv.cell? ⟨tb, 2, none⟩ = some u2 := block_cell hq 2
    have q3 : wv.cell? ⟨tb, 3, none⟩ = some u3 := block_cell hq 3
    have hz : ∀ o, wv.frozen? ⟨tb, o, none⟩ = false := block_free hq
    unfold Oper.wp
    have l0 : tb < wv.heap.size := lt_of_block hq
    have h0 : av.eval (.tmp 0) = (.pointer (some ⟨tb, 0, none⟩)) := hO.2.2 0 rfl
    have f0 := (ev_form av 0).symm.trans h0
    simp [go_sem, f0, f17, hz, l0, q0, q1, q2, q3]
    exact ⟨es_sp (extB_setIn (extB_setIn (extB_setIn (extB_setIn (ExtB_refl _ _) 0 _) 1 _) 2 _) 3 _), undef, (block_setCell (block_setCell (block_setCell (block_setCell hq (o := 0) _) (o := 1) _) (o := 2) _) (o := 3) _)⟩
  intro a' w' hE hO hall
  have hA := act_of_outer (ds := [17, 18, 19]) rfl hO (by kernel_rfl)
  have e17 : (fun u _ => u = (.agg #[.int .u64 0, .string ⟨#[]⟩, .string ⟨#[]⟩, .string ⟨#[]⟩])) (a'.eval (.tmp 17)) w' := hall.1 _ rfl
  have e18 : (fun u _ => u = (.pointer (some ⟨sb, 0, none⟩))) (a'.eval (.tmp 18)) w' := hall.2.1 _ rfl
  have e19 : (fun u _ => u = (.iface 127 (.pointer (some ⟨fb, 0, none⟩)))) (a'.eval (.tmp 19)) w' := hall.2.2.1 _ rfl
  have z3 : (fun _ w' => w'.heap[tb]? = some (.cells #[.int .u64 0, .string ⟨#[]⟩, .string ⟨#[]⟩, .string ⟨#[]⟩] 78 (0, 0))) undef w' := hall.2.2.2.1 _ rfl
  simp only [List.foldl_cons, List.foldl_nil, Act.put, List.setIfInBounds_toArray, List.set_cons_succ, List.set_cons_zero, e17, e18, e19] at hA
  clear hO hall e17 e18 e19
  subst hA
  have HE := Lib.hid (of_drewE hE)
  have HZ := Lib.hid z3
  have hbe : w'.heap[eb]? = some (.cells #[.nilIface] 59 (0, 0)) := extB_block HE.out (by simp; exact fun e => hne e.symm) HBE.out
  have HBE := Lib.hid hbe
  have q0 : w'.cell? ⟨eb, 0, none⟩ = some .nilIface := block_cell hbe 0
  have q1 : w'.frozen? ⟨eb, 0, none⟩ = false := block_free hbe 0
  clear hE z3 hbe
  go_wp2
  rw [← HQ.out]
  have hs1 : (w'.setCell ⟨eb, 0, none⟩ (.iface 127 (.pointer (some ⟨fb, 0, none⟩)))).heap.size = w'.heap.size := by simp
  refine ⟨rfl, _, rfl, .tuple #[], by simp [results, Tryz.results144], rfl, rfl, ?_⟩
  exact ⟨HE.out.os.trans HV.out.os, HE.out.tape.trans HV.out.tape, HE.out.output.trans HV.out.output, by rw [hs1]; exact Nat.le_trans HV.out.size HE.out.size, fun i hi h1 h2 => by
    rw [Below.heap_setCell _ _ _ _ h2]
    exact (HE.out.block i (Nat.lt_of_lt_of_le hi HV.out.size) (by simpa using h1)).trans (HV.out.block i hi), block_setCell_ne HZ.out hne _, block_setCell HBE.out _⟩
def RdHeader (s : ByteArray) (w : World) (e : Ending) (w' : World) : Prop :=
  Below w.heap.size w w' ∧ match objR s (headerGs s) header0 0 with
    | .error f => ∃ fb, e = .returned (.tuple #[zeroHeader, .iface 127 (.pointer (some ⟨fb, 0, none⟩))]) ∧ FltB w' fb f.1 f.2
    | .ok y => Kd header0 y.1 ∧ y.2 ≤ s.size ∧ (∃ rb tb, w.heap.size ≤ rb ∧ LiesHeader rb tb w' y.1) ∧ (if y.2 < s.size then ∃ fb, e = .returned (.tuple #[.agg (cellsHeader y.1), .iface 127 (.pointer (some ⟨fb, 0, none⟩))]) ∧ FltB w' fb 5 y.2 else e = .returned (.tuple #[.agg (cellsHeader y.1), .nilIface]))
set_option maxRecDepth 100000 in
set_option maxHeartbeats 8000000 in
theorem readHeader_any (B : Nat) (s : ByteArray) (w : World) (hT : Tabs B w) (hET : ErrType w) (hB : B ≤ w.heap.size) (hg : 0 < B) (hs : s.size ≤ 9223372036854775807) :
    Calls Tryz.prog 90 #[.string s, .func (.func 85) #[] #[]] w (RdHeader s w) := by
  have HT := Lib.hid hT
  have HET := Lib.hid hET
  have ef := enters_of Tryz.func85 (by kernel_rfl) rfl
  clear hT hET
  go_enter_defers Tryz.func90, Tryz.ntmps90
  go_wp2_with fail
  obtain ⟨tb, htb⟩ : ∃ tb, w.heap.size = tb := ⟨_, rfl⟩
  obtain ⟨W, hW⟩ : ∃ W, (w.alloc (.cells #[.int .u64 0, .string ⟨#[]⟩, .string ⟨#[]⟩, .string ⟨#[]⟩] 78)).alloc (.cells #[.nilIface] 59) = W := ⟨_, rfl⟩
  have WB : Hid (Below w.heap.size w W) := Lib.hid (by rw [← hW]; exact balloc (balloc (Below.refl _ _) _) _)
  have W0 : Hid (W.heap[tb]? = some (.cells #[.int .u64 0, .string ⟨#[]⟩, .string ⟨#[]⟩, .string ⟨#[]⟩] 78 (0, 0))) := Lib.hid (by rw [← hW, ← htb]; exact block_alloc (heap_alloc_new _ _) _)
  have W1 : Hid (W.heap[tb + 1]? = some (.cells #[.nilIface] 59 (0, 0))) := Lib.hid (by rw [← hW]; exact alloc_new_at _ (by simp [htb]))
  have hWs : W.heap.size = tb + 1 + 1 := by rw [← hW]; simp [htb]
  have HTW : Hid (w.heap.size = tb) := Lib.hid htb
  try rw [hW]
  try simp only [htb]
  clear hW htb
  refine (New_any W s 10240).mono ?_
  rintro e w1 ⟨rfl, hw1⟩
  have hm : max (10240 : Int) 0 = 10240 := by decide
  rw [hm] at hw1
  obtain ⟨rb, hrb⟩ : ∃ rb, W.heap.size = rb := ⟨_, rfl⟩
  have R1 : Hid (RdB w1 rb s 0 10240) := Lib.hid (by rw [hw1, ← hrb]; exact heap_alloc_new _ _)
  have WB1 : Hid (Below W.heap.size W w1) := Lib.hid (by rw [hw1]; exact balloc (Below.refl _ _) _)
  have hs1 : w1.heap.size = rb + 1 := by rw [hw1, ← hrb]; simp
  try rw [hrb]
  clear hw1
  go_upto_region 3 with fail
  obtain ⟨V, hV⟩ : ∃ V, w1.alloc (.cells #[.pointer (some ⟨rb, 0, none⟩)] 199) = V := ⟨_, rfl⟩
  have VB : Hid (Below w1.heap.size w1 V) := Lib.hid (by rw [← hV]; exact balloc (Below.refl _ _) _)
  have VQ : Hid (V.heap[rb + 1]? = some (.cells #[.pointer (some ⟨rb, 0, none⟩)] 199 (0, 0))) := Lib.hid (by rw [← hV]; exact alloc_new_at _ hs1)
  try rw [hV]
  try simp only [hs1]
  have hrbt : rb = tb + 1 + 1 := hrb.symm.trans hWs
  have hTW := HTW.out
  have BV : Hid (Below w.heap.size w V) := Lib.hid (bnext (bnext WB.out WB1.out) VB.out)
  have WV : Hid (Below W.heap.size W V) := Lib.hid (bnext WB1.out VB.out)
  have VT : Hid (V.heap[tb]? = some (.cells #[.int .u64 0, .string ⟨#[]⟩, .string ⟨#[]⟩, .string ⟨#[]⟩] 78 (0, 0))) := Lib.hid ((WV.out.block _ (lt_of_block W0.out)).trans W0.out)
  have VE : Hid (V.heap[tb + 1]? = some (.cells #[.nilIface] 59 (0, 0))) := Lib.hid ((WV.out.block _ (lt_of_block W1.out)).trans W1.out)
  have VR : Hid (RdB V rb s 0 10240) := Lib.hid (R1.out.below VB.out)
  have ENV : Hid (RdEnv B V (rb + 1) rb s 0) := Lib.hid ⟨VQ.out, VR.out, HT.out.below BV.out, by omega, by omega, by omega, Nat.zero_le _, hs⟩
  have E : TEnv B (rb + 1) rb tb 4 78 V := ⟨⟨_, VR.out⟩, ⟨_, VT.out⟩, by omega, by omega, by omega, by decide, by decide⟩
  have REC : Hid (RecAt rb tb 78 4 V header0) := Lib.hid (rec_zero VT.out rfl (fun i hi => by
    match i, hi with
    | 0, _ => exact ⟨_, rfl, rfl⟩
    | 1, _ => exact ⟨_, rfl, rfl⟩
    | 2, _ => exact ⟨_, rfl, rfl⟩
    | 3, _ => exact ⟨_, rfl, rfl⟩))
  have HOF := Lib.hid (rofHeader_any (s := s) E)
  have HE := Lib.hid E
  have G : Hid (GOk header0 (headerGs s)) := Lib.hid (HeaderOk s)
  have HRBT := Lib.hid hrbt
  clear hV E hrb hs1 hWs hrbt hTW
  go_wp2_with fail
  refine HOF.out.mono ?_
  rintro e w2 ⟨u, rfl, ⟨g, c, l, rfl, hc, hF, hS⟩, hb⟩
  have hl : (headerGs s).length = l.length := hS.1
  have hg := (HE.out.below hb).apart hF.ex
  have H2 := Lib.hid (robject_any B (rb + 1) rb tb g 0 c header0 78 4 s w2 w2 l (headerGs s) 0 header0 hF.flds hc (show l.length ≤ 1000 by rw [← hl]; exact Nat.le_of_ble_eq_true rfl) hS (Chg.refl _ _ _) hg HE.out.nq HE.out.le HE.out.ne G.out.keys G.out.disj G.out.frames G.out.kinds (fun i => rfl) (REC.out.below hb) (ENV.out.below hb) (fun i hi o ho => rfl))
  have HB := Lib.hid hb
  clear hF hS hb hl hc hg HOF ef
  go_wp2_with fail
  refine H2.out.mono ?_
  intro e w3 hh
  cases hr : objR s (headerGs s) header0 0 with
  | error f =>
    rw [hr] at hh
    have HTH := Lib.hid (getIs_th hh)
    obtain ⟨fb, rfl, hf, hc3⟩ := getIs_err hh
    have HF := Lib.hid hf
    have HC := Lib.hid hc3
    have HR := Lib.hid hr
    clear hh hf hc3 hr H2
    go_wp2
    obtain ⟨cs, hcs, hcn⟩ := HTH.out
    have hce : w3.heap[tb + 1]? = some (.cells #[.nilIface] 59 (0, 0)) := (HC.out.block _ (Nat.lt_of_lt_of_le (lt_of_block VE.out) HB.out.size) (by have := HRBT.out; omega) (by omega)).trans ((HB.out.block _ (lt_of_block VE.out)).trans VE.out)
    refine leaves_cons (f := 144) (args := #[.pointer (some ⟨tb, 0, none⟩), .pointer (some ⟨tb + 1, 0, none⟩)]) (by simp) (by simp [go_sem]) ?_
    refine (read1Header_some tb (tb + 1) fb cs w3 hcs (arr4 hcn) hce (by omega)).mono ?_
    rintro e u' w4 ⟨rfl, rfl, HA⟩
    have y0 : ∀ o, w4.cell? ⟨tb, o, none⟩ = _ := block_cell HA.th
    have y1 : w4.cell? ⟨tb + 1, 0, none⟩ = some (.iface 127 (.pointer (some ⟨fb, 0, none⟩))) := block_cell HA.er 0
    refine ⟨_, by simp [results, Tryz.results90, go_sem, y0, y1]; rfl, ?_⟩
    refine ⟨?_, by
      rw [HR.out]
      refine ⟨fb, rfl, (HA.block fb (lt_of_block HF.out) (fun e => ?_) (fun e => ?_)).trans HF.out⟩
      · subst e; have h9 := hcs.symm.trans HF.out; cases h9
      · subst e; have h9 := hce.symm.trans HF.out; cases h9⟩
    have hsz := HTW.out
    have hb9 := HRBT.out
    refine ⟨HA.os.trans (HC.out.os.trans (HB.out.os.trans BV.out.os)), HA.tape.trans (HC.out.tape.trans (HB.out.tape.trans BV.out.tape)), HA.output.trans (HC.out.output.trans (HB.out.output.trans BV.out.output)), Nat.le_trans BV.out.size (Nat.le_trans HB.out.size (Nat.le_trans HC.out.size HA.size)), fun i hi => ?_⟩
    have l1 := Nat.lt_of_lt_of_le hi BV.out.size
    have l2 := Nat.lt_of_lt_of_le l1 HB.out.size
    exact (HA.block i (Nat.lt_of_lt_of_le l2 HC.out.size) (by omega) (by omega)).trans ((HC.out.block i l2 (by omega) (by omega)).trans ((HB.out.block i l1).trans (BV.out.block i hi)))
  | ok q =>
    rw [hr] at hh
    obtain ⟨rfl, hrd, hle, hx3, hc3⟩ := getIs_ok hh
    have HRD := Lib.hid hrd
    have HC := Lib.hid hc3
    have HR := Lib.hid hr
    have HKD : Hid (Kd header0 q.1) := Lib.hid (objR_kinds G.out.kinds hr (fun i => rfl))
    obtain ⟨_, hth, hlies⟩ := header_of_rec hx3 HKD.out
    have HTH := Lib.hid hth
    have HLI := Lib.hid hlies
    clear hh hrd hx3 hc3 hr H2 hth hlies
    obtain ⟨x, a⟩ := q
    have hts : tb < w3.heap.size := lt_of_block HTH.out
    have HQ3 : Hid (w3.heap[rb + 1]? = some (.cells #[.pointer (some ⟨rb, 0, none⟩)] 199 (0, 0))) := Lib.hid ((HC.out.block _ (Nat.lt_of_lt_of_le (lt_of_block VQ.out) HB.out.size) (by omega) (by have := HRBT.out; omega)).trans ((HB.out.block _ (lt_of_block VQ.out)).trans VQ.out))
    have HE3 : Hid (w3.heap[tb + 1]? = some (.cells #[.nilIface] 59 (0, 0))) := Lib.hid ((HC.out.block _ (Nat.lt_of_lt_of_le (lt_of_block VE.out) HB.out.size) (by have := HRBT.out; omega) (by omega)).trans ((HB.out.block _ (lt_of_block VE.out)).trans VE.out))
    have HET3 : Hid (ErrType w3) := Lib.hid (by
      have h1 := HET.out.below BV.out
      have h2 := h1.below HB.out
      unfold ErrType at h2 ⊢
      rw [World.cell?_of_block (w := w2) (HC.out.block _ (lt_of_cell h2) (show 0 ≠ rb by have := HRBT.out; have := HTW.out; omega) (show 0 ≠ tb by have := HTW.out; omega))]
      exact h2)
    go_upto_region 4 with fail
    obtain ⟨VO, hVO⟩ : ∃ VO : Nat → Option Nat, VO = fun j => if j = 6 then some tb else none := ⟨_, rfl⟩
    have vo6 : VO 6 = some tb := by rw [hVO]; rfl
    have von : ∀ j, j ≠ 6 → VO j = none := fun j h1 => by rw [hVO]; simp [h1]
    have vob : ∀ j b, b ≠ tb → VO j ≠ some b := fun j b hb => by
      by_cases h : j = 6
      · subst h; rw [vo6]; simp; exact fun e => hb e.symm
      · rw [von j h]; simp
    clear hVO
    refine wp_region_tailV 7 VO (fun i j b h1 h2 => by
        by_cases e1 : i = 6
        · by_cases e2 : j = 6
          · rw [e1, e2]
          · rw [von j e2] at h2; cases h2
        · rw [von i e1] at h1; cases h1) (fun _ _ _ => True) (fun _ => True) (fun _ _ _ _ _ => True) (fun _ _ => trivial) trivial
      (phis [fun u _ => u = .agg (cellsHeader x), fun u _ => u = .pointer (some ⟨rb + 1, 0, none⟩), fun u _ => u = .pointer (some ⟨rb + 1, 0, none⟩), fun u _ => u = .pointer (some ⟨rb + 1, 0, none⟩), fun u _ => u = .pointer (some ⟨rb, 0, none⟩), fun u w' => if a < s.size then ∃ fb, u = .iface 127 (.pointer (some ⟨fb, 0, none⟩)) ∧ FltB w' fb 5 a ∧ fb ≠ tb else u = .nilIface, fun _ w' => w'.heap[tb]? = some (.cells (cellsHeader x) 78 (0, 0))]) rfl (by kernel_rfl) (by kernel_rfl)
      (monoV_of ⟨monoV_eq, monoV_eq, monoV_eq, monoV_eq, monoV_eq, ?m5, ?m6, trivial⟩) (fun _ _ _ _ _ => trivial) (fun _ _ _ _ _ _ _ _ _ _ _ => trivial) (stepsV_of 7 ⟨?s0, ?s1, ?s2, ?s3, ?s4, ?s5, ?s6, trivial⟩) ?_
    case m5 =>
      intro j hj u w1 w2 he hp
      by_cases hlt : a < s.size
      · simp only [hlt, if_true] at hp ⊢
        obtain ⟨fb, h1, h2, h3⟩ := hp
        refine ⟨fb, h1, (he.1.block fb (lt_of_block h2) ?_).trans h2, h3⟩
        exact fun e => vob j fb h3 e.symm
      · simp only [hlt, if_false] at hp ⊢; exact hp
    case m6 =>
      intro j hj u w1 w2 he hp
      refine (he.1.block tb (lt_of_block hp) ?_).trans hp
      rw [von j hj]; simp
    case s0 =>
      refine stepV_val (v := .agg (cellsHeader x)) (fun _ _ => trivial) (fun _ _ _ _ => ⟨trivial, trivial⟩) (fun D av wv hE hO hD => ?_) (fun _ => rfl)
      have h6 : ¬ D 6 := hE.notyet 6 _ rfl { on := 0, ground := .data } (by simp) rfl hE.me
      have hb0 : wv.heap[tb]? = some (.cells (cellsHeader x) 78 (0, 0)) := (hE.late 6 h6 tb vo6 hts).trans HTH.out
      have k0 : wv.cell? ⟨tb, 0, none⟩ = some (.int .u64 (x 0).n) := block_cell hb0 0
      have k1 : wv.cell? ⟨tb, 1, none⟩ = some (.string (x 1).s) := block_cell hb0 1
      have k2 : wv.cell? ⟨tb, 2, none⟩ = some (.string (x 2).s) := block_cell hb0 2
      have k3 : wv.cell? ⟨tb, 3, none⟩ = some (.string (x 3).s) := block_cell hb0 3
      have h4 : av.eval (.tmp 4) = .pointer (some ⟨tb, 0, none⟩) := hO.2.2 4 rfl
      have f4 := (ev_form av 4).symm.trans h4
      refine ⟨rfl, ?_⟩
      simp [go_sem, f4, k0, k1, k2, k3]
    case s1 =>
      refine stepV_val (v := .pointer (some ⟨rb + 1, 0, none⟩)) (fun _ _ => trivial) (fun _ _ _ _ => ⟨trivial, trivial⟩) (fun D av wv hE hO hD => ?_) (fun _ => rfl)
      have h6 : av.eval (.tmp 6) = .pointer (some ⟨rb + 1, 0, none⟩) := hO.2.2 6 rfl
      have f6 := (ev_form av 6).symm.trans h6
      refine ⟨rfl, ?_⟩
      simp [go_sem, f6]
    case s2 =>
      refine stepV_val (v := .pointer (some ⟨rb + 1, 0, none⟩)) (fun _ _ => trivial) (fun _ _ _ _ => ⟨trivial, trivial⟩) (fun D av wv hE hO hD => ?_) (fun _ => rfl)
      have d17 : av.eval (.tmp 17) = .pointer (some ⟨rb + 1, 0, none⟩) := hD.1 rfl _ rfl
      have f17 := (ev_form av 17).symm.trans d17
      refine ⟨rfl, ?_⟩
      simp [go_sem, f17]
    case s3 =>
      refine stepV_val (v := .pointer (some ⟨rb + 1, 0, none⟩)) (fun _ _ => trivial) (fun _ _ _ _ => ⟨trivial, trivial⟩) (fun D av wv hE hO hD => ?_) (fun _ => rfl)
      have d18 : av.eval (.tmp 18) = .pointer (some ⟨rb + 1, 0, none⟩) := hD.1 rfl _ rfl
      have f18 := (ev_form av 18).symm.trans d18
      refine ⟨rfl, ?_⟩
      simp [go_sem, f18]
    case s4 =>
      refine stepV_val (v := .pointer (some ⟨rb, 0, none⟩)) (fun _ _ => trivial) (fun _ _ _ _ => ⟨trivial, trivial⟩) (fun D av wv hE hO hD => ?_) (fun _ => rfl)
      have d19 : av.eval (.tmp 19) = .pointer (some ⟨rb + 1, 0, none⟩) := hD.1 rfl _ rfl
      have f19 := (ev_form av 19).symm.trans d19
      have k0 : wv.cell? ⟨rb + 1, 0, none⟩ = some (.pointer (some ⟨rb, 0, none⟩)) := block_cell ((hE.ext.block (rb + 1) (lt_of_block HQ3.out) (fun j => vob j _ (by have := HRBT.out; omega))).trans HQ3.out) 0
      refine ⟨rfl, ?_⟩
      simp [go_sem, f19, k0]
    case s5 =>
      refine stepV_wp (fun D av wv hPP hE hO hD => ?_)
      have d20 : av.eval (.tmp 20) = .pointer (some ⟨rb, 0, none⟩) := hD.1 rfl _ rfl
      have f20 := (ev_form av 20).symm.trans d20
      have hrd : RdB wv rb s a 10240 := (hE.ext.block rb (lt_of_block HRD.out) (fun j => vob j _ (by have := HRBT.out; omega))).trans HRD.out
      have het : ErrType wv := by
        have h2 : ErrType w3.drew := HET3.out
        unfold ErrType at h2 ⊢
        rw [World.cell?_of_block (w := w3.drew) (hE.ext.block _ (lt_of_cell h2) (fun j => vob j _ (show 0 ≠ tb by have := HTW.out; omega)))]
        exact h2
      have hvs : w3.heap.size ≤ wv.heap.size := hE.ext.size
      refine ⟨rfl, wp_of_callR (f := 124) (args := #[.pointer (some ⟨rb, 0, none⟩)]) (R := fun u w2 => Below wv.heap.size wv w2 ∧ (if a < s.size then ∃ fb, u = .iface 127 (.pointer (some ⟨fb, 0, none⟩)) ∧ FltB w2 fb 5 a ∧ fb ≠ tb else u = .nilIface)) (by simp [go_sem, f20]) ((End_any wv rb s a 10240 het hrd hle hs).mono fun e w2 hh => ?_) (fun u w2 ⟨h1, h2⟩ => ⟨u, rfl, esV_of_ext h1 trivial, h2, fun _ _ _ _ _ => ⟨trivial, trivial⟩⟩)⟩
      obtain ⟨h1, h2⟩ := hh
      unfold leftOf at h2
      by_cases hlt : a < s.size
      · simp only [hlt, if_true] at h2 ⊢
        obtain ⟨fb, h3, h4, h5⟩ := h2
        exact ⟨_, h3, h1, fb, rfl, h5, by omega⟩
      · simp only [hlt, if_false] at h2 ⊢
        exact ⟨_, h2, h1, rfl⟩
    case s6 =>
      refine stepV_wp (fun D av wv hPP hE hO hD => ?_)
      have d16 : av.eval (.tmp 16) = .agg (cellsHeader x) := hD.1 rfl _ rfl
      have f16 := (ev_form av 16).symm.trans d16
      have h4 : av.eval (.tmp 4) = .pointer (some ⟨tb, 0, none⟩) := hO.2.2 4 rfl
      have f4 := (ev_form av 4).symm.trans h4
      have hq : wv.heap[tb]? = some (.cells (cellsHeader x) 78 (0, 0)) := (hE.own tb vo6 hts).trans HTH.out
      have k0 : wv.cell? ⟨tb, 0, none⟩ = some (.int .u64 (x 0).n) := block_cell hq 0
      have k1 : wv.cell? ⟨tb, 1, none⟩ = some (.string (x 1).s) := block_cell hq 1
      have k2 : wv.cell? ⟨tb, 2, none⟩ = some (.string (x 2).s) := block_cell hq 2
      have k3 : wv.cell? ⟨tb, 3, none⟩ = some (.string (x 3).s) := block_cell hq 3
      have hz : ∀ o, wv.frozen? ⟨tb, o, none⟩ = false := block_free hq
      have l0 : tb < wv.heap.size := lt_of_block hq
      refine ⟨rfl, ?_⟩
      unfold Oper.wp
      simp [go_sem, f4, f16, hz, l0, k0, k1, k2, k3]
      exact ⟨⟨by rw [vo6]; exact (extB_setIn (extB_setIn (extB_setIn (extB_setIn (ExtB_refl _ _) 0 _) 1 _) 2 _) 3 _), trivial⟩, undef, (block_setCell (block_setCell (block_setCell (block_setCell hq (o := 0) _) (o := 1) _) (o := 2) _) (o := 3) _), fun _ _ _ _ _ => ⟨trivial, trivial⟩⟩
    intro a' w' hE _ hO hall _
    have hA := act_of_outer (ds := [16, 17, 18, 19, 20, 21]) rfl hO (by kernel_rfl)
    have e16 : (fun u (_ : World) => u = .agg (cellsHeader x)) (a'.eval (.tmp 16)) w' := hall.1 _ rfl
    have e17 : (fun u (_ : World) => u = .pointer (some ⟨rb + 1, 0, none⟩)) (a'.eval (.tmp 17)) w' := hall.2.1 _ rfl
    have e18 : (fun u (_ : World) => u = .pointer (some ⟨rb + 1, 0, none⟩)) (a'.eval (.tmp 18)) w' := hall.2.2.1 _ rfl
    have e19 : (fun u (_ : World) => u = .pointer (some ⟨rb + 1, 0, none⟩)) (a'.eval (.tmp 19)) w' := hall.2.2.2.1 _ rfl
    have e20 : (fun u (_ : World) => u = .pointer (some ⟨rb, 0, none⟩)) (a'.eval (.tmp 20)) w' := hall.2.2.2.2.1 _ rfl
    have e21 : (fun u w' => if a < s.size then ∃ fb, u = .iface 127 (.pointer (some ⟨fb, 0, none⟩)) ∧ FltB w' fb 5 a ∧ fb ≠ tb else u = .nilIface) (a'.eval (.tmp 21)) w' := hall.2.2.2.2.2.1 _ rfl
    have z6 : w'.heap[tb]? = some (.cells (cellsHeader x) 78 (0, 0)) := hall.2.2.2.2.2.2.1 _ rfl
    obtain ⟨v21, hv21⟩ : ∃ v, a'.eval (.tmp 21) = v := ⟨_, rfl⟩
    rw [hv21] at e21
    simp only [List.foldl_cons, List.foldl_nil, Act.put, List.setIfInBounds_toArray, List.set_cons_succ, List.set_cons_zero, e16, e17, e18, e19, e20, hv21] at hA
    clear hO hall e16 e17 e18 e19 e20 hv21
    subst hA
    have HX4 : Hid (ExtS VO w3 w') := Lib.hid ⟨hE.os, hE.tape, hE.output, hE.size, hE.block⟩
    have HZ6 := Lib.hid z6
    have hbe : w'.heap[tb + 1]? = some (.cells #[.nilIface] 59 (0, 0)) := (HX4.out.block _ (lt_of_block HE3.out) (fun j => vob j _ (by omega))).trans HE3.out
    have HBE := Lib.hid hbe
    have g0 : w'.cell? ⟨tb + 1, 0, none⟩ = some .nilIface := block_cell hbe 0
    have g1 : w'.frozen? ⟨tb + 1, 0, none⟩ = false := block_free hbe 0
    have HVO : Hid (∀ j b, b ≠ tb → VO j ≠ some b) := Lib.hid vob
    have HFIN : ∀ v, Hid (Below w.heap.size w (w'.setCell ⟨tb + 1, 0, none⟩ v)) := fun v => Lib.hid (by
      have hsz := HTW.out
      have hb9 := HRBT.out
      refine ⟨HX4.out.os.trans (HC.out.os.trans (HB.out.os.trans BV.out.os)), HX4.out.tape.trans (HC.out.tape.trans (HB.out.tape.trans BV.out.tape)), HX4.out.output.trans (HC.out.output.trans (HB.out.output.trans BV.out.output)), by simpa using Nat.le_trans BV.out.size (Nat.le_trans HB.out.size (Nat.le_trans HC.out.size HX4.out.size)), fun i hi => ?_⟩
      have l1 := Nat.lt_of_lt_of_le hi BV.out.size
      have l2 := Nat.lt_of_lt_of_le l1 HB.out.size
      rw [Below.heap_setCell _ _ _ _ (show i ≠ tb + 1 by omega)]
      exact (HX4.out.block i (Nat.lt_of_lt_of_le l2 HC.out.size) (fun j => HVO.out j i (by omega))).trans ((HC.out.block i l2 (by omega) (by omega)).trans ((HB.out.block i l1).trans (BV.out.block i hi))))
    have HLF : ∀ v, Hid (LiesHeader rb tb (w'.setCell ⟨tb + 1, 0, none⟩ v) x) := fun v => Lib.hid (HLI.out.up (fun b h1 h2 => by
      have hb9 := HRBT.out
      rw [Below.heap_setCell _ _ _ _ (show b ≠ tb + 1 by omega)]
      exact HX4.out.block b h2 (fun j => HVO.out j b (by omega))))
    have HTF : ∀ v o, (w'.setCell ⟨tb + 1, 0, none⟩ v).cell? ⟨tb, o, none⟩ = (cellsHeader x)[o]? := fun v o => block_cell (block_setCell_ne HZ6.out (by show tb ≠ tb + 1; omega) v) o
    have HEF : ∀ v, (w'.setCell ⟨tb + 1, 0, none⟩ v).cell? ⟨tb + 1, 0, none⟩ = some v := fun v => block_cell (block_setCell HBE.out v) 0
    have HTFH := Lib.hid HTF
    have HEFH := Lib.hid HEF
    clear hE z6 hbe vo6 von vob HTF HEF
    by_cases hlt : a < s.size
    · simp only [hlt, if_true] at e21
      obtain ⟨fb, rfl, hf, hft⟩ := e21
      have HF := Lib.hid hf
      have HLT := Lib.hid hlt
      clear hf hlt
      go_wp2
      refine leaves_cons (f := 144) (args := #[.pointer (some ⟨tb, 0, none⟩), .pointer (some ⟨tb + 1, 0, none⟩)]) (by simp) (by simp [go_sem]) ?_
      refine (read1Header_idle _ _ _).mono ?_
      rintro e u' w'' ⟨rfl, rfl, rfl⟩
      have y0 := HTFH.out (.iface 127 (.pointer (some ⟨fb, 0, none⟩)))
      have y1 := HEFH.out (.iface 127 (.pointer (some ⟨fb, 0, none⟩)))
      refine ⟨_, by simp [results, Tryz.results90, go_sem, y0, y1]; rfl, ?_⟩
      refine ⟨(HFIN _).out, ?_⟩
      rw [HR.out]
      refine ⟨HKD.out, hle, ⟨rb, tb, by have := HRBT.out; have := HTW.out; omega, (HLF _).out⟩, ?_⟩
      rw [if_pos HLT.out]
      exact ⟨fb, rfl, block_setCell_ne HF.out (by intro e; subst e; have h9 := HBE.out.symm.trans HF.out; cases h9) _⟩
    · simp only [hlt, if_false] at e21
      subst e21
      have HLT := Lib.hid hlt
      clear hlt
      go_wp2
      refine leaves_cons (f := 144) (args := #[.pointer (some ⟨tb, 0, none⟩), .pointer (some ⟨tb + 1, 0, none⟩)]) (by simp) (by simp [go_sem]) ?_
      refine (read1Header_idle _ _ _).mono ?_
      rintro e u' w'' ⟨rfl, rfl, rfl⟩
      have y0 := HTFH.out .nilIface
      have y1 := HEFH.out .nilIface
      refine ⟨_, by simp [results, Tryz.results90, go_sem, y0, y1]; rfl, ?_⟩
      refine ⟨(HFIN _).out, ?_⟩
      rw [HR.out]
      refine ⟨HKD.out, hle, ⟨rb, tb, by have := HRBT.out; have := HTW.out; omega, (HLF _).out⟩, ?_⟩
      rw [if_neg HLT.out]
end Go.Proofs.YtihiaopilnjonaaGreatDoor
namespace Go.Proofs.YtihiaopilnjonaaGreatDoor
open Go.RowKit
set_option linter.unusedSimpArgs false
set_option linter.unusedVariables false
theorem bsn {w : World} {b c o : Nat} {x : Obj} {v : Value} (h : w.heap[b]? = some x) (hp : b ≠ c) : (w.setCell ⟨c, o, none⟩ v).heap[b]? = some x := block_setCell_ne h hp v
set_option maxRecDepth 100000 in
theorem overPart_ok (m0 : ByteArray) (m1 : Int) (m2 : Int) (m3 : Int) (m4 : Int) (w : World) : Calls Tryz.prog 66 #[.agg #[.string m0, .int .u64 m1, .int .u64 m2, .int .u64 m3, .int .u64 m4], .nilIface] w fun e w' => e = .returned (.tuple #[.agg #[.string m0, .int .u64 m1, .int .u64 m2, .int .u64 m3, .int .u64 m4], .nilIface]) ∧ Below w.heap.size w w' := by
  go_enter Tryz.func66, Tryz.ntmps66
  go_wp2
  have hb := block_setCell (block_setCell (block_setCell (block_setCell (block_setCell (alloc_new_at (w := w.alloc (.cells #[.string m0, .int .u64 m1, .int .u64 m2, .int .u64 m3, .int .u64 m4] 46)) (.cells #[.string ⟨#[]⟩, .int .u64 0, .int .u64 0, .int .u64 0, .int .u64 0] 46) (alloc_size _ rfl)) (o := 0) (.string m0)) (o := 1) (.int .u64 m1)) (o := 2) (.int .u64 m2)) (o := 3) (.int .u64 m3)) (o := 4) (.int .u64 m4)
  have d : ∀ o, _ = _ := block_cell hb
  refine bodyPost_ret (v := .tuple #[.agg #[.string m0, .int .u64 m1, .int .u64 m2, .int .u64 m3, .int .u64 m4], .nilIface]) ?_ rfl ⟨rfl, by (repeat (first | exact Below.refl _ _ | assumption | (refine bdrew ?_) | (refine bdrewN ?_ _) | (refine balloc ?_ _) | (refine bset ?_ (by first | omega | (simp; done) | (simp; omega)) _) | (refine bnext ?_ (by assumption))))⟩
  simp [results, Tryz.results66, go_sem, d]
set_option maxRecDepth 100000 in
theorem overPart_no (m0 : ByteArray) (m1 : Int) (m2 : Int) (m3 : Int) (m4 : Int) (fb : Nat) (w : World) : Calls Tryz.prog 66 #[.agg #[.string m0, .int .u64 m1, .int .u64 m2, .int .u64 m3, .int .u64 m4], .iface 127 (.pointer (some ⟨fb, 0, none⟩))] w fun e w' => e = .returned (.tuple #[zeroPart, .iface 127 (.pointer (some ⟨fb, 0, none⟩))]) ∧ Below w.heap.size w w' := by
  go_enter Tryz.func66, Tryz.ntmps66
  go_wp2
  have hb := block_setCell (block_setCell (block_setCell (block_setCell (block_setCell (block_alloc (alloc_new_at (w := w.alloc (.cells #[.string m0, .int .u64 m1, .int .u64 m2, .int .u64 m3, .int .u64 m4] 46)) (.cells #[.string ⟨#[]⟩, .int .u64 0, .int .u64 0, .int .u64 0, .int .u64 0] 46) (alloc_size _ rfl)) (.cells #[.string ⟨#[]⟩, .int .u64 0, .int .u64 0, .int .u64 0, .int .u64 0] 46)) (o := 0) (.string ⟨#[]⟩)) (o := 1) (.int .u64 0)) (o := 2) (.int .u64 0)) (o := 3) (.int .u64 0)) (o := 4) (.int .u64 0)
  have d : ∀ o, _ = _ := block_cell hb
  refine bodyPost_ret (v := .tuple #[zeroPart, .iface 127 (.pointer (some ⟨fb, 0, none⟩))]) ?_ rfl ⟨rfl, by (repeat (first | exact Below.refl _ _ | assumption | (refine bdrew ?_) | (refine bdrewN ?_ _) | (refine balloc ?_ _) | (refine bset ?_ (by first | omega | (simp; done) | (simp; omega)) _) | (refine bnext ?_ (by assumption))))⟩
  simp [results, Tryz.results66, go_sem, d]
def RePart (s : ByteArray) (w : World) (e : Ending) (w' : World) : Prop :=
  Below w.heap.size w w' ∧ match readR s (partGs s 0) part0 with
    | .error f => ∃ fb, e = .returned (.tuple #[zeroPart, .iface 127 (.pointer (some ⟨fb, 0, none⟩))]) ∧ FltB w' fb f.1 f.2
    | .ok x => Kd part0 x ∧ (∃ rb tb, LiesPart rb tb w' x) ∧ e = .returned (.tuple #[.agg (cellsPart x), .nilIface])
set_option maxRecDepth 100000 in
set_option maxHeartbeats 2000000 in
theorem reaPart_any (B : Nat) (s : ByteArray) (w : World) (hT : Tabs B w) (hET : ErrType w) (hB : B ≤ w.heap.size) (hg : 0 < B) (hs : s.size ≤ 9223372036854775807) :
    Calls Tryz.prog 29 #[.string s] w (RePart s w) := by
  have H := Lib.hid (fun (w' : World) (hb : Below w.heap.size w w') => readPart_any B s w' (hT.below hb) (hET.below hb) (Nat.le_trans hB hb.size) hg hs)
  clear hT hET
  go_enter Tryz.func29, Tryz.ntmps29
  go_wp2_with fail
  refine (H.out _ (balloc (Below.refl _ _) _)).mono ?_
  rintro e w1 ⟨hb1, hh⟩
  have hblk := (hb1.block w.heap.size (by simp)).trans (heap_alloc_new w _)
  have HBK := Lib.hid hblk
  have HB := Lib.hid (bnext (balloc (Below.refl _ _) _) hb1)
  clear hb1 hblk
  cases hr : objR s (partGs s 0) part0 0 with
  | error f =>
    rw [hr] at hh
    obtain ⟨fb, rfl, hf⟩ := hh
    have HF := Lib.hid hf
    have HR : Hid (readR s (partGs s 0) part0 = .error f) := Lib.hid (by unfold readR; rw [hr])
    clear hf hr
    go_wp2_with fail
    refine (overPart_no _ _ _ _ _ fb w1).mono ?_
    rintro e w2 ⟨rfl, hb2⟩
    have hb := (hb2.block _ (lt_of_block HBK.out)).trans HBK.out
    have HB2 := Lib.hid (bnext HB.out hb2)
    have HF2 := Lib.hid (HF.out.below hb2)
    have HBK2 := Lib.hid hb
    have g0 : ∀ o, w2.cell? ⟨w.heap.size, o, none⟩ = _ := block_cell hb
    have g1 : ∀ o, w2.frozen? ⟨w.heap.size, o, none⟩ = false := block_free hb
    have g2 : w.heap.size < w2.heap.size := lt_of_block hb
    clear hb2 hb
    go_wp2
    have hb := block_setCell (block_setCell (block_setCell (block_setCell (block_setCell (HBK2.out) (o := 0) (.string ⟨#[]⟩)) (o := 1) (.int .u64 0)) (o := 2) (.int .u64 0)) (o := 3) (.int .u64 0)) (o := 4) (.int .u64 0)
    have d : ∀ o, _ = _ := block_cell hb
    have hne : fb ≠ w.heap.size := fun e => by subst e; have h9 := HBK2.out.symm.trans HF2.out; cases h9
    refine bodyPost_ret (v := .tuple #[zeroPart, .iface 127 (.pointer (some ⟨fb, 0, none⟩))]) ?_ rfl ⟨(bset (bset (bset (bset (bset HB2.out (Nat.le_refl _) _) (Nat.le_refl _) _) (Nat.le_refl _) _) (Nat.le_refl _) _) (Nat.le_refl _) _), ?_⟩
    · simp [results, Tryz.results29, go_sem, d]
    · rw [HR.out]
      exact ⟨fb, rfl, (bsn (bsn (bsn (bsn (bsn HF2.out hne) hne) hne) hne) hne)⟩
  | ok y =>
    rw [hr] at hh
    obtain ⟨hk, hle, ⟨rb, tb, hrb, hl⟩, hh⟩ := hh
    have HL := Lib.hid hl
    by_cases hlt : y.2 < s.size
    · rw [if_pos hlt] at hh
      obtain ⟨fb, rfl, hf⟩ := hh
      have HF := Lib.hid hf
      have HR : Hid (readR s (partGs s 0) part0 = .error (5, y.2)) := Lib.hid (by unfold readR; rw [hr]; exact if_pos hlt)
      clear hf hr hlt
      go_wp2_with fail
      refine (overPart_no _ _ _ _ _ fb w1).mono ?_
      rintro e w2 ⟨rfl, hb2⟩
      have hb := (hb2.block _ (lt_of_block HBK.out)).trans HBK.out
      have HB2 := Lib.hid (bnext HB.out hb2)
      have HF2 := Lib.hid (HF.out.below hb2)
      have HBK2 := Lib.hid hb
      have g0 : ∀ o, w2.cell? ⟨w.heap.size, o, none⟩ = _ := block_cell hb
      have g1 : ∀ o, w2.frozen? ⟨w.heap.size, o, none⟩ = false := block_free hb
      have g2 : w.heap.size < w2.heap.size := lt_of_block hb
      clear hb2 hb
      go_wp2
      have hb := block_setCell (block_setCell (block_setCell (block_setCell (block_setCell (HBK2.out) (o := 0) (.string ⟨#[]⟩)) (o := 1) (.int .u64 0)) (o := 2) (.int .u64 0)) (o := 3) (.int .u64 0)) (o := 4) (.int .u64 0)
      have d : ∀ o, _ = _ := block_cell hb
      have hne : fb ≠ w.heap.size := fun e => by subst e; have h9 := HBK2.out.symm.trans HF2.out; cases h9
      refine bodyPost_ret (v := .tuple #[zeroPart, .iface 127 (.pointer (some ⟨fb, 0, none⟩))]) ?_ rfl ⟨(bset (bset (bset (bset (bset HB2.out (Nat.le_refl _) _) (Nat.le_refl _) _) (Nat.le_refl _) _) (Nat.le_refl _) _) (Nat.le_refl _) _), ?_⟩
      · simp [results, Tryz.results29, go_sem, d]
      · rw [HR.out]
        exact ⟨fb, rfl, (bsn (bsn (bsn (bsn (bsn HF2.out hne) hne) hne) hne) hne)⟩
    · rw [if_neg hlt] at hh
      subst hh
      have HR : Hid (readR s (partGs s 0) part0 = .ok y.1) := Lib.hid (by unfold readR; rw [hr]; exact if_neg hlt)
      clear hr hlt
      go_wp2_with fail
      refine (overPart_ok _ _ _ _ _ w1).mono ?_
      rintro e w2 ⟨rfl, hb2⟩
      have hb := (hb2.block _ (lt_of_block HBK.out)).trans HBK.out
      have HB2 := Lib.hid (bnext HB.out hb2)
      have HL2 := Lib.hid (HL.out.below hb2)
      have HBK2 := Lib.hid hb
      have g0 : ∀ o, w2.cell? ⟨w.heap.size, o, none⟩ = _ := block_cell hb
      have g1 : ∀ o, w2.frozen? ⟨w.heap.size, o, none⟩ = false := block_free hb
      have g2 : w.heap.size < w2.heap.size := lt_of_block hb
      clear hb2 hb
      go_wp2
      have hb := block_setCell (block_setCell (block_setCell (block_setCell (block_setCell (HBK2.out) (o := 0) (.string (y.1 0).s)) (o := 1) (.int .u64 (y.1 1).n)) (o := 2) (.int .u64 (y.1 2).n)) (o := 3) (.int .u64 (y.1 3).n)) (o := 4) (.int .u64 (y.1 4).n)
      have d : ∀ o, _ = _ := block_cell hb
      refine bodyPost_ret (v := .tuple #[.agg (cellsPart y.1), .nilIface]) ?_ rfl ⟨(bset (bset (bset (bset (bset HB2.out (Nat.le_refl _) _) (Nat.le_refl _) _) (Nat.le_refl _) _) (Nat.le_refl _) _) (Nat.le_refl _) _), ?_⟩
      · simp [results, Tryz.results29, go_sem, d]
      · rw [HR.out]
        exact ⟨hk, ⟨rb, tb, HL2.out.up (fun b h1 h2 => by
          have h3 : b ≠ w.heap.size := by simp at hrb; omega
          repeat rw [Below.heap_setCell _ _ _ _ h3])⟩, rfl⟩
set_option maxRecDepth 100000 in
theorem overSlot_ok (m0 : Int) (m1 : Bool) (m2 : Int) (a3 : Option Addr) (n3 c3 : Nat) (a4 : Option Addr) (n4 c4 : Nat) (w : World) : Calls Tryz.prog 76 #[.agg #[.int .u64 m0, .bool m1, .int .u64 m2, .slice a3 n3 c3, .slice a4 n4 c4], .nilIface] w fun e w' => e = .returned (.tuple #[.agg #[.int .u64 m0, .bool m1, .int .u64 m2, .slice a3 n3 c3, .slice a4 n4 c4], .nilIface]) ∧ Below w.heap.size w w' := by
  go_enter Tryz.func76, Tryz.ntmps76
  go_wp2
  have hb := block_setCell (block_setCell (block_setCell (block_setCell (block_setCell (alloc_new_at (w := w.alloc (.cells #[.int .u64 m0, .bool m1, .int .u64 m2, .slice a3 n3 c3, .slice a4 n4 c4] 44)) (.cells #[.int .u64 0, .bool false, .int .u64 0, .slice none 0 0, .slice none 0 0] 44) (alloc_size _ rfl)) (o := 0) (.int .u64 m0)) (o := 1) (.bool m1)) (o := 2) (.int .u64 m2)) (o := 3) (.slice a3 n3 c3)) (o := 4) (.slice a4 n4 c4)
  have d : ∀ o, _ = _ := block_cell hb
  refine bodyPost_ret (v := .tuple #[.agg #[.int .u64 m0, .bool m1, .int .u64 m2, .slice a3 n3 c3, .slice a4 n4 c4], .nilIface]) ?_ rfl ⟨rfl, by (repeat (first | exact Below.refl _ _ | assumption | (refine bdrew ?_) | (refine bdrewN ?_ _) | (refine balloc ?_ _) | (refine bset ?_ (by first | omega | (simp; done) | (simp; omega)) _) | (refine bnext ?_ (by assumption))))⟩
  simp [results, Tryz.results76, go_sem, d]
set_option maxRecDepth 100000 in
theorem overSlot_no (m0 : Int) (m1 : Bool) (m2 : Int) (a3 : Option Addr) (n3 c3 : Nat) (a4 : Option Addr) (n4 c4 : Nat) (fb : Nat) (w : World) : Calls Tryz.prog 76 #[.agg #[.int .u64 m0, .bool m1, .int .u64 m2, .slice a3 n3 c3, .slice a4 n4 c4], .iface 127 (.pointer (some ⟨fb, 0, none⟩))] w fun e w' => e = .returned (.tuple #[zeroSlot, .iface 127 (.pointer (some ⟨fb, 0, none⟩))]) ∧ Below w.heap.size w w' := by
  go_enter Tryz.func76, Tryz.ntmps76
  go_wp2
  have hb := block_setCell (block_setCell (block_setCell (block_setCell (block_setCell (block_alloc (alloc_new_at (w := w.alloc (.cells #[.int .u64 m0, .bool m1, .int .u64 m2, .slice a3 n3 c3, .slice a4 n4 c4] 44)) (.cells #[.int .u64 0, .bool false, .int .u64 0, .slice none 0 0, .slice none 0 0] 44) (alloc_size _ rfl)) (.cells #[.int .u64 0, .bool false, .int .u64 0, .slice none 0 0, .slice none 0 0] 44)) (o := 0) (.int .u64 0)) (o := 1) (.bool false)) (o := 2) (.int .u64 0)) (o := 3) (.slice none 0 0)) (o := 4) (.slice none 0 0)
  have d : ∀ o, _ = _ := block_cell hb
  refine bodyPost_ret (v := .tuple #[zeroSlot, .iface 127 (.pointer (some ⟨fb, 0, none⟩))]) ?_ rfl ⟨rfl, by (repeat (first | exact Below.refl _ _ | assumption | (refine bdrew ?_) | (refine bdrewN ?_ _) | (refine balloc ?_ _) | (refine bset ?_ (by first | omega | (simp; done) | (simp; omega)) _) | (refine bnext ?_ (by assumption))))⟩
  simp [results, Tryz.results76, go_sem, d]
def ReSlot (s : ByteArray) (w : World) (e : Ending) (w' : World) : Prop :=
  Below w.heap.size w w' ∧ match readR s (slotGs s 0) slot0 with
    | .error f => ∃ fb, e = .returned (.tuple #[zeroSlot, .iface 127 (.pointer (some ⟨fb, 0, none⟩))]) ∧ FltB w' fb f.1 f.2
    | .ok x => Kd slot0 x ∧ ∃ (a3 : Option Addr) (c3 : Nat) (a4 : Option Addr) (c4 : Nat), (∃ rb tb, LiesSlot rb tb w' x a3 c3 a4 c4) ∧ e = .returned (.tuple #[.agg (cellsSlot x a3 c3 a4 c4), .nilIface])
set_option maxRecDepth 100000 in
set_option maxHeartbeats 2000000 in
theorem reaSlot_any (B : Nat) (s : ByteArray) (w : World) (hT : Tabs B w) (hET : ErrType w) (hB : B ≤ w.heap.size) (hg : 0 < B) (hs : s.size ≤ 9223372036854775807) :
    Calls Tryz.prog 35 #[.string s] w (ReSlot s w) := by
  have H := Lib.hid (fun (w' : World) (hb : Below w.heap.size w w') => readSlot_any B s w' (hT.below hb) (hET.below hb) (Nat.le_trans hB hb.size) hg hs)
  clear hT hET
  go_enter Tryz.func35, Tryz.ntmps35
  go_wp2_with fail
  refine (H.out _ (balloc (Below.refl _ _) _)).mono ?_
  rintro e w1 ⟨hb1, hh⟩
  have hblk := (hb1.block w.heap.size (by simp)).trans (heap_alloc_new w _)
  have HBK := Lib.hid hblk
  have HB := Lib.hid (bnext (balloc (Below.refl _ _) _) hb1)
  clear hb1 hblk
  cases hr : objR s (slotGs s 0) slot0 0 with
  | error f =>
    rw [hr] at hh
    obtain ⟨fb, rfl, hf⟩ := hh
    have HF := Lib.hid hf
    have HR : Hid (readR s (slotGs s 0) slot0 = .error f) := Lib.hid (by unfold readR; rw [hr])
    clear hf hr
    go_wp2_with fail
    refine (overSlot_no _ _ _ _ _ _ _ _ _ fb w1).mono ?_
    rintro e w2 ⟨rfl, hb2⟩
    have hb := (hb2.block _ (lt_of_block HBK.out)).trans HBK.out
    have HB2 := Lib.hid (bnext HB.out hb2)
    have HF2 := Lib.hid (HF.out.below hb2)
    have HBK2 := Lib.hid hb
    have g0 : ∀ o, w2.cell? ⟨w.heap.size, o, none⟩ = _ := block_cell hb
    have g1 : ∀ o, w2.frozen? ⟨w.heap.size, o, none⟩ = false := block_free hb
    have g2 : w.heap.size < w2.heap.size := lt_of_block hb
    clear hb2 hb
    go_wp2
    have hb := block_setCell (block_setCell (block_setCell (block_setCell (block_setCell (HBK2.out) (o := 0) (.int .u64 0)) (o := 1) (.bool false)) (o := 2) (.int .u64 0)) (o := 3) (.slice none 0 0)) (o := 4) (.slice none 0 0)
    have d : ∀ o, _ = _ := block_cell hb
    have hne : fb ≠ w.heap.size := fun e => by subst e; have h9 := HBK2.out.symm.trans HF2.out; cases h9
    refine bodyPost_ret (v := .tuple #[zeroSlot, .iface 127 (.pointer (some ⟨fb, 0, none⟩))]) ?_ rfl ⟨(bset (bset (bset (bset (bset HB2.out (Nat.le_refl _) _) (Nat.le_refl _) _) (Nat.le_refl _) _) (Nat.le_refl _) _) (Nat.le_refl _) _), ?_⟩
    · simp [results, Tryz.results35, go_sem, d]
    · rw [HR.out]
      exact ⟨fb, rfl, (bsn (bsn (bsn (bsn (bsn HF2.out hne) hne) hne) hne) hne)⟩
  | ok y =>
    rw [hr] at hh
    obtain ⟨hk, hle, a3, c3, a4, c4, ⟨rb, tb, hrb, hl⟩, hh⟩ := hh
    have HL := Lib.hid hl
    by_cases hlt : y.2 < s.size
    · rw [if_pos hlt] at hh
      obtain ⟨fb, rfl, hf⟩ := hh
      have HF := Lib.hid hf
      have HR : Hid (readR s (slotGs s 0) slot0 = .error (5, y.2)) := Lib.hid (by unfold readR; rw [hr]; exact if_pos hlt)
      clear hf hr hlt
      go_wp2_with fail
      refine (overSlot_no _ _ _ _ _ _ _ _ _ fb w1).mono ?_
      rintro e w2 ⟨rfl, hb2⟩
      have hb := (hb2.block _ (lt_of_block HBK.out)).trans HBK.out
      have HB2 := Lib.hid (bnext HB.out hb2)
      have HF2 := Lib.hid (HF.out.below hb2)
      have HBK2 := Lib.hid hb
      have g0 : ∀ o, w2.cell? ⟨w.heap.size, o, none⟩ = _ := block_cell hb
      have g1 : ∀ o, w2.frozen? ⟨w.heap.size, o, none⟩ = false := block_free hb
      have g2 : w.heap.size < w2.heap.size := lt_of_block hb
      clear hb2 hb
      go_wp2
      have hb := block_setCell (block_setCell (block_setCell (block_setCell (block_setCell (HBK2.out) (o := 0) (.int .u64 0)) (o := 1) (.bool false)) (o := 2) (.int .u64 0)) (o := 3) (.slice none 0 0)) (o := 4) (.slice none 0 0)
      have d : ∀ o, _ = _ := block_cell hb
      have hne : fb ≠ w.heap.size := fun e => by subst e; have h9 := HBK2.out.symm.trans HF2.out; cases h9
      refine bodyPost_ret (v := .tuple #[zeroSlot, .iface 127 (.pointer (some ⟨fb, 0, none⟩))]) ?_ rfl ⟨(bset (bset (bset (bset (bset HB2.out (Nat.le_refl _) _) (Nat.le_refl _) _) (Nat.le_refl _) _) (Nat.le_refl _) _) (Nat.le_refl _) _), ?_⟩
      · simp [results, Tryz.results35, go_sem, d]
      · rw [HR.out]
        exact ⟨fb, rfl, (bsn (bsn (bsn (bsn (bsn HF2.out hne) hne) hne) hne) hne)⟩
    · rw [if_neg hlt] at hh
      subst hh
      have HR : Hid (readR s (slotGs s 0) slot0 = .ok y.1) := Lib.hid (by unfold readR; rw [hr]; exact if_neg hlt)
      clear hr hlt
      go_wp2_with fail
      refine (overSlot_ok _ _ _ _ _ _ _ _ _ w1).mono ?_
      rintro e w2 ⟨rfl, hb2⟩
      have hb := (hb2.block _ (lt_of_block HBK.out)).trans HBK.out
      have HB2 := Lib.hid (bnext HB.out hb2)
      have HL2 := Lib.hid (HL.out.below hb2)
      have HBK2 := Lib.hid hb
      have g0 : ∀ o, w2.cell? ⟨w.heap.size, o, none⟩ = _ := block_cell hb
      have g1 : ∀ o, w2.frozen? ⟨w.heap.size, o, none⟩ = false := block_free hb
      have g2 : w.heap.size < w2.heap.size := lt_of_block hb
      clear hb2 hb
      go_wp2
      have hb := block_setCell (block_setCell (block_setCell (block_setCell (block_setCell (HBK2.out) (o := 0) (.int .u64 (y.1 0).n)) (o := 1) (.bool (y.1 1).q)) (o := 2) (.int .u64 (y.1 2).n)) (o := 3) (.slice a3 (len (y.1 3).l) c3)) (o := 4) (.slice a4 (len (y.1 4).l) c4)
      have d : ∀ o, _ = _ := block_cell hb
      refine bodyPost_ret (v := .tuple #[.agg (cellsSlot y.1 a3 c3 a4 c4), .nilIface]) ?_ rfl ⟨(bset (bset (bset (bset (bset HB2.out (Nat.le_refl _) _) (Nat.le_refl _) _) (Nat.le_refl _) _) (Nat.le_refl _) _) (Nat.le_refl _) _), ?_⟩
      · simp [results, Tryz.results35, go_sem, d]
      · rw [HR.out]
        exact ⟨hk, a3, c3, a4, c4, ⟨rb, tb, HL2.out.up (fun b h1 h2 => by
          have h3 : b ≠ w.heap.size := by simp at hrb; omega
          repeat rw [Below.heap_setCell _ _ _ _ h3])⟩, rfl⟩
set_option maxRecDepth 100000 in
theorem overMsg_ok (m0 : ByteArray) (m1 : ByteArray) (m2 : Int) (m3 : Int) (m4 : Int) (m5 : Int) (w : World) : Calls Tryz.prog 86 #[.agg #[.string m0, .string m1, .int .u64 m2, .int .u64 m3, .int .u64 m4, .int .u64 m5], .nilIface] w fun e w' => e = .returned (.tuple #[.agg #[.string m0, .string m1, .int .u64 m2, .int .u64 m3, .int .u64 m4, .int .u64 m5], .nilIface]) ∧ Below w.heap.size w w' := by
  go_enter Tryz.func86, Tryz.ntmps86
  go_wp2
  have hb := block_setCell (block_setCell (block_setCell (block_setCell (block_setCell (block_setCell (alloc_new_at (w := w.alloc (.cells #[.string m0, .string m1, .int .u64 m2, .int .u64 m3, .int .u64 m4, .int .u64 m5] 76)) (.cells #[.string ⟨#[]⟩, .string ⟨#[]⟩, .int .u64 0, .int .u64 0, .int .u64 0, .int .u64 0] 76) (alloc_size _ rfl)) (o := 0) (.string m0)) (o := 1) (.string m1)) (o := 2) (.int .u64 m2)) (o := 3) (.int .u64 m3)) (o := 4) (.int .u64 m4)) (o := 5) (.int .u64 m5)
  have d : ∀ o, _ = _ := block_cell hb
  refine bodyPost_ret (v := .tuple #[.agg #[.string m0, .string m1, .int .u64 m2, .int .u64 m3, .int .u64 m4, .int .u64 m5], .nilIface]) ?_ rfl ⟨rfl, by (repeat (first | exact Below.refl _ _ | assumption | (refine bdrew ?_) | (refine bdrewN ?_ _) | (refine balloc ?_ _) | (refine bset ?_ (by first | omega | (simp; done) | (simp; omega)) _) | (refine bnext ?_ (by assumption))))⟩
  simp [results, Tryz.results86, go_sem, d]
set_option maxRecDepth 100000 in
theorem overMsg_no (m0 : ByteArray) (m1 : ByteArray) (m2 : Int) (m3 : Int) (m4 : Int) (m5 : Int) (fb : Nat) (w : World) : Calls Tryz.prog 86 #[.agg #[.string m0, .string m1, .int .u64 m2, .int .u64 m3, .int .u64 m4, .int .u64 m5], .iface 127 (.pointer (some ⟨fb, 0, none⟩))] w fun e w' => e = .returned (.tuple #[zeroMsg, .iface 127 (.pointer (some ⟨fb, 0, none⟩))]) ∧ Below w.heap.size w w' := by
  go_enter Tryz.func86, Tryz.ntmps86
  go_wp2
  have hb := block_setCell (block_setCell (block_setCell (block_setCell (block_setCell (block_setCell (block_alloc (alloc_new_at (w := w.alloc (.cells #[.string m0, .string m1, .int .u64 m2, .int .u64 m3, .int .u64 m4, .int .u64 m5] 76)) (.cells #[.string ⟨#[]⟩, .string ⟨#[]⟩, .int .u64 0, .int .u64 0, .int .u64 0, .int .u64 0] 76) (alloc_size _ rfl)) (.cells #[.string ⟨#[]⟩, .string ⟨#[]⟩, .int .u64 0, .int .u64 0, .int .u64 0, .int .u64 0] 76)) (o := 0) (.string ⟨#[]⟩)) (o := 1) (.string ⟨#[]⟩)) (o := 2) (.int .u64 0)) (o := 3) (.int .u64 0)) (o := 4) (.int .u64 0)) (o := 5) (.int .u64 0)
  have d : ∀ o, _ = _ := block_cell hb
  refine bodyPost_ret (v := .tuple #[zeroMsg, .iface 127 (.pointer (some ⟨fb, 0, none⟩))]) ?_ rfl ⟨rfl, by (repeat (first | exact Below.refl _ _ | assumption | (refine bdrew ?_) | (refine bdrewN ?_ _) | (refine balloc ?_ _) | (refine bset ?_ (by first | omega | (simp; done) | (simp; omega)) _) | (refine bnext ?_ (by assumption))))⟩
  simp [results, Tryz.results86, go_sem, d]
def ReMsg (s : ByteArray) (w : World) (e : Ending) (w' : World) : Prop :=
  Below w.heap.size w w' ∧ match readR s (msgGs s) msg0 with
    | .error f => ∃ fb, e = .returned (.tuple #[zeroMsg, .iface 127 (.pointer (some ⟨fb, 0, none⟩))]) ∧ FltB w' fb f.1 f.2
    | .ok x => Kd msg0 x ∧ (∃ rb tb, LiesMsg rb tb w' x) ∧ e = .returned (.tuple #[.agg (cellsMsg x), .nilIface])
set_option maxRecDepth 100000 in
set_option maxHeartbeats 2000000 in
theorem reaMsg_any (B : Nat) (s : ByteArray) (w : World) (hT : Tabs B w) (hET : ErrType w) (hB : B ≤ w.heap.size) (hg : 0 < B) (hs : s.size ≤ 9223372036854775807) :
    Calls Tryz.prog 42 #[.string s] w (ReMsg s w) := by
  have H := Lib.hid (fun (w' : World) (hb : Below w.heap.size w w') => readMsg_any B s w' (hT.below hb) (hET.below hb) (Nat.le_trans hB hb.size) hg hs)
  clear hT hET
  go_enter Tryz.func42, Tryz.ntmps42
  go_wp2_with fail
  refine (H.out _ (balloc (Below.refl _ _) _)).mono ?_
  rintro e w1 ⟨hb1, hh⟩
  have hblk := (hb1.block w.heap.size (by simp)).trans (heap_alloc_new w _)
  have HBK := Lib.hid hblk
  have HB := Lib.hid (bnext (balloc (Below.refl _ _) _) hb1)
  clear hb1 hblk
  cases hr : objR s (msgGs s) msg0 0 with
  | error f =>
    rw [hr] at hh
    obtain ⟨fb, rfl, hf⟩ := hh
    have HF := Lib.hid hf
    have HR : Hid (readR s (msgGs s) msg0 = .error f) := Lib.hid (by unfold readR; rw [hr])
    clear hf hr
    go_wp2_with fail
    refine (overMsg_no _ _ _ _ _ _ fb w1).mono ?_
    rintro e w2 ⟨rfl, hb2⟩
    have hb := (hb2.block _ (lt_of_block HBK.out)).trans HBK.out
    have HB2 := Lib.hid (bnext HB.out hb2)
    have HF2 := Lib.hid (HF.out.below hb2)
    have HBK2 := Lib.hid hb
    have g0 : ∀ o, w2.cell? ⟨w.heap.size, o, none⟩ = _ := block_cell hb
    have g1 : ∀ o, w2.frozen? ⟨w.heap.size, o, none⟩ = false := block_free hb
    have g2 : w.heap.size < w2.heap.size := lt_of_block hb
    clear hb2 hb
    go_wp2
    have hb := block_setCell (block_setCell (block_setCell (block_setCell (block_setCell (block_setCell (HBK2.out) (o := 0) (.string ⟨#[]⟩)) (o := 1) (.string ⟨#[]⟩)) (o := 2) (.int .u64 0)) (o := 3) (.int .u64 0)) (o := 4) (.int .u64 0)) (o := 5) (.int .u64 0)
    have d : ∀ o, _ = _ := block_cell hb
    have hne : fb ≠ w.heap.size := fun e => by subst e; have h9 := HBK2.out.symm.trans HF2.out; cases h9
    refine bodyPost_ret (v := .tuple #[zeroMsg, .iface 127 (.pointer (some ⟨fb, 0, none⟩))]) ?_ rfl ⟨(bset (bset (bset (bset (bset (bset HB2.out (Nat.le_refl _) _) (Nat.le_refl _) _) (Nat.le_refl _) _) (Nat.le_refl _) _) (Nat.le_refl _) _) (Nat.le_refl _) _), ?_⟩
    · simp [results, Tryz.results42, go_sem, d]
    · rw [HR.out]
      exact ⟨fb, rfl, (bsn (bsn (bsn (bsn (bsn (bsn HF2.out hne) hne) hne) hne) hne) hne)⟩
  | ok y =>
    rw [hr] at hh
    obtain ⟨hk, hle, ⟨rb, tb, hrb, hl⟩, hh⟩ := hh
    have HL := Lib.hid hl
    by_cases hlt : y.2 < s.size
    · rw [if_pos hlt] at hh
      obtain ⟨fb, rfl, hf⟩ := hh
      have HF := Lib.hid hf
      have HR : Hid (readR s (msgGs s) msg0 = .error (5, y.2)) := Lib.hid (by unfold readR; rw [hr]; exact if_pos hlt)
      clear hf hr hlt
      go_wp2_with fail
      refine (overMsg_no _ _ _ _ _ _ fb w1).mono ?_
      rintro e w2 ⟨rfl, hb2⟩
      have hb := (hb2.block _ (lt_of_block HBK.out)).trans HBK.out
      have HB2 := Lib.hid (bnext HB.out hb2)
      have HF2 := Lib.hid (HF.out.below hb2)
      have HBK2 := Lib.hid hb
      have g0 : ∀ o, w2.cell? ⟨w.heap.size, o, none⟩ = _ := block_cell hb
      have g1 : ∀ o, w2.frozen? ⟨w.heap.size, o, none⟩ = false := block_free hb
      have g2 : w.heap.size < w2.heap.size := lt_of_block hb
      clear hb2 hb
      go_wp2
      have hb := block_setCell (block_setCell (block_setCell (block_setCell (block_setCell (block_setCell (HBK2.out) (o := 0) (.string ⟨#[]⟩)) (o := 1) (.string ⟨#[]⟩)) (o := 2) (.int .u64 0)) (o := 3) (.int .u64 0)) (o := 4) (.int .u64 0)) (o := 5) (.int .u64 0)
      have d : ∀ o, _ = _ := block_cell hb
      have hne : fb ≠ w.heap.size := fun e => by subst e; have h9 := HBK2.out.symm.trans HF2.out; cases h9
      refine bodyPost_ret (v := .tuple #[zeroMsg, .iface 127 (.pointer (some ⟨fb, 0, none⟩))]) ?_ rfl ⟨(bset (bset (bset (bset (bset (bset HB2.out (Nat.le_refl _) _) (Nat.le_refl _) _) (Nat.le_refl _) _) (Nat.le_refl _) _) (Nat.le_refl _) _) (Nat.le_refl _) _), ?_⟩
      · simp [results, Tryz.results42, go_sem, d]
      · rw [HR.out]
        exact ⟨fb, rfl, (bsn (bsn (bsn (bsn (bsn (bsn HF2.out hne) hne) hne) hne) hne) hne)⟩
    · rw [if_neg hlt] at hh
      subst hh
      have HR : Hid (readR s (msgGs s) msg0 = .ok y.1) := Lib.hid (by unfold readR; rw [hr]; exact if_neg hlt)
      clear hr hlt
      go_wp2_with fail
      refine (overMsg_ok _ _ _ _ _ _ w1).mono ?_
      rintro e w2 ⟨rfl, hb2⟩
      have hb := (hb2.block _ (lt_of_block HBK.out)).trans HBK.out
      have HB2 := Lib.hid (bnext HB.out hb2)
      have HL2 := Lib.hid (HL.out.below hb2)
      have HBK2 := Lib.hid hb
      have g0 : ∀ o, w2.cell? ⟨w.heap.size, o, none⟩ = _ := block_cell hb
      have g1 : ∀ o, w2.frozen? ⟨w.heap.size, o, none⟩ = false := block_free hb
      have g2 : w.heap.size < w2.heap.size := lt_of_block hb
      clear hb2 hb
      go_wp2
      have hb := block_setCell (block_setCell (block_setCell (block_setCell (block_setCell (block_setCell (HBK2.out) (o := 0) (.string (y.1 0).s)) (o := 1) (.string (y.1 1).s)) (o := 2) (.int .u64 (y.1 2).n)) (o := 3) (.int .u64 (y.1 3).n)) (o := 4) (.int .u64 (y.1 4).n)) (o := 5) (.int .u64 (y.1 5).n)
      have d : ∀ o, _ = _ := block_cell hb
      refine bodyPost_ret (v := .tuple #[.agg (cellsMsg y.1), .nilIface]) ?_ rfl ⟨(bset (bset (bset (bset (bset (bset HB2.out (Nat.le_refl _) _) (Nat.le_refl _) _) (Nat.le_refl _) _) (Nat.le_refl _) _) (Nat.le_refl _) _) (Nat.le_refl _) _), ?_⟩
      · simp [results, Tryz.results42, go_sem, d]
      · rw [HR.out]
        exact ⟨hk, ⟨rb, tb, HL2.out.up (fun b h1 h2 => by
          have h3 : b ≠ w.heap.size := by simp at hrb; omega
          repeat rw [Below.heap_setCell _ _ _ _ h3])⟩, rfl⟩
set_option maxRecDepth 100000 in
theorem overHeader_ok (m0 : Int) (m1 : ByteArray) (m2 : ByteArray) (m3 : ByteArray) (w : World) : Calls Tryz.prog 89 #[.agg #[.int .u64 m0, .string m1, .string m2, .string m3], .nilIface] w fun e w' => e = .returned (.tuple #[.agg #[.int .u64 m0, .string m1, .string m2, .string m3], .nilIface]) ∧ Below w.heap.size w w' := by
  go_enter Tryz.func89, Tryz.ntmps89
  go_wp2
  have hb := block_setCell (block_setCell (block_setCell (block_setCell (alloc_new_at (w := w.alloc (.cells #[.int .u64 m0, .string m1, .string m2, .string m3] 78)) (.cells #[.int .u64 0, .string ⟨#[]⟩, .string ⟨#[]⟩, .string ⟨#[]⟩] 78) (alloc_size _ rfl)) (o := 0) (.int .u64 m0)) (o := 1) (.string m1)) (o := 2) (.string m2)) (o := 3) (.string m3)
  have d : ∀ o, _ = _ := block_cell hb
  refine bodyPost_ret (v := .tuple #[.agg #[.int .u64 m0, .string m1, .string m2, .string m3], .nilIface]) ?_ rfl ⟨rfl, by (repeat (first | exact Below.refl _ _ | assumption | (refine bdrew ?_) | (refine bdrewN ?_ _) | (refine balloc ?_ _) | (refine bset ?_ (by first | omega | (simp; done) | (simp; omega)) _) | (refine bnext ?_ (by assumption))))⟩
  simp [results, Tryz.results89, go_sem, d]
set_option maxRecDepth 100000 in
theorem overHeader_no (m0 : Int) (m1 : ByteArray) (m2 : ByteArray) (m3 : ByteArray) (fb : Nat) (w : World) : Calls Tryz.prog 89 #[.agg #[.int .u64 m0, .string m1, .string m2, .string m3], .iface 127 (.pointer (some ⟨fb, 0, none⟩))] w fun e w' => e = .returned (.tuple #[zeroHeader, .iface 127 (.pointer (some ⟨fb, 0, none⟩))]) ∧ Below w.heap.size w w' := by
  go_enter Tryz.func89, Tryz.ntmps89
  go_wp2
  have hb := block_setCell (block_setCell (block_setCell (block_setCell (block_alloc (alloc_new_at (w := w.alloc (.cells #[.int .u64 m0, .string m1, .string m2, .string m3] 78)) (.cells #[.int .u64 0, .string ⟨#[]⟩, .string ⟨#[]⟩, .string ⟨#[]⟩] 78) (alloc_size _ rfl)) (.cells #[.int .u64 0, .string ⟨#[]⟩, .string ⟨#[]⟩, .string ⟨#[]⟩] 78)) (o := 0) (.int .u64 0)) (o := 1) (.string ⟨#[]⟩)) (o := 2) (.string ⟨#[]⟩)) (o := 3) (.string ⟨#[]⟩)
  have d : ∀ o, _ = _ := block_cell hb
  refine bodyPost_ret (v := .tuple #[zeroHeader, .iface 127 (.pointer (some ⟨fb, 0, none⟩))]) ?_ rfl ⟨rfl, by (repeat (first | exact Below.refl _ _ | assumption | (refine bdrew ?_) | (refine bdrewN ?_ _) | (refine balloc ?_ _) | (refine bset ?_ (by first | omega | (simp; done) | (simp; omega)) _) | (refine bnext ?_ (by assumption))))⟩
  simp [results, Tryz.results89, go_sem, d]
def ReHeader (s : ByteArray) (w : World) (e : Ending) (w' : World) : Prop :=
  Below w.heap.size w w' ∧ match readR s (headerGs s) header0 with
    | .error f => ∃ fb, e = .returned (.tuple #[zeroHeader, .iface 127 (.pointer (some ⟨fb, 0, none⟩))]) ∧ FltB w' fb f.1 f.2
    | .ok x => Kd header0 x ∧ (∃ rb tb, LiesHeader rb tb w' x) ∧ e = .returned (.tuple #[.agg (cellsHeader x), .nilIface])
set_option maxRecDepth 100000 in
set_option maxHeartbeats 2000000 in
theorem reaHeader_any (B : Nat) (s : ByteArray) (w : World) (hT : Tabs B w) (hET : ErrType w) (hB : B ≤ w.heap.size) (hg : 0 < B) (hs : s.size ≤ 9223372036854775807) :
    Calls Tryz.prog 44 #[.string s] w (ReHeader s w) := by
  have H := Lib.hid (fun (w' : World) (hb : Below w.heap.size w w') => readHeader_any B s w' (hT.below hb) (hET.below hb) (Nat.le_trans hB hb.size) hg hs)
  clear hT hET
  go_enter Tryz.func44, Tryz.ntmps44
  go_wp2_with fail
  refine (H.out _ (balloc (Below.refl _ _) _)).mono ?_
  rintro e w1 ⟨hb1, hh⟩
  have hblk := (hb1.block w.heap.size (by simp)).trans (heap_alloc_new w _)
  have HBK := Lib.hid hblk
  have HB := Lib.hid (bnext (balloc (Below.refl _ _) _) hb1)
  clear hb1 hblk
  cases hr : objR s (headerGs s) header0 0 with
  | error f =>
    rw [hr] at hh
    obtain ⟨fb, rfl, hf⟩ := hh
    have HF := Lib.hid hf
    have HR : Hid (readR s (headerGs s) header0 = .error f) := Lib.hid (by unfold readR; rw [hr])
    clear hf hr
    go_wp2_with fail
    refine (overHeader_no _ _ _ _ fb w1).mono ?_
    rintro e w2 ⟨rfl, hb2⟩
    have hb := (hb2.block _ (lt_of_block HBK.out)).trans HBK.out
    have HB2 := Lib.hid (bnext HB.out hb2)
    have HF2 := Lib.hid (HF.out.below hb2)
    have HBK2 := Lib.hid hb
    have g0 : ∀ o, w2.cell? ⟨w.heap.size, o, none⟩ = _ := block_cell hb
    have g1 : ∀ o, w2.frozen? ⟨w.heap.size, o, none⟩ = false := block_free hb
    have g2 : w.heap.size < w2.heap.size := lt_of_block hb
    clear hb2 hb
    go_wp2
    have hb := block_setCell (block_setCell (block_setCell (block_setCell (HBK2.out) (o := 0) (.int .u64 0)) (o := 1) (.string ⟨#[]⟩)) (o := 2) (.string ⟨#[]⟩)) (o := 3) (.string ⟨#[]⟩)
    have d : ∀ o, _ = _ := block_cell hb
    have hne : fb ≠ w.heap.size := fun e => by subst e; have h9 := HBK2.out.symm.trans HF2.out; cases h9
    refine bodyPost_ret (v := .tuple #[zeroHeader, .iface 127 (.pointer (some ⟨fb, 0, none⟩))]) ?_ rfl ⟨(bset (bset (bset (bset HB2.out (Nat.le_refl _) _) (Nat.le_refl _) _) (Nat.le_refl _) _) (Nat.le_refl _) _), ?_⟩
    · simp [results, Tryz.results44, go_sem, d]
    · rw [HR.out]
      exact ⟨fb, rfl, (bsn (bsn (bsn (bsn HF2.out hne) hne) hne) hne)⟩
  | ok y =>
    rw [hr] at hh
    obtain ⟨hk, hle, ⟨rb, tb, hrb, hl⟩, hh⟩ := hh
    have HL := Lib.hid hl
    by_cases hlt : y.2 < s.size
    · rw [if_pos hlt] at hh
      obtain ⟨fb, rfl, hf⟩ := hh
      have HF := Lib.hid hf
      have HR : Hid (readR s (headerGs s) header0 = .error (5, y.2)) := Lib.hid (by unfold readR; rw [hr]; exact if_pos hlt)
      clear hf hr hlt
      go_wp2_with fail
      refine (overHeader_no _ _ _ _ fb w1).mono ?_
      rintro e w2 ⟨rfl, hb2⟩
      have hb := (hb2.block _ (lt_of_block HBK.out)).trans HBK.out
      have HB2 := Lib.hid (bnext HB.out hb2)
      have HF2 := Lib.hid (HF.out.below hb2)
      have HBK2 := Lib.hid hb
      have g0 : ∀ o, w2.cell? ⟨w.heap.size, o, none⟩ = _ := block_cell hb
      have g1 : ∀ o, w2.frozen? ⟨w.heap.size, o, none⟩ = false := block_free hb
      have g2 : w.heap.size < w2.heap.size := lt_of_block hb
      clear hb2 hb
      go_wp2
      have hb := block_setCell (block_setCell (block_setCell (block_setCell (HBK2.out) (o := 0) (.int .u64 0)) (o := 1) (.string ⟨#[]⟩)) (o := 2) (.string ⟨#[]⟩)) (o := 3) (.string ⟨#[]⟩)
      have d : ∀ o, _ = _ := block_cell hb
      have hne : fb ≠ w.heap.size := fun e => by subst e; have h9 := HBK2.out.symm.trans HF2.out; cases h9
      refine bodyPost_ret (v := .tuple #[zeroHeader, .iface 127 (.pointer (some ⟨fb, 0, none⟩))]) ?_ rfl ⟨(bset (bset (bset (bset HB2.out (Nat.le_refl _) _) (Nat.le_refl _) _) (Nat.le_refl _) _) (Nat.le_refl _) _), ?_⟩
      · simp [results, Tryz.results44, go_sem, d]
      · rw [HR.out]
        exact ⟨fb, rfl, (bsn (bsn (bsn (bsn HF2.out hne) hne) hne) hne)⟩
    · rw [if_neg hlt] at hh
      subst hh
      have HR : Hid (readR s (headerGs s) header0 = .ok y.1) := Lib.hid (by unfold readR; rw [hr]; exact if_neg hlt)
      clear hr hlt
      go_wp2_with fail
      refine (overHeader_ok _ _ _ _ w1).mono ?_
      rintro e w2 ⟨rfl, hb2⟩
      have hb := (hb2.block _ (lt_of_block HBK.out)).trans HBK.out
      have HB2 := Lib.hid (bnext HB.out hb2)
      have HL2 := Lib.hid (HL.out.below hb2)
      have HBK2 := Lib.hid hb
      have g0 : ∀ o, w2.cell? ⟨w.heap.size, o, none⟩ = _ := block_cell hb
      have g1 : ∀ o, w2.frozen? ⟨w.heap.size, o, none⟩ = false := block_free hb
      have g2 : w.heap.size < w2.heap.size := lt_of_block hb
      clear hb2 hb
      go_wp2
      have hb := block_setCell (block_setCell (block_setCell (block_setCell (HBK2.out) (o := 0) (.int .u64 (y.1 0).n)) (o := 1) (.string (y.1 1).s)) (o := 2) (.string (y.1 2).s)) (o := 3) (.string (y.1 3).s)
      have d : ∀ o, _ = _ := block_cell hb
      refine bodyPost_ret (v := .tuple #[.agg (cellsHeader y.1), .nilIface]) ?_ rfl ⟨(bset (bset (bset (bset HB2.out (Nat.le_refl _) _) (Nat.le_refl _) _) (Nat.le_refl _) _) (Nat.le_refl _) _), ?_⟩
      · simp [results, Tryz.results44, go_sem, d]
      · rw [HR.out]
        exact ⟨hk, ⟨rb, tb, HL2.out.up (fun b h1 h2 => by
          have h3 : b ≠ w.heap.size := by simp at hrb; omega
          repeat rw [Below.heap_setCell _ _ _ _ h3])⟩, rfl⟩
end Go.Proofs.YtihiaopilnjonaaGreatDoor
namespace Go.Proofs.YtihiaopilnjonaaGreatDoor
open Go.RowKit
set_option linter.unusedSimpArgs false
set_option linter.unusedVariables false
abbrev CP := Nat → Nat → Value → Prop
def StrsC (C : CP) (a : Option Addr) (l : List ByteArray) : Prop := ∀ i, i < len l → ∃ b off, a = some ⟨b, off, none⟩ ∧ C b (off + i) (.string (sth l i))
theorem StrsC.imp {C D : CP} (h : ∀ b o x, C b o x → D b o x) {a : Option Addr} {l : List ByteArray} (hs : StrsC C a l) : StrsC D a l := fun i hi => by
  obtain ⟨b, off, e, hc⟩ := hs i hi; exact ⟨b, off, e, h _ _ _ hc⟩
structure RevCl (C : CP) (b o : Nat) (d : RevD) : Prop where
  c0 : C b o (.int .u64 d.pos)
  c1 : C b (o + 1) (.int .u64 d.L)
  c2 : C b (o + 2) (.bool d.signed)
  c3 : C b (o + 3) (.int .u64 d.idx)
  c4 : ∃ a c, C b (o + 4) (.slice a (len d.ws) c) ∧ StrsC C a d.ws
  c5 : ∃ a c, C b (o + 5) (.slice a (len d.ps) c) ∧ StrsC C a d.ps
  c6 : C b (o + 6) (.string d.root)
  c7 : C b (o + 7) (.int .u64 d.wt)
  c8 : C b (o + 8) (.int .u64 d.first)
  c9 : C b (o + 9) (.int .u64 d.life)
  c10 : C b (o + 10) (.int .u64 d.keys)
theorem RevCl.imp {C D : CP} (h : ∀ b o x, C b o x → D b o x) {b o : Nat} {d : RevD} (k : RevCl C b o d) : RevCl D b o d := by
  obtain ⟨a4, k4, h4, s4⟩ := k.c4
  obtain ⟨a5, k5, h5, s5⟩ := k.c5
  exact ⟨h _ _ _ k.c0, h _ _ _ k.c1, h _ _ _ k.c2, h _ _ _ k.c3, ⟨a4, k4, h _ _ _ h4, s4.imp h⟩, ⟨a5, k5, h _ _ _ h5, s5.imp h⟩, h _ _ _ k.c6, h _ _ _ k.c7, h _ _ _ k.c8, h _ _ _ k.c9, h _ _ _ k.c10⟩
def RvsC (C : CP) (a : Option Addr) (l : List RevD) : Prop := ∀ i, i < len l → ∃ b off, a = some ⟨b, off, none⟩ ∧ RevCl C b (off + i * 11) (lth l i)
theorem RvsC.imp {C D : CP} (h : ∀ b o x, C b o x → D b o x) {a : Option Addr} {l : List RevD} (k : RvsC C a l) : RvsC D a l := fun i hi => by
  obtain ⟨b, off, e, hc⟩ := k i hi; exact ⟨b, off, e, hc.imp h⟩
def NoRow (t : Nat) (w : World) : Prop := ∃ cs T fr, w.heap[t]? = some (.cells cs T fr) ∧ T ≠ 172
theorem NoRow.lt {t : Nat} {w : World} (h : NoRow t w) : t < w.heap.size := by obtain ⟨cs, T, fr, h1, _⟩ := h; exact lt_of_block h1
theorem NoRow.below {t : Nat} {w w' : World} (h : NoRow t w) (hb : Below w.heap.size w w') : NoRow t w' := by
  obtain ⟨cs, T, fr, h1, h2⟩ := h; exact ⟨cs, T, fr, (hb.block _ (lt_of_block h1)).trans h1, h2⟩
theorem NoRow.ne {t g : Nat} {w : World} {l : List FVal} (h : NoRow t w) (hF : FRow w g l) : g ≠ t := fun e => by
  subst e
  obtain ⟨cs, T, fr, h1, h2⟩ := h
  obtain ⟨_, cur, h3⟩ := hF
  rw [h1] at h3; cases h3; exact h2 rfl
section
variable {B t : Nat} {w : World}
end
end Go.Proofs.YtihiaopilnjonaaGreatDoor
namespace Go.Proofs.YtihiaopilnjonaaGreatDoor
open Go.RowKit
set_option linter.unusedSimpArgs false
set_option linter.unusedVariables false
theorem hi8_size (n : Int) (k : Nat) : (baL ((hiL n k).map toB)).size = k := by rw [baL_size, List.length_map, hiL_len]
set_option maxRecDepth 100000 in
theorem rone_any (n : Int) (w : World) (h0 : 0 ≤ n) (h1 : n ≤ 255) : Calls Tryz.prog 232 #[.int .u64 n] w fun e w' => e = .returned (.string (baL [toB n])) ∧ Below w.heap.size w w' := by
  have y0 : IntKind.u8.wrap n = n := IntWalk.u8_in _ (by omega)
  have y1 : n % 256 = n := by omega
  have hc : (convert 106 9 (.slice (some ⟨w.heap.size, 0, none⟩) 1 1)).run Tryz.prog (w.alloc (.cells #[.int .u8 n] 5)) = .ok (.string (baL [toB n])) (w.alloc (.cells #[.int .u8 n] 5)) :=
    run_convert_bytes_arg (P := Tryz.prog) _ 106 5 Tryz.underlying106 Tryz.underlying5 w.heap.size 0 1 1 [n] rfl (fun i hi => by
      obtain rfl : i = 0 := by omega
      exact block_cell (heap_alloc_new _ _) 0) 9 Tryz.underlying9
  go_enter Tryz.func232, Tryz.ntmps232
  go_wp2
  go_ret
  exact ⟨rfl, by (repeat (first | exact Below.refl _ _ | assumption | (refine bdrew ?_) | (refine bdrewN ?_ _) | (refine balloc ?_ _) | (refine bset ?_ (by first | omega | (simp; done) | (simp; omega)) _) | (refine bnext ?_ (by assumption))))⟩
set_option maxRecDepth 100000 in
set_option maxHeartbeats 2000000 in
theorem rbytes_any (n : Int) (k : Nat) (w : World) (hk : k ≤ 8) (h0 : 0 ≤ n) (h1 : n ≤ 18446744073709551615) : Calls Tryz.prog 233 #[.int .u64 n, .int .i64 k] w fun e w' => e = .returned (.string (baL ((hiL n k).map toB))) ∧ Below w.heap.size w w' := by
  go_enter Tryz.func233, Tryz.ntmps233
  go_wp2
  go_loopg [0, 5, 6] k (fun g nn s i wr => ∃ j : Nat, ∃ N : Int, ∃ b : ByteArray, g + j = k ∧ nn = .int .u64 N ∧ s = .string b ∧ i = .int .i64 j ∧ Hid (N = n / 256 ^ j ∧ 0 ≤ N ∧ N ≤ 18446744073709551615) ∧ Hid (b = baL ((hiL n j).map toB)) ∧ Hid (Below w.heap.size w wr))
  case atStart => exact ⟨0, n, _, rfl, rfl, rfl, rfl, ⟨by simp, h0, h1⟩, rfl, Below.refl _ _⟩
  case round =>
    obtain ⟨j, N, b, hj, rfl, rfl, rfl, HN, HS, HB⟩ := hrel
    by_cases hlt : j < k
    · have i1 : (j : Int) < k := by omega
      have hn0 := HN.out.2.1
      have hn1 := HN.out.2.2
      obtain ⟨x, hx⟩ : ∃ x, N % 256 = x := ⟨_, rfl⟩
      have hx0 : 0 ≤ x ∧ x ≤ 255 := by omega
      have y0 : N.tmod 256 = x := by rw [Int.tmod_eq_emod_of_nonneg hn0]; exact hx
      have y1 : IntKind.u8.wrap x = x := IntWalk.u8_in _ (by omega)
      have y2 : N.tdiv 256 = N / 256 := Int.tdiv_eq_ediv_of_nonneg hn0
      have y3 : x % 256 = x := by omega
      obtain ⟨M, hM⟩ : ∃ M, N / 256 = M := ⟨_, rfl⟩
      have hM0 : 0 ≤ M ∧ M ≤ 18446744073709551615 := by omega
      have HM : Hid (M = n / 256 ^ (j + 1)) := Lib.hid (by
        have hp : (0 : Int) < 256 ^ j := Int.pow_pos (by decide)
        rw [← hM, HN.out.1, Int.pow_succ, Int.ediv_ediv, if_neg (by omega), Int.sub_zero])
      have HX : Hid (baL ((hiL n (j + 1)).map toB) = baL [toB x] ++ b) := Lib.hid (by
        rw [hiL, List.map_cons, HS.out, ← baL_app, ← HN.out.1, hx]; rfl)
      have hbs : b.size = j := by rw [HS.out, hi8_size]
      have hbz : (baL [toB x]).size = 1 := rfl
      have hc := run_convert_bytes_arg (P := Tryz.prog) (wr.alloc (.cells #[.int .u8 x] 5)) 106 5 Tryz.underlying106 Tryz.underlying5 wr.heap.size 0 1 1 [x] rfl (fun i hi => by
        obtain rfl : i = 0 := by omega
        exact block_cell (heap_alloc_new _ _) 0) 9 Tryz.underlying9
      rw [show strOfNums [x] = baL [toB x] from rfl] at hc
      have HBB : Hid (Below w.heap.size w (wr.alloc (.cells #[.int .u8 x] 5))) := Lib.hid (balloc HB.out _)
      obtain ⟨z, hz⟩ : ∃ z, baL [toB x] = z := ⟨_, rfl⟩
      rw [hz] at hc hbz HX
      rw [hM] at y2
      clear hz HN HS
      go_wp2
      go_roundg (k - (j + 1))
      case rel => exact ⟨j + 1, M, z ++ b, by omega, by first | rfl | simp [hM], rfl, by go_num, ⟨HM.out, hM0⟩, HX.out.symm, HBB.out⟩
      case measure => omega
    · obtain rfl : j = k := by omega
      have i1 : ¬ (j : Int) < j := by omega
      go_wp2
      go_ret
      exact ⟨by rw [HS.out]; rfl, HB.out⟩
set_option maxRecDepth 100000 in
theorem rnum5_any (n : Int) (w : World) (h0 : 0 ≤ n) (h1 : n ≤ 18446744073709551615) : Calls Tryz.prog 158 #[.int .u64 n] w fun e w' => e = .returned (.string (baL (headP 0 n))) ∧ Below w.heap.size w w' := by
  have EQ := Lib.hid (headP0 n)
  by_cases c1 : n < 128
  · have EQ : Hid (headP 0 n = [toB n]) := Lib.hid (by rw [EQ.out, if_pos c1])
    go_enter Tryz.func158, Tryz.ntmps158
    go_wp2_with fail
    refine (rone_any (n) w (by omega) (by omega)).mono ?_
    rintro e w1 ⟨rfl, hb⟩
    have HB := Lib.hid hb
    clear hb
    go_wp2
    go_ret
    exact ⟨congrArg (fun s => Ending.returned (.string s)) (ba_ext (by rw [EQ.out])), HB.out⟩
  by_cases c2 : n < 256
  · have EQ : Hid (headP 0 n = toB 204 :: (hiL n 1).map toB) := Lib.hid (by rw [EQ.out, if_neg c1, if_pos c2])
    go_enter Tryz.func158, Tryz.ntmps158
    have zz := hi8_size n 1
    go_wp2_with fail
    refine (rbytes_any n 1 w (by decide) h0 h1).mono ?_
    rintro e w1 ⟨rfl, hb⟩
    have HB := Lib.hid hb
    clear hb
    go_wp2
    go_ret
    exact ⟨congrArg (fun s => Ending.returned (.string s)) (ba_ext (by rw [EQ.out]; simp [baL]; rfl)), HB.out⟩
  by_cases c3 : n < 65536
  · have EQ : Hid (headP 0 n = toB 205 :: (hiL n 2).map toB) := Lib.hid (by rw [EQ.out, if_neg c1, if_neg c2, if_pos c3])
    go_enter Tryz.func158, Tryz.ntmps158
    have zz := hi8_size n 2
    go_wp2_with fail
    refine (rbytes_any n 2 w (by decide) h0 h1).mono ?_
    rintro e w1 ⟨rfl, hb⟩
    have HB := Lib.hid hb
    clear hb
    go_wp2
    go_ret
    exact ⟨congrArg (fun s => Ending.returned (.string s)) (ba_ext (by rw [EQ.out]; simp [baL]; rfl)), HB.out⟩
  by_cases c4 : n < 4294967296
  · have EQ : Hid (headP 0 n = toB 206 :: (hiL n 4).map toB) := Lib.hid (by rw [EQ.out, if_neg c1, if_neg c2, if_neg c3, if_pos c4])
    go_enter Tryz.func158, Tryz.ntmps158
    have zz := hi8_size n 4
    go_wp2_with fail
    refine (rbytes_any n 4 w (by decide) h0 h1).mono ?_
    rintro e w1 ⟨rfl, hb⟩
    have HB := Lib.hid hb
    clear hb
    go_wp2
    go_ret
    exact ⟨congrArg (fun s => Ending.returned (.string s)) (ba_ext (by rw [EQ.out]; simp [baL]; rfl)), HB.out⟩
  have EQ : Hid (headP 0 n = toB 207 :: (hiL n 8).map toB) := Lib.hid (by rw [EQ.out, if_neg c1, if_neg c2, if_neg c3, if_neg c4])
  go_enter Tryz.func158, Tryz.ntmps158
  have zz := hi8_size n 8
  go_wp2_with fail
  refine (rbytes_any n 8 w (by decide) h0 h1).mono ?_
  rintro e w1 ⟨rfl, hb⟩
  have HB := Lib.hid hb
  clear hb
  go_wp2
  go_ret
  exact ⟨congrArg (fun s => Ending.returned (.string s)) (ba_ext (by rw [EQ.out]; simp [baL]; rfl)), HB.out⟩
set_option maxRecDepth 100000 in
set_option maxHeartbeats 2000000 in
theorem rhead_any (sort : Nat) (n : Int) (w : World) (hs1 : 1 ≤ sort) (hs5 : sort < 5) (h0 : 0 ≤ n) (hn : n < 65536) : Calls Tryz.prog 159 #[.int .i64 sort, .int .u64 n] w fun e w' => e = .returned (.string (baL (headP sort n))) ∧ Below w.heap.size w w' := by
  have h1 : n ≤ 18446744073709551615 := by omega
  have hs : sort = 1 ∨ sort = 2 ∨ sort = 3 ∨ sort = 4 := by omega
  rcases hs with rfl | rfl | rfl | rfl
  · have EQ := Lib.hid (headP1 hn)
    by_cases c1 : n < 256
    · have EQ : Hid (headP 1 n = toB 196 :: (hiL n 1).map toB) := Lib.hid (by rw [EQ.out, if_pos c1])
      show Calls Tryz.prog 159 #[.int .i64 1, .int .u64 n] w _
      go_enter Tryz.func159, Tryz.ntmps159
      have zz := hi8_size n 1
      go_wp2_with fail
      refine (rbytes_any n 1 w (by decide) h0 h1).mono ?_
      rintro e w1 ⟨rfl, hb⟩
      have HB := Lib.hid hb
      clear hb
      go_wp2
      go_ret
      exact ⟨congrArg (fun s => Ending.returned (.string s)) (ba_ext (by rw [EQ.out]; simp [baL]; rfl)), HB.out⟩
    have EQ : Hid (headP 1 n = toB 197 :: (hiL n 2).map toB) := Lib.hid (by rw [EQ.out, if_neg c1])
    show Calls Tryz.prog 159 #[.int .i64 1, .int .u64 n] w _
    go_enter Tryz.func159, Tryz.ntmps159
    have zz := hi8_size n 2
    go_wp2_with fail
    refine (rbytes_any n 2 w (by decide) h0 h1).mono ?_
    rintro e w1 ⟨rfl, hb⟩
    have HB := Lib.hid hb
    clear hb
    go_wp2
    go_ret
    exact ⟨congrArg (fun s => Ending.returned (.string s)) (ba_ext (by rw [EQ.out]; simp [baL]; rfl)), HB.out⟩
  · have EQ := Lib.hid (headP2 hn)
    by_cases c1 : n < 32
    · have EQ : Hid (headP 2 n = [toB (160 + n)]) := Lib.hid (by rw [EQ.out, if_pos c1])
      show Calls Tryz.prog 159 #[.int .i64 2, .int .u64 n] w _
      go_enter Tryz.func159, Tryz.ntmps159
      go_wp2_with fail
      refine (rone_any (160 + n) w (by omega) (by omega)).mono ?_
      rintro e w1 ⟨rfl, hb⟩
      have HB := Lib.hid hb
      clear hb
      go_wp2
      go_ret
      exact ⟨congrArg (fun s => Ending.returned (.string s)) (ba_ext (by rw [EQ.out])), HB.out⟩
    by_cases c2 : n < 256
    · have EQ : Hid (headP 2 n = toB 217 :: (hiL n 1).map toB) := Lib.hid (by rw [EQ.out, if_neg c1, if_pos c2])
      show Calls Tryz.prog 159 #[.int .i64 2, .int .u64 n] w _
      go_enter Tryz.func159, Tryz.ntmps159
      have zz := hi8_size n 1
      go_wp2_with fail
      refine (rbytes_any n 1 w (by decide) h0 h1).mono ?_
      rintro e w1 ⟨rfl, hb⟩
      have HB := Lib.hid hb
      clear hb
      go_wp2
      go_ret
      exact ⟨congrArg (fun s => Ending.returned (.string s)) (ba_ext (by rw [EQ.out]; simp [baL]; rfl)), HB.out⟩
    have EQ : Hid (headP 2 n = toB 218 :: (hiL n 2).map toB) := Lib.hid (by rw [EQ.out, if_neg c1, if_neg c2])
    show Calls Tryz.prog 159 #[.int .i64 2, .int .u64 n] w _
    go_enter Tryz.func159, Tryz.ntmps159
    have zz := hi8_size n 2
    go_wp2_with fail
    refine (rbytes_any n 2 w (by decide) h0 h1).mono ?_
    rintro e w1 ⟨rfl, hb⟩
    have HB := Lib.hid hb
    clear hb
    go_wp2
    go_ret
    exact ⟨congrArg (fun s => Ending.returned (.string s)) (ba_ext (by rw [EQ.out]; simp [baL]; rfl)), HB.out⟩
  · have EQ := Lib.hid (headP3 hn)
    by_cases c1 : n < 16
    · have EQ : Hid (headP 3 n = [toB (144 + n)]) := Lib.hid (by rw [EQ.out, if_pos c1])
      show Calls Tryz.prog 159 #[.int .i64 3, .int .u64 n] w _
      go_enter Tryz.func159, Tryz.ntmps159
      go_wp2_with fail
      refine (rone_any (144 + n) w (by omega) (by omega)).mono ?_
      rintro e w1 ⟨rfl, hb⟩
      have HB := Lib.hid hb
      clear hb
      go_wp2
      go_ret
      exact ⟨congrArg (fun s => Ending.returned (.string s)) (ba_ext (by rw [EQ.out])), HB.out⟩
    have EQ : Hid (headP 3 n = toB 220 :: (hiL n 2).map toB) := Lib.hid (by rw [EQ.out, if_neg c1])
    show Calls Tryz.prog 159 #[.int .i64 3, .int .u64 n] w _
    go_enter Tryz.func159, Tryz.ntmps159
    have zz := hi8_size n 2
    go_wp2_with fail
    refine (rbytes_any n 2 w (by decide) h0 h1).mono ?_
    rintro e w1 ⟨rfl, hb⟩
    have HB := Lib.hid hb
    clear hb
    go_wp2
    go_ret
    exact ⟨congrArg (fun s => Ending.returned (.string s)) (ba_ext (by rw [EQ.out]; simp [baL]; rfl)), HB.out⟩
  · have EQ := Lib.hid (headP4 hn)
    by_cases c1 : n < 16
    · have EQ : Hid (headP 4 n = [toB (128 + n)]) := Lib.hid (by rw [EQ.out, if_pos c1])
      show Calls Tryz.prog 159 #[.int .i64 4, .int .u64 n] w _
      go_enter Tryz.func159, Tryz.ntmps159
      go_wp2_with fail
      refine (rone_any (128 + n) w (by omega) (by omega)).mono ?_
      rintro e w1 ⟨rfl, hb⟩
      have HB := Lib.hid hb
      clear hb
      go_wp2
      go_ret
      exact ⟨congrArg (fun s => Ending.returned (.string s)) (ba_ext (by rw [EQ.out])), HB.out⟩
    have EQ : Hid (headP 4 n = toB 222 :: (hiL n 2).map toB) := Lib.hid (by rw [EQ.out, if_neg c1])
    show Calls Tryz.prog 159 #[.int .i64 4, .int .u64 n] w _
    go_enter Tryz.func159, Tryz.ntmps159
    have zz := hi8_size n 2
    go_wp2_with fail
    refine (rbytes_any n 2 w (by decide) h0 h1).mono ?_
    rintro e w1 ⟨rfl, hb⟩
    have HB := Lib.hid hb
    clear hb
    go_wp2
    go_ret
    exact ⟨congrArg (fun s => Ending.returned (.string s)) (ba_ext (by rw [EQ.out]; simp [baL]; rfl)), HB.out⟩
def Laid5 (b : ByteArray) (w : World) (e : Ending) (w' : World) : Prop := e = .returned (.tuple #[.string b, .int .i64 0]) ∧ Below w.heap.size w w'
set_option maxRecDepth 100000 in
theorem rlaidnum_any (n : Int) (t : ByteArray) (w : World) (h0 : 0 ≤ n) (h1 : n ≤ 18446744073709551615) : Calls Tryz.prog 97 #[.int .i64 0, .int .u64 n, .string t] w (Laid5 (numP n) w) := by
  have H := Lib.hid (rnum5_any n w h0 h1)
  have e : numP n = baL (headP 0 n) := by unfold numP laidP; exact ba_ext (by simp)
  rw [e]
  clear e
  go_enter Tryz.func97, Tryz.ntmps97
  go_wp2_with fail
  refine H.out.mono ?_
  rintro e w1 ⟨rfl, hb⟩
  have HB := Lib.hid hb
  clear hb
  go_wp2
  go_ret2
  exact ⟨rfl, HB.out⟩
set_option maxRecDepth 100000 in
theorem rlaidtext_any (sort : Nat) (n : Int) (t : ByteArray) (w : World) (hs : sort = 1 ∨ sort = 2) (ht : t.size < 65536) : Calls Tryz.prog 97 #[.int .i64 sort, .int .u64 n, .string t] w (Laid5 (laidP sort t.size t) w) := by
  have H := Lib.hid (rhead_any sort t.size w (by omega) (by omega) (by omega) (by omega))
  have e : laidP sort t.size t = baL (headP sort t.size) ++ t := by
    unfold laidP; rw [if_pos hs]
  rw [e]
  have hl := headP_len sort t.size
  have hz : (baL (headP sort t.size)).size ≤ 9 := by rw [baL_size]; exact hl
  have hw : IntKind.u64.wrap (t.size : Int) = t.size := IntWalk.u64_in _ (by omega)
  obtain ⟨z, hzz⟩ : ∃ z, baL (headP sort t.size) = z := ⟨_, rfl⟩
  rw [hzz] at H hz ⊢
  have hd : decide ((65536 : Int) ≤ (t.size : Int)) = false := decide_eq_false (by omega)
  have hi : (t.size : Int) ≤ 70000 := by omega
  clear e hl hzz ht
  rcases hs with rfl | rfl
  · show Calls Tryz.prog 97 #[.int .i64 1, .int .u64 n, .string t] w _
    go_enter Tryz.func97, Tryz.ntmps97
    go_wp2_with fail
    refine H.out.mono ?_
    rintro e w1 ⟨rfl, hb⟩
    have HB := Lib.hid hb
    clear hb
    go_wp2
    go_ret2
    exact ⟨rfl, HB.out⟩
  · show Calls Tryz.prog 97 #[.int .i64 2, .int .u64 n, .string t] w _
    go_enter Tryz.func97, Tryz.ntmps97
    go_wp2_with fail
    refine H.out.mono ?_
    rintro e w1 ⟨rfl, hb⟩
    have HB := Lib.hid hb
    clear hb
    go_wp2
    go_ret2
    exact ⟨rfl, HB.out⟩
set_option maxRecDepth 100000 in
theorem rlaidmany_any (sort n : Nat) (t : ByteArray) (w : World) (hs : sort = 3 ∨ sort = 4) (hn : n < 65536) : Calls Tryz.prog 97 #[.int .i64 sort, .int .u64 n, .string t] w (Laid5 (laidP sort n ByteArray.empty) w) := by
  have H := Lib.hid (rhead_any sort n w (by omega) (by omega) (by omega) (by omega))
  have e : laidP sort n ByteArray.empty = baL (headP sort n) := by
    unfold laidP; rw [if_neg (by omega)]; exact ba_ext (by simp)
  rw [e]
  have hw : IntKind.i64.wrap (n : Int) = n := IntWalk.i64_in _ (by omega)
  have hd : decide ((65536 : Int) ≤ (n : Int)) = false := decide_eq_false (by omega)
  clear e hn
  rcases hs with rfl | rfl
  · show Calls Tryz.prog 97 #[.int .i64 3, .int .u64 n, .string t] w _
    go_enter Tryz.func97, Tryz.ntmps97
    go_wp2_with fail
    refine H.out.mono ?_
    rintro e w1 ⟨rfl, hb⟩
    have HB := Lib.hid hb
    clear hb
    go_wp2
    go_ret2
    exact ⟨rfl, HB.out⟩
  · show Calls Tryz.prog 97 #[.int .i64 4, .int .u64 n, .string t] w _
    go_enter Tryz.func97, Tryz.ntmps97
    go_wp2_with fail
    refine H.out.mono ?_
    rintro e w1 ⟨rfl, hb⟩
    have HB := Lib.hid hb
    clear hb
    go_wp2
    go_ret2
    exact ⟨rfl, HB.out⟩
end Go.Proofs.YtihiaopilnjonaaGreatDoor
namespace Go.Proofs.YtihiaopilnjonaaGreatDoor
open Go.RowKit
set_option linter.unusedSimpArgs false
set_option linter.unusedVariables false
abbrev BPs := List (ByteArray × ByteArray)
def catK (ps : BPs) : ByteArray := catB ((rkept ps).map fun p => strP p.1 ++ p.2)
def LyB (w : World) (b : Nat) (ps : BPs) : Prop := w.heap[b]? = some (.cells #[.int .u64 ((rkept ps).length : Nat), .string (catK ps)] 141 (0, 0))
theorem LyB.below {w w' : World} {b : Nat} {ps : BPs} (h : LyB w b ps) (hb : Below w.heap.size w w') : LyB w' b ps := by
  unfold LyB; rw [hb.block b (lt_of_block h)]; exact h
theorem rkept_none (ps : BPs) (key : ByteArray) (v : ByteArray) (h : v.size = 0) : rkept (ps ++ [(key, v)]) = rkept ps := by
  unfold rkept; rw [List.filter_append, List.filter_cons_of_neg (by simp [h])]; simp
theorem rkept_some (ps : BPs) (key : ByteArray) (v : ByteArray) (h : v.size ≠ 0) : rkept (ps ++ [(key, v)]) = rkept ps ++ [(key, v)] := by
  unfold rkept; rw [List.filter_append, List.filter_cons_of_pos (by simp [h])]; simp
theorem catK_some (ps : BPs) (key : ByteArray) (v : ByteArray) (h : v.size ≠ 0) : catK (ps ++ [(key, v)]) = catK ps ++ strP key ++ v := by
  unfold catK; rw [rkept_some ps key v h, List.map_append, catB_app]; simp [catB, ByteArray.append_assoc]
theorem extB_below {b : Nat} {w w1 : World} (h : Below w.heap.size w w1) : ExtB (some b) w w1 := ⟨h.os, h.tape, h.output, h.size, fun i hi _ => h.block i hi⟩
theorem extB_set {b : Nat} {w w1 : World} (h : ExtB (some b) w w1) (o : Nat) (v : Value) : ExtB (some b) w (w1.setCell ⟨b, o, none⟩ v) := by
  refine ⟨h.os, h.tape, h.output, by rw [show (w1.setCell ⟨b, o, none⟩ v).heap.size = w1.heap.size by simp]; exact h.size, fun i hi hne => ?_⟩
  rw [Below.heap_setCell _ _ _ _ (by rintro e; exact hne (by rw [e]))]; exact h.block i hi hne
theorem extB_to {b n : Nat} {w w1 : World} (h : ExtB (some b) w w1) (hn : n ≤ b) (hw : n ≤ w.heap.size) : Below n w w1 := ⟨h.os, h.tape, h.output, h.size, fun i hi => h.block i (by omega) (by rintro e; cases e; omega)⟩
theorem full5 {t : ByteArray} (h : t.size ≠ 0) : t.toList.isEmpty = false := by
  rw [ByteArray.toList_eq]; cases t with | mk d => simp_all [ByteArray.size]
set_option maxRecDepth 100000 in
set_option maxHeartbeats 2000000 in
theorem put_any (b : Nat) (ps : BPs) (key v : ByteArray) (w : World) (h : LyB w b ps) (hk : key.size < 65536) (hn : ps.length ≤ 1000) (hs : (catK ps).size ≤ 30000000000000) (hv : v.size ≤ 10000000000000) :
    Calls Tryz.prog 81 #[.pointer (some ⟨b, 0, none⟩), .string key, .string v] w fun e w' => e = .returned (.tuple #[]) ∧ ExtB (some b) w w' ∧ LyB w' b (ps ++ [(key, v)]) := by
  have H := Lib.hid h
  have HN := Lib.hid hn
  by_cases h0 : v.size = 0
  · have hv0 : v = ⟨#[]⟩ := by
      have : v = ByteArray.empty := ba_ext (by have := ba_len v; rw [h0] at this; rw [List.length_eq_zero_iff.1 this]; rfl)
      exact this
    have HV0 := Lib.hid h0
    clear h0
    subst hv0
    clear h hn
    go_enter Tryz.func81, Tryz.ntmps81
    go_wp2
    refine bodyPost_ret (results_none rfl _ _ _) rfl ?_
    exact ⟨rfl, extB_below (by (repeat (first | exact Below.refl _ _ | assumption | (refine bdrew ?_) | (refine bdrewN ?_ _) | (refine balloc ?_ _) | (refine bset ?_ (by first | omega | (simp; done) | (simp; omega)) _) | (refine bnext ?_ (by assumption))))), by unfold LyB catK; rw [rkept_none _ _ _ rfl]; exact H.out.below (by (repeat (first | exact Below.refl _ _ | assumption | (refine bdrew ?_) | (refine bdrewN ?_ _) | (refine balloc ?_ _) | (refine bset ?_ (by first | omega | (simp; done) | (simp; omega)) _) | (refine bnext ?_ (by assumption)))))⟩
  · have e1 : v.toList.isEmpty = false := full5 h0
    have HV := Lib.hid h0
    have HL := Lib.hid (rlaidtext_any 2 0 key w (.inr rfl) hk)
    obtain ⟨K, hK⟩ : ∃ K, laidP 2 key.size key = K := ⟨_, rfl⟩
    have hKs : K.size ≤ 70000 := by
      rw [← hK]; unfold laidP; rw [if_pos (.inr rfl)]
      have := headP_len 2 key.size
      rw [ByteArray.size_append, baL_size]; omega
    have HKK : Hid (strP key = K) := Lib.hid hK
    rw [hK] at HL
    obtain ⟨C, hC⟩ : ∃ C, catK ps = C := ⟨_, rfl⟩
    have HC := Lib.hid hC
    rw [hC] at hs
    have hr : (rkept ps).length ≤ 1000 := Nat.le_trans (List.length_filter_le _ _) hn
    obtain ⟨m, hm⟩ : ∃ m, (rkept ps).length = m := ⟨_, rfl⟩
    have HM := Lib.hid hm
    rw [hm] at hr
    have yy : IntKind.u64.wrap ((m : Int) + 1) = ((m + 1 : Nat) : Int) := by rw [IntWalk.u64_in _ (by omega)]; omega
    clear h hn h0 hk hK hC hm
    go_enter Tryz.func81, Tryz.ntmps81
    go_wp2_with fail
    refine HL.out.mono ?_
    rintro e w1 ⟨rfl, hb⟩
    have HB := Lib.hid hb
    have hblk := H.out.below hb
    unfold LyB at hblk
    rw [HC.out, HM.out] at hblk
    have c0 : w1.cell? ⟨b, 0, none⟩ = some (.int .u64 m) := block_cell hblk 0
    have c1 : w1.cell? ⟨b, 1, none⟩ = some (.string C) := block_cell hblk 1
    have f0 : ∀ o, w1.frozen? ⟨b, o, none⟩ = false := block_free hblk
    have HBK := Lib.hid hblk
    clear hb hblk
    go_wp2_with fail
    go_upto_region 3 with fail
    obtain ⟨V, hV⟩ : ∃ V, w1.setCell ⟨b, 1, none⟩ (.string (C ++ K ++ v)) = V := ⟨_, rfl⟩
    have hVb : V.heap[b]? = some (.cells #[.int .u64 m, .string (C ++ K ++ v)] 141 (0, 0)) := by rw [← hV]; exact block_setCell HBK.out _
    have HVE : Hid (ExtB (some b) w V) := Lib.hid (by rw [← hV]; exact extB_set (extB_below HB.out) _ _)
    have c0 : V.cell? ⟨b, 0, none⟩ = some (.int .u64 m) := block_cell hVb 0
    have f0 : ∀ o, V.frozen? ⟨b, o, none⟩ = false := block_free hVb
    have HBK := Lib.hid hVb
    rw [hV]
    clear hV hVb
    go_wp2
    go_end0
    refine ⟨rfl, extB_set HVE.out _ _, ?_⟩
    unfold LyB
    rw [rkept_some _ _ _ HV.out, catK_some _ _ _ HV.out, HC.out, HKK.out, List.length_append, HM.out]
    exact block_setCell HBK.out _
end Go.Proofs.YtihiaopilnjonaaGreatDoor
namespace Go.Proofs.YtihiaopilnjonaaGreatDoor
open Go.RowKit
set_option linter.unusedSimpArgs false
set_option linter.unusedVariables false
theorem laidP_len (sort : Nat) (n : Int) (t : ByteArray) : (laidP sort n t).size ≤ 9 + t.size := by
  unfold laidP
  have := headP_len sort n
  rw [ByteArray.size_append, baL_size]
  split
  · omega
  · show _ + 0 ≤ _; omega
set_option maxRecDepth 100000 in
theorem rwhole_any (b : Nat) (ps : BPs) (w : World) (h : LyB w b ps) (hn : ps.length ≤ 1000) (hs : (catK ps).size ≤ 30000000000000) :
    Calls Tryz.prog 84 #[.pointer (some ⟨b, 0, none⟩)] w fun e w' => e = .returned (.string (rlayP ps)) ∧ Below w.heap.size w w' := by
  have H := Lib.hid h
  have hr : (rkept ps).length ≤ 1000 := Nat.le_trans (List.length_filter_le _ _) hn
  have HE : Hid (rlayP ps = mapP (rkept ps).length ++ catK ps) := Lib.hid rfl
  obtain ⟨m, hm⟩ : ∃ m, (rkept ps).length = m := ⟨_, rfl⟩
  obtain ⟨C, hC⟩ : ∃ C, catK ps = C := ⟨_, rfl⟩
  unfold LyB at h
  rw [hm, hC] at h HE
  rw [hm] at hr
  rw [hC] at hs
  have c0 : w.cell? ⟨b, 0, none⟩ = some (.int .u64 m) := block_cell h 0
  have c1 : w.cell? ⟨b, 1, none⟩ = some (.string C) := block_cell h 1
  have HL := Lib.hid (rlaidmany_any 4 m ⟨#[]⟩ w (.inr rfl) (by omega))
  have hz : (mapP m).size ≤ 9 := laidP_len 4 m ByteArray.empty
  have HE2 := Lib.hid HE.out
  unfold mapP at HE hz
  obtain ⟨K, hK⟩ : ∃ K, laidP 4 m ByteArray.empty = K := ⟨_, rfl⟩
  rw [hK] at HL HE hz
  have hzi : (K.size : Int) ≤ 9 := by omega
  clear h H hm hC HE2 hK hr
  go_enter Tryz.func84, Tryz.ntmps84
  go_wp2_with fail
  refine HL.out.mono ?_
  rintro e w1 ⟨rfl, hb⟩
  have HB := Lib.hid hb
  have c1' : w1.cell? ⟨b, 1, none⟩ = some (.string C) := (hb.cell (lt_of_cell c1)).trans c1
  clear hb c0 c1
  go_wp2
  go_ret
  exact ⟨by rw [HE.out]; rfl, HB.out⟩
def numR (n : Int) : ByteArray := if n = 0 then ⟨#[]⟩ else numP n
set_option maxRecDepth 100000 in
theorem rnum_any (n : Int) (w : World) (h0 : 0 ≤ n) (h1 : n ≤ 18446744073709551615) : Calls Tryz.prog 82 #[.int .u64 n] w fun e w' => e = .returned (.string (numR n)) ∧ Below w.heap.size w w' := by
  by_cases hz : n = 0
  · subst hz
    go_enter Tryz.func82, Tryz.ntmps82
    go_wp2
    go_ret
    exact ⟨rfl, by (repeat (first | exact Below.refl _ _ | assumption | (refine bdrew ?_) | (refine bdrewN ?_ _) | (refine balloc ?_ _) | (refine bset ?_ (by first | omega | (simp; done) | (simp; omega)) _) | (refine bnext ?_ (by assumption))))⟩
  · have HL := Lib.hid (rlaidnum_any n ⟨#[]⟩ w h0 h1)
    have HE : Hid (numR n = numP n) := Lib.hid (by unfold numR; rw [if_neg hz])
    obtain ⟨K, hK⟩ : ∃ K, numP n = K := ⟨_, rfl⟩
    rw [hK] at HL HE
    have hz' : decide (n = 0) = false := decide_eq_false hz
    have hz2 : (n == 0) = false := by simp [hz]
    clear hz hK
    go_enter Tryz.func82, Tryz.ntmps82
    go_wp2_with fail
    refine HL.out.mono ?_
    rintro e w1 ⟨rfl, hb⟩
    have HB := Lib.hid hb
    clear hb
    go_wp2
    go_ret
    exact ⟨by rw [HE.out]; rfl, HB.out⟩
set_option maxRecDepth 100000 in
theorem rbin_any (s : ByteArray) (w : World) (hs : s.size < 65536) : Calls Tryz.prog 83 #[.string s] w fun e w' => e = .returned (.string (binP s)) ∧ Below w.heap.size w w' := by
  have HL := Lib.hid (rlaidtext_any 1 0 s w (.inl rfl) hs)
  have HE : Hid (binP s = laidP 1 s.size s) := Lib.hid rfl
  obtain ⟨K, hK⟩ : ∃ K, laidP 1 s.size s = K := ⟨_, rfl⟩
  rw [hK] at HL HE
  clear hs hK
  go_enter Tryz.func83, Tryz.ntmps83
  go_wp2_with fail
  refine HL.out.mono ?_
  rintro e w1 ⟨rfl, hb⟩
  have HB := Lib.hid hb
  clear hb
  go_wp2
  go_ret
  exact ⟨by rw [HE.out]; rfl, HB.out⟩
set_option maxRecDepth 100000 in
theorem rdigest_any (s : ByteArray) (w : World) (hs : s.size ≤ 9223372036854775807) : Calls Tryz.prog 64 #[.string s] w fun e w' => e = .returned (.bool (decide (s.size = 32))) ∧ Below w.heap.size w w' := by
  have h1 : ((s.size : Int) == 32) = decide (s.size = 32) := by
    by_cases h : s.size = 32
    · rw [decide_eq_true h, h]; rfl
    · rw [decide_eq_false h]; simp; omega
  go_enter Tryz.func64, Tryz.ntmps64
  go_wp2
  go_ret
  exact ⟨by simp, by (repeat (first | exact Below.refl _ _ | assumption | (refine bdrew ?_) | (refine bdrewN ?_ _) | (refine balloc ?_ _) | (refine bset ?_ (by first | omega | (simp; done) | (simp; omega)) _) | (refine bnext ?_ (by assumption))))⟩
end Go.Proofs.YtihiaopilnjonaaGreatDoor
namespace Go.Proofs.YtihiaopilnjonaaGreatDoor
open Go.RowKit
set_option linter.unusedSimpArgs false
set_option linter.unusedVariables false
theorem catK_le (ps : BPs) (k v : ByteArray) : (catK (ps ++ [(k, v)])).size ≤ (catK ps).size + k.size + 9 + v.size := by
  by_cases h : v.size = 0
  · unfold catK; rw [rkept_none _ _ _ h]; omega
  · rw [catK_some _ _ _ h, ByteArray.size_append, ByteArray.size_append]
    have : (strP k).size ≤ 9 + k.size := laidP_len 2 _ _
    omega
theorem putZ {j : Nat} {ps : BPs} {k v : ByteArray} (h : Hid ((catK ps).size ≤ j * 25000000000)) (hk : k.size = 1) (hv : v.size ≤ 24900000000) : Hid ((catK (ps ++ [(k, v)])).size ≤ (j + 1) * 25000000000) := Lib.hid (by
  have h1 := h.out
  have h2 := catK_le ps k v
  omega)
theorem numR_len (n : Int) : (numR n).size ≤ 9 := by
  unfold numR
  split
  · decide
  · exact laidP_len 0 n ByteArray.empty
theorem binP_len (s : ByteArray) : (binP s).size ≤ 9 + s.size := laidP_len 1 _ _
end Go.Proofs.YtihiaopilnjonaaGreatDoor
namespace Go.Proofs.YtihiaopilnjonaaGreatDoor
open Go.RowKit
set_option linter.unusedSimpArgs false
set_option linter.unusedVariables false
def FPs : List FSpec → BPs → Prop
  | [], [] => True
  | f :: l, p :: r => (f.key = p.1 ∧ (f.empty = true ↔ p.2.size = 0) ∧ (f.empty = false → f.bytes = p.2)) ∧ FPs l r
  | _, _ => False
theorem fps_len : ∀ (l : List FSpec) (r : BPs), FPs l r → l.length = r.length ∧ ∀ i (h : i < l.length) (h' : i < r.length), l[i].key = r[i].1 ∧ (l[i].empty = true ↔ r[i].2.size = 0) ∧ (l[i].empty = false → l[i].bytes = r[i].2)
  | [], [], _ => ⟨rfl, fun i h => absurd h (by simp)⟩
  | [], _ :: _, h => h.elim
  | _ :: _, [], h => h.elim
  | f :: l, p :: r, h => by
    obtain ⟨h1, h2⟩ := h
    obtain ⟨h3, h4⟩ := fps_len l r h2
    refine ⟨by simp [h3], fun i hi hi' => ?_⟩
    cases i with
    | zero => exact h1
    | succ j => exact h4 j (by simpa using hi) (by simpa using hi')
theorem fps_lay {l : List FSpec} {r : BPs} (h : FPs l r) : layP l = rlayP r := layP_eq (fps_len l r h).1 (fps_len l r h).2
theorem head_pos (sort : Nat) (n : Int) (h : sort < 5) (h1 : sort ≠ 0 → n < 65536) : 0 < (headP sort n).length := by
  have hs : sort = 0 ∨ sort = 1 ∨ sort = 2 ∨ sort = 3 ∨ sort = 4 := by omega
  rcases hs with rfl | rfl | rfl | rfl | rfl
  · rw [headP0]; repeat (first | split | simp)
  · rw [headP1 (h1 (by decide))]; repeat (first | split | simp)
  · rw [headP2 (h1 (by decide))]; repeat (first | split | simp)
  · rw [headP3 (h1 (by decide))]; repeat (first | split | simp)
  · rw [headP4 (h1 (by decide))]; repeat (first | split | simp)
theorem laid_pos (sort : Nat) (n : Int) (t : ByteArray) (h : sort < 5) (h1 : sort ≠ 0 → n < 65536) : 0 < (laidP sort n t).size := by
  unfold laidP
  rw [ByteArray.size_append, baL_size]
  have := head_pos sort n h h1
  omega
theorem num_ok (key : ByteArray) (n : Int) : ((n == 0) = true ↔ (numR n).size = 0) ∧ ((n == 0) = false → numP n = numR n) := by
  unfold numR
  by_cases h : n = 0
  · rw [if_pos h, h]
    exact ⟨⟨fun _ => rfl, fun _ => rfl⟩, fun h => absurd h (by decide)⟩
  · rw [if_neg h]
    have e : (n == 0) = false := by simp [h]
    rw [e]
    have h1 : 0 < (numP n).size := laid_pos 0 n ByteArray.empty (by decide) (fun h => absurd rfl h)
    exact ⟨⟨fun h => absurd h (by decide), fun h => by omega⟩, fun _ => rfl⟩
theorem bin_ok (s : ByteArray) (hs : s.size < 65536) : (false = true ↔ (binP s).size = 0) ∧ (false = false → binP s = binP s) := by
  have : 0 < (binP s).size := laid_pos 1 _ _ (by decide) (fun _ => by omega)
  exact ⟨⟨fun h => absurd h (by decide), fun h => by omega⟩, fun _ => rfl⟩
end Go.Proofs.YtihiaopilnjonaaGreatDoor

/- What an iterator hands over, collected: AppendSeq at an empty slice, Collect; maps.Keys. -/
import Derived.Test.YtbeppkokkbgddaaKeys
import Derived.RangeFuncBox
import Derived.Maps.AppendAt
namespace Go.Proofs.Ytbeppkokkbgddaa
open Go.RowKit Go.ChangeMaps
set_option linter.unusedSimpArgs false
set_option linter.unusedVariables false
attribute [local go_sem] Oper.semAt_some

theorem SeqP.later {α : Type} {F : Fence} {n : Nat} {P : Program} {g : Nat} {lb : Array Value} {encs : α → Array Value} {Px : α → World → Prop} {S : List α → Prop} {N : Nat} {w w' : World}
    (h : SeqP F n P g lb encs Px S N w) (hb : Below w.heap.size w w') : SeqP F n P g lb encs Px S N w' := fun l J W hW => h l J W (bnext hb hW)

theorem keys_any (m : Value) (w : World) (hm : ∃ p, m = .map p) : Calls Try.prog 46 #[m] w fun e w' => e = .returned (.func (.func 65) #[] #[.pointer (some ⟨w.heap.size, 0, none⟩)]) ∧ w' = w.alloc (.cells #[m] 71) := by
  obtain ⟨p, rfl⟩ := hm
  go_enter Try.func46, Try.ntmps46
  go_wp2
  go_ret
  exact ⟨rfl, rfl⟩

/-- What has been collected: a slice of the call's own. -/
def Coll {α : Type} (S : List α → Prop) (f : α → Int) (w : World) (e : Ending) (w' : World) : Prop :=
  ∃ (v : Value) (xs : List α), e = .returned v ∧ S xs ∧ w'.ownsRow w.heap.size 22 1 v xs.length (xs.map fun x => .int .u64 (f x)) ∧ Below w.heap.size w w'

set_option maxRecDepth 100000 in
set_option maxHeartbeats 2000000 in
theorem append_seq (w : World) (gf N : Nat) (lb : Array Value) (S : List Int → Prop) (Px : Int → World → Prop) (hpx : ∀ k W W', Px k W → Px k W') (eg : ∀ args w, (callFunc gf args).run Try.prog w = .ok (.enter gf args) w)
    (hseq : SeqP Fence.wide 4 Try.prog gf lb (fun k : Int => #[.int .u64 k]) Px S N w) (hN : N ≤ 1000000) :
    Calls Try.prog 71 #[.slice none 0 0, .func (.func gf) #[] lb] w (Coll S id w) := by
  refine (callsIn_wide (n := 5)).1 ?_
  obtain ⟨i0, hi, hz0, hz1, hz2⟩ := info_parts info_u64
  refine callsIn_of_wp_marks Try.func71 rfl trivial ?_ rfl
  simp only [Try.ntmps71, List.size_toArray, List.length_cons, List.length_nil, Nat.reduceAdd, Nat.reduceSub, Array.replicate_succ, Array.replicate_zero, List.push_toArray, List.append_toArray, List.nil_append, List.cons_append]
  gi_wp2
  have bO := Boxed.new w 28 (.slice none 0 0)
  have hB0 : Below w.heap.size w (w.alloc (.cells #[.slice none 0 0] 28)) := (Below.refl _ w).alloc (Nat.le_refl _) _
  refine wpIn_rangeFunc_P rfl (by omega) (gf := gf) (lb := lb) rfl trivial eg (hseq.later hB0) (fun x W l r o' h _ => hpx x W _ h) (fun _ => rfl)
    (fun pre W => (∃ v, Boxed W w.heap.size 28 v ∧ W.ownsRow w.heap.size 22 1 v pre.length (pre.map fun x => Value.int .u64 x) ∧ True) ∧ Below w.heap.size w W)
    (OwnFrom.and (Own.from (holdsRow_own w.heap.size w.heap.size 28 22 1 (fun pre : List Int => pre.length) (fun pre => pre.map fun x => Value.int .u64 x) (fun _ _ => True)) _) (ownFrom_below (Nat.le_refl _) (by simp)))
    ⟨⟨_, bO, World.ownsRow_nil _ _ _ _, trivial⟩, hB0⟩
    (fun x => { tmps := #[.slice none 0 0, .func (.func gf) #[] lb, .pointer (some ⟨w.heap.size, 0, none⟩), undef, .slice none 0 0, .int .u64 x, .func (.func gf) #[] lb, .int .u64 x, undef, undef, undef, undef, undef], defers := [] }) ?assign ?body ?done
  case assign =>
    intro l x W K hK
    gi_wp2
    exact hK
  case body =>
    rintro l pre x W ⟨⟨v, hv, hrow, -⟩, hB⟩ hpx hlt
    have hc := hv.cell
    gi_wp2_with (gi_at_builtin; refine wpListIn_append_own _ rfl _ _ 28 rfl w.heap.size 22 i0 (.int .u64 0) 1 8 Try.underlying28 hi hz0 hz1 hz2 rfl (by decide) _ _ _ rfl (hrow.alloc _) ⟨W.heap.size, 0, none⟩ 1 1 [.int .u64 x] rfl rfl (cell_one_new _ _ _) (by simp [Value.oneCell']) (by unfold maxLen; omega) (by omega) (by have := hB.size; simp; omega) ?_; intro v' w1 hown' hgrow _; obtain ⟨g', cap', rfl⟩ := ownsRow_succ hown'; obtain ⟨hv1, hv2, hr2, hk2, hb2⟩ := hv.appended (by decide) hrow hB.size (Nat.le_refl _) hown' hgrow; have hc1 := hv1.cell; have hf1 := hv1.frozen)
    exact ⟨hk2.from _, hk2.walks, ⟨_, hv2, by simpa using hr2, trivial⟩, hB.trans hb2⟩
  case done =>
    rintro D ys W hD hS ⟨⟨v, hv, hrow, -⟩, hB⟩ hK
    have hc := hv.cell
    gi_wp2
    refine ⟨by simp, .inl ⟨_, _, rfl, run_takeDeferred hK, ?_⟩⟩
    exact ⟨_, results_tmp rfl _ _ _, v, ys, rfl, hS, ownsRow_putObj hrow _ hK rfl, hB.trans (belowK_b (w := w) (Nat.le_refl _) W D _ _ (by simp at hD; omega) hK rfl rfl)⟩

theorem collect_any (w : World) (gf N : Nat) (lb : Array Value) (S : List Int → Prop) (Px : Int → World → Prop) (hpx : ∀ k W W', Px k W → Px k W') (eg : ∀ args w, (callFunc gf args).run Try.prog w = .ok (.enter gf args) w)
    (hseq : SeqP Fence.wide 4 Try.prog gf lb (fun k : Int => #[.int .u64 k]) Px S N w) (hN : N ≤ 1000000) :
    Calls Try.prog 64 #[.func (.func gf) #[] lb] w (Coll S id w) := by
  have HS := Lib.hid hseq
  have HP := Lib.hid hpx
  have HG := Lib.hid eg
  clear hseq hpx eg
  go_enter Try.func64, Try.ntmps64
  go_wp2_with fail
  refine (append_seq w gf N lb S Px HP.out HG.out HS.out hN).mono ?_
  rintro e w' ⟨v, xs, rfl, hS, hr, hb⟩
  have H1 := Lib.hid hS
  have H2 := Lib.hid hr
  have H3 := Lib.hid hb
  clear hS hr hb
  go_wp2
  go_ret
  exact ⟨v, xs, rfl, H1.out, H2.out, H3.out⟩
end Go.Proofs.Ytbeppkokkbgddaa

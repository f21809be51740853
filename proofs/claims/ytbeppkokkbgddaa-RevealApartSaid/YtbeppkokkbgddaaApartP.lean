/- The statement RevealApart: plain facts; appending under a guard; cutting a slice. -/
import Derived.Test.YtbeppkokkbgddaaRightP
namespace Go.Proofs.Ytbeppkokkbgddaa
open Go.RowKit
set_option linter.unusedSimpArgs false
set_option linter.unusedVariables false

theorem len_app (a b : List Int) : len (a ++ b) = len a + len b := by simp [len]
theorem drop_rev {C : List Int} {j : Nat} (h : j < len C) : (C.drop j).reverse = (C.drop (j + 1)).reverse ++ [nth C j] := by
  have h' : j < C.length := h
  rw [List.drop_eq_getElem_cons h', List.reverse_cons, nth_eq C j h']
/-- What coins told in two goes come to. -/
structure Apart2 (E W C : List Int) (k : Nat) (ps q t r u v po : List Int) : Prop where
  all : ∀ w e w', ChooseIs E W C w e w' → ChO ps r 0 w e w'
  fst : ∀ w e w', ChooseIs E W (C.take k) w e w' → ChO q u 0 w e w'
  snd : ∀ w e w', ChooseIs E W (C.drop k) w e w' → ChO t v 0 w e w'
  back : ∀ w e w', ChooseIs E W C.reverse w e w' → ChO po r 0 w e w'
  app : ps = q ++ t
  lq : len ps ≤ len C
  lu : len u ≤ len C
  lv : len v ≤ len C
  lr : len r ≤ len C
  size : (insAll (u ++ v)).length = len r
  mem : ∀ i, i < len r → nth r i ∈ insAll (u ++ v)
theorem apart2_of {E W C : List Int} (h : ∀ c ∈ C, cutN E c < len E) (k : Nat) (hk : k ≤ len C) : ∃ ps q t r u v po, Apart2 E W C k ps q t r u v po := by
  have a0 := insAll_all (C.map (fallN E W))
  have a1 := insAll_all ((C.take k).map (fallN E W))
  have a2 := insAll_all ((C.drop k).map (fallN E W))
  have a4 := insAll_all (C.reverse.map (fallN E W))
  have a3 := insAll_all (srt (insAll ((C.take k).map (fallN E W))) ++ srt (insAll ((C.drop k).map (fallN E W))))
  have happ : C.map (fallN E W) = (C.take k).map (fallN E W) ++ (C.drop k).map (fallN E W) := by rw [← List.map_append, List.take_append_drop]
  have hmem : ∀ x, x ∈ insAll (srt (insAll ((C.take k).map (fallN E W))) ++ srt (insAll ((C.drop k).map (fallN E W)))) ↔ x ∈ insAll (C.map (fallN E W)) := fun x => by
    rw [a3.2.1, List.mem_append, srt_mem, srt_mem, a1.2.1, a2.2.1, a0.2.1, happ, List.mem_append]
  have hback : srt (insAll (C.reverse.map (fallN E W))) = srt (insAll (C.map (fallN E W))) :=
    srt_of a4.1 (srt_rising a0.1) (fun x => by rw [srt_mem, a0.2.1, a4.2.1, List.map_reverse, List.mem_reverse])
  refine ⟨C.map (fallN E W), (C.take k).map (fallN E W), (C.drop k).map (fallN E W), srt (insAll (C.map (fallN E W))), srt (insAll ((C.take k).map (fallN E W))), srt (insAll ((C.drop k).map (fallN E W))), C.reverse.map (fallN E W), ?_⟩
  constructor
  · exact chO_all h
  · exact chO_all (fun c hc => h c (List.mem_of_mem_take hc))
  · exact chO_all (fun c hc => h c (List.mem_of_mem_drop hc))
  · have := chO_all (E := E) (W := W) (coins := C.reverse) (fun c hc => h c (List.mem_reverse.1 hc))
    rw [hback] at this; exact this
  · exact happ
  · rw [len_map]; exact Nat.le_refl _
  · rw [len_eq, srt_len]; refine Nat.le_trans a1.2.2 ?_; simp [len]; omega
  · rw [len_eq, srt_len]; refine Nat.le_trans a2.2.2 ?_; simp [len]
  · rw [len_eq, srt_len]; refine Nat.le_trans a0.2.2 ?_; simp [len]
  · rw [len_eq, srt_len]
    exact Nat.le_antisymm (nodup_len _ _ a3.1 (fun x hx => (hmem x).1 hx)) (nodup_len _ _ a0.1 (fun x hx => (hmem x).2 hx))
  · intro i hi
    exact (hmem _).2 ((srt_mem _ _).1 (nth_mem hi))

set_option maxRecDepth 100000 in
/-- x[k:]: where it lies. -/
theorem slice_off {n c k : Nat} {C : List Int} {b0 : Option Addr} {w : World} (hk : k ≤ n) (hn : n ≤ c) (hC : len C = n) (hu : U64s w b0 C) : ∃ da, (∀ W : World, (Instr.slice 28 (.slice b0 n c) (some (.int .i64 (k : Int))) none none).run Try.prog W = .ok (.slice da (n - k) (c - k)) W) ∧ U64s w da (C.drop k) ∧ len (C.drop k) = n - k := by
  have hl : len (C.drop k) = n - k := by rw [len_eq, List.length_drop, ← len_eq, hC]
  refine ⟨if c = k then b0 else b0.map (·.add k), fun W => ?_, ?_, hl⟩
  · have hsz : (sizeOf (Try.prog.elem 28)).run Try.prog W = .ok 1 W := by kernel_rfl
    rw [run_slice_l (P := Try.prog) W 28 b0 n c Try.underlying28 .i64 (k : Int) (by omega) (by omega), hsz]
    simp only [Result.andThen, sliced, Int.toNat_natCast, Nat.mul_one]
  · intro i hi
    rw [hl] at hi
    obtain ⟨b, off, rfl, hc⟩ := hu (k + i) (by omega)
    have hck : ¬ c = k := by omega
    refine ⟨b, off + k, ?_, ?_⟩
    · rw [if_neg hck]
      by_cases h0 : k = 0
      · subst h0; simp [Addr.add]
      · simp [Addr.add, h0]
    · have hki : k + i < C.length := by rw [len_eq] at hC; omega
      rw [Nat.add_assoc, hc, nth_eq C _ hki, nth_eq (C.drop k) i (by rw [List.length_drop]; omega), List.getElem_drop]

/-- The append of what a slice reads as, where the guard says so. -/
theorem wp_append_u64s {w : World} {o : Oper} {a : Act} {K : Act → World → Prop} {Q : Exit → Act → World → Prop} (s x : Operand)
    (ho : o.op = .call { callee := .builtin .append, args := #[s, x], argTypes := #[28, 28] })
    (base : Nat) (v : Value) (xs l : List Int) (ad : Option Addr) (c : Nat) (hs : a.eval s = v) (hown : w.ownsRow base 22 1 v (len xs) (xs.map (Value.int .u64)))
    (hx : a.eval x = .slice ad (len l) c) (hl : U64s w ad l) (hc : ad = none → c = 0) (hlen : len xs + len l ≤ 100000) (hbase : base ≤ w.heap.size)
    (h : ∀ v' w', w'.ownsRow base 22 1 v' (len (xs ++ l)) ((xs ++ l).map (Value.int .u64)) → w.grownBy w' v.ownBlock → K (a.put o.dst v') w') : o.wp Try.prog a w K Q := by
  obtain ⟨i0, hi, hz0, hz1, hz2⟩ := info_parts info_u64
  cases ad with
  | none =>
    obtain rfl : l = [] := by
      cases l with
      | nil => rfl
      | cons y l => obtain ⟨b, off, e, _⟩ := hl 0 (by simp [len]); cases e
    rw [hc rfl] at hx
    have hrun := run_append_owned_none (P := Try.prog) (w := w) base 28 o.type 22 i0 1 Try.underlying28 hi v _ _ hown
    have hx' : a.eval x = .slice none 0 0 := hx
    unfold Oper.wp
    simp [execOp, ho, resolve, invoke, builtin, hs, hx', hrun, Result.andThen]
    exact h v w (by rw [List.append_nil]; exact hown) ⟨rfl, rfl, rfl, Nat.le_refl _, fun _ _ _ => rfl⟩
  | some ad =>
    refine wp_append_own w s x 28 ho base 22 i0 (.int .u64 0) 1 8 Try.underlying28 hi hz0 hz1 hz2 rfl (by decide) v _ _ hs hown ad (len l) c (l.map (Value.int .u64)) hx (by simp [len]) (u64s_news hl) (part_one l) (by unfold maxLen; omega) (by omega) hbase ?_
    intro v' w' h1 h2 _
    refine h v' w' ?_ h2
    rw [len_app, List.map_append]; exact h1
theorem wpList_append_u64g {w : World} {ops : Array Oper} {rest : List Oper} {o : Oper} {a : Act} {Q : Exit → Act → World → Prop} (hgd : Region.wanted o (yielded ops a.tmps) = true) (s x : Operand)
    (ho : o.op = .call { callee := .builtin .append, args := #[s, x], argTypes := #[28, 28] })
    (base : Nat) (v : Value) (xs l : List Int) (ad : Option Addr) (c : Nat) (hs : a.eval s = v) (hown : w.ownsRow base 22 1 v (len xs) (xs.map (Value.int .u64)))
    (hx : a.eval x = .slice ad (len l) c) (hl : U64s w ad l) (hc : ad = none → c = 0) (hlen : len xs + len l ≤ 100000) (hbase : base ≤ w.heap.size)
    (h : ∀ v' w', w'.ownsRow base 22 1 v' (len (xs ++ l)) ((xs ++ l).map (Value.int .u64)) → w.grownBy w' v.ownBlock → wpList Try.prog ops Q rest (a.put o.dst v') w') : wpList Try.prog ops Q (o :: rest) a w := by
  refine wpList_step fun K hK => ?_
  rw [if_pos hgd]
  exact wp_append_u64s s x ho base v xs l ad c hs hown hx hl hc hlen hbase (fun v' w' h1 h2 => hK _ _ (h v' w' h1 h2))
end Go.Proofs.Ytbeppkokkbgddaa

/- Package reveal: Choose. -/
import Derived.Test.YtbeppkokkbgddaaRvC
import Derived.Test.YtbeppkokkbgddaaSortC
import Derived.Test.YtbeppkokkbgddaaRegionIn
import Derived.Test.YtbeppkokkbgddaaRefN
namespace Go.Proofs.Ytbeppkokkbgddaa
open Go.RowKit Go.ChangeMaps
set_option linter.unusedSimpArgs false
set_option linter.unusedVariables false
attribute [local go_sem] Oper.semAt_some

/-- How many of the ends are not above a coin. -/
def cutN (E : List Int) (x : Int) : Nat := (E.takeWhile fun e => decide (e ≤ x)).length
theorem cut_eq : ∀ {E : List Int} {x : Int} {k : Nat}, CutAt E x k → cutN E x = k
  | [], x, k, h => by have := h.1; simp [len] at this; subst this; rfl
  | e :: E, x, 0, h => by
    have h1 := h.2.2 0 (Nat.le_refl _) (by simp [len])
    have h2 : nth (e :: E) 0 = e := rfl
    rw [h2] at h1
    unfold cutN
    rw [List.takeWhile_cons, if_neg (by simp; omega)]; rfl
  | e :: E, x, k + 1, h => by
    have h1 := h.2.1 0 (by omega)
    have h2 : nth (e :: E) 0 = e := rfl
    rw [h2] at h1
    have ih : CutAt E x k := ⟨by have := h.1; simp only [len_eq, List.length_cons] at this ⊢; omega, fun j hj => h.2.1 (j + 1) (by omega), fun j hj hjn => h.2.2 (j + 1) (by omega) (by simp only [len_eq, List.length_cons] at hjn ⊢; omega)⟩
    have := cut_eq ih
    unfold cutN at this ⊢
    rw [List.takeWhile_cons, if_pos (by simp; omega), List.length_cons, this]
/-- Into which position a coin falls. -/
def fallN (E W : List Int) (x : Int) : Int := nth W (cutN E x)

/-- What Choose hands back where all coins fall. -/
def ChosenIs (ps rs : List Int) (w : World) (e : Ending) (w' : World) : Prop :=
  ∃ v1 v2 : Value, e = .returned (.tuple #[v1, v2, .int .i64 0]) ∧ w'.ownsRow w.heap.size 22 1 v1 (len ps) (ps.map (Value.int .u64)) ∧ w'.ownsRow w.heap.size 22 1 v2 (len rs) (rs.map (Value.int .u64)) ∧ Below w.heap.size w w'
def NoneIs (err : Int) (w : World) (e : Ending) (w' : World) : Prop := e = .returned (.tuple #[.slice none 0 0, .slice none 0 0, .int .i64 err]) ∧ Below w.heap.size w w'
def ChooseIs (E W coins : List Int) (w : World) (e : Ending) (w' : World) : Prop :=
  ((∀ c ∈ coins, cutN E c < len E) ∧ ChosenIs (coins.map (fallN E W)) (srt (insAll (coins.map (fallN E W)))) w e w') ∨ ((∃ c ∈ coins, ¬ cutN E c < len E) ∧ NoneIs 9 w e w')

theorem own_under {w : World} {zs e n : Nat} {u v : Value} {xs : List Value} (hq : ∀ g, u.ownBlock = some g → g < zs) (h : w.ownsRow zs e 1 v n xs) : u.ownBlock = none ∨ u.ownBlock ≠ v.ownBlock := by
  cases hu : u.ownBlock with
  | none => exact .inl rfl
  | some g =>
    right
    intro e
    have h1 := (h.lt g e.symm).1
    have h2 := hq g hu
    omega
/-- A revealed position is appended: the positions stay. -/
theorem rev_step {w X w1 : World} {zs n k m : Nat} {u v v' : Value} {tmp : Obj} {xs ys us : List Value} (hv : Boxed X (w.heap.size + 2) 28 v) (hrow : X.ownsRow zs 22 1 v k xs) (hu : Boxed X (w.heap.size + 1) 28 u) (hur : X.ownsRow w.heap.size 22 1 u n us)
    (hzs : w.heap.size ≤ zs) (hsz : zs ≤ X.heap.size) (hq : ∀ g, u.ownBlock = some g → g < zs) (hB : Below w.heap.size w X) (hown' : w1.ownsRow zs 22 1 v' m ys) (hgrow : (X.alloc tmp).grownBy w1 v.ownBlock) :
    Boxed w1 (w.heap.size + 2) 28 v ∧ KeepsOthers X (w1.setCell ⟨w.heap.size + 2, 0, none⟩ v') ∧ Boxed (w1.setCell ⟨w.heap.size + 2, 0, none⟩ v') (w.heap.size + 2) 28 v' ∧ (w1.setCell ⟨w.heap.size + 2, 0, none⟩ v').ownsRow zs 22 1 v' m ys ∧
      Boxed (w1.setCell ⟨w.heap.size + 2, 0, none⟩ v') (w.heap.size + 1) 28 u ∧ (w1.setCell ⟨w.heap.size + 2, 0, none⟩ v').ownsRow w.heap.size 22 1 u n us ∧ zs ≤ (w1.setCell ⟨w.heap.size + 2, 0, none⟩ v').heap.size ∧ Below w.heap.size w (w1.setCell ⟨w.heap.size + 2, 0, none⟩ v') := by
  obtain ⟨a1, a2, a3, a4, a5⟩ := hv.appended (by decide) (own_lower hrow hzs) (by omega) (by omega) (own_lower hown' hzs) hgrow
  have hu1 : Boxed w1 (w.heap.size + 1) 28 u := (hu.alloc tmp).kept hgrow (hu.not_row (by decide) hrow)
  have hur1 : w1.ownsRow w.heap.size 22 1 u n us := (hur.alloc tmp).kept hgrow (own_under hq hrow)
  refine ⟨a1, a4, a2, hown'.kept (grownBy_setCell' w1 _ v') (.inr (a1.not_row (by decide) hown').symm), Boxed.other hu1 (by omega) v', hur1.kept (grownBy_setCell' w1 _ v') (.inr (a1.not_row (by decide) hur1).symm), Nat.le_trans hsz a4.size, hB.trans a5⟩

section
variable {F : Fence} {m0 : Nat} {P : Program} {o : Oper} {Q : Exit → Act → World → Prop}
theorem wpIn_of_skip (hF : ∀ f, F.fn f) {a : Act} {w w' : World} {K : Act → World → Prop} (hp : ∀ c, o.op ≠ .defer c) (h : (execOp a.eval o).run P w = .ok .skip w') (hK : K (a.put o.dst undef) w') : o.wpIn F m0 P a w K Q := by
  unfold Oper.wpIn
  refine ⟨fun f _ => hF f, ?_⟩
  rw [Oper.semAt_plain F _ _ hp, h]
  exact hK
end
theorem setCell_same {w : World} {b : Nat} {u : Value} {t : TypeId} (h : Boxed w b t u) : w.setCell ⟨b, 0, none⟩ u = w := by
  have e : ∀ k : Nat, (w.setCell ⟨b, 0, none⟩ u).heap[k]? = w.heap[k]? := fun k => by
    by_cases hk : k = b
    · subst hk; rw [h.set u, h]
    · exact Below.heap_setCell _ _ _ _ hk
  have e2 : (w.setCell ⟨b, 0, none⟩ u).heap = w.heap := Array.ext_getElem? e
  show { w with heap := (w.setCell ⟨b, 0, none⟩ u).heap } = w
  rw [e2]

set_option maxRecDepth 100000 in
theorem choose_nil (a : Option Addr) (cap n : Nat) (w : World) : Calls Try.prog 31 #[.pointer none, .slice a n cap] w (NoneIs 1 w) := by
  go_enter Try.func31, Try.ntmps31
  go_wp2
  have c1 : (((w.alloc (.cells #[.pointer none] 44)).alloc (.cells #[.slice none 0 0] 28)).alloc (.cells #[.slice none 0 0] 28)).cell? ⟨w.heap.size + 1, 0, none⟩ = some (.slice none 0 0) := block_cell (block_alloc (alloc_new_at _ (by simp)) _) 0
  have c2 : (((w.alloc (.cells #[.pointer none] 44)).alloc (.cells #[.slice none 0 0] 28)).alloc (.cells #[.slice none 0 0] 28)).cell? ⟨w.heap.size + 1 + 1, 0, none⟩ = some (.slice none 0 0) := block_cell (alloc_new_at _ (by simp)) 0
  refine bodyPost_ret (v := .tuple #[.slice none 0 0, .slice none 0 0, .int .i64 1]) ?_ rfl ⟨rfl, by (repeat (first | exact Below.refl _ _ | assumption | (refine bdrew ?_) | (refine bdrewN ?_ _) | (refine balloc ?_ _) | (refine bset ?_ (by first | omega | (simp; done) | (simp; omega)) _) | (refine bnext ?_ (by assumption))))⟩
  simp [results, Try.results31, go_sem, c1, c2]

set_option maxRecDepth 100000 in
set_option maxHeartbeats 4000000 in
theorem choose_any (B : Nat) (E W S coins : List Int) (a : Option Addr) (cap : Nat) (w : World) (hc : U64s w a coins) (hlen : len coins ≤ 640) (hl : LayB w B E W S) (hew : len W = len E) (hn : len E ≤ 1000000) (hs : Ups E) :
    Calls Try.prog 31 #[.pointer (some ⟨B, 0, none⟩), .slice a (len coins) cap] w (ChooseIs E W coins w) := by
  have HC := Lib.hid hc
  have HLB := Lib.hid hl
  have HEW := Lib.hid hew
  have HS := Lib.hid hs
  clear hc hl hew hs
  refine (callsIn_wide (n := 9)).1 ?_
  refine callsIn_of_wp_marks Try.func31 rfl trivial ?_ rfl
  simp only [Try.ntmps31, List.size_toArray, List.length_cons, List.length_nil, Nat.reduceAdd, Nat.reduceSub, Array.replicate_succ, Array.replicate_zero, List.push_toArray, List.append_toArray, List.nil_append, List.cons_append]
  have hmm := @run_makeMap Try.prog
  have b1 : decide ((640 : Int) < (len coins : Int)) = false := decide_eq_false (by omega)
  gi_wp2
  clear hmm
  try simp only [Nat.add_assoc, Nat.reduceAdd]
  obtain ⟨V, hV⟩ : ∃ V, (((((w.alloc (.cells #[.pointer (some ⟨B, 0, none⟩)] 44)).alloc (.cells #[.slice none 0 0] 28)).alloc (.cells #[.slice none 0 0] 28)).alloc (.map #[] 0)).alloc (.cells #[.map (some (w.heap.size + 3))] 71)) = V := ⟨_, rfl⟩
  have ST : Hid (ChSt w B V [] []) := Lib.hid (by
    rw [← hV]
    refine ⟨?_, ⟨.slice none 0 0, ?_, World.ownsRow_nil _ _ _ _⟩, ?_, ?_, ?_, by (repeat (first | exact Below.refl _ _ | assumption | (refine bdrew ?_) | (refine bdrewN ?_ _) | (refine balloc ?_ _) | (refine bset ?_ (by first | omega | (simp; done) | (simp; omega)) _) | (refine bnext ?_ (by assumption))))⟩
    · exact block_alloc (block_alloc (block_alloc (block_alloc (heap_alloc_new _ _) _) _) _) _
    · exact block_alloc (block_alloc (block_alloc (alloc_new_at _ (by simp)) _) _) _
    · exact block_alloc (block_alloc (alloc_new_at _ (by simp)) _) _
    · exact block_alloc (alloc_new_at _ (by simp)) _
    · exact alloc_new_at _ (by simp))
  try rw [hV]
  clear hV
  gi_loopw [10, 23] (fun c i wr => ∃ m : Nat, m ≤ len coins ∧ i = .int .i64 m ∧ Hid (∀ j, j < m → cutN E (nth coins j) < len E) ∧ Hid (ChSt w B wr ((coins.take m).map (fallN E W)) (insAll ((coins.take m).map (fallN E W))))) (fun _ i _ => len coins - (intOf i).toNat)
  case atStart => exact ⟨0, Nat.zero_le _, rfl, fun j hj => by omega, ST.out⟩
  case round =>
    clear ST
    obtain ⟨m, hm, rfl, hA, hST⟩ := hrel
    have hpl : len ((coins.take m).map (fallN E W)) ≤ 1000 := by rw [len_eq, List.length_map, List.length_take]; omega
    by_cases hlt : m < len coins
    · obtain ⟨b, off, rfl, hcell⟩ := (HC.out.below hST.out.bel) m hlt
      have i0 : (m : Int) < len coins := by omega
      gi_wp2_with fail
      refine ⟨trivial, (callsIn_wide.2 (fell_any w B E W S _ _ (nth coins m) _ hST.out HLB.out HEW.out hn HS.out hpl)).mono ?_⟩
      rintro e w1 ⟨k, hk, rfl, hst⟩
      have ST1 := Lib.hid hst
      have K := Lib.hid (cut_eq hk)
      clear hk hst hST
      by_cases hkl : k < len E
      · rw [decide_eq_true hkl]
        have ST2 : Hid (ChSt w B w1 ((coins.take (m + 1)).map (fallN E W)) (insAll ((coins.take (m + 1)).map (fallN E W)))) := Lib.hid (by
          have h := ST1.out
          rw [if_pos hkl, if_pos hkl] at h
          have e1 : coins.take (m + 1) = coins.take m ++ [nth coins m] := by rw [List.take_succ_eq_append_getElem hlt, nth_eq coins m hlt]
          rw [e1, List.map_append, List.map_cons, List.map_nil, insAll_snoc]
          have e2 : fallN E W (nth coins m) = nth W k := by unfold fallN; rw [K.out]
          rw [e2]; exact h)
        clear ST1 hpl
        gi_wp2
        go_roundw
        case rel => exact ⟨m + 1, by omega, by go_num, fun j hj => by
          by_cases e : j = m
          · subst e; rw [K.out]; exact hkl
          · exact hA.out j (by omega), ST2.out⟩
        case measure => simp [intOf]; omega
      · rw [decide_eq_false hkl]
        have ST2 : Hid (ChSt w B w1 ((coins.take m).map (fallN E W)) (insAll ((coins.take m).map (fallN E W)))) := Lib.hid (by
          have h := ST1.out
          rw [if_neg hkl, if_neg hkl] at h; exact h)
        have HX : Hid (∃ c ∈ coins, ¬ cutN E c < len E) := Lib.hid ⟨nth coins m, by rw [nth_eq coins m hlt]; exact List.getElem_mem _, by rw [K.out]; exact hkl⟩
        obtain ⟨pv, hpb, _⟩ := ST2.out.pos
        have c4 := hpb.cell
        have f4 := hpb.frozen
        have hrb := ST2.out.rev
        have c5 := hrb.cell
        have f5 := hrb.frozen
        clear ST1 hpl
        gi_wp2
        obtain ⟨W3, hW3⟩ : ∃ W3, (w1.setCell ⟨w.heap.size + 1, 0, none⟩ (.slice none 0 0)).setCell ⟨w.heap.size + 2, 0, none⟩ (.slice none 0 0) = W3 := ⟨_, rfl⟩
        have d4 : W3.cell? ⟨w.heap.size + 1, 0, none⟩ = some (.slice none 0 0) := by rw [← hW3]; exact (Boxed.other (hpb.set _) (by omega) _).cell
        have d5 : W3.cell? ⟨w.heap.size + 2, 0, none⟩ = some (.slice none 0 0) := by rw [← hW3]; exact (Boxed.set _ (Boxed.other hrb (by omega) _)).cell
        have hbel : Below w.heap.size w W3 := by rw [← hW3]; exact bset (bset ST2.out.bel (by show w.heap.size ≤ w.heap.size + 1; omega) _) (by show w.heap.size ≤ w.heap.size + 2; omega) _
        rw [hW3]
        clear hW3
        refine ⟨.tuple #[.slice none 0 0, .slice none 0 0, .int .i64 9], ?_, .inr ⟨HX.out, rfl, hbel⟩⟩
        simp [results, Try.results31, go_sem, d4, d5]
    · obtain rfl : m = len coins := by omega
      have HA2 : Hid (∀ c ∈ coins, cutN E c < len E) := Lib.hid (fun c hc => by
        obtain ⟨i, hi, rfl⟩ := List.getElem_of_mem hc
        have := hA.out i hi
        rwa [nth_eq coins i hi] at this)
      have ST : Hid (ChSt w B wr (coins.map (fallN E W)) (insAll (coins.map (fallN E W)))) := Lib.hid (by have := hST.out; rwa [take_len] at this)
      clear hST hA hpl
      obtain ⟨ps, hps⟩ : ∃ ps, coins.map (fallN E W) = ps := ⟨_, rfl⟩
      have hpsl : len ps ≤ 640 := by rw [← hps, len_eq, List.length_map]; exact hlen
      have HPS := Lib.hid hps
      rw [hps] at ST
      clear hps
      obtain ⟨ks, hks⟩ : ∃ ks, insAll ps = ks := ⟨_, rfl⟩
      have HND : Hid ks.Nodup := Lib.hid (by rw [← hks]; exact (insAll_all ps).1)
      have HKL : Hid (ks.length ≤ 640) := Lib.hid (by rw [← hks]; exact Nat.le_trans (insAll_all ps).2.2 hpsl)
      have HKS := Lib.hid hks
      rw [hks] at ST
      clear hks
      have cn := ST.out.name.cell
      gi_wp2_with fail
      refine ⟨trivial, (callsIn_wide.2 (rkeys_any (.map (some (w.heap.size + 3))) wr ⟨_, rfl⟩)).mono ?_⟩
      rintro e Z ⟨rfl, hZ⟩
      have ZB : Below wr.heap.size wr Z := by rw [hZ]; exact balloc (Below.refl _ _) _
      have STZ := Lib.hid (ST.out.below ZB)
      obtain ⟨zb, hzb⟩ : ∃ zb, wr.heap.size = zb := ⟨_, rfl⟩
      have ZC : Hid (Z.cell? ⟨zb, 0, none⟩ = some (.map (some (w.heap.size + 3)))) := Lib.hid (by rw [hZ, ← hzb]; exact block_cell (heap_alloc_new _ _) 0)
      rw [hzb]
      clear ZB hZ hzb cn ST
      obtain ⟨v1, q1, q2⟩ := STZ.out.pos
      obtain ⟨zs, hzs⟩ : ∃ zs, Z.heap.size = zs := ⟨_, rfl⟩
      have HZS := Lib.hid hzs
      have Q1 := Lib.hid q1
      have Q2 := Lib.hid q2
      have QB : Hid (∀ g, v1.ownBlock = some g → g < zs) := Lib.hid (fun g hg => by have := (q2.lt g hg).2; omega)
      have HL3 : Hid (w.heap.size + 2 < zs) := Lib.hid (by have := STZ.out.rev.lt; omega)
      clear q1 q2 hzs
      gi_wp2_with fail
      refine wpIn_rangeFunc_P rfl (by omega) (gf := 68) (lb := #[.pointer (some ⟨zb, 0, none⟩)]) rfl trivial (enters_of Try.func68 (by kernel_rfl) rfl)
        (rkeys1_seq Fence.wide 8 trivial rfl (by omega) zb (w.heap.size + 3) 0 ks Z ZC.out STZ.out.map HND.out) (fun x W l r o' h hl => h) (fun _ => rfl)
        (fun pre W => (∃ v, Boxed W (w.heap.size + 2) 28 v ∧ W.ownsRow zs 22 1 v pre.length (pre.map fun x => Value.int .u64 x) ∧ True) ∧ (∃ v, Boxed W (w.heap.size + 1) 28 v ∧ W.ownsRow w.heap.size 22 1 v (len ps) (ps.map fun x => Value.int .u64 x) ∧ v = v1) ∧ zs ≤ W.heap.size ∧ Below w.heap.size w W)
        (OwnFrom.and (Own.from (holdsRow_own zs (w.heap.size + 2) 28 22 1 (fun pre : List Int => pre.length) (fun pre => pre.map fun x => Value.int .u64 x) (fun _ _ => True)) _)
          (OwnFrom.and (Own.from (holdsRow_own w.heap.size (w.heap.size + 1) 28 22 1 (fun _ : List Int => len ps) (fun _ => ps.map fun x => Value.int .u64 x) (fun _ v => v = v1)) _)
            (OwnFrom.and (fun s X Y row h hg _ => Nat.le_trans h hg.size) (ownFrom_below (Nat.le_refl _) (by have := HL3.out; have := HZS.out; omega)))))
        ⟨⟨_, STZ.out.rev, World.ownsRow_nil _ _ _ _, trivial⟩, ⟨v1, Q1.out, Q2.out, rfl⟩, by have := HZS.out; omega, STZ.out.bel⟩ ?a1 ?assign ?body ?done
      case assign =>
        intro l x W K hK
        gi_wp2
        exact hK
      case body =>
        rintro l pre x X ⟨⟨v, hv, hrow, -⟩, ⟨u, hu, hurow, rfl⟩, hsz, hB⟩ hpx hlt
        have hpl : pre.length < 640 := by have := HKL.out; omega
        obtain ⟨i0, hi, hz0, hz1, hz2⟩ := info_parts info_u64
        have HV := Lib.hid hv
        have HR := Lib.hid hrow
        have HU := Lib.hid hu
        have HUR := Lib.hid hurow
        have hc := hv.cell
        clear hv hrow hu hurow
        gi_wp2_with (gi_at_builtin; refine wpListIn_append_own _ rfl _ _ 28 rfl zs 22 i0 (.int .u64 0) 1 8 Try.underlying28 hi hz0 hz1 hz2 rfl (by decide) _ _ _ rfl (HR.out.alloc _) ⟨X.heap.size, 0, none⟩ 1 1 [.int .u64 x] rfl rfl (cell_one_new _ _ _) (by simp [Value.oneCell']) (by unfold maxLen; omega) (by omega) (by simp; omega) ?_; intro v' w1 hown' hgrow _; obtain ⟨g', cap', rfl⟩ := ownsRow_succ hown'; have hst := rev_step HV.out HR.out HU.out HUR.out (by have := HL3.out; omega) hsz QB.out hB hown' hgrow; have HST2 := Lib.hid hst; have hc1 := hst.1.cell; have hf1 := hst.1.frozen; clear hst hown' hgrow)
        obtain ⟨hk2, hb2, hr2, hp2, hpr2, hs2, hl2⟩ := HST2.out.2
        exact ⟨hk2.from _, hk2.walks, ⟨_, hb2, by simpa using hr2, trivial⟩, ⟨u, hp2, hpr2, rfl⟩, hs2, hl2⟩
      case done =>
        rintro D xs X hD hS ⟨⟨v, hv, hrow, -⟩, ⟨u, hu, hurow, rfl⟩, hsz, hB⟩ hK
        have hc := hv.cell
        have HV := Lib.hid hv
        have HR := Lib.hid hrow
        have HU := Lib.hid hu
        have HUR := Lib.hid hurow
        have HB := Lib.hid hB
        have HK := Lib.hid hK
        have HD := Lib.hid hD
        have HSS : Hid (xs.Nodup ∧ ∀ k, k ∈ xs ↔ k ∈ ks) := Lib.hid hS
        have hxl : xs.length ≤ 640 := Nat.le_trans (nodup_len xs ks hS.1 (fun k hk => (hS.2 k).1 hk)) HKL.out
        clear hv hrow hu hurow hB hK hD hS
        gi_wp2_with fail
        refine ⟨trivial, (callsIn_wide.2 (sort_any X zs v xs HR.out (by omega))).mono ?_⟩
        rintro e w2 ⟨rfl, hr, hg⟩
        have HS2 := Lib.hid hr
        have hapart : u.ownBlock = none ∨ u.ownBlock ≠ v.ownBlock := own_under QB.out HR.out
        have V2 : Hid (Boxed w2 (w.heap.size + 2) 28 v) := Lib.hid (HV.out.kept hg (HV.out.not_row (by decide) HR.out))
        have U2 : Hid (Boxed w2 (w.heap.size + 1) 28 u) := Lib.hid (HU.out.kept hg (HU.out.not_row (by decide) HR.out))
        have UR2 := Lib.hid (HUR.out.kept hg hapart)
        have B2 : Hid (Below w.heap.size w w2) := Lib.hid (grownBy_below HB.out hg (fun k hk => by have := (HR.out.lt k hk).1; have := HL3.out; omega))
        have K2 : Hid (w2.heap[D]? = some (.deferred (some []))) := Lib.hid ((hg.block D (lt_of_block HK.out) (fun e => by
          rcases HR.out.2 with ⟨e2, _⟩ | ⟨g, cap, cur, e2, _, hgb, _⟩
          · rw [e2] at e; simp [Value.ownBlock] at e
          · rw [e2] at e
            obtain rfl : D = g := by simpa [Value.ownBlock] using e
            have := HK.out; rw [this] at hgb; cases hgb)).trans HK.out)
        clear hr hg hapart hc
        obtain ⟨ua, uc, hua, _, _, _⟩ := own_u64 UR2.out
        obtain ⟨va, vc, hva, _, _, _⟩ := own_u64 HR.out
        subst hua
        subst hva
        gi_upto_region 17 with (fail)
        refine wpIn_region_tail (fun _ => trivial) 4 1000 none (phis [fun z _ => z = .slice ua (len ps) uc, fun z _ => z = .slice va (len xs) vc, fun _ _ => True, fun _ _ => True]) rfl (by kernel_rfl) (by kernel_rfl)
          (mono_of ⟨mono_eq, mono_eq, ?m2, ?m3, trivial⟩) (stepsIn_of 4 ⟨?s0, ?s1, ?s2, ?s3, trivial⟩) ?_
        case m2 => exact ⟨fun _ _ _ _ _ => trivial, fun _ _ _ _ _ _ => trivial⟩
        case m3 => exact ⟨fun _ _ _ _ _ => trivial, fun _ _ _ _ _ _ => trivial⟩
        case s0 =>
          refine stepIn_wp (fun av wv hE hS hO hD => ⟨rfl, wpIn_of_run (fun _ => trivial) (by intro c hc; cases hc) (w' := wv) (v := .slice ua (len ps) uc) ?_ ⟨_, rfl, es_of_ext (Ext_refl _), rfl⟩⟩)
          have h4 : av.eval (.tmp 4) = .pointer (some ⟨w.heap.size + 1, 0, none⟩) := hO.2.2 4 rfl
          have f4 := (ev_form av 4).symm.trans h4
          have hc0 := extB_cell hE (by simp) U2.out.cell
          simp [go_sem, f4, hc0]
        case s1 =>
          refine stepIn_wp (fun av wv hE hS hO hD => ⟨rfl, wpIn_of_run (fun _ => trivial) (by intro c hc; cases hc) (w' := wv) (v := .slice va (len xs) vc) ?_ ⟨_, rfl, es_of_ext (Ext_refl _), rfl⟩⟩)
          have h5 : av.eval (.tmp 5) = .pointer (some ⟨w.heap.size + 2, 0, none⟩) := hO.2.2 5 rfl
          have f5 := (ev_form av 5).symm.trans h5
          have hc0 := extB_cell hE (by simp) V2.out.cell
          simp [go_sem, f5, hc0]
        case s2 =>
          refine stepIn_wp (fun av wv hE hS hO hD => ⟨rfl, wpIn_of_skip (fun _ => trivial) (by intro c hc; cases hc) (w' := wv) ?_ ⟨undef, rfl, es_of_ext (Ext_refl _), trivial⟩⟩)
          have h4 : av.eval (.tmp 4) = .pointer (some ⟨w.heap.size + 1, 0, none⟩) := hO.2.2 4 rfl
          have f4 := (ev_form av 4).symm.trans h4
          have d41 : av.eval (.tmp 41) = .slice ua (len ps) uc := hD.1 rfl _ rfl
          have f41 := (ev_form av 41).symm.trans d41
          have hbx : Boxed wv (w.heap.size + 1) 28 (.slice ua (len ps) uc) := box_below U2.out (of_drew hE)
          have hc0 := hbx.cell
          have hf0 := hbx.frozen
          have hse := setCell_same hbx
          simp [go_sem, f4, f41, hc0, hf0, hse]
        case s3 =>
          refine stepIn_wp (fun av wv hE hS hO hD => ⟨rfl, wpIn_of_skip (fun _ => trivial) (by intro c hc; cases hc) (w' := wv) ?_ ⟨undef, rfl, es_of_ext (Ext_refl _), trivial⟩⟩)
          have h5 : av.eval (.tmp 5) = .pointer (some ⟨w.heap.size + 2, 0, none⟩) := hO.2.2 5 rfl
          have f5 := (ev_form av 5).symm.trans h5
          have d42 : av.eval (.tmp 42) = .slice va (len xs) vc := hD.1 rfl _ rfl
          have f42 := (ev_form av 42).symm.trans d42
          have hbx : Boxed wv (w.heap.size + 2) 28 (.slice va (len xs) vc) := box_below V2.out (of_drew hE)
          have hc0 := hbx.cell
          have hf0 := hbx.frozen
          have hse := setCell_same hbx
          simp [go_sem, f5, f42, hc0, hf0, hse]
        intro a' w3 hE hO hall
        have hA := act_of_outer (ds := [41, 42]) rfl hO (by kernel_rfl)
        have e41 : a'.eval (.tmp 41) = .slice ua (len ps) uc := hall.1 _ rfl
        have e42 : a'.eval (.tmp 42) = .slice va (len xs) vc := hall.2.1 _ rfl
        simp only [List.foldl_cons, List.foldl_nil, Act.put, List.setIfInBounds_toArray, List.set_cons_succ, List.set_cons_zero, e41, e42] at hA
        have WB := of_drew hE
        have U3 := Lib.hid (box_below U2.out WB)
        have V3 := Lib.hid (box_below V2.out WB)
        have UR3 := Lib.hid (own_below UR2.out WB)
        have VR3 := Lib.hid (own_below HS2.out WB)
        have B3 := Lib.hid (bnext B2.out WB)
        have K3 := Lib.hid ((WB.block _ (lt_of_block K2.out)).trans K2.out)
        clear hO hall e41 e42 hE WB
        subst hA
        simp only [List.drop_succ_cons, List.drop_zero]
        gi_wp2
        refine ⟨by simp, .inl ⟨_, _, rfl, run_takeDeferred K3.out, ?_⟩⟩
        have hDz : w.heap.size + 2 < D := by have := HD.out; have := HZS.out; have := HL3.out; omega
        have g4 := grownBy_putObj' w3 D (.deferred none)
        have d4 := (U3.out.kept g4 (fun e => by cases e; omega)).cell
        have d5 := (V3.out.kept g4 (fun e => by cases e; omega)).cell
        have o1 := ownsRow_putObj UR3.out (.deferred none) K3.out rfl
        have o2 := own_lower (ownsRow_putObj VR3.out (.deferred none) K3.out rfl) (Nat.le_of_lt (show w.heap.size < zs by have := HL3.out; omega))
        have hb4 : Below w.heap.size w (w3.putObj D (.deferred none)) := B3.out.trans (belowK_b (w := w) (Nat.le_refl _) w3 D _ _ (by omega) K3.out rfl rfl)
        have e1 : srt xs = srt ks := srt_of HSS.out.1 (srt_rising HND.out) (fun k => (HSS.out.2 k).trans (srt_mem _ _).symm)
        have e2 : xs.length = len (srt ks) := by rw [← e1, len_eq, srt_len]
        rw [e1, e2] at o2
        have HO1 := Lib.hid o1
        have HO2 := Lib.hid o2
        have HB4 := Lib.hid hb4
        clear o1 o2 hb4 e1 e2 g4
        obtain ⟨W4, hW4⟩ : ∃ W4, w3.putObj D (.deferred none) = W4 := ⟨_, rfl⟩
        rw [hW4] at d4 d5 HO1 HO2 HB4 ⊢
        have hch : ChooseIs E W coins w (.returned (.tuple #[.slice ua (len ps) uc, .slice va (len xs) vc, .int .i64 0])) W4 := .inl ⟨HA2.out, by
          rw [HPS.out]
          exact ⟨_, _, rfl, HO1.out, by rw [HKS.out]; exact HO2.out, HB4.out⟩⟩
        refine ⟨_, ?_, hch⟩
        simp [results, Try.results31, go_sem, d4, d5]
end Go.Proofs.Ytbeppkokkbgddaa

/- The reference of layer 20: Choose. -/
import Derived.Test.YtbeppkokkbgddaaRfL
namespace Go.Proofs.Ytbeppkokkbgddaa
open Go.RowKit
set_option linter.unusedSimpArgs false
set_option linter.unusedVariables false

theorem info_bool : (Try.prog.info? 4).map (fun i => (i.zero, i.size, i.bytes)) = some (some (.bool false), 1, 1) := by kernel_rfl
def zb (n : Nat) : Array Value := madeCells (Value.bool false).cells (n * 1)
theorem zb_get (n j : Nat) (h : j < n) : (zb n)[j]? = some (.bool false) := by
  have h2 : (zb n).toList[j]? = some (.bool false) := by
    have := toList_madeCells_one (.bool false) (n * 1)
    show (madeCells #[.bool false] (n * 1)).toList[j]? = _
    rw [this, List.getElem?_replicate]; simp; omega
  simpa using h2
theorem zb_size (n : Nat) : (zb n).size = n := by
  have := toList_madeCells_one (.bool false) (n * 1)
  have h : (zb n).toList.length = n := by
    show (madeCells #[.bool false] (n * 1)).toList.length = _
    rw [this, List.length_replicate]; omega
  simpa using h
theorem make_zb (k : Nat) (hk : k ≤ 1000) (W : World) : (Instr.makeSlice 41 (.int .i64 (k : Int)) (.int .i64 (k : Int))).run Try.prog W = .ok (.slice (some ⟨W.heap.size, 0, none⟩) k k) (W.alloc (.cells (zb k) 4)) := by
  obtain ⟨i0, hi, hz0, hz1, hz2⟩ := info_parts info_bool
  have hr := run_make (P := Try.prog) W 41 4 i0 (.bool false) Try.underlying41 hi hz0 .i64 .i64 k k (by omega) (Int.le_refl _) (by rw [hz2]; omega) (by omega)
  rw [hr, hz1]; rfl

/-- Which numbers have been named. -/
def NamedAt (w : World) (b n : Nat) (ps : List Int) : Prop := ∃ cs : Array Value, w.heap[b]? = some (.cells cs 4 (0, 0)) ∧ cs.size = n ∧ ∀ j, j < n → cs[j]? = some (.bool (decide ((j : Int) ∈ ps)))
theorem NamedAt.keep {w w' : World} {b n : Nat} {ps : List Int} (h : NamedAt w b n ps) (hk : w'.heap[b]? = w.heap[b]?) : NamedAt w' b n ps := by
  obtain ⟨cs, h1, h2⟩ := h; exact ⟨cs, hk.trans h1, h2⟩
theorem NamedAt.lt {w : World} {b n : Nat} {ps : List Int} (h : NamedAt w b n ps) : b < w.heap.size := by
  obtain ⟨cs, h1, h2⟩ := h; exact lt_of_block h1
theorem NamedAt.put {w : World} {b n p : Nat} {ps : List Int} (h : NamedAt w b n ps) (hp : p < n) : NamedAt (w.setCell ⟨b, p, none⟩ (.bool true)) b n (ps ++ [(p : Int)]) := by
  obtain ⟨cs, h1, h2, h3⟩ := h
  refine ⟨cs.setIfInBounds p (.bool true), block_setCell h1 _, by simp [h2], fun j hj => ?_⟩
  by_cases e : p = j
  · subst e; rw [Array.getElem?_setIfInBounds_self_of_lt (by omega)]; simp
  · rw [Array.getElem?_setIfInBounds_ne e, h3 j hj]
    have e2 : ¬ ((j : Int) = (p : Int)) := by omega
    simp [e2]
theorem grownBy_cell (W : World) (p : Addr) (v : Value) : W.grownBy (W.setCell p v) (some p.block) :=
  ⟨rfl, rfl, rfl, (KeepsWalks.setCell W _ v).size, fun k _ hk => Below.heap_setCell _ _ _ k (fun e => hk (by rw [e]))⟩
theorem own_off {w : World} {base e n b : Nat} {v : Value} {xs : List Value} (h : w.ownsRow base e 1 v n xs) (hb : b < base) : v.ownBlock = none ∨ v.ownBlock ≠ some b := by
  cases hu : v.ownBlock with
  | none => exact .inl rfl
  | some g =>
    right
    intro e2
    have := (h.lt g hu).1
    cases e2; omega

/-- The numbers below k that have been named. -/
def rvl (ps : List Int) : Nat → List Int
  | 0 => []
  | k + 1 => if (k : Int) ∈ ps then rvl ps k ++ [(k : Int)] else rvl ps k
theorem rvl_mem (ps : List Int) (x : Int) : ∀ k, x ∈ rvl ps k ↔ x ∈ ps ∧ ∃ j : Nat, j < k ∧ x = j
  | 0 => by simp [rvl]
  | k + 1 => by
    have ih := rvl_mem ps x k
    simp only [rvl]
    split
    · rename_i hk
      rw [List.mem_append, ih, List.mem_singleton]
      constructor
      · rintro (⟨h1, j, h2, h3⟩ | rfl)
        · exact ⟨h1, j, by omega, h3⟩
        · exact ⟨hk, k, by omega, rfl⟩
      · rintro ⟨h1, j, h2, h3⟩
        by_cases e : j = k
        · subst e; exact .inr h3
        · exact .inl ⟨h1, j, by omega, h3⟩
    · rename_i hk
      rw [ih]
      constructor
      · rintro ⟨h1, j, h2, h3⟩; exact ⟨h1, j, by omega, h3⟩
      · rintro ⟨h1, j, h2, h3⟩
        by_cases e : j = k
        · subst e; subst h3; exact absurd h1 hk
        · exact ⟨h1, j, by omega, h3⟩
theorem rvl_len (ps : List Int) : ∀ k, len (rvl ps k) ≤ k
  | 0 => Nat.le_refl _
  | k + 1 => by
    have := rvl_len ps k
    simp only [rvl]
    split
    · rw [len_eq] at this ⊢; simp; omega
    · omega
theorem rvl_rising (ps : List Int) : ∀ k, (rvl ps k).Pairwise (fun x y => x < y)
  | 0 => by simp [rvl]
  | k + 1 => by
    have ih := rvl_rising ps k
    simp only [rvl]
    split
    · refine List.pairwise_append.2 ⟨ih, List.pairwise_singleton .., fun x hx y hy => ?_⟩
      obtain rfl := List.mem_singleton.1 hy
      obtain ⟨_, j, hj, rfl⟩ := (rvl_mem ps x k).1 hx
      omega
    · exact ih
theorem rvl_srt (ps : List Int) (n : Nat) (h : ∀ p ∈ ps, ∃ j : Nat, j < n ∧ p = j) : srt (insAll ps) = rvl ps n :=
  srt_of (insAll_all ps).1 (rvl_rising ps n) (fun k => by rw [(insAll_all ps).2.1, rvl_mem]; exact ⟨fun hk => ⟨hk, h k hk⟩, fun hk => hk.1⟩)

/-- What Choose holds while coins fall. -/
def RSt (w : World) (n : Nat) (wr : World) (v : Value) (ps : List Int) : Prop :=
  wr.ownsRow (w.heap.size + 1) 22 1 v (len ps) (ps.map (Value.int .u64)) ∧ NamedAt wr w.heap.size n ps ∧ Below w.heap.size w wr
theorem RSt.fell {w w1 w2 : World} {n p : Nat} {v v' : Value} {ps : List Int} {tmp : Obj} (h : RSt w n w1 v ps) (hp : p < n)
    (hown' : w2.ownsRow (w.heap.size + 1) 22 1 v' (len ps + 1) (ps.map (Value.int .u64) ++ [.int .u64 p])) (hgrow : (w1.alloc tmp).grownBy w2 v.ownBlock) :
    NamedAt w2 w.heap.size n ps ∧ RSt w n (w2.setCell ⟨w.heap.size, p, none⟩ (.bool true)) v' (ps ++ [(p : Int)]) := by
  obtain ⟨h1, h2, h3⟩ := h
  have hne := own_off h1 (Nat.lt_succ_self _)
  have hN : NamedAt w2 w.heap.size n ps := h2.keep (by
    rw [hgrow.block w.heap.size (by simp; have := h2.lt; omega) (by
      rcases hne with e | e
      · rw [e]; exact fun e2 => by cases e2
      · exact fun h => e h.symm), Below.heap_alloc _ _ _ h2.lt])
  have hB : Below w.heap.size w w2 := grownBy_below (balloc h3 _) hgrow (fun k hk => by have := (h1.lt k hk).1; omega)
  refine ⟨hN, ?_, hN.put hp, bset hB (Nat.le_refl _) _⟩
  have e1 : len (ps ++ [(p : Int)]) = len ps + 1 := by rw [len_eq, len_eq]; simp
  rw [e1, List.map_append]
  exact hown'.kept (grownBy_cell w2 ⟨w.heap.size, p, none⟩ _) (own_off hown' (Nat.lt_succ_self _))
theorem NamedAt.grown {w w1 : World} {b n base : Nat} {ps : List Int} {v : Value} {k : Nat} {xs : List Value} (h : NamedAt w b n ps) (hown : w.ownsRow base 22 1 v k xs) (hb : b < base) {tmp : Obj} (hg : (w.alloc tmp).grownBy w1 v.ownBlock) : NamedAt w1 b n ps :=
  h.keep (by
    rw [hg.block b (by simp; have := h.lt; omega) (by
      rcases own_off hown hb with e | e
      · rw [e]; exact fun e2 => by cases e2
      · exact fun h => e h.symm), Below.heap_alloc _ _ _ h.lt])

set_option maxRecDepth 100000 in
theorem rchoose_long (B : Nat) (a : Option Addr) (cap n : Nat) (w : World) (hn : 640 < n) : Calls Try.prog 32 #[.pointer (some ⟨B, 0, none⟩), .slice a n cap] w (NoneIs 3 w) := by
  have hn2 : (640 : Int) < (n : Int) := by omega
  go_enter Try.func32, Try.ntmps32
  go_wp2
  go_ret3
  exact ⟨rfl, Below.refl _ _⟩

set_option maxRecDepth 100000 in
set_option maxHeartbeats 4000000 in
theorem rchoose_any (B : Nat) (Ws : List Int) (Ss : List Bool) (coins : List Int) (a : Option Addr) (cap : Nat) (w : World) (hc : U64s w a coins) (hlen : len coins ≤ 640) (hl : RLay w B Ws Ss) (hs : Ss.length = len Ws) (hw : Wts Ws) (hn : len Ws ≤ 1000)
    (hk : ∀ i, 0 ≤ nth coins i ∧ nth coins i < 18446744073709551616) :
    Calls Try.prog 32 #[.pointer (some ⟨B, 0, none⟩), .slice a (len coins) cap] w (ChooseIs (endK Ws Ss (len Ws)) (whoK Ss (len Ws)) coins w) := by
  obtain ⟨E, hE⟩ : ∃ E, endK Ws Ss (len Ws) = E := ⟨_, rfl⟩
  obtain ⟨W, hW⟩ : ∃ W, whoK Ss (len Ws) = W := ⟨_, rfl⟩
  have HFL : Hid (∀ c, 0 ≤ c → cutN E c < len E → ∃ m : Nat, m < len Ws ∧ fallN E W c = m) := Lib.hid (fun c h0 h1 => by
    rw [← hE] at h1
    obtain ⟨m, a1, _, _, _, a2⟩ := fall_lt hw h0 h1
    exact ⟨m, a1, by rw [← hE, ← hW]; exact a2⟩)
  have HRF : Hid (∀ c, rfindV Ws Ss c = if cutN E c < len E then .tuple #[.int .u64 (fallN E W c), .bool true] else .tuple #[.int .u64 0, .bool false]) := Lib.hid (fun c => by unfold rfindV; rw [hE, hW])
  rw [hE, hW]
  have HC := Lib.hid hc
  have HL := Lib.hid hl
  have HS := Lib.hid hs
  have HWT := Lib.hid hw
  have HK := Lib.hid hk
  obtain ⟨wa, sa, wc, sc, l1, l2, l3⟩ := hl
  have c0 := block_cell l1 0
  simp only [List.getElem?_toArray, List.getElem?_cons_zero] at c0
  have b1 : decide ((640 : Int) < (len coins : Int)) = false := decide_eq_false (by omega)
  have hmk : ∀ W : World, (Instr.makeSlice 41 (.int .i64 (len Ws : Int)) (.int .i64 (len Ws : Int))).run Try.prog W = .ok (.slice (some ⟨W.heap.size, 0, none⟩) (len Ws) (len Ws)) (W.alloc (.cells (zb (len Ws)) 4)) := fun W => make_zb (len Ws) hn W
  clear hc hs hw hk l1 l2 l3 hE hW
  obtain ⟨i0, hi, hz0, hz1, hz2⟩ := info_parts info_u64
  have HZ := Lib.hid hz0
  go_enter Try.func32, Try.ntmps32
  go_wp2
  clear hmk c0
  obtain ⟨V, hV⟩ : ∃ V, w.alloc (.cells (zb (len Ws)) 4) = V := ⟨_, rfl⟩
  have ST : Hid (RSt w (len Ws) V (.slice none 0 0) []) := Lib.hid (by
    rw [← hV]
    exact ⟨World.ownsRow_nil _ _ _ _, ⟨zb (len Ws), heap_alloc_new _ _, zb_size _, fun j hj => by rw [zb_get _ _ hj]; simp⟩, balloc (Below.refl _ _) _⟩)
  try rw [hV]
  clear hV
  go_loopg [7, 9] (len coins) (fun g v i wr => ∃ m : Nat, g + m = len coins ∧ i = .int .i64 m ∧ Hid (∀ j, j < m → cutN E (nth coins j) < len E) ∧ Hid (RSt w (len Ws) wr v ((coins.take m).map (fallN E W))))
  case atStart => exact ⟨0, rfl, rfl, fun j hj => by omega, ST.out⟩
  case round =>
    clear ST
    obtain ⟨m, hm, rfl, hA, hST⟩ := hrel
    have hpl : len ((coins.take m).map (fallN E W)) ≤ 640 := by rw [len_eq, List.length_map, List.length_take]; omega
    by_cases hlt : m < len coins
    · obtain ⟨b, off, rfl, hcell⟩ := (HC.out.below hST.out.2.2) m hlt
      have i1 : (m : Int) < len coins := by omega
      go_wp2_with fail
      refine (rfind_any B Ws Ss (nth coins m) _ (HL.out.below hST.out.2.2) HS.out HWT.out hn (HK.out m).1 (HK.out m).2).mono ?_
      rintro e w1 ⟨rfl, rfl⟩
      rw [HRF.out]
      by_cases hkl : cutN E (nth coins m) < len E
      · rw [if_pos hkl]
        obtain ⟨p, hp, hpe⟩ := HFL.out _ (HK.out m).1 hkl
        have e1 : coins.take (m + 1) = coins.take m ++ [nth coins m] := by rw [List.take_succ_eq_append_getElem hlt, nth_eq coins m hlt]
        have HE1 : Hid ((coins.take (m + 1)).map (fallN E W) = (coins.take m).map (fallN E W) ++ [(p : Int)]) := Lib.hid (by rw [e1, List.map_append, List.map_cons, List.map_nil, hpe])
        have HKL := Lib.hid hkl
        rw [hpe]
        obtain ⟨ps, hps⟩ : ∃ ps, (coins.take m).map (fallN E W) = ps := ⟨_, rfl⟩
        rw [hps] at hST HE1 hpl
        clear e1 hpe hkl hcell hps
        have ip : (p : Int) < len Ws := by omega
        go_wp2_with (at_builtin; refine wpList_append_own _ rfl _ _ 28 rfl (w.heap.size + 1) 22 i0 (.int .u64 0) 1 8 Try.underlying28 hi HZ.out hz1 hz2 rfl (by decide) _ _ _ rfl (hST.out.1.alloc _) ⟨wr.heap.size, 0, none⟩ 1 1 [.int .u64 p] rfl rfl (cell_one_new _ _ _) (by simp [Value.oneCell']) (by unfold maxLen; omega) (by omega) (by have := hST.out.2.1.lt; simp; omega) ?_)
        intro v' w2 hown' hgrow _
        have hff := hST.out.fell hp hown' hgrow
        obtain ⟨cs, hcs, hsz, hcc⟩ := hff.1
        have hc1 : ∀ o, w2.cell? ⟨w.heap.size, o, none⟩ = cs[o]? := block_cell hcs
        have hf1 : ∀ o, w2.frozen? ⟨w.heap.size, o, none⟩ = false := block_free hcs
        have hcp := hcc p hp
        have HN := Lib.hid hff.2
        clear hff hcc hown' hgrow hsz
        go_wp2
        go_roundg (len coins - (m + 1))
        case rel => exact ⟨m + 1, by omega, by go_num, fun j hj => by
          by_cases e : j = m
          · subst e; exact HKL.out
          · exact hA.out j (by omega), by rw [HE1.out]; exact HN.out⟩
        case measure => omega
      · rw [if_neg hkl]
        have HX : Hid (∃ c ∈ coins, ¬ cutN E c < len E) := Lib.hid ⟨nth coins m, by rw [nth_eq coins m hlt]; exact List.getElem_mem _, hkl⟩
        clear hkl
        go_wp2
        go_ret3
        exact .inr ⟨HX.out, rfl, hST.out.2.2⟩
    · obtain rfl : m = len coins := by omega
      have i1 : ¬ ((len coins : Nat) : Int) < len coins := by omega
      have HA2 : Hid (∀ c ∈ coins, cutN E c < len E) := Lib.hid (fun c hc => by
        obtain ⟨i, hi, rfl⟩ := List.getElem_of_mem hc
        have := hA.out i hi
        rwa [nth_eq coins i hi] at this)
      have HR : Hid (srt (insAll (coins.map (fallN E W))) = rvl (coins.map (fallN E W)) (len Ws)) := Lib.hid (rvl_srt _ _ (fun p hp => by
        obtain ⟨c, hc, rfl⟩ := List.mem_map.1 hp
        obtain ⟨i, hi, rfl⟩ := List.getElem_of_mem hc
        have h0 := (HK.out i).1
        rw [nth_eq coins i hi] at h0
        exact HFL.out _ h0 (HA2.out _ (List.getElem_mem _))))
      rw [take_len] at hST hpl
      obtain ⟨ps, hps⟩ : ∃ ps, coins.map (fallN E W) = ps := ⟨_, rfl⟩
      have HPS := Lib.hid hps
      rw [hps] at hST hpl HR
      clear hps hA hlt hm
      obtain ⟨pa, pc, rfl, hPU, _, _⟩ := own_u64 hST.out.1
      obtain ⟨W0, hW0⟩ : ∃ W0, W0 = wr := ⟨_, rfl⟩
      subst hW0
      obtain ⟨zs, hzs⟩ : ∃ zs, W0.heap.size = zs := ⟨_, rfl⟩
      have HZS := Lib.hid hzs
      have HLT : Hid (w.heap.size < zs) := Lib.hid (by rw [← hzs]; exact hST.out.2.1.lt)
      have QB : Hid (∀ g, (Value.slice pa (len ps) pc).ownBlock = some g → g < zs) := Lib.hid (fun g hg => by rw [← hzs]; exact (hST.out.1.lt g hg).2)
      clear hPU hzs
      go_wp2
      clear i1
      go_loopg [12, 13] (len Ws) (fun g v i wx => ∃ m : Nat, g + m = len Ws ∧ i = .int .i64 m ∧ Hid (wx.ownsRow zs 22 1 v (len (rvl ps m)) ((rvl ps m).map (Value.int .u64))) ∧ Hid (RSt w (len Ws) wx (.slice pa (len ps) pc) ps ∧ zs ≤ wx.heap.size))
      case atStart => exact ⟨0, rfl, rfl, World.ownsRow_nil _ _ _ _, hST.out, by have := HZS.out; omega⟩
      case round =>
        clear hST
        obtain ⟨m, hm, rfl, hR, hST⟩ := hrel
        by_cases hlt : m < len Ws
        · obtain ⟨cs, hcs, hsz, hcc⟩ := hST.out.1.2.1
          have hc1 : ∀ o, wr.cell? ⟨w.heap.size, o, none⟩ = cs[o]? := block_cell hcs
          have hcp := hcc m hlt
          have ip : (m : Int) < len Ws := by omega
          clear hcs hcc hsz
          have im : IntKind.u64.wrap (m : Int) = m := IntWalk.u64_in _ (by omega)
          by_cases hmem : (m : Int) ∈ ps
          · rw [decide_eq_true hmem] at hcp
            have HE2 : Hid (rvl ps (m + 1) = rvl ps m ++ [(m : Int)]) := Lib.hid (by simp only [rvl]; rw [if_pos hmem])
            have hrl := rvl_len ps m
            clear hmem
            go_wp2_with (at_builtin; refine wpList_append_own _ rfl _ _ 28 rfl zs 22 i0 (.int .u64 0) 1 8 Try.underlying28 hi HZ.out hz1 hz2 rfl (by decide) _ _ _ rfl (hR.out.alloc _) ⟨wr.heap.size, 0, none⟩ 1 1 [.int .u64 m] rfl rfl (cell_one_new _ _ _) (by simp [Value.oneCell']) (by unfold maxLen; omega) (by omega) (by have := hST.out.2; simp; omega) ?_)
            intro v' w2 hown' hgrow _
            have HO2 : Hid (w2.ownsRow zs 22 1 v' (len (rvl ps (m + 1))) ((rvl ps (m + 1)).map (Value.int .u64))) := Lib.hid (by
              rw [HE2.out]
              have e1 : len (rvl ps m ++ [(m : Int)]) = len (rvl ps m) + 1 := by rw [len_eq, len_eq]; simp
              rw [e1, List.map_append]; exact hown')
            have HN2 : Hid (RSt w (len Ws) w2 (.slice pa (len ps) pc) ps ∧ zs ≤ w2.heap.size) := Lib.hid ⟨⟨(hST.out.1.1.alloc _).kept hgrow (own_under QB.out hR.out), hST.out.1.2.1.grown hR.out HLT.out hgrow, grownBy_below (balloc hST.out.1.2.2 _) hgrow (fun k hk => by have := (hR.out.lt k hk).1; have := HLT.out; omega)⟩, by have := hgrow.size; have := hST.out.2; simp at *; omega⟩
            clear hown' hgrow
            go_wp2
            go_roundg (len Ws - (m + 1))
            case rel => exact ⟨m + 1, by omega, by go_num, HO2.out, HN2.out⟩
            case measure => omega
          · rw [decide_eq_false hmem] at hcp
            have HE2 : Hid (rvl ps (m + 1) = rvl ps m) := Lib.hid (by simp only [rvl]; rw [if_neg hmem])
            clear hmem
            go_wp2
            go_roundg (len Ws - (m + 1))
            case rel => exact ⟨m + 1, by omega, by go_num, by rw [HE2.out]; exact hR.out, hST.out⟩
            case measure => omega
        · obtain rfl : m = len Ws := by omega
          have i1 : ¬ ((len Ws : Nat) : Int) < len Ws := by omega
          go_wp2
          go_ret3
          refine .inl ⟨HA2.out, _, _, rfl, ?_, ?_, hST.out.1.2.2⟩
          · rw [HPS.out]; exact own_lower hST.out.1.1 (Nat.le_succ _)
          · rw [HPS.out, HR.out]; exact own_lower hR.out (Nat.le_of_lt HLT.out)
end Go.Proofs.Ytbeppkokkbgddaa

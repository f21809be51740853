/- Contract: made. -/
import Derived.Test.YtihiaopilnjonaaGreatDoorCertI
import Derived.Lib.SlBytesRow
import Derived.Test.YtihiaopilnjonaaGreatDoorRegion
namespace Go.Proofs.YtihiaopilnjonaaGreatDoor
set_option linter.unusedSimpArgs false
set_option linter.unusedVariables false
open Go.RowKit
attribute [local go_sem ↓] Go.wp_at_zero Go.wp_at_succ

/-- So many zero bytes. -/
def zer (n : Nat) : ByteArray := ⟨Array.replicate n 0⟩
/-- The reveal that is made of a One. -/
def revOf (x : One) : Rev := ⟨x.pos, x.L, true, 0, none, 0, 0, none, 0, 0, zer (x.root % 34).toNat, x.wt, 0, 0, 0⟩
theorem info_u8 : (Tryz.prog.info? 5).map (fun i => (i.zero, i.size, i.bytes)) = some (some (.int .u8 0), 1, 1) := by kernel_rfl
/-- The cells of so many zero bytes. -/
def zc (n : Nat) : Array Value := madeCells (Value.int .u8 0).cells (n * 1)

theorem make_zc (k : Nat) (hk : k ≤ 34) (W : World) : (Instr.makeSlice 106 (.int .i64 (k : Int)) (.int .i64 (k : Int))).run Tryz.prog W = .ok (.slice (some ⟨W.heap.size, 0, none⟩) k k) (W.alloc (.cells (zc k) 5)) := by
  obtain ⟨i0, hi, hz0, hz1, hz2⟩ := info_parts info_u8
  have hr := run_make (P := Tryz.prog) W 106 5 i0 (.int .u8 0) Tryz.underlying106 hi hz0 .i64 .i64 k k (by omega) (Int.le_refl _) (by rw [hz2]; omega) (by omega)
  rw [hr, hz1]; rfl

theorem bytes_zc (k : Nat) (W : World) (b : Nat) (h : W.heap[b]? = some (.cells (zc k) 5 (0, 0))) : Lib.Bytes W b 0 (zer k) := by
  intro i hi
  have hi' : i < k := by simpa [zer, ByteArray.size] using hi
  unfold World.cell?
  rw [h]
  have e : (zc k)[0 + i]? = some (.int .u8 0) := by
    have := toList_madeCells_one (.int .u8 0) (k * 1)
    have h2 : (zc k).toList[0 + i]? = some (.int .u8 0) := by
      show (madeCells #[.int .u8 0] (k * 1)).toList[0 + i]? = _
      rw [this, List.getElem?_replicate]; simp; omega
    simpa using h2
  have e2 : (zer k)[i] = 0 := by
    show (Array.replicate k (0 : UInt8))[i]'(by simpa using hi') = 0
    exact Array.getElem_replicate ..
  simp only [e, e2]; rfl

theorem conv_zc (k : Nat) (W : World) (b : Nat) (h : W.heap[b]? = some (.cells (zc k) 5 (0, 0))) : (convert 106 9 (.slice (some ⟨b, 0, none⟩) k k)).run Tryz.prog W = .ok (.string (zer k)) W := by
  have h2 : ∀ n, (zer k).size = n → (convert 106 9 (.slice (some ⟨b, 0, none⟩) n k)).run Tryz.prog W = .ok (.string (zer k)) W := by
    rintro n rfl
    exact Lib.run_convert_whole (P := Tryz.prog) W 106 5 9 Tryz.underlying106 Tryz.underlying5 Tryz.underlying9 b 0 (zer k) (bytes_zc k W b h) k
  exact h2 k (show (Array.replicate k (0 : UInt8)).size = k from Array.size_replicate)

theorem U64s.take {w : World} {a : Option Addr} {l : List Int} (h : U64s w a l) (k : Nat) : U64s w a (l.take k) := fun i hi => by
  have hi' : i < min k l.length := by simpa [len] using hi
  obtain ⟨b, off, e, hc⟩ := h i (by rw [len_eq]; omega)
  refine ⟨b, off, e, ?_⟩
  have e2 : nth (l.take k) i = nth l i := by
    unfold nth; rw [List.getD_eq_getElem?_getD, List.getD_eq_getElem?_getD, List.getElem?_take, if_pos (by omega)]
  rw [e2]; exact hc

def MadeIs (l : List One) (coins : List Int) (signed : Int) (w : World) (e : Ending) (w' : World) : Prop :=
  ∃ c : CertV, e = .returned c.val ∧ c.revs = (l.take 30).map revOf ∧ c.coins = coins.take 60 ∧ c.signed = signed ∧ Revs w' c.ra c.revs ∧ U64s w' c.ca c.coins ∧ len c.revs ≤ c.rc ∧ Below w.heap.size w w'

/-- What is made, and that its reveals lie in a block of its own. -/
def MadeIs2 (l : List One) (coins : List Int) (signed : Int) (w : World) (e : Ending) (w' : World) : Prop :=
  ∃ c : CertV, (e = .returned c.val ∧ c.revs = (l.take 30).map revOf ∧ c.coins = coins.take 60 ∧ c.signed = signed ∧ Revs w' c.ra c.revs ∧ U64s w' c.ca c.coins ∧ len c.revs ≤ c.rc ∧ Below w.heap.size w w') ∧ ∀ b off, c.ra = some ⟨b, off, none⟩ → w.heap.size ≤ b ∧ ∃ cur, w'.heap[b]? = some (.cells cur 48 (0, 0))

set_option maxHeartbeats 1000000 in
theorem made_end (a : Option Addr) (l : List One) (ca : Option Addr) (cc : Nat) (coins : List Int) (signed : Int) (w wr : World) (ra : Option Addr) (rc n kc : Nat)
    (hb0 : wr.heap[w.heap.size]? = some (.cells #[.string ⟨#[]⟩, .int .u64 0, .slice none 0 0, .slice none 0 0, .slice none 0 0, .slice none 0 0] 28 (0, 0)))
    (hrv : Revs wr ra (List.map revOf (List.take n l))) (hu : U64s w ca coins) (hl : List.take n l = List.take 30 l) (hrc : len (List.map revOf (List.take n l)) ≤ rc) (hd : Below w.heap.size w wr) (hkc : kc = min (len coins) 60) (hra : ∀ b off, ra = some ⟨b, off, none⟩ → b ≠ w.heap.size) (hrow : ∀ b off, ra = some ⟨b, off, none⟩ → w.heap.size ≤ b ∧ ∃ cur, wr.heap[b]? = some (.cells cur 48 (0, 0))) (A : Act) (h6 : A.tmps.getD 6 undef = .pointer (some ⟨w.heap.size, 0, none⟩)) (hdef : A.defers = []) :
    bodyPost Tryz.prog Tryz.f13 (MadeIs2 l coins signed w) Exit.ret A
      ((((((wr.setCell ⟨w.heap.size, 0, none⟩ (.string ⟨#[]⟩)).setCell ⟨w.heap.size, 1, none⟩ (.int .u64 signed)).setCell ⟨w.heap.size, 2, none⟩ (.slice ra (len (List.take n (List.map revOf l))) rc)).setCell ⟨w.heap.size, 3, none⟩ (.slice ca kc cc)).setCell ⟨w.heap.size, 4, none⟩ (.slice none 0 0)).setCell ⟨w.heap.size, 5, none⟩ (.slice none 0 0)) := by
  have hB := block_setCell (o := 5) (block_setCell (o := 4) (block_setCell (o := 3) (block_setCell (o := 2) (block_setCell (o := 1) (block_setCell (o := 0) hb0 (.string ⟨#[]⟩)) (.int .u64 signed)) (.slice ra (len (List.take n (List.map revOf l))) rc)) (.slice ca kc cc)) (.slice none 0 0)) (.slice none 0 0)
  have hbel : Below w.heap.size w ((((((wr.setCell ⟨w.heap.size, 0, none⟩ (.string ⟨#[]⟩)).setCell ⟨w.heap.size, 1, none⟩ (.int .u64 signed)).setCell ⟨w.heap.size, 2, none⟩ (.slice ra (len (List.take n (List.map revOf l))) rc)).setCell ⟨w.heap.size, 3, none⟩ (.slice ca kc cc)).setCell ⟨w.heap.size, 4, none⟩ (.slice none 0 0)).setCell ⟨w.heap.size, 5, none⟩ (.slice none 0 0)) :=
    bset (bset (bset (bset (bset (bset hd (Nat.le_refl _) _) (Nat.le_refl _) _) (Nat.le_refl _) _) (Nat.le_refl _) _) (Nat.le_refl _) _) (Nat.le_refl _) _
  have hoth : ∀ k, k ≠ w.heap.size → ((((((wr.setCell ⟨w.heap.size, 0, none⟩ (.string ⟨#[]⟩)).setCell ⟨w.heap.size, 1, none⟩ (.int .u64 signed)).setCell ⟨w.heap.size, 2, none⟩ (.slice ra (len (List.take n (List.map revOf l))) rc)).setCell ⟨w.heap.size, 3, none⟩ (.slice ca kc cc)).setCell ⟨w.heap.size, 4, none⟩ (.slice none 0 0)).setCell ⟨w.heap.size, 5, none⟩ (.slice none 0 0)).heap[k]? = wr.heap[k]? := fun k hk => by
    rw [Below.heap_setCell _ _ _ _ hk, Below.heap_setCell _ _ _ _ hk, Below.heap_setCell _ _ _ _ hk, Below.heap_setCell _ _ _ _ hk, Below.heap_setCell _ _ _ _ hk, Below.heap_setCell _ _ _ _ hk]
  generalize ((((((wr.setCell ⟨w.heap.size, 0, none⟩ (.string ⟨#[]⟩)).setCell ⟨w.heap.size, 1, none⟩ (.int .u64 signed)).setCell ⟨w.heap.size, 2, none⟩ (.slice ra (len (List.take n (List.map revOf l))) rc)).setCell ⟨w.heap.size, 3, none⟩ (.slice ca kc cc)).setCell ⟨w.heap.size, 4, none⟩ (.slice none 0 0)).setCell ⟨w.heap.size, 5, none⟩ (.slice none 0 0)) = W at *
  have hc : ∀ o, W.cell? ⟨w.heap.size, o, none⟩ = _ := block_cell hB
  have hrv' : Revs W ra (List.map revOf (List.take n l)) := fun i hi => by
    obtain ⟨b, off, e, h⟩ := hrv i hi
    have e2 : ∀ q, W.cell? ⟨b, q, none⟩ = wr.cell? ⟨b, q, none⟩ := fun q => World.cell?_of_block (w := wr) (hoth b (hra b off e))
    obtain ⟨c0, c1, c2, c3, c4, c5, c6, c7, c8, c9, c10⟩ := h
    exact ⟨b, off, e, by constructor <;> (rw [e2]; assumption)⟩
  have e2 : len (coins.take 60) = kc := by rw [len_eq, List.length_take, hkc, len_eq]; omega
  refine bodyPost_ret (v := CertV.val ⟨⟨#[]⟩, signed, ra, rc, ca, cc, none, 0, 0, none, 0, 0, List.map revOf (List.take n l), coins.take 60⟩) ?_ hdef ⟨_, ⟨rfl, by rw [hl], rfl, rfl, hrv', (hu.below hbel).take 60, hrc, hbel⟩, fun b off e => by
    obtain ⟨h1, cur, h2⟩ := hrow b off e
    exact ⟨h1, cur, (hoth b (hra b off e)).trans h2⟩⟩
  show _ = Result.ok (Value.agg _) W
  have h6' : A.tmps[6]?.getD undef = .pointer (some ⟨w.heap.size, 0, none⟩) := by rw [← h6, Array.getD_eq_getD_getElem?]
  simp [results, Tryz.results13, go_sem, h6', hc, e2]

set_option maxRecDepth 100000 in
set_option maxHeartbeats 2000000 in
theorem made_any2 (a : Option Addr) (cap : Nat) (l : List One) (ca : Option Addr) (cc : Nat) (coins : List Int) (signed : Int) (w : World) (hlen : len l ≤ 9223372036854775807) (hcl : len coins ≤ 9223372036854775807) (hcc : len coins ≤ cc) (hc : Ones w a l) (hu : U64s w ca coins)
    (hok : ∀ i, 0 ≤ (onth l i).root ∧ (onth l i).root ≤ 255) :
    Calls Tryz.prog 13 #[.slice a (len l) cap, .slice ca (len coins) cc, .int .u64 signed] w
      (MadeIs2 l coins signed w) := by
  have HC := Lib.hid hc
  have HU := Lib.hid hu
  have HOK := Lib.hid hok
  clear hc hu hok
  obtain ⟨i0, hi, hz0, hz1, hz2⟩ := info_parts info_rev
  obtain ⟨kc, hkc⟩ : ∃ kc : Nat, min ((len coins : Nat) : Int) 60 = kc := ⟨min (len coins) 60, by omega⟩
  have hkc1 : kc ≤ cc := by omega
  have hkc2 : kc ≤ 60 := by omega
  go_enter Tryz.func13, Tryz.ntmps13
  go_wp2
  have HKC := Lib.hid hkc
  clear hkc
  go_loopg [8] 30 (fun g i wr => ∃ n : Nat, g + n = 30 ∧ i = .int .i64 n ∧ n ≤ len l ∧ Below w.heap.size w wr ∧ Hid (∃ v, wr.heap[w.heap.size + 1]? = some (.cells #[.string ⟨#[]⟩, .int .u64 signed, v, .slice ca kc cc, .slice none 0 0, .slice none 0 0] 28 (0, 0)) ∧
    wr.heap[w.heap.size]? = some (.cells #[.string ⟨#[]⟩, .int .u64 0, .slice none 0 0, .slice none 0 0, .slice none 0 0, .slice none 0 0] 28 (0, 0)) ∧
    wr.ownsRow (w.heap.size + 2) 48 11 v n ((((l.take n).map revOf)).flatMap Rev.cells)))
  case atStart =>
    refine ⟨0, rfl, rfl, Nat.zero_le _, (by (repeat (first | exact Below.refl _ _ | assumption | (refine bdrew ?_) | (refine bdrewN ?_ _) | (refine balloc ?_ _) | (refine bset ?_ (by first | omega | (simp; done) | (simp; omega)) _) | (refine bnext ?_ (by assumption))))), .slice none 0 0, ?_, ?_, World.ownsRow_nil _ _ _ _⟩
    · have := heap_alloc_new (w.alloc (Obj.cells #[Value.string ⟨#[]⟩, Value.int .u64 0, Value.slice none 0 0, Value.slice none 0 0, Value.slice none 0 0, Value.slice none 0 0] 28)) (Obj.cells #[Value.string ⟨#[]⟩, Value.int .u64 signed, Value.slice none 0 0, Value.slice ca kc cc, Value.slice none 0 0, Value.slice none 0 0] 28)
      simpa using this
    · rw [Below.heap_alloc _ _ _ (by simp)]; exact heap_alloc_new _ _
  case round =>
    obtain ⟨n, hn, rfl, hnl, hd, hk⟩ := hrel
    by_cases hlt : n < len l
    · by_cases hlt2 : n < 30
      · obtain ⟨b, off, rfl, ⟨c0, c1, c2, c3⟩⟩ := HC.out.below hd n hlt
        have hlt2' : (n : Int) < 30 := (by omega)
        go_wp2
        obtain ⟨v, hb1, hb0, hown⟩ := hk.out
        obtain ⟨k, hkk⟩ : ∃ k : Nat, (onth l n).root % 34 = k := ⟨((onth l n).root % 34).toNat, by have := HOK.out n; omega⟩
        have hk34 : k ≤ 34 := (by omega)
        have hbl := lt_of_block hb1
        have hmk := make_zc k hk34
        obtain ⟨W, hW⟩ : ∃ W, wr.alloc (.cells #[.int .u64 (onth l n).pos, .int .u64 (onth l n).L, .int .u64 (onth l n).wt, .int .u8 (onth l n).root] 51) = W := ⟨_, rfl⟩
        have hB1 := block_alloc hb1 (.cells #[.int .u64 (onth l n).pos, .int .u64 (onth l n).L, .int .u64 (onth l n).wt, .int .u8 (onth l n).root] 51)
        have hB0 := block_alloc hb0 (.cells #[.int .u64 (onth l n).pos, .int .u64 (onth l n).L, .int .u64 (onth l n).wt, .int .u8 (onth l n).root] 51)
        have hBn := heap_alloc_new wr (.cells #[.int .u64 (onth l n).pos, .int .u64 (onth l n).L, .int .u64 (onth l n).wt, .int .u8 (onth l n).root] 51)
        have hown' := hown.alloc (.cells #[.int .u64 (onth l n).pos, .int .u64 (onth l n).L, .int .u64 (onth l n).wt, .int .u8 (onth l n).root] 51)
        have hd' := balloc hd (.cells #[.int .u64 (onth l n).pos, .int .u64 (onth l n).L, .int .u64 (onth l n).wt, .int .u8 (onth l n).root] 51)
        rw [hW] at hB1 hB0 hBn hown' hd' ⊢
        have HWW := Lib.hid hW
        have hlb := lt_of_block hB1
        have hln := lt_of_block hBn
        have hne : ¬ w.heap.size + 1 = wr.heap.size := (by have := lt_of_block hb1; omega)
        have m2 : W.cell? ⟨w.heap.size + 1, 2, none⟩ = some v := block_cell hB1 2
        have f2 : W.frozen? ⟨w.heap.size + 1, 2, none⟩ = false := block_free hB1 2
        have n0 : W.cell? ⟨wr.heap.size, 0, none⟩ = some (.int .u64 (onth l n).pos) := block_cell hBn 0
        have n1 : W.cell? ⟨wr.heap.size, 1, none⟩ = some (.int .u64 (onth l n).L) := block_cell hBn 1
        have n2 : W.cell? ⟨wr.heap.size, 2, none⟩ = some (.int .u64 (onth l n).wt) := block_cell hBn 2
        have n3 : W.cell? ⟨wr.heap.size, 3, none⟩ = some (.int .u8 (onth l n).root) := block_cell hBn 3
        have HB1 := Lib.hid hB1
        have HB0 := Lib.hid hB0
        have HOWN := Lib.hid hown'
        have HD := Lib.hid hd'
        have HQ := Lib.hid hown.lt
        have hne1 : some (w.heap.size + 1) ≠ v.ownBlock := (fun e => absurd (hown.lt _ e.symm).1 (by omega))
        have hne2 : some wr.heap.size ≠ v.ownBlock := (fun e => absurd (hown.lt _ e.symm).2 (by omega))
        clear hW hB1 hB0 hBn hown hown' hd' hb1 hb0 hbl c0 c1 c2 c3
        have hr0 := HOK.out n
        have e1 : IntKind.i64.wrap (onth l n).root = (onth l n).root := (IntWalk.i64_in _ (by omega))
        have e2 : (onth l n).root.tmod 34 = k := (by rw [Int.tmod_eq_emod_of_nonneg hr0.1]; exact hkk)
        have RK1 : ((onth l n).root % 34).toNat = k := (by omega)
        have HKK := Lib.hid hkk
        clear hkk
        --REGION sextant/sextantlaw21.made 6 made6
        refine wp_region_tail 20 18 (v.ownBlock) (phis [fun u _ => u = (.pointer (some ⟨w.heap.size + 1, 2, none⟩)), fun u _ => u = (v), fun u _ => u = (.pointer (some ⟨wr.heap.size, 0, none⟩)), fun u _ => u = (.int .u64 (onth l n).pos), fun u _ => u = (.pointer (some ⟨wr.heap.size, 1, none⟩)), fun u _ => u = (.int .u64 (onth l n).L), fun u _ => u = (.agg #[.int .u64 (onth l n).L, .bool true, .int .u64 0, .slice none 0 0, .slice none 0 0]), fun u _ => u = (.pointer (some ⟨wr.heap.size, 3, none⟩)), fun u _ => u = (.int .u8 (onth l n).root), fun u _ => u = (.int .i64 (onth l n).root), fun u _ => u = (.int .i64 k), fun u w' => ∃ b, u = .slice (some ⟨b, 0, none⟩) k k ∧ some b ≠ v.ownBlock ∧ w'.heap[b]? = some (.cells (zc k) 5 (0, 0)), fun u _ => u = (.string (zer k)), fun u _ => u = (.pointer (some ⟨wr.heap.size, 2, none⟩)), fun u _ => u = (.int .u64 (onth l n).wt), fun u _ => u = (.agg #[.string (zer k), .int .u64 (onth l n).wt, .int .u64 0, .int .u64 0, .int .u64 0]), fun u _ => u = (.agg #[.int .u64 (onth l n).pos, .int .u64 (onth l n).L, .bool true, .int .u64 0, .slice none 0 0, .slice none 0 0, .string (zer k), .int .u64 (onth l n).wt, .int .u64 0, .int .u64 0, .int .u64 0]), fun u w' => ∃ b, u = .slice (some ⟨b, 0, none⟩) 1 1 ∧ some b ≠ v.ownBlock ∧ w'.heap[b]? = some (.cells (revOf (onth l n)).cells.toArray 48 (0, 0)), fun u w' => w'.ownsRow (w.heap.size + 2) 48 11 u (n + 1) (((l.take n).map revOf).flatMap Rev.cells ++ (revOf (onth l n)).cells), fun u _ => u = (.pointer (some ⟨w.heap.size + 1, 2, none⟩))]) rfl (by kernel_rfl) (by kernel_rfl) (mono_of ⟨mono_eq, mono_eq, mono_eq, mono_eq, mono_eq, mono_eq, mono_eq, mono_eq, mono_eq, mono_eq, mono_eq, ?m11, mono_eq, mono_eq, mono_eq, mono_eq, mono_eq, ?m17, ?m18, mono_eq, trivial⟩) (steps_of 20 ⟨?s0, ?s1, ?s2, ?s3, ?s4, ?s5, ?s6, ?s7, ?s8, ?s9, ?s10, ?s11, ?s12, ?s13, ?s14, ?s15, ?s16, ?s17, ?s18, ?s19, trivial⟩) ?_
        case m11 =>
          exact ⟨fun u w1 w' h ⟨b, h1, hb, hb'⟩ => ⟨b, h1, hb, ext_block h hb'⟩, fun _ u w1 w' h ⟨b, h1, hb, hb'⟩ => ⟨b, h1, hb, extB_block h hb hb'⟩⟩
        case m17 =>
          exact ⟨fun u w1 w' h ⟨b, h1, hb, hb'⟩ => ⟨b, h1, hb, ext_block h hb'⟩, fun _ u w1 w' h ⟨b, h1, hb, hb'⟩ => ⟨b, h1, hb, extB_block h hb hb'⟩⟩
        case m18 =>
          exact ⟨fun u w1 w' h hu => own_below hu h, fun hn => absurd rfl hn⟩
        case s0 =>
          refine step_val (v := (.pointer (some ⟨w.heap.size + 1, 2, none⟩))) (fun av wv hE hS hO hD => ?_) (fun _ => rfl)
          have h7 : av.eval (.tmp 7) = (.pointer (some ⟨w.heap.size + 1, 0, none⟩)) := hO.2.2 7 rfl
          have f7 := (ev_form av 7).symm.trans h7
          refine ⟨rfl, ?_⟩
          simp [go_sem, f7]
        case s1 =>
          refine step_val (v := (v)) (fun av wv hE hS hO hD => ?_) (fun _ => rfl)
          have d31 : av.eval (.tmp 31) = (.pointer (some ⟨w.heap.size + 1, 2, none⟩)) := hD.1 rfl _ rfl
          have f31 := (ev_form av 31).symm.trans d31
          have m2 := extB_cell hE hne1 m2
          have n0 := extB_cell hE hne2 n0
          have n1 := extB_cell hE hne2 n1
          have n2 := extB_cell hE hne2 n2
          have n3 := extB_cell hE hne2 n3
          refine ⟨rfl, ?_⟩
          simp [go_sem, f31, m2, n0, n1, n2, n3]
        case s2 =>
          refine step_val (v := (.pointer (some ⟨wr.heap.size, 0, none⟩))) (fun av wv hE hS hO hD => ?_) (fun _ => rfl)
          have h9 : av.eval (.tmp 9) = (.pointer (some ⟨wr.heap.size, 0, none⟩)) := hO.2.2 9 rfl
          have f9 := (ev_form av 9).symm.trans h9
          refine ⟨rfl, ?_⟩
          simp [go_sem, f9]
        case s3 =>
          refine step_val (v := (.int .u64 (onth l n).pos)) (fun av wv hE hS hO hD => ?_) (fun _ => rfl)
          have d33 : av.eval (.tmp 33) = (.pointer (some ⟨wr.heap.size, 0, none⟩)) := hD.1 rfl _ rfl
          have f33 := (ev_form av 33).symm.trans d33
          have m2 := extB_cell hE hne1 m2
          have n0 := extB_cell hE hne2 n0
          have n1 := extB_cell hE hne2 n1
          have n2 := extB_cell hE hne2 n2
          have n3 := extB_cell hE hne2 n3
          refine ⟨rfl, ?_⟩
          simp [go_sem, f33, m2, n0, n1, n2, n3]
        case s4 =>
          refine step_val (v := (.pointer (some ⟨wr.heap.size, 1, none⟩))) (fun av wv hE hS hO hD => ?_) (fun _ => rfl)
          have h9 : av.eval (.tmp 9) = (.pointer (some ⟨wr.heap.size, 0, none⟩)) := hO.2.2 9 rfl
          have f9 := (ev_form av 9).symm.trans h9
          refine ⟨rfl, ?_⟩
          simp [go_sem, f9]
        case s5 =>
          refine step_val (v := (.int .u64 (onth l n).L)) (fun av wv hE hS hO hD => ?_) (fun _ => rfl)
          have d35 : av.eval (.tmp 35) = (.pointer (some ⟨wr.heap.size, 1, none⟩)) := hD.1 rfl _ rfl
          have f35 := (ev_form av 35).symm.trans d35
          have m2 := extB_cell hE hne1 m2
          have n0 := extB_cell hE hne2 n0
          have n1 := extB_cell hE hne2 n1
          have n2 := extB_cell hE hne2 n2
          have n3 := extB_cell hE hne2 n3
          refine ⟨rfl, ?_⟩
          simp [go_sem, f35, m2, n0, n1, n2, n3]
        case s6 =>
          refine step_val (v := (.agg #[.int .u64 (onth l n).L, .bool true, .int .u64 0, .slice none 0 0, .slice none 0 0])) (fun av wv hE hS hO hD => ?_) (fun _ => rfl)
          have d36 : av.eval (.tmp 36) = (.int .u64 (onth l n).L) := hD.1 rfl _ rfl
          have f36 := (ev_form av 36).symm.trans d36
          refine ⟨rfl, ?_⟩
          simp [go_sem, f36]
        case s7 =>
          refine step_val (v := (.pointer (some ⟨wr.heap.size, 3, none⟩))) (fun av wv hE hS hO hD => ?_) (fun _ => rfl)
          have h9 : av.eval (.tmp 9) = (.pointer (some ⟨wr.heap.size, 0, none⟩)) := hO.2.2 9 rfl
          have f9 := (ev_form av 9).symm.trans h9
          refine ⟨rfl, ?_⟩
          simp [go_sem, f9]
        case s8 =>
          refine step_val (v := (.int .u8 (onth l n).root)) (fun av wv hE hS hO hD => ?_) (fun _ => rfl)
          have d38 : av.eval (.tmp 38) = (.pointer (some ⟨wr.heap.size, 3, none⟩)) := hD.1 rfl _ rfl
          have f38 := (ev_form av 38).symm.trans d38
          have m2 := extB_cell hE hne1 m2
          have n0 := extB_cell hE hne2 n0
          have n1 := extB_cell hE hne2 n1
          have n2 := extB_cell hE hne2 n2
          have n3 := extB_cell hE hne2 n3
          refine ⟨rfl, ?_⟩
          simp [go_sem, f38, m2, n0, n1, n2, n3]
        case s9 =>
          refine step_val (v := (.int .i64 (onth l n).root)) (fun av wv hE hS hO hD => ?_) (fun _ => rfl)
          have d39 : av.eval (.tmp 39) = (.int .u8 (onth l n).root) := hD.1 rfl _ rfl
          have f39 := (ev_form av 39).symm.trans d39
          refine ⟨rfl, ?_⟩
          simp [go_sem, f39, e1]
        case s10 =>
          refine step_val (v := (.int .i64 k)) (fun av wv hE hS hO hD => ?_) (fun _ => rfl)
          have d40 : av.eval (.tmp 40) = (.int .i64 (onth l n).root) := hD.1 rfl _ rfl
          have f40 := (ev_form av 40).symm.trans d40
          refine ⟨rfl, ?_⟩
          simp [go_sem, f40, e2]
        case s11 =>
          refine step_wp (fun av wv hE hS hO hD => ?_)
          have d41 : av.eval (.tmp 41) = (.int .i64 k) := hD.1 rfl _ rfl
          have f41 := (ev_form av 41).symm.trans d41
          refine ⟨rfl, ?_⟩
          refine wp_of_run (v := .slice (some ⟨wv.heap.size, 0, none⟩) k k) (w' := wv.alloc (.cells (zc k) 5)) (by simp [go_sem, f41, hmk]) ⟨_, rfl, es_of_ext (balloc (Ext_refl _) _), wv.heap.size, rfl, ?_, heap_alloc_new _ _⟩
          exact fun e => absurd (HQ.out _ e.symm).2 (by have := hE.size; simp at this; omega)
        case s12 =>
          refine step_val (v := (.string (zer k))) (fun av wv hE hS hO hD => ?_) (fun _ => rfl)
          have d42 : (fun u w' => ∃ b, u = .slice (some ⟨b, 0, none⟩) k k ∧ some b ≠ v.ownBlock ∧ w'.heap[b]? = some (.cells (zc k) 5 (0, 0))) (av.eval (.tmp 42)) wv := hD.1 rfl _ rfl
          refine ⟨rfl, ?_⟩
          obtain ⟨b, hb1, _, hb2⟩ := d42
          have f42 := (ev_form av 42).symm.trans hb1
          simp [go_sem, f42, conv_zc k wv b hb2]
        case s13 =>
          refine step_val (v := (.pointer (some ⟨wr.heap.size, 2, none⟩))) (fun av wv hE hS hO hD => ?_) (fun _ => rfl)
          have h9 : av.eval (.tmp 9) = (.pointer (some ⟨wr.heap.size, 0, none⟩)) := hO.2.2 9 rfl
          have f9 := (ev_form av 9).symm.trans h9
          refine ⟨rfl, ?_⟩
          simp [go_sem, f9]
        case s14 =>
          refine step_val (v := (.int .u64 (onth l n).wt)) (fun av wv hE hS hO hD => ?_) (fun _ => rfl)
          have d44 : av.eval (.tmp 44) = (.pointer (some ⟨wr.heap.size, 2, none⟩)) := hD.1 rfl _ rfl
          have f44 := (ev_form av 44).symm.trans d44
          have m2 := extB_cell hE hne1 m2
          have n0 := extB_cell hE hne2 n0
          have n1 := extB_cell hE hne2 n1
          have n2 := extB_cell hE hne2 n2
          have n3 := extB_cell hE hne2 n3
          refine ⟨rfl, ?_⟩
          simp [go_sem, f44, m2, n0, n1, n2, n3]
        case s15 =>
          refine step_val (v := (.agg #[.string (zer k), .int .u64 (onth l n).wt, .int .u64 0, .int .u64 0, .int .u64 0])) (fun av wv hE hS hO hD => ?_) (fun _ => rfl)
          have d43 : av.eval (.tmp 43) = (.string (zer k)) := hD.1 rfl _ rfl
          have f43 := (ev_form av 43).symm.trans d43
          have d45 : av.eval (.tmp 45) = (.int .u64 (onth l n).wt) := hD.2.1 rfl _ rfl
          have f45 := (ev_form av 45).symm.trans d45
          refine ⟨rfl, ?_⟩
          simp [go_sem, f43, f45]
        case s16 =>
          refine step_val (v := (.agg #[.int .u64 (onth l n).pos, .int .u64 (onth l n).L, .bool true, .int .u64 0, .slice none 0 0, .slice none 0 0, .string (zer k), .int .u64 (onth l n).wt, .int .u64 0, .int .u64 0, .int .u64 0])) (fun av wv hE hS hO hD => ?_) (fun _ => rfl)
          have d34 : av.eval (.tmp 34) = (.int .u64 (onth l n).pos) := hD.1 rfl _ rfl
          have f34 := (ev_form av 34).symm.trans d34
          have d37 : av.eval (.tmp 37) = (.agg #[.int .u64 (onth l n).L, .bool true, .int .u64 0, .slice none 0 0, .slice none 0 0]) := hD.2.1 rfl _ rfl
          have f37 := (ev_form av 37).symm.trans d37
          have d46 : av.eval (.tmp 46) = (.agg #[.string (zer k), .int .u64 (onth l n).wt, .int .u64 0, .int .u64 0, .int .u64 0]) := hD.2.2.1 rfl _ rfl
          have f46 := (ev_form av 46).symm.trans d46
          refine ⟨rfl, ?_⟩
          simp [go_sem, f34, f37, f46]
        case s17 =>
          refine step_wp (fun av wv hE hS hO hD => ?_)
          have d47 : av.eval (.tmp 47) = (.agg #[.int .u64 (onth l n).pos, .int .u64 (onth l n).L, .bool true, .int .u64 0, .slice none 0 0, .slice none 0 0, .string (zer k), .int .u64 (onth l n).wt, .int .u64 0, .int .u64 0, .int .u64 0]) := hD.1 rfl _ rfl
          have f47 := (ev_form av 47).symm.trans d47
          refine ⟨rfl, ?_⟩
          refine wp_of_run (v := .slice (some ⟨wv.heap.size, 0, none⟩) 1 1) (w' := wv.alloc (.cells (revOf (onth l n)).cells.toArray 48)) (by simp [go_sem, f47, revOf, Rev.cells, RK1]) ⟨_, rfl, es_of_ext (balloc (Ext_refl _) _), wv.heap.size, rfl, ?_, heap_alloc_new _ _⟩
          exact fun e => absurd (HQ.out _ e.symm).2 (by have := hE.size; simp at this; omega)
        case s18 =>
          refine step_wp (fun av wv hE hS hO hD => ?_)
          have d32 : av.eval (.tmp 32) = (v) := hD.1 rfl _ rfl
          have f32 := (ev_form av 32).symm.trans d32
          have d48 : (fun u w' => ∃ b, u = .slice (some ⟨b, 0, none⟩) 1 1 ∧ some b ≠ v.ownBlock ∧ w'.heap[b]? = some (.cells (revOf (onth l n)).cells.toArray 48 (0, 0))) (av.eval (.tmp 48)) wv := hD.2.1 rfl _ rfl
          refine ⟨rfl, ?_⟩
          obtain ⟨b48, h48, hb48, hc48⟩ := d48
          have hown1 : wv.ownsRow (w.heap.size + 2) 48 11 v n (((l.take n).map revOf).flatMap Rev.cells) := own_below (w := W.drew) HOWN.out (hS rfl)
          refine wp_append_lies wv _ _ _ rfl (w.heap.size + 2) 48 i0 (.agg Rev.zero.cells.toArray) 11 128 Tryz.underlying24 hi hz0 hz1 hz2 rfl (by decide) v n _ d32 hown1 ⟨b48, 0, none⟩ 1 1 (revOf (onth l n)).cells (by exact h48) rfl (World.news_of_block hc48) (by intro u hu; simp [Rev.cells] at hu; rcases hu with rfl | rfl | rfl | rfl | rfl | rfl | rfl | rfl | rfl | rfl | rfl <;> rfl) (by decide) (by unfold maxLen; omega) (by omega) (by have := hE.size; simp at this; omega) _ rfl ?_
          intro g cap1 w2 hown2 hgrow hat hlt2
          exact ⟨_, rfl, es_sp hgrow, hown2⟩
        case s19 =>
          refine step_val (v := (.pointer (some ⟨w.heap.size + 1, 2, none⟩))) (fun av wv hE hS hO hD => ?_) (fun _ => rfl)
          have h7 : av.eval (.tmp 7) = (.pointer (some ⟨w.heap.size + 1, 0, none⟩)) := hO.2.2 7 rfl
          have f7 := (ev_form av 7).symm.trans h7
          refine ⟨rfl, ?_⟩
          simp [go_sem, f7]
        intro a' w' hE hO hall
        have hA := act_of_outer (ds := [31, 32, 33, 34, 35, 36, 37, 38, 39, 40, 41, 42, 43, 44, 45, 46, 47, 48, 49, 50]) rfl hO (by kernel_rfl)
        have e31 : (fun u _ => u = (.pointer (some ⟨w.heap.size + 1, 2, none⟩))) (a'.eval (.tmp 31)) w' := hall.1 _ rfl
        have e32 : (fun u _ => u = (v)) (a'.eval (.tmp 32)) w' := hall.2.1 _ rfl
        have e33 : (fun u _ => u = (.pointer (some ⟨wr.heap.size, 0, none⟩))) (a'.eval (.tmp 33)) w' := hall.2.2.1 _ rfl
        have e34 : (fun u _ => u = (.int .u64 (onth l n).pos)) (a'.eval (.tmp 34)) w' := hall.2.2.2.1 _ rfl
        have e35 : (fun u _ => u = (.pointer (some ⟨wr.heap.size, 1, none⟩))) (a'.eval (.tmp 35)) w' := hall.2.2.2.2.1 _ rfl
        have e36 : (fun u _ => u = (.int .u64 (onth l n).L)) (a'.eval (.tmp 36)) w' := hall.2.2.2.2.2.1 _ rfl
        have e37 : (fun u _ => u = (.agg #[.int .u64 (onth l n).L, .bool true, .int .u64 0, .slice none 0 0, .slice none 0 0])) (a'.eval (.tmp 37)) w' := hall.2.2.2.2.2.2.1 _ rfl
        have e38 : (fun u _ => u = (.pointer (some ⟨wr.heap.size, 3, none⟩))) (a'.eval (.tmp 38)) w' := hall.2.2.2.2.2.2.2.1 _ rfl
        have e39 : (fun u _ => u = (.int .u8 (onth l n).root)) (a'.eval (.tmp 39)) w' := hall.2.2.2.2.2.2.2.2.1 _ rfl
        have e40 : (fun u _ => u = (.int .i64 (onth l n).root)) (a'.eval (.tmp 40)) w' := hall.2.2.2.2.2.2.2.2.2.1 _ rfl
        have e41 : (fun u _ => u = (.int .i64 k)) (a'.eval (.tmp 41)) w' := hall.2.2.2.2.2.2.2.2.2.2.1 _ rfl
        have e42 : (fun u w' => ∃ b, u = .slice (some ⟨b, 0, none⟩) k k ∧ some b ≠ v.ownBlock ∧ w'.heap[b]? = some (.cells (zc k) 5 (0, 0))) (a'.eval (.tmp 42)) w' := hall.2.2.2.2.2.2.2.2.2.2.2.1 _ rfl
        have e43 : (fun u _ => u = (.string (zer k))) (a'.eval (.tmp 43)) w' := hall.2.2.2.2.2.2.2.2.2.2.2.2.1 _ rfl
        have e44 : (fun u _ => u = (.pointer (some ⟨wr.heap.size, 2, none⟩))) (a'.eval (.tmp 44)) w' := hall.2.2.2.2.2.2.2.2.2.2.2.2.2.1 _ rfl
        have e45 : (fun u _ => u = (.int .u64 (onth l n).wt)) (a'.eval (.tmp 45)) w' := hall.2.2.2.2.2.2.2.2.2.2.2.2.2.2.1 _ rfl
        have e46 : (fun u _ => u = (.agg #[.string (zer k), .int .u64 (onth l n).wt, .int .u64 0, .int .u64 0, .int .u64 0])) (a'.eval (.tmp 46)) w' := hall.2.2.2.2.2.2.2.2.2.2.2.2.2.2.2.1 _ rfl
        have e47 : (fun u _ => u = (.agg #[.int .u64 (onth l n).pos, .int .u64 (onth l n).L, .bool true, .int .u64 0, .slice none 0 0, .slice none 0 0, .string (zer k), .int .u64 (onth l n).wt, .int .u64 0, .int .u64 0, .int .u64 0])) (a'.eval (.tmp 47)) w' := hall.2.2.2.2.2.2.2.2.2.2.2.2.2.2.2.2.1 _ rfl
        have e48 : (fun u w' => ∃ b, u = .slice (some ⟨b, 0, none⟩) 1 1 ∧ some b ≠ v.ownBlock ∧ w'.heap[b]? = some (.cells (revOf (onth l n)).cells.toArray 48 (0, 0))) (a'.eval (.tmp 48)) w' := hall.2.2.2.2.2.2.2.2.2.2.2.2.2.2.2.2.2.1 _ rfl
        have e49 : (fun u w' => w'.ownsRow (w.heap.size + 2) 48 11 u (n + 1) (((l.take n).map revOf).flatMap Rev.cells ++ (revOf (onth l n)).cells)) (a'.eval (.tmp 49)) w' := hall.2.2.2.2.2.2.2.2.2.2.2.2.2.2.2.2.2.2.1 _ rfl
        have e50 : (fun u _ => u = (.pointer (some ⟨w.heap.size + 1, 2, none⟩))) (a'.eval (.tmp 50)) w' := hall.2.2.2.2.2.2.2.2.2.2.2.2.2.2.2.2.2.2.2.1 _ rfl
        obtain ⟨v42, hv42⟩ : ∃ v, a'.eval (.tmp 42) = v := ⟨_, rfl⟩
        rw [hv42] at e42
        obtain ⟨v48, hv48⟩ : ∃ v, a'.eval (.tmp 48) = v := ⟨_, rfl⟩
        rw [hv48] at e48
        obtain ⟨v49, hv49⟩ : ∃ v, a'.eval (.tmp 49) = v := ⟨_, rfl⟩
        rw [hv49] at e49
        simp only [List.foldl_cons, List.foldl_nil, Act.put, List.setIfInBounds_toArray, List.set_cons_succ, List.set_cons_zero, e31, e32, e33, e34, e35, e36, e37, e38, e39, e40, e41, hv42, e43, e44, e45, e46, e47, hv48, hv49, e50] at hA
        clear hO hall e31 e32 e33 e34 e35 e36 e37 e38 e39 e40 e41 hv42 e43 e44 e45 e46 e47 hv48 hv49 e50
        subst hA
        --ENDREGION
        obtain ⟨g, cap1, rfl, hg1, hg2⟩ := e49.form (by omega)
        have hB1' := extB_block hE hne1 HB1.out
        have hB0' := extB_block hE (fun e => absurd (HQ.out _ e.symm).1 (by omega)) HB0.out
        have q1 : w'.cell? ⟨w.heap.size + 1, 2, none⟩ = some v := block_cell hB1' 2
        have q2 : w'.frozen? ⟨w.heap.size + 1, 2, none⟩ = false := block_free hB1' 2
        have HB1' := Lib.hid hB1'
        have HB0' := Lib.hid hB0'
        have E49 := Lib.hid e49
        have HWE : Hid (Below w.heap.size w w') := grownBy_below (bdrew HD.out) hE (fun k hk => Nat.le_trans (by omega) (HQ.out k hk).1)
        clear e42 e48 e49 hB1' hB0' hE e1 e2 RK1 n0 n1 n2 n3 m2 f2 hmk
        go_wp2
        go_roundg (gk - 1)
        case measure => omega
        case rel =>
          have hsn : l.take (n + 1) = l.take n ++ [onth l n] := (by rw [List.take_succ_eq_append_getElem hlt, onth_eq l n hlt])
          refine ⟨n + 1, by omega, by go_num, hlt, bset HWE.out (by simp) _, _, block_setCell HB1'.out _, block_setCell_ne HB0'.out (by simp) _, ?_⟩
          have h := E49.out
          rw [hsn, List.map_append, List.flatMap_append]
          have h2 : w'.ownsRow (w.heap.size + 2) 48 11 (.slice (some ⟨g, 0, none⟩) (n + 1) cap1) (n + 1) (((l.take n).map revOf).flatMap Rev.cells ++ ([onth l n].map revOf).flatMap Rev.cells) := (by simpa using h)
          exact ownsRow_setCell_below h2 (by simp) _
      · have hlt2' : ¬ (n : Int) < 30 := (by omega)
        have hl30 : l.take n = l.take 30 := (by obtain rfl : n = 30 := (by omega); rfl)
        (obtain ⟨v, hb1, hb0, hown⟩ := hk.out; obtain ⟨ra, rc, rfl, hrv, hrc⟩ := own_revs hown; have hc1 : ∀ o, wr.cell? ⟨w.heap.size + 1, o, none⟩ = _ := block_cell hb1; have hc0 : ∀ o, wr.cell? ⟨w.heap.size, o, none⟩ = _ := block_cell hb0; have hf0 : ∀ o, wr.frozen? ⟨w.heap.size, o, none⟩ = false := block_free hb0; have HB0 := Lib.hid hb0; have HOWN := Lib.hid hown; have HRV := Lib.hid hrv; have HL30 := Lib.hid hl30; clear hb1 hb0 hown hrv hk hl30; go_wp2; exact made_end a l ca cc coins signed w wr ra rc n kc HB0.out HRV.out HU.out HL30.out hrc hd (by have := HKC.out; omega) (fun b off e => by have := (HOWN.out.lt b (by rw [e]; rfl)).1; omega) (fun b off e => own_cells HOWN.out e) _ (by rfl) rfl)
    · have hl30 : l.take n = l.take 30 := (by rw [List.take_of_length_le (by rw [← len_eq]; omega), List.take_of_length_le (by rw [← len_eq]; omega)])
      (obtain ⟨v, hb1, hb0, hown⟩ := hk.out; obtain ⟨ra, rc, rfl, hrv, hrc⟩ := own_revs hown; have hc1 : ∀ o, wr.cell? ⟨w.heap.size + 1, o, none⟩ = _ := block_cell hb1; have hc0 : ∀ o, wr.cell? ⟨w.heap.size, o, none⟩ = _ := block_cell hb0; have hf0 : ∀ o, wr.frozen? ⟨w.heap.size, o, none⟩ = false := block_free hb0; have HB0 := Lib.hid hb0; have HOWN := Lib.hid hown; have HRV := Lib.hid hrv; have HL30 := Lib.hid hl30; clear hb1 hb0 hown hrv hk hl30; go_wp2; exact made_end a l ca cc coins signed w wr ra rc n kc HB0.out HRV.out HU.out HL30.out hrc hd (by have := HKC.out; omega) (fun b off e => by have := (HOWN.out.lt b (by rw [e]; rfl)).1; omega) (fun b off e => own_cells HOWN.out e) _ (by rfl) rfl)
theorem made_any (a : Option Addr) (cap : Nat) (l : List One) (ca : Option Addr) (cc : Nat) (coins : List Int) (signed : Int) (w : World) (hlen : len l ≤ 9223372036854775807) (hcl : len coins ≤ 9223372036854775807) (hcc : len coins ≤ cc) (hc : Ones w a l) (hu : U64s w ca coins)
    (hok : ∀ i, 0 ≤ (onth l i).root ∧ (onth l i).root ≤ 255) :
    Calls Tryz.prog 13 #[.slice a (len l) cap, .slice ca (len coins) cc, .int .u64 signed] w (MadeIs l coins signed w) :=
  (made_any2 a cap l ca cc coins signed w hlen hcl hcc hc hu hok).mono fun e w' ⟨c, h, _⟩ => ⟨c, h⟩
end Go.Proofs.YtihiaopilnjonaaGreatDoor

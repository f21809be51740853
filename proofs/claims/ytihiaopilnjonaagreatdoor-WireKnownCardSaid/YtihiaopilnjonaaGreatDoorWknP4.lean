/- Parts of the proof, one behind the other. -/
import Derived.Test.YtihiaopilnjonaaGreatDoorWknP3
import Derived.Carry
import Derived.Laws.EntriesVeiled
namespace Go.Proofs.YtihiaopilnjonaaGreatDoor
open Go.RowKit Go.ChangeMaps Go.MapKept
set_option linter.unusedSimpArgs false
set_option linter.unusedVariables false
theorem objR_err4 {s : ByteArray} {gs : List GSpec} {x : Rcd} {a : Nat} {f : Flt} (h : tkR 4 s a = .error f) : objR s gs x a = .error f := by unfold objR; rw [h]
theorem objR_errL {s : ByteArray} {gs : List GSpec} {x : Rcd} {a : Nat} {f : Flt} {y : Int × ByteArray × Nat} (h : tkR 4 s a = .ok y) (h2 : objLoop s gs y.1.toNat 0 x [] y.2.2 = .error f) : objR s gs x a = .error f := by unfold objR; rw [h]; simp only [h2]
theorem objR_miss {s : ByteArray} {gs : List GSpec} {x : Rcd} {a : Nat} {y : Int × ByteArray × Nat} {z : Rcd × List Nat × Nat} (h : tkR 4 s a = .ok y) (h2 : objLoop s gs y.1.toNat 0 x [] y.2.2 = .ok z) (h3 : missing gs z.2.1 = true) : objR s gs x a = .error (5, 0) := by unfold objR; rw [h]; simp only [h2, h3, if_true]
theorem objR_ok {s : ByteArray} {gs : List GSpec} {x : Rcd} {a : Nat} {y : Int × ByteArray × Nat} {z : Rcd × List Nat × Nat} (h : tkR 4 s a = .ok y) (h2 : objLoop s gs y.1.toNat 0 x [] y.2.2 = .ok z) (h3 : missing gs z.2.1 = false) : objR s gs x a = .ok (z.1, z.2.2) := by unfold objR; rw [h]; simp only [h2, h3]; rfl
theorem missing_iff (gs : List GSpec) (seen : List Nat) : missing gs seen = true ↔ ∃ i, i < gs.length ∧ ((gth gs i).must && !seen.contains i) = true := by
  unfold missing
  rw [List.any_eq_true]
  simp only [List.mem_range]
def CKeep (w w' : World) : Prop := ∀ (b : Nat) (cs : Array Value) (T : TypeId) (fz : Nat × Nat), w.heap[b]? = some (.cells cs T fz) → w'.heap[b]? = w.heap[b]?
theorem cells_of_cell {w : World} {b o : Nat} {v : Value} (h : w.cell? ⟨b, o, none⟩ = some v) : ∃ (cs : Array Value) (T : TypeId) (fz : Nat × Nat), w.heap[b]? = some (.cells cs T fz) := by
  unfold World.cell? at h
  split at h
  · next cs T fz he => exact ⟨_, _, _, he⟩
  · cases h
theorem CKeep.cell {w w' : World} (hk : CKeep w w') {b o : Nat} {v : Value} (h : w.cell? ⟨b, o, none⟩ = some v) : w'.cell? ⟨b, o, none⟩ = some v := by
  obtain ⟨cs, T, fz, h2⟩ := cells_of_cell h
  rw [World.cell?_of_block (w := w) (hk _ _ _ _ h2)]; exact h
theorem CKeep.tx {w w' : World} (hk : CKeep w w') {a : Option Addr} {l : List ByteArray} (h : Tx w a l) : Tx w' a l := h.keep fun b off cs e h2 => hk _ _ _ _ h2
theorem CKeep.ux {w w' : World} (hk : CKeep w w') {a : Option Addr} {l : List Int} (h : Ux w a l) : Ux w' a l := h.keep fun b off cs e h2 => hk _ _ _ _ h2
theorem CKeep.rev {w w' : World} (hk : CKeep w w') {rb tb : Nat} {r : Rev} {d : RevD} (h : RevIs rb tb w r d) : RevIs rb tb w' r d :=
  ⟨h.pos, h.L, h.signed, h.idx, h.wn, hk.tx h.ws, h.wo, h.pn, hk.tx h.ps, h.po, h.root, h.wt, h.first, h.life, h.keys⟩
theorem CKeep.holds {w w' : World} (hk : CKeep w w') {rb tb : Nat} {v : Value} {d : DV} (h : HoldsD rb tb w v d) : HoldsD rb tb w' v d := by
  cases d with
  | num n => exact h
  | flag q => exact h
  | str s => exact h
  | strs l => obtain ⟨a, c, h1, h2, h3, h4⟩ := h; exact ⟨a, c, h1, h2, h3, hk.tx h4⟩
  | nums l => obtain ⟨a, c, h1, h2, h3, h4⟩ := h; exact ⟨a, c, h1, h2, h3, hk.ux h4⟩
  | revs l =>
    obtain ⟨a, c, h1, h2, h3, rs, h4, h5, h6⟩ := h
    refine ⟨a, c, h1, h2, h3, rs, h4, fun i hi => ?_, fun i hi => hk.rev (h6 i hi)⟩
    obtain ⟨b, off, e, ⟨c0, c1, c2, c3, c4, c5, c6, c7, c8, c9, c10⟩⟩ := h5 i hi
    exact ⟨b, off, e, ⟨hk.cell c0, hk.cell c1, hk.cell c2, hk.cell c3, hk.cell c4, hk.cell c5, hk.cell c6, hk.cell c7, hk.cell c8, hk.cell c9, hk.cell c10⟩⟩
theorem CKeep.rec {w w' : World} (hk : CKeep w w') {rb tb : Nat} {T : TypeId} {n : Nat} {x : Rcd} (h : RecAt rb tb T n w x) : RecAt rb tb T n w' x := by
  obtain ⟨cs, h1, h2, h3⟩ := h
  refine ⟨cs, (hk _ _ _ _ h1).trans h1, h2, fun i hi => ?_⟩
  obtain ⟨v, h4, h5⟩ := h3 i hi
  exact ⟨v, h4, hk.holds h5⟩
theorem toList_same {a b : ByteArray} (h : (a.toList == b.toList) = true) : a = b := by
  rw [ByteArray.toList_eq, ByteArray.toList_eq] at h
  exact ba_ext (by simpa using h)
theorem keyIdx_key {gs : List GSpec} {fn j : Nat} {k : ByteArray} (h : keyIdx gs fn k = some j) : (gth gs (fn + j)).key = k := by
  unfold keyIdx at h
  exact toList_same (List.find?_some (p := fun i => (gth gs (fn + i)).key.toList == k.toList) h)
theorem fth_drop (l : List FVal) (fn i : Nat) (h : fn + i < l.length) : fth (l.drop fn) i = fth l (fn + i) := by
  rw [fth_eq _ i (by simp; omega), fth_eq _ _ h, List.getElem_drop]
theorem gsems_key {B qb rb tb : Nat} {x0 : Rcd} {T : TypeId} {n : Nat} {s : ByteArray} {W0 : World} {l : List FVal} {gs : List GSpec} (h : GSems B qb rb tb x0 T n s W0 l gs) (fn i : Nat) (hi : fn + i < len l) : (fth (l.drop fn) i).key = (gth gs (fn + i)).key := by
  rw [fth_drop l fn i hi]; exact (h.2 _ hi).key
theorem keyIdx_no {B qb rb tb : Nat} {x0 : Rcd} {T : TypeId} {n : Nat} {s : ByteArray} {W0 : World} {l : List FVal} {gs : List GSpec} (h : GSems B qb rb tb x0 T n s W0 l gs) (fn : Nat) (k : ByteArray) (hh : ∀ i, i < len (l.drop fn) → ((fth (l.drop fn) i).key.toList == k.toList) = false) : keyIdx gs fn k = none := by
  have hl : gs.length = l.length := h.1
  have hd : len (l.drop fn) = l.length - fn := by simp [len]
  refine keyIdx_none fun i hi => ?_
  have := hh i (by omega)
  rw [gsems_key h fn i (show fn + i < l.length by omega)] at this
  exact this
theorem keyIdx_yes {B qb rb tb : Nat} {x0 : Rcd} {T : TypeId} {n : Nat} {s : ByteArray} {W0 : World} {l : List FVal} {gs : List GSpec} (h : GSems B qb rb tb x0 T n s W0 l gs) (fn j : Nat) (k : ByteArray) (hj : j < len (l.drop fn)) (hp : ((fth (l.drop fn) j).key.toList == k.toList) = true) (hh : ∀ i, i < j → ((fth (l.drop fn) i).key.toList == k.toList) = false) : keyIdx gs fn k = some j := by
  have hl : gs.length = l.length := h.1
  have hd : len (l.drop fn) = l.length - fn := by simp [len]
  refine keyIdx_some (by omega) ?_ fun i hi => ?_
  · rw [gsems_key h fn j (show fn + j < l.length by omega)] at hp; exact hp
  · have := hh i hi
    rw [gsems_key h fn i (show fn + i < l.length by omega)] at this
    exact this
theorem objLoop_no {s : ByteArray} {gs : List GSpec} {g fn a : Nat} {x : Rcd} {seen : List Nat} {z : Int × ByteArray × Nat} (h1 : tkR 2 s a = .ok z) (h2 : keyIdx gs fn z.2.1 = none) : objLoop s gs (g + 1) fn x seen a = .error (5, 0) := by
  rw [objLoop, h1]; simp only [h2]
theorem objLoop_err {s : ByteArray} {gs : List GSpec} {g fn a j : Nat} {x : Rcd} {seen : List Nat} {z : Int × ByteArray × Nat} {f : Flt} (h1 : tkR 2 s a = .ok z) (h2 : keyIdx gs fn z.2.1 = some j) (h3 : (gth gs (fn + j)).read x z.2.2 = .error f) : objLoop s gs (g + 1) fn x seen a = .error f := by
  rw [objLoop, h1]; simp only [h2, h3]
theorem objLoop_empty {s : ByteArray} {gs : List GSpec} {g fn a j : Nat} {x : Rcd} {seen : List Nat} {z : Int × ByteArray × Nat} {y : Rcd × Nat} (h1 : tkR 2 s a = .ok z) (h2 : keyIdx gs fn z.2.1 = some j) (h3 : (gth gs (fn + j)).read x z.2.2 = .ok y) (h4 : (gth gs (fn + j)).empty y.1 = true) : objLoop s gs (g + 1) fn x seen a = .error (5, 0) := by
  rw [objLoop, h1]; simp only [h2, h3, h4, if_true]
theorem objLoop_next {s : ByteArray} {gs : List GSpec} {g fn a j : Nat} {x : Rcd} {seen : List Nat} {z : Int × ByteArray × Nat} {y : Rcd × Nat} (h1 : tkR 2 s a = .ok z) (h2 : keyIdx gs fn z.2.1 = some j) (h3 : (gth gs (fn + j)).read x z.2.2 = .ok y) (h4 : (gth gs (fn + j)).empty y.1 = false) : objLoop s gs (g + 1) fn x seen a = objLoop s gs g (fn + j + 1) y.1 ((fn + j) :: seen) y.2 := by
  rw [objLoop, h1]; simp only [h2, h3, h4]; rfl
set_option maxRecDepth 100000 in
set_option maxHeartbeats 8000000 in
theorem robject_any (B qb rb tb b1 off c : Nat) (x0 : Rcd) (T : TypeId) (n : Nat) (s : ByteArray) (W0 w : World) (l : List FVal) (gs : List GSpec) (a : Nat) (x : Rcd)
    (hl : Flds w (some ⟨b1, off, none⟩) l) (hc : len l ≤ c) (hn : len l ≤ 1000) (hS : GSems B qb rb tb x0 T n s W0 l gs) (hk : Chg rb tb W0 w) (hb1 : b1 ≠ rb ∧ b1 ≠ tb) (hqt : qb ≠ tb) (hBt : B ≤ tb) (htr : tb ≠ rb)
    (hKeys : KeysOk gs) (hDis : Disj gs) (hFr : ∀ g ∈ gs, g.Frames) (hKi : ∀ g ∈ gs, g.Kinds x0) (hkd : Kd x0 x) (hx : RecAt rb tb T n w x) (h : RdEnv B w qb rb s a) (hfresh : ∀ i, i < gs.length → fresh x0 (gth gs i) x) :
    Calls Tryz.prog 123 #[.pointer (some ⟨qb, 0, none⟩), .slice (some ⟨b1, off, none⟩) (len l) c] w (GetIs (objR s gs x a) rb tb T n s w) := by
  have H := Lib.hid h
  have HX := Lib.hid hx
  have HL := Lib.hid hl
  have HS := Lib.hid hS
  have HK := Lib.hid hk
  have HKE := Lib.hid hKeys
  have HDI := Lib.hid hDis
  have HFR := Lib.hid hFr
  have HKI := Lib.hid hKi
  have HKX := Lib.hid hkd
  have HFS := Lib.hid hfresh
  have hqr := h.ne
  have c0 : w.cell? ⟨qb, 0, none⟩ = some (.pointer (some ⟨rb, 0, none⟩)) := block_cell h.q 0
  have hqs : qb < w.heap.size := lt_of_block h.q
  have hrs : rb < w.heap.size := lt_of_block h.r
  have hts : tb < w.heap.size := hx.lt
  clear hl hS hk hKeys hDis hFr hKi hkd hx h hfresh
  have hmm := @run_makeMap Tryz.prog
  go_enter Tryz.func123, Tryz.ntmps123
  go_upto_region 2 with fail
  obtain ⟨mb, hmb⟩ : ∃ mb, w.heap.size = mb := ⟨_, rfl⟩
  obtain ⟨V, hV⟩ : ∃ V, (w.alloc (.map #[] 0)).alloc (.cells #[.map (some mb)] 276) = V := ⟨_, rfl⟩
  have HV : Hid (Below w.heap.size w V) := Lib.hid (by rw [← hV]; exact balloc (balloc (Below.refl _ _) _) _)
  have HM : Hid (V.heap[mb]? = some (smObj [])) := Lib.hid (by rw [← hV, ← hmb]; exact block_alloc (heap_alloc_new _ _) _)
  have HSB : Hid (V.heap[mb + 1]? = some (.cells #[.map (some mb)] 276 (0, 0))) := Lib.hid (by rw [← hV]; exact alloc_new_at _ (by simp [hmb]))
  have d0 : V.cell? ⟨qb, 0, none⟩ = some (.pointer (some ⟨rb, 0, none⟩)) := by rw [World.cell?_of_block (w := w) (HV.out.block qb hqs)]; exact c0
  try simp only [hmb]
  try rw [hV]
  clear hV c0
  go_wp2_with fail
  refine (Map_tk V B qb rb s a (H.out.below HV.out)).mono ?_
  intro e w1 hh
  cases hr : tkR 4 s a with
  | error f =>
    rw [hr] at hh
    obtain ⟨fb, rfl, hf, hE, -⟩ := tkIs_err hh
    have HF := Lib.hid hf
    have HE := Lib.hid hE
    have HR : Hid (objR s gs x a = .error f) := Lib.hid (objR_err4 hr)
    clear hh hf hE hr
    go_wp2_with fail
    refine (wholei_no _ fb w1).mono ?_
    rintro e w2 ⟨rfl, rfl⟩
    go_wp2
    refine ⟨rfl, ?_⟩
    rw [HR.out]
    exact ⟨(Chg.of_below HV.out).ext HE.out, fb, rfl, HF.out, ((HX.out.below HV.out).ext HE.out htr).thAt⟩
  | ok y =>
    rw [hr] at hh
    obtain ⟨rfl, hrd, hE⟩ := tkIs_ok hh
    have HR := Lib.hid hr
    have hbd := tkR_bd (by decide) hr
    have hy : y.1 = ((y.1.toNat : Nat) : Int) := by omega
    obtain ⟨N, hN⟩ : ∃ N, y.1.toNat = N := ⟨_, rfl⟩
    have hN2 : N ≤ 10240 := by have := hbd.2.2.1 (by decide); omega
    have HNN := Lib.hid hN
    obtain ⟨a0, ha0⟩ : ∃ a0, y.2.2 = a0 := ⟨_, rfl⟩
    have HA0 := Lib.hid ha0
    rw [ha0] at hrd hbd
    have hle := hbd.1
    rw [hN] at hy
    have hmr : rb < mb := by omega
    have hmt : tb < mb := by omega
    have HC1 : Hid (Chg rb tb w w1) := Lib.hid ((Chg.of_below HV.out).ext hE)
    have HM1 : Hid (w1.heap[mb]? = some (smObj [])) := Lib.hid ((hE.block _ (lt_of_block HM.out) (by simp; omega)).trans HM.out)
    have HSB1 : Hid (w1.heap[mb + 1]? = some (.cells #[.map (some mb)] 276 (0, 0))) := Lib.hid ((hE.block _ (lt_of_block HSB.out) (by simp; omega)).trans HSB.out)
    have HRD1 := Lib.hid hrd
    have HLE1 := Lib.hid hle
    have HX1 : Hid (RecAt rb tb T n w1 x) := Lib.hid ((HX.out.below HV.out).ext hE htr)
    clear hh hrd hE hr hbd hN ha0 hle HM HSB d0
    rw [hy]
    clear hy
    go_wp2_with fail
    refine (wholei_ok _ w1).mono ?_
    rintro e w2 ⟨rfl, rfl⟩
    go_wp2
    clear HV V
    go_loopg [4, 6, 7, 8, 18] N (fun g fr t6 t7 t8 i wr => ∃ (m fn a' : Nat) (xx : Rcd) (seen : List Nat) (L : List (ByteArray × Value)), g + m = N ∧ i = .int .i64 m ∧ fr = .int .i64 fn ∧ fn ≤ len l ∧ Hid (objLoop s gs N 0 x [] a0 = objLoop s gs g fn xx seen a') ∧ Hid (a' ≤ s.size) ∧ Hid (RdB wr rb s a' 10240) ∧ Hid (Chg rb tb w wr) ∧
      Hid (RecAt rb tb T n wr xx) ∧ Hid (wr.heap[mb]? = some (smObj L)) ∧ Hid (wr.heap[mb + 1]? = some (.cells #[.map (some mb)] 276 (0, 0))) ∧ Hid (SeenIs gs L seen) ∧ Hid (∀ i, fn ≤ i → i < gs.length → fresh x0 (gth gs i) xx) ∧ Hid (Kd x0 xx))
    case atStart => exact ⟨0, 0, a0, x, [], [], rfl, rfl, rfl, Nat.zero_le _, rfl, HLE1.out, HRD1.out, HC1.out, HX1.out, HM1.out, HSB1.out, fun i _ => by simp [smGet], fun i _ hi => HFS.out i hi, HKX.out⟩
    case round =>
      clear HRD1 HLE1 HC1 HX1 HM1 HSB1
      obtain ⟨m, fn, a', xx, seen, L, hgm, rfl, rfl, hfn, HLO, HLE, HRD, HC, HX2, HM, HSB, HSN, HFF, HKD⟩ := hrel
      have HEV : Hid (RdEnv B wr qb rb s a') := Lib.hid (H.out.chg HC.out hqt hBt HRD.out HLE.out)
      have HFL : Hid (Flds wr (some ⟨b1, off, none⟩) l) := Lib.hid (HL.out.chg HC.out hb1.1 hb1.2)
      by_cases hlt : m < N
      · have i1 : (m : Int) < N := by omega
        obtain ⟨g', rfl⟩ : ∃ g', gk = g' + 1 := ⟨gk - 1, by omega⟩
        have d0 : wr.cell? ⟨qb, 0, none⟩ = some (.pointer (some ⟨rb, 0, none⟩)) := block_cell HEV.out.q 0
        go_wp2_with fail
        refine (Str_tk wr B qb rb s a' HEV.out).mono ?_
        intro e w2 hh
        cases hr2 : tkR 2 s a' with
        | error f =>
          rw [hr2] at hh
          obtain ⟨fb, rfl, hf, hE, -⟩ := tkIs_err hh
          have HF := Lib.hid hf
          have HE := Lib.hid hE
          have HE2 : Hid (objLoop s gs N 0 x [] a0 = .error f) := Lib.hid (by rw [HLO.out, objLoop, hr2])
          clear hh hf hE hr2 d0
          go_wp2_with fail
          refine (wholes_no _ fb w2).mono ?_
          rintro e w3 ⟨rfl, rfl⟩
          go_wp2
          refine ⟨rfl, ?_⟩
          rw [objR_errL HR.out (by rw [HNN.out, HA0.out]; exact HE2.out)]
          exact ⟨HC.out.ext HE.out, fb, rfl, HF.out, (HX2.out.ext HE.out htr).thAt⟩
        | ok z =>
          rw [hr2] at hh
          obtain ⟨rfl, hrd, hE⟩ := tkIs_ok hh
          have HR2 := Lib.hid hr2
          have HE := Lib.hid hE
          have HRD2 := Lib.hid hrd
          have HLE2 : Hid (z.2.2 ≤ s.size) := Lib.hid (tkR_bd (by decide) hr2).1
          obtain ⟨k, hk⟩ : ∃ k, z.2.1 = k := ⟨_, rfl⟩
          have HKK := Lib.hid hk
          rw [hk]
          clear hh hrd hE hr2 hk d0
          go_wp2_with fail
          refine (wholes_ok _ w2).mono ?_
          rintro e w3 ⟨rfl, rfl⟩
          go_upto_region 5 with fail
          obtain ⟨kb, hkb⟩ : ∃ kb, w3.heap.size = kb := ⟨_, rfl⟩
          obtain ⟨V, hV⟩ : ∃ V, w3.alloc (.cells #[.string k] 9) = V := ⟨_, rfl⟩
          have HV : Hid (Below w3.heap.size w3 V) := Lib.hid (by rw [← hV]; exact balloc (Below.refl _ _) _)
          have HKB : Hid (V.heap[kb]? = some (.cells #[.string k] 9 (0, 0))) := Lib.hid (by rw [← hV, ← hkb]; exact heap_alloc_new _ _)
          try rw [hV]
          try simp only [hkb]
          clear hV
          have hkw : w.heap.size ≤ kb := by rw [← hkb]; exact Nat.le_trans HC.out.size HE.out.size
          have HCV : Hid (Chg rb tb w V) := Lib.hid ((HC.out.ext HE.out).next HV.out)
          have HFV : Hid (Flds V (some ⟨b1, off + fn * 6, none⟩) (l.drop fn)) := Lib.hid (Flds.drop (HL.out.chg HCV.out hb1.1 hb1.2) fn)
          have i2 : (0 : Int) ≤ fn := by omega
          have i3 : (fn : Int) ≤ len l := by omega
          have i4 : (len l : Int) ≤ c := by omega
          have hld : len (l.drop fn) = len l - fn := by simp [len]
          go_wp2_with fail
          · have hd0 : l.drop fn = [] := by apply List.eq_nil_of_length_eq_zero; have : len (l.drop fn) = 0 := by omega
                                            exact this
            have HK1 : Hid (∀ i, i < len (l.drop fn) → ((fth (l.drop fn) i).key.toList == k.toList) = false) := Lib.hid (fun i hi => by rw [hd0] at hi; simp [len] at hi)
            rw [← hld]
            refine (idxf_any (some ⟨b1, off, none⟩) 0 (l.drop fn) 203 #[.pointer (some ⟨kb, 0, none⟩)] _ V (by rw [hd0]; exact Flds.nil _ _) (by omega) (says_key kb k V _ HKB.out)).mono ?_
            rintro e w4 ⟨r, rfl, hr, hb⟩
            obtain rfl : r = -1 := by
              rcases hr with ⟨h1, -⟩ | ⟨j, hj, -⟩
              · exact h1
              · exfalso; omega
            have HB4 := Lib.hid hb
            have HE2 : Hid (objLoop s gs N 0 x [] a0 = .error (5, 0)) := Lib.hid (HLO.out.trans (objLoop_no HR2.out (by rw [HKK.out]; exact keyIdx_no HS.out fn k HK1.out)))
            clear hr hb hd0 hld
            go_wp2_with fail
            refine (must_no 5 w4).mono ?_
            rintro e w5 ⟨rfl, rfl⟩
            go_wp2
            refine ⟨rfl, ?_⟩
            rw [objR_errL HR.out (by rw [HNN.out, HA0.out]; exact HE2.out)]
            exact ⟨(HCV.out.next HB4.out).next (balloc (Below.refl _ _) _), _, rfl, heap_alloc_new _ _, ((((HX2.out.ext HE.out htr).below HV.out).below HB4.out).below (balloc (Below.refl _ _) _)).thAt⟩
          · rw [← hld]
            refine (idxf_any (some ⟨b1, off + fn * 6, none⟩) _ (l.drop fn) 203 #[.pointer (some ⟨kb, 0, none⟩)] _ V HFV.out (by omega) (says_key kb k V _ HKB.out)).mono ?_
            rintro e w4 ⟨r, rfl, hr, hb⟩
            have HB4 := Lib.hid hb
            rcases hr with ⟨rfl, hno⟩ | ⟨j, hj, rfl, hp, hno⟩
            · have HE2 : Hid (objLoop s gs N 0 x [] a0 = .error (5, 0)) := Lib.hid (HLO.out.trans (objLoop_no HR2.out (by rw [HKK.out]; exact keyIdx_no HS.out fn k hno)))
              clear hno hb hld
              go_wp2_with fail
              refine (must_no 5 w4).mono ?_
              rintro e w5 ⟨rfl, rfl⟩
              go_wp2
              refine ⟨rfl, ?_⟩
              rw [objR_errL HR.out (by rw [HNN.out, HA0.out]; exact HE2.out)]
              exact ⟨(HCV.out.next HB4.out).next (balloc (Below.refl _ _) _), _, rfl, heap_alloc_new _ _, ((((HX2.out.ext HE.out htr).below HV.out).below HB4.out).below (balloc (Below.refl _ _) _)).thAt⟩
            · have HKJ : Hid (keyIdx gs fn z.2.1 = some j) := Lib.hid (by rw [HKK.out]; exact keyIdx_yes HS.out fn j k hj hp hno)
              have hjl : fn + j < len l := by omega
              have t1 : decide ((0 : Int) ≤ (j : Int)) = true := decide_eq_true (by omega)
              clear hp hno hb hj hld
              go_wp2_with fail
              refine (must_ok 5 w4).mono ?_
              rintro e w5 ⟨rfl, rfl⟩
              obtain ⟨b', off', hbe, d0, d1, d2, d3, d4, d5⟩ := (HL.out.chg (HCV.out.next HB4.out) hb1.1 hb1.2) (fn + j) hjl
              cases hbe
              have i5 : IntKind.i64.wrap ((fn : Int) + (j : Int)) = (fn : Int) + (j : Int) := IntWalk.i64_in _ (by omega)
              have i6 : (0 : Int) ≤ (fn : Int) + (j : Int) := by omega
              have i7 : (fn : Int) + (j : Int) < len l := by omega
              have i8 : ((fn : Int) + (j : Int)).toNat = fn + j := by omega
              have hgs := HS.out.2 (fn + j) hjl
              obtain ⟨v, hv⟩ : ∃ v, fth l (fn + j) = v := ⟨_, rfl⟩
              rw [hv] at d0 d1 d2 d3 d4 d5 hgs
              have HGS := Lib.hid hgs
              clear hv hgs
              go_upto_region 8 with fail
              obtain ⟨vb, hvb⟩ : ∃ vb, w5.heap.size = vb := ⟨_, rfl⟩
              obtain ⟨U, hU⟩ : ∃ U, w5.alloc (.cells #[.string v.key, .bool v.must, .func (.func v.ef) #[] v.ec, .func (.func v.mf) #[] v.mc, .func (.func v.pf) #[] v.pc, .func (.func v.gf) #[] v.gc] 172) = U := ⟨_, rfl⟩
              have HU : Hid (Below w5.heap.size w5 U) := Lib.hid (by rw [← hU]; exact balloc (Below.refl _ _) _)
              have HVB : Hid (U.heap[vb]? = some (.cells #[.string v.key, .bool v.must, .func (.func v.ef) #[] v.ec, .func (.func v.mf) #[] v.mc, .func (.func v.pf) #[] v.pc, .func (.func v.gf) #[] v.gc] 172 (0, 0))) := Lib.hid (by rw [← hU, ← hvb]; exact heap_alloc_new _ _)
              try rw [hU]
              try simp only [hvb]
              clear hU d0 d1 d2 d3 d4 d5 i5 i6 i7 i8
              have hvw : w.heap.size ≤ vb := by rw [← hvb]; exact (HCV.out.next HB4.out).size
              have HCU : Hid (Chg rb tb w U) := Lib.hid ((HCV.out.next HB4.out).next HU.out)
              have HB3U : Hid (Below w3.heap.size w3 U) := Lib.hid (bnext (bnext HV.out HB4.out) HU.out)
              have HRU : Hid (RdEnv B U qb rb s z.2.2) := Lib.hid (H.out.chg HCU.out hqt hBt (HRD2.out.below HB3U.out) HLE2.out)
              have HXU : Hid (RecAt rb tb T n U xx) := Lib.hid ((HX2.out.ext HE.out htr).below HB3U.out)
              have HMU : Hid (U.heap[mb]? = some (smObj L)) := Lib.hid ((HB3U.out.block _ (by have := HE.out.size; have := lt_of_block HM.out; omega)).trans ((HE.out.block _ (lt_of_block HM.out) (by simp; omega)).trans HM.out))
              have HSU : Hid (U.heap[mb + 1]? = some (.cells #[.map (some mb)] 276 (0, 0))) := Lib.hid ((HB3U.out.block _ (by have := HE.out.size; have := lt_of_block HSB.out; omega)).trans ((HE.out.block _ (lt_of_block HSB.out) (by simp; omega)).trans HSB.out))
              have HKU : Hid (U.heap[kb]? = some (.cells #[.string k] 9 (0, 0))) := Lib.hid (((bnext HB4.out HU.out).block _ (lt_of_block HKB.out)).trans HKB.out)
              have c5 : U.cell? ⟨vb, 5, none⟩ = some (.func (.func v.gf) #[] v.gc) := block_cell HVB.out 5
              have eg := HGS.out.eg
              have hgl : fn + j < gs.length := by have : gs.length = l.length := HS.out.1; have : fn + j < l.length := hjl; omega
              go_wp2_with fail
              refine (HGS.out.read U xx z.2.2 (HK.out.trans HCU.out) HXU.out HRU.out (HFF.out (fn + j) (by omega) hgl) HKD.out).mono ?_
              intro e w6 hh
              clear c5 eg
              cases hr6 : (gth gs (fn + j)).read xx z.2.2 with
              | error f =>
                rw [hr6] at hh
                have HTH := Lib.hid (getIs_th hh)
                obtain ⟨fb, rfl, hf, hc6⟩ := getIs_err hh
                have HF := Lib.hid hf
                have HC6 : Hid (Chg rb tb w w6) := Lib.hid (HCU.out.trans hc6)
                have HE2 : Hid (objLoop s gs N 0 x [] a0 = .error f) := Lib.hid (HLO.out.trans (objLoop_err HR2.out HKJ.out hr6))
                clear hh hf hc6 hr6
                go_wp2
                refine ⟨rfl, ?_⟩
                rw [objR_errL HR.out (by rw [HNN.out, HA0.out]; exact HE2.out)]
                exact ⟨HC6.out, fb, rfl, HF.out, HTH.out⟩
              | ok q =>
                rw [hr6] at hh
                obtain ⟨rfl, hrd6, hle6, hx6, hc6⟩ := getIs_ok hh
                have HRD6 := Lib.hid hrd6
                have HLE6 := Lib.hid hle6
                have HX6 := Lib.hid hx6
                have HC6 : Hid (Chg rb tb w w6) := Lib.hid (HCU.out.trans hc6)
                have HR6 := Lib.hid hr6
                have HKD6 : Hid (Kd x0 q.1) := Lib.hid (HKI.out _ (by rw [gth_eq gs _ hgl]; exact List.getElem_mem _) _ _ _ hr6 HKD.out)
                have hch : ∀ b y, w.heap.size ≤ b → U.heap[b]? = some y → w6.heap[b]? = some y := fun b y hb hy => (hc6.block b (lt_of_block hy) (by omega) (by omega)).trans hy
                have HV6 := Lib.hid (hch vb _ hvw HVB.out)
                have HM6 := Lib.hid (hch mb _ (by omega) HMU.out)
                have HS6 := Lib.hid (hch (mb + 1) _ (by omega) HSU.out)
                have HK6 := Lib.hid (hch kb _ hkw HKU.out)
                have c2 : w6.cell? ⟨vb, 2, none⟩ = some (.func (.func v.ef) #[] v.ec) := block_cell HV6.out 2
                have ee := HGS.out.ee
                clear hh hrd6 hle6 hx6 hc6 hr6 hch HVB HMU HSU HKU
                go_wp2_with fail
                refine (HGS.out.empty w6 q.1 (HK.out.trans HC6.out) HX6.out HKD6.out).mono ?_
                rintro e w7 ⟨rfl, hb⟩
                have HB7 := Lib.hid hb
                clear hb c2 ee
                cases hem : (gth gs (fn + j)).empty q.1 with
                | true =>
                  have HE2 : Hid (objLoop s gs N 0 x [] a0 = .error (5, 0)) := Lib.hid (HLO.out.trans (objLoop_empty HR2.out HKJ.out HR6.out hem))
                  clear hem
                  go_wp2_with fail
                  refine (must_no 5 w7).mono ?_
                  rintro e w8 ⟨rfl, rfl⟩
                  go_wp2
                  refine ⟨rfl, ?_⟩
                  rw [objR_errL HR.out (by rw [HNN.out, HA0.out]; exact HE2.out)]
                  exact ⟨(HC6.out.next HB7.out).next (balloc (Below.refl _ _) _), _, rfl, heap_alloc_new _ _, ((HX6.out.below HB7.out).below (balloc (Below.refl _ _) _)).thAt⟩
                | false =>
                  have HE2 : Hid (objLoop s gs N 0 x [] a0 = objLoop s gs g' (fn + j + 1) q.1 ((fn + j) :: seen) q.2) := Lib.hid (HLO.out.trans (objLoop_next HR2.out HKJ.out HR6.out hem))
                  clear hem
                  go_wp2_with fail
                  refine (must_ok 5 w7).mono ?_
                  rintro e w8 ⟨rfl, rfl⟩
                  have i5 : IntKind.i64.wrap ((j : Int) + 1) = (j : Int) + 1 := IntWalk.i64_in _ (by omega)
                  have i6 : IntKind.i64.wrap ((fn : Int) + ((j : Int) + 1)) = (fn : Int) + ((j : Int) + 1) := IntWalk.i64_in _ (by omega)
                  have HM8 : Hid (w8.heap[mb]? = some (smObj L)) := Lib.hid ((HB7.out.block _ (lt_of_block HM6.out)).trans HM6.out)
                  have HS8 : Hid (w8.heap[mb + 1]? = some (.cells #[.map (some mb)] 276 (0, 0))) := Lib.hid ((HB7.out.block _ (lt_of_block HS6.out)).trans HS6.out)
                  have d5 : w8.cell? ⟨mb + 1, 0, none⟩ = some (.map (some mb)) := block_cell HS8.out 0
                  have d6 : w8.cell? ⟨kb, 0, none⟩ = some (.string k) := block_cell ((HB7.out.block _ (lt_of_block HK6.out)).trans HK6.out) 0
                  go_wp2_with (at_mapUpdate; refine swpList_mapUpdate_m rfl _ _ _ 276 9 3 rfl Tryz.underlying276 Tryz.underlying9 mb _ rfl HM8.out _ _ rfl rfl ?_)
                  have HKY : Hid ((gth gs (fn + j)).key = k) := Lib.hid ((keyIdx_key HKJ.out).trans HKK.out)
                  have hms : mb < w8.heap.size := lt_of_block HM8.out
                  have sbo : ∀ i, i ≠ mb → (setBlock w8 mb (smObj (smPut L k (.int .i64 1)))).heap[i]? = w8.heap[i]? := fun i hi => by
                    show (w8.heap.setIfInBounds mb _)[i]? = _
                    rw [Array.getElem?_setIfInBounds_ne (Ne.symm hi)]
                  go_roundg g'
                  case rel =>
                    refine ⟨m + 1, fn + j + 1, q.2, q.1, (fn + j) :: seen, smPut L k (.int .i64 1), by omega, by go_num, by go_num, by omega, HE2.out, HLE6.out, ?_, ?_, ?_, ?_, ?_, ?_, ?_, HKD6.out⟩
                    · exact Lib.hid ((sbo rb (by omega)).trans (HRD6.out.below HB7.out))
                    · exact Lib.hid ((HC6.out.next HB7.out).setBlock (by omega) _)
                    · exact Lib.hid (CKeep.rec (fun b cs T fz hb => sbo b (fun e => by subst e; have h9 := hb.symm.trans HM8.out; cases h9)) (HX6.out.below HB7.out))
                    · exact Lib.hid (by show (w8.heap.setIfInBounds mb _)[mb]? = _; rw [Array.getElem?_setIfInBounds_self_of_lt hms])
                    · exact Lib.hid ((sbo _ (by omega)).trans HS8.out)
                    · exact Lib.hid (by have h := HSN.out.put HKE.out hgl; rw [HKY.out] at h; exact h)
                    · exact Lib.hid (fun i h1 h2 o ho => by
                        have hfr := HFR.out _ (by rw [gth_eq gs _ hgl]; exact List.getElem_mem _) xx z.2.2 q HR6.out
                        rw [hfr o (fun hin => HDI.out i (fn + j) h2 hgl (by omega) o ho hin)]
                        exact HFF.out i (by omega) h2 o ho)
                  case measure => omega
      · obtain rfl : m = N := by omega
        have i1 : ¬ ((m : Nat) : Int) < m := by omega
        obtain rfl : gk = 0 := by omega
        have hgl : gs.length = l.length := HS.out.1
        have HLK : Hid (∀ i, i < len l → (fth l i).key = (gth gs i).key) := Lib.hid (fun i hi => (HS.out.2 i hi).key)
        have HLM : Hid (∀ i, i < len l → (fth l i).must = (gth gs i).must) := Lib.hid (fun i hi => (HS.out.2 i hi).must)
        have HOK : Hid (objLoop s gs m 0 x [] a0 = .ok (xx, seen, a')) := Lib.hid HLO.out
        go_wp2_with fail
        refine (containsf_any (some ⟨b1, off, none⟩) c l 205 #[.pointer (some ⟨mb + 1, 0, none⟩)] _ wr HFL.out hn (says_seen (mb + 1) mb L wr l (fun i hi => by
          rw [HLK.out i hi, HSN.out i (by have : i < l.length := hi; omega)]
          by_cases h : i ∈ seen
          · rw [if_pos h]; exact .inr rfl
          · rw [if_neg h]; exact .inl rfl) HSB.out HM.out)).mono ?_
        rintro e w2 ⟨q, rfl, hq, hb⟩
        have HB := Lib.hid hb
        have hqm : q = missing gs seen := by
          rw [Bool.eq_iff_iff, hq, missing_iff]
          constructor
          · rintro ⟨i, hi, h⟩
            have hi' : i < gs.length := by have : i < l.length := hi; omega
            refine ⟨i, hi', ?_⟩
            simp only [Bool.and_eq_true] at h ⊢
            refine ⟨by rw [← HLM.out i hi]; exact h.1, ?_⟩
            have h2 := h.2
            rw [HLK.out i hi, HSN.out i hi'] at h2
            by_cases hm : i ∈ seen
            · rw [if_pos hm] at h2; cases h2
            · simpa using hm
          · rintro ⟨i, hi, h⟩
            have hi' : i < len l := by show i < l.length; omega
            refine ⟨i, hi', ?_⟩
            simp only [Bool.and_eq_true] at h ⊢
            refine ⟨by rw [HLM.out i hi']; exact h.1, ?_⟩
            have h2 := h.2
            have hm : i ∉ seen := by simpa using h2
            rw [HLK.out i hi', HSN.out i hi, if_neg hm]; rfl
        have HQ := Lib.hid hqm
        clear hq hb hqm
        cases q with
        | true =>
          go_wp2_with fail
          refine (must_no 5 w2).mono ?_
          rintro e w3 ⟨rfl, rfl⟩
          go_wp2
          refine ⟨rfl, ?_⟩
          rw [objR_miss HR.out (by rw [HNN.out, HA0.out]; exact HOK.out) HQ.out.symm]
          exact ⟨(HC.out.next HB.out).next (balloc (Below.refl _ _) _), _, rfl, heap_alloc_new _ _, ((HX2.out.below HB.out).below (balloc (Below.refl _ _) _)).thAt⟩
        | false =>
          go_wp2_with fail
          refine (must_ok 5 w2).mono ?_
          rintro e w3 ⟨rfl, rfl⟩
          go_wp2
          go_end0
          refine ⟨HC.out.next HB.out, ?_⟩
          rw [objR_ok HR.out (by rw [HNN.out, HA0.out]; exact HOK.out) HQ.out.symm]
          exact ⟨rfl, HRD.out.below HB.out, HLE.out, HX2.out.below HB.out⟩
end Go.Proofs.YtihiaopilnjonaaGreatDoor
namespace Go.Proofs.YtihiaopilnjonaaGreatDoor
open Go.RowKit
set_option linter.unusedSimpArgs false
set_option linter.unusedVariables false
def NumS (w : World) (lo : Nat) (key : ByteArray) (pb po : Nat) (v : FVal) : Prop := ∃ bx, lo ≤ bx ∧ w.heap[bx]? = some (.cells #[.pointer (some ⟨pb, po, none⟩)] 177 (0, 0)) ∧ v = ⟨key, false, 183, #[.pointer (some ⟨bx, 0, none⟩)], 184, #[], 185, #[.pointer (some ⟨bx, 0, none⟩)], 186, #[.pointer (some ⟨bx, 0, none⟩)]⟩
set_option maxRecDepth 100000 in
theorem snum_any (key : ByteArray) (pb po : Nat) (w : World) : Calls Tryz.prog 109 #[.string key, .pointer (some ⟨pb, po, none⟩)] w fun e w' => ∃ v : FVal, e = .returned v.val ∧ NumS w' w.heap.size key pb po v ∧ Below w.heap.size w w' := by
  go_enter Tryz.func109, Tryz.ntmps109
  go_wp2
  obtain ⟨bx, hbx⟩ : ∃ bx, w.heap.size = bx := ⟨_, rfl⟩
  obtain ⟨V, hV⟩ : ∃ V, ((w.alloc (.cells #[.pointer (some ⟨pb, po, none⟩)] 177)).alloc (.cells #[.string key, .bool false, .func (.func 183) #[] #[.pointer (some ⟨w.heap.size, 0, none⟩)], .func (.func 184) #[] #[], .func (.func 185) #[] #[.pointer (some ⟨w.heap.size, 0, none⟩)], .func (.func 186) #[] #[.pointer (some ⟨w.heap.size, 0, none⟩)]] 172)) = V := ⟨_, rfl⟩
  have VB : Below w.heap.size w V := by rw [← hV]; (repeat (first | exact Below.refl _ _ | assumption | (refine bdrew ?_) | (refine bdrewN ?_ _) | (refine balloc ?_ _) | (refine bset ?_ (by first | omega | (simp; done) | (simp; omega)) _) | (refine bnext ?_ (by assumption))))
  have V0 : V.heap[bx]? = some (.cells #[.pointer (some ⟨pb, po, none⟩)] 177 (0, 0)) := by rw [← hV, ← hbx]; exact block_alloc (heap_alloc_new _ _) _
  have V1 : V.heap[bx + 1]? = some (.cells #[.string key, .bool false, .func (.func 183) #[] #[.pointer (some ⟨bx, 0, none⟩)], .func (.func 184) #[] #[], .func (.func 185) #[] #[.pointer (some ⟨bx, 0, none⟩)], .func (.func 186) #[] #[.pointer (some ⟨bx, 0, none⟩)]] 172 (0, 0)) := by rw [← hV, ← hbx]; exact alloc_new_at _ (by simp)
  have d : ∀ o, V.cell? ⟨bx + 1, o, none⟩ = _ := block_cell V1
  rw [hV]
  simp only [hbx]
  clear hV
  refine bodyPost_ret (v := .agg #[.string key, .bool false, .func (.func 183) #[] #[.pointer (some ⟨bx, 0, none⟩)], .func (.func 184) #[] #[], .func (.func 185) #[] #[.pointer (some ⟨bx, 0, none⟩)], .func (.func 186) #[] #[.pointer (some ⟨bx, 0, none⟩)]]) ?_ rfl ⟨⟨key, false, 183, #[.pointer (some ⟨bx, 0, none⟩)], 184, #[], 185, #[.pointer (some ⟨bx, 0, none⟩)], 186, #[.pointer (some ⟨bx, 0, none⟩)]⟩, rfl, ⟨bx, by omega, V0, rfl⟩, by rw [← hbx]; exact VB⟩
  simp [results, Tryz.results109, go_sem, d]
def FlagS (w : World) (lo : Nat) (key : ByteArray) (pb po : Nat) (v : FVal) : Prop := ∃ bx, lo ≤ bx ∧ w.heap[bx]? = some (.cells #[.pointer (some ⟨pb, po, none⟩)] 179 (0, 0)) ∧ v = ⟨key, false, 187, #[.pointer (some ⟨bx, 0, none⟩)], 184, #[], 188, #[], 189, #[.pointer (some ⟨bx, 0, none⟩)]⟩
set_option maxRecDepth 100000 in
theorem sflag_any (key : ByteArray) (pb po : Nat) (w : World) : Calls Tryz.prog 110 #[.string key, .pointer (some ⟨pb, po, none⟩)] w fun e w' => ∃ v : FVal, e = .returned v.val ∧ FlagS w' w.heap.size key pb po v ∧ Below w.heap.size w w' := by
  go_enter Tryz.func110, Tryz.ntmps110
  go_wp2
  obtain ⟨bx, hbx⟩ : ∃ bx, w.heap.size = bx := ⟨_, rfl⟩
  obtain ⟨V, hV⟩ : ∃ V, ((w.alloc (.cells #[.pointer (some ⟨pb, po, none⟩)] 179)).alloc (.cells #[.string key, .bool false, .func (.func 187) #[] #[.pointer (some ⟨w.heap.size, 0, none⟩)], .func (.func 184) #[] #[], .func (.func 188) #[] #[], .func (.func 189) #[] #[.pointer (some ⟨w.heap.size, 0, none⟩)]] 172)) = V := ⟨_, rfl⟩
  have VB : Below w.heap.size w V := by rw [← hV]; (repeat (first | exact Below.refl _ _ | assumption | (refine bdrew ?_) | (refine bdrewN ?_ _) | (refine balloc ?_ _) | (refine bset ?_ (by first | omega | (simp; done) | (simp; omega)) _) | (refine bnext ?_ (by assumption))))
  have V0 : V.heap[bx]? = some (.cells #[.pointer (some ⟨pb, po, none⟩)] 179 (0, 0)) := by rw [← hV, ← hbx]; exact block_alloc (heap_alloc_new _ _) _
  have V1 : V.heap[bx + 1]? = some (.cells #[.string key, .bool false, .func (.func 187) #[] #[.pointer (some ⟨bx, 0, none⟩)], .func (.func 184) #[] #[], .func (.func 188) #[] #[], .func (.func 189) #[] #[.pointer (some ⟨bx, 0, none⟩)]] 172 (0, 0)) := by rw [← hV, ← hbx]; exact alloc_new_at _ (by simp)
  have d : ∀ o, V.cell? ⟨bx + 1, o, none⟩ = _ := block_cell V1
  rw [hV]
  simp only [hbx]
  clear hV
  refine bodyPost_ret (v := .agg #[.string key, .bool false, .func (.func 187) #[] #[.pointer (some ⟨bx, 0, none⟩)], .func (.func 184) #[] #[], .func (.func 188) #[] #[], .func (.func 189) #[] #[.pointer (some ⟨bx, 0, none⟩)]]) ?_ rfl ⟨⟨key, false, 187, #[.pointer (some ⟨bx, 0, none⟩)], 184, #[], 188, #[], 189, #[.pointer (some ⟨bx, 0, none⟩)]⟩, rfl, ⟨bx, by omega, V0, rfl⟩, by rw [← hbx]; exact VB⟩
  simp [results, Tryz.results110, go_sem, d]
def DigS (w : World) (lo : Nat) (key : ByteArray) (pb po : Nat) (v : FVal) : Prop := ∃ bx, lo ≤ bx ∧ w.heap[bx]? = some (.cells #[.pointer (some ⟨pb, po, none⟩)] 181 (0, 0)) ∧ v = ⟨key, true, 190, #[], 191, #[.pointer (some ⟨bx, 0, none⟩)], 192, #[.pointer (some ⟨bx, 0, none⟩)], 194, #[.pointer (some ⟨bx, 0, none⟩)]⟩
set_option maxRecDepth 100000 in
theorem sdigest_any (key : ByteArray) (pb po : Nat) (w : World) : Calls Tryz.prog 111 #[.string key, .pointer (some ⟨pb, po, none⟩)] w fun e w' => ∃ v : FVal, e = .returned v.val ∧ DigS w' w.heap.size key pb po v ∧ Below w.heap.size w w' := by
  go_enter Tryz.func111, Tryz.ntmps111
  go_wp2
  obtain ⟨bx, hbx⟩ : ∃ bx, w.heap.size = bx := ⟨_, rfl⟩
  obtain ⟨V, hV⟩ : ∃ V, ((w.alloc (.cells #[.pointer (some ⟨pb, po, none⟩)] 181)).alloc (.cells #[.string key, .bool true, .func (.func 190) #[] #[], .func (.func 191) #[] #[.pointer (some ⟨w.heap.size, 0, none⟩)], .func (.func 192) #[] #[.pointer (some ⟨w.heap.size, 0, none⟩)], .func (.func 194) #[] #[.pointer (some ⟨w.heap.size, 0, none⟩)]] 172)) = V := ⟨_, rfl⟩
  have VB : Below w.heap.size w V := by rw [← hV]; (repeat (first | exact Below.refl _ _ | assumption | (refine bdrew ?_) | (refine bdrewN ?_ _) | (refine balloc ?_ _) | (refine bset ?_ (by first | omega | (simp; done) | (simp; omega)) _) | (refine bnext ?_ (by assumption))))
  have V0 : V.heap[bx]? = some (.cells #[.pointer (some ⟨pb, po, none⟩)] 181 (0, 0)) := by rw [← hV, ← hbx]; exact block_alloc (heap_alloc_new _ _) _
  have V1 : V.heap[bx + 1]? = some (.cells #[.string key, .bool true, .func (.func 190) #[] #[], .func (.func 191) #[] #[.pointer (some ⟨bx, 0, none⟩)], .func (.func 192) #[] #[.pointer (some ⟨bx, 0, none⟩)], .func (.func 194) #[] #[.pointer (some ⟨bx, 0, none⟩)]] 172 (0, 0)) := by rw [← hV, ← hbx]; exact alloc_new_at _ (by simp)
  have d : ∀ o, V.cell? ⟨bx + 1, o, none⟩ = _ := block_cell V1
  rw [hV]
  simp only [hbx]
  clear hV
  refine bodyPost_ret (v := .agg #[.string key, .bool true, .func (.func 190) #[] #[], .func (.func 191) #[] #[.pointer (some ⟨bx, 0, none⟩)], .func (.func 192) #[] #[.pointer (some ⟨bx, 0, none⟩)], .func (.func 194) #[] #[.pointer (some ⟨bx, 0, none⟩)]]) ?_ rfl ⟨⟨key, true, 190, #[], 191, #[.pointer (some ⟨bx, 0, none⟩)], 192, #[.pointer (some ⟨bx, 0, none⟩)], 194, #[.pointer (some ⟨bx, 0, none⟩)]⟩, rfl, ⟨bx, by omega, V0, rfl⟩, by rw [← hbx]; exact VB⟩
  simp [results, Tryz.results111, go_sem, d]
structure ManySSAt (w : World) (bx pb po most : Nat) : Prop where
  b0 : w.heap[bx]? = some (.cells #[.pointer (some ⟨pb, po, none⟩)] 230 (0, 0))
  b1 : w.heap[bx + 1]? = some (.cells #[.int .i64 most] 3 (0, 0))
  b2 : w.heap[bx + 1 + 1]? = some (.cells #[.func (.func 211) #[] #[]] 301 (0, 0))
  b3 : w.heap[bx + 1 + 1 + 1]? = some (.cells #[.func (.func 212) #[] #[]] 302 (0, 0))
  b4 : w.heap[bx + 1 + 1 + 1 + 1]? = some (.cells #[.func (.func 213) #[] #[]] 303 (0, 0))
theorem ManySSAt.but {w w' : World} {bx pb po most t : Nat} (h : ManySSAt w bx pb po most) (ht : t < bx) (hb : ∀ i, i ≠ t → w'.heap[i]? = w.heap[i]?) : ManySSAt w' bx pb po most :=
  ⟨(hb _ (by omega)).trans h.b0, (hb _ (by omega)).trans h.b1, (hb _ (by omega)).trans h.b2, (hb _ (by omega)).trans h.b3, (hb _ (by omega)).trans h.b4⟩
def ManySS (w : World) (lo : Nat) (key : ByteArray) (pb po most : Nat) (v : FVal) : Prop := ∃ bx, lo ≤ bx ∧ ManySSAt w bx pb po most ∧ v = ⟨key, false, 247, #[.pointer (some ⟨bx, 0, none⟩)], 248, #[.pointer (some ⟨bx, 0, none⟩), .pointer (some ⟨bx + 1, 0, none⟩), .pointer (some ⟨bx + 1 + 1, 0, none⟩)], 251, #[.pointer (some ⟨bx, 0, none⟩), .pointer (some ⟨bx + 1 + 1 + 1, 0, none⟩)], 252, #[.pointer (some ⟨bx + 1, 0, none⟩), .pointer (some ⟨bx + 1 + 1 + 1 + 1, 0, none⟩), .pointer (some ⟨bx, 0, none⟩)]⟩
set_option maxRecDepth 100000 in
set_option maxHeartbeats 2000000 in
theorem smanys_any (key : ByteArray) (pb po most : Nat) (w : World) : Calls Tryz.prog 210 #[.string key, .pointer (some ⟨pb, po, none⟩), .int .i64 most, .func (.func 211) #[] #[], .func (.func 212) #[] #[], .func (.func 213) #[] #[]] w fun e w' => ∃ v : FVal, e = .returned v.val ∧ ManySS w' w.heap.size key pb po most v ∧ Below w.heap.size w w' := by
  go_enter Tryz.func210, Tryz.ntmps210
  go_wp2
  obtain ⟨bx, hbx⟩ : ∃ bx, w.heap.size = bx := ⟨_, rfl⟩
  obtain ⟨V, hV⟩ : ∃ V, (((((((w.alloc (.cells #[.pointer (some ⟨pb, po, none⟩)] 230)).alloc (.cells #[.int .i64 most] 3)).alloc (.cells #[.func (.func 211) #[] #[]] 301)).alloc (.cells #[.func (.func 212) #[] #[]] 302)).alloc (.cells #[.func (.func 213) #[] #[]] 303)).alloc (.cells #[.string key, .bool false, .func (.func 247) #[] #[.pointer (some ⟨w.heap.size, 0, none⟩)], .func (.func 248) #[] #[.pointer (some ⟨w.heap.size, 0, none⟩), .pointer (some ⟨w.heap.size + 1, 0, none⟩), .pointer (some ⟨w.heap.size + 1 + 1, 0, none⟩)], .func (.func 251) #[] #[.pointer (some ⟨w.heap.size, 0, none⟩), .pointer (some ⟨w.heap.size + 1 + 1 + 1, 0, none⟩)], .func (.func 252) #[] #[.pointer (some ⟨w.heap.size + 1, 0, none⟩), .pointer (some ⟨w.heap.size + 1 + 1 + 1 + 1, 0, none⟩), .pointer (some ⟨w.heap.size, 0, none⟩)]] 172)).alloc (.cells #[.string key, .bool false, .func (.func 247) #[] #[.pointer (some ⟨w.heap.size, 0, none⟩)], .func (.func 248) #[] #[.pointer (some ⟨w.heap.size, 0, none⟩), .pointer (some ⟨w.heap.size + 1, 0, none⟩), .pointer (some ⟨w.heap.size + 1 + 1, 0, none⟩)], .func (.func 251) #[] #[.pointer (some ⟨w.heap.size, 0, none⟩), .pointer (some ⟨w.heap.size + 1 + 1 + 1, 0, none⟩)], .func (.func 252) #[] #[.pointer (some ⟨w.heap.size + 1, 0, none⟩), .pointer (some ⟨w.heap.size + 1 + 1 + 1 + 1, 0, none⟩), .pointer (some ⟨w.heap.size, 0, none⟩)]] 172)) = V := ⟨_, rfl⟩
  have VB : Below w.heap.size w V := by rw [← hV]; (repeat (first | exact Below.refl _ _ | assumption | (refine bdrew ?_) | (refine bdrewN ?_ _) | (refine balloc ?_ _) | (refine bset ?_ (by first | omega | (simp; done) | (simp; omega)) _) | (refine bnext ?_ (by assumption))))
  have V0 : V.heap[bx]? = some (.cells #[.pointer (some ⟨pb, po, none⟩)] 230 (0, 0)) := by rw [← hV, ← hbx]; exact (block_alloc (block_alloc (block_alloc (block_alloc (block_alloc (block_alloc (heap_alloc_new _ _) _) _) _) _) _) _)
  have V1 : V.heap[bx + 1]? = some (.cells #[.int .i64 most] 3 (0, 0)) := by rw [← hV, ← hbx]; exact (block_alloc (block_alloc (block_alloc (block_alloc (block_alloc (alloc_new_at _ (by simp)) _) _) _) _) _)
  have V2 : V.heap[bx + 1 + 1]? = some (.cells #[.func (.func 211) #[] #[]] 301 (0, 0)) := by rw [← hV, ← hbx]; exact (block_alloc (block_alloc (block_alloc (block_alloc (alloc_new_at _ (by simp)) _) _) _) _)
  have V3 : V.heap[bx + 1 + 1 + 1]? = some (.cells #[.func (.func 212) #[] #[]] 302 (0, 0)) := by rw [← hV, ← hbx]; exact (block_alloc (block_alloc (block_alloc (alloc_new_at _ (by simp)) _) _) _)
  have V4 : V.heap[bx + 1 + 1 + 1 + 1]? = some (.cells #[.func (.func 213) #[] #[]] 303 (0, 0)) := by rw [← hV, ← hbx]; exact (block_alloc (block_alloc (alloc_new_at _ (by simp)) _) _)
  have V5 : V.heap[bx + 1 + 1 + 1 + 1 + 1]? = some (.cells #[.string key, .bool false, .func (.func 247) #[] #[.pointer (some ⟨bx, 0, none⟩)], .func (.func 248) #[] #[.pointer (some ⟨bx, 0, none⟩), .pointer (some ⟨bx + 1, 0, none⟩), .pointer (some ⟨bx + 1 + 1, 0, none⟩)], .func (.func 251) #[] #[.pointer (some ⟨bx, 0, none⟩), .pointer (some ⟨bx + 1 + 1 + 1, 0, none⟩)], .func (.func 252) #[] #[.pointer (some ⟨bx + 1, 0, none⟩), .pointer (some ⟨bx + 1 + 1 + 1 + 1, 0, none⟩), .pointer (some ⟨bx, 0, none⟩)]] 172 (0, 0)) := by rw [← hV, ← hbx]; exact block_alloc (alloc_new_at _ (by simp)) _
  have d : ∀ o, V.cell? ⟨bx + 1 + 1 + 1 + 1 + 1, o, none⟩ = _ := block_cell V5
  rw [hV]
  simp only [hbx]
  clear hV
  refine bodyPost_ret (v := .agg #[.string key, .bool false, .func (.func 247) #[] #[.pointer (some ⟨bx, 0, none⟩)], .func (.func 248) #[] #[.pointer (some ⟨bx, 0, none⟩), .pointer (some ⟨bx + 1, 0, none⟩), .pointer (some ⟨bx + 1 + 1, 0, none⟩)], .func (.func 251) #[] #[.pointer (some ⟨bx, 0, none⟩), .pointer (some ⟨bx + 1 + 1 + 1, 0, none⟩)], .func (.func 252) #[] #[.pointer (some ⟨bx + 1, 0, none⟩), .pointer (some ⟨bx + 1 + 1 + 1 + 1, 0, none⟩), .pointer (some ⟨bx, 0, none⟩)]]) ?_ rfl ⟨⟨key, false, 247, #[.pointer (some ⟨bx, 0, none⟩)], 248, #[.pointer (some ⟨bx, 0, none⟩), .pointer (some ⟨bx + 1, 0, none⟩), .pointer (some ⟨bx + 1 + 1, 0, none⟩)], 251, #[.pointer (some ⟨bx, 0, none⟩), .pointer (some ⟨bx + 1 + 1 + 1, 0, none⟩)], 252, #[.pointer (some ⟨bx + 1, 0, none⟩), .pointer (some ⟨bx + 1 + 1 + 1 + 1, 0, none⟩), .pointer (some ⟨bx, 0, none⟩)]⟩, rfl, ⟨bx, by omega, ⟨V0, V1, V2, V3, V4⟩, rfl⟩, by rw [← hbx]; exact VB⟩
  simp [results, Tryz.results210, go_sem, d]
structure ManyUSAt (w : World) (bx pb po most : Nat) : Prop where
  b0 : w.heap[bx]? = some (.cells #[.pointer (some ⟨pb, po, none⟩)] 232 (0, 0))
  b1 : w.heap[bx + 1]? = some (.cells #[.int .i64 most] 3 (0, 0))
  b2 : w.heap[bx + 1 + 1]? = some (.cells #[.func (.func 147) #[] #[]] 233 (0, 0))
  b3 : w.heap[bx + 1 + 1 + 1]? = some (.cells #[.func (.func 148) #[] #[]] 235 (0, 0))
  b4 : w.heap[bx + 1 + 1 + 1 + 1]? = some (.cells #[.func (.func 150) #[] #[]] 239 (0, 0))
theorem ManyUSAt.but {w w' : World} {bx pb po most t : Nat} (h : ManyUSAt w bx pb po most) (ht : t < bx) (hb : ∀ i, i ≠ t → w'.heap[i]? = w.heap[i]?) : ManyUSAt w' bx pb po most :=
  ⟨(hb _ (by omega)).trans h.b0, (hb _ (by omega)).trans h.b1, (hb _ (by omega)).trans h.b2, (hb _ (by omega)).trans h.b3, (hb _ (by omega)).trans h.b4⟩
def ManyUS (w : World) (lo : Nat) (key : ByteArray) (pb po most : Nat) (v : FVal) : Prop := ∃ bx, lo ≤ bx ∧ ManyUSAt w bx pb po most ∧ v = ⟨key, false, 214, #[.pointer (some ⟨bx, 0, none⟩)], 215, #[.pointer (some ⟨bx, 0, none⟩), .pointer (some ⟨bx + 1, 0, none⟩), .pointer (some ⟨bx + 1 + 1, 0, none⟩)], 218, #[.pointer (some ⟨bx, 0, none⟩), .pointer (some ⟨bx + 1 + 1 + 1, 0, none⟩)], 220, #[.pointer (some ⟨bx + 1, 0, none⟩), .pointer (some ⟨bx + 1 + 1 + 1 + 1, 0, none⟩), .pointer (some ⟨bx, 0, none⟩)]⟩
set_option maxRecDepth 100000 in
set_option maxHeartbeats 2000000 in
theorem smanyu_any (key : ByteArray) (pb po most : Nat) (w : World) : Calls Tryz.prog 146 #[.string key, .pointer (some ⟨pb, po, none⟩), .int .i64 most, .func (.func 147) #[] #[], .func (.func 148) #[] #[], .func (.func 150) #[] #[]] w fun e w' => ∃ v : FVal, e = .returned v.val ∧ ManyUS w' w.heap.size key pb po most v ∧ Below w.heap.size w w' := by
  go_enter Tryz.func146, Tryz.ntmps146
  go_wp2
  obtain ⟨bx, hbx⟩ : ∃ bx, w.heap.size = bx := ⟨_, rfl⟩
  obtain ⟨V, hV⟩ : ∃ V, (((((((w.alloc (.cells #[.pointer (some ⟨pb, po, none⟩)] 232)).alloc (.cells #[.int .i64 most] 3)).alloc (.cells #[.func (.func 147) #[] #[]] 233)).alloc (.cells #[.func (.func 148) #[] #[]] 235)).alloc (.cells #[.func (.func 150) #[] #[]] 239)).alloc (.cells #[.string key, .bool false, .func (.func 214) #[] #[.pointer (some ⟨w.heap.size, 0, none⟩)], .func (.func 215) #[] #[.pointer (some ⟨w.heap.size, 0, none⟩), .pointer (some ⟨w.heap.size + 1, 0, none⟩), .pointer (some ⟨w.heap.size + 1 + 1, 0, none⟩)], .func (.func 218) #[] #[.pointer (some ⟨w.heap.size, 0, none⟩), .pointer (some ⟨w.heap.size + 1 + 1 + 1, 0, none⟩)], .func (.func 220) #[] #[.pointer (some ⟨w.heap.size + 1, 0, none⟩), .pointer (some ⟨w.heap.size + 1 + 1 + 1 + 1, 0, none⟩), .pointer (some ⟨w.heap.size, 0, none⟩)]] 172)).alloc (.cells #[.string key, .bool false, .func (.func 214) #[] #[.pointer (some ⟨w.heap.size, 0, none⟩)], .func (.func 215) #[] #[.pointer (some ⟨w.heap.size, 0, none⟩), .pointer (some ⟨w.heap.size + 1, 0, none⟩), .pointer (some ⟨w.heap.size + 1 + 1, 0, none⟩)], .func (.func 218) #[] #[.pointer (some ⟨w.heap.size, 0, none⟩), .pointer (some ⟨w.heap.size + 1 + 1 + 1, 0, none⟩)], .func (.func 220) #[] #[.pointer (some ⟨w.heap.size + 1, 0, none⟩), .pointer (some ⟨w.heap.size + 1 + 1 + 1 + 1, 0, none⟩), .pointer (some ⟨w.heap.size, 0, none⟩)]] 172)) = V := ⟨_, rfl⟩
  have VB : Below w.heap.size w V := by rw [← hV]; (repeat (first | exact Below.refl _ _ | assumption | (refine bdrew ?_) | (refine bdrewN ?_ _) | (refine balloc ?_ _) | (refine bset ?_ (by first | omega | (simp; done) | (simp; omega)) _) | (refine bnext ?_ (by assumption))))
  have V0 : V.heap[bx]? = some (.cells #[.pointer (some ⟨pb, po, none⟩)] 232 (0, 0)) := by rw [← hV, ← hbx]; exact (block_alloc (block_alloc (block_alloc (block_alloc (block_alloc (block_alloc (heap_alloc_new _ _) _) _) _) _) _) _)
  have V1 : V.heap[bx + 1]? = some (.cells #[.int .i64 most] 3 (0, 0)) := by rw [← hV, ← hbx]; exact (block_alloc (block_alloc (block_alloc (block_alloc (block_alloc (alloc_new_at _ (by simp)) _) _) _) _) _)
  have V2 : V.heap[bx + 1 + 1]? = some (.cells #[.func (.func 147) #[] #[]] 233 (0, 0)) := by rw [← hV, ← hbx]; exact (block_alloc (block_alloc (block_alloc (block_alloc (alloc_new_at _ (by simp)) _) _) _) _)
  have V3 : V.heap[bx + 1 + 1 + 1]? = some (.cells #[.func (.func 148) #[] #[]] 235 (0, 0)) := by rw [← hV, ← hbx]; exact (block_alloc (block_alloc (block_alloc (alloc_new_at _ (by simp)) _) _) _)
  have V4 : V.heap[bx + 1 + 1 + 1 + 1]? = some (.cells #[.func (.func 150) #[] #[]] 239 (0, 0)) := by rw [← hV, ← hbx]; exact (block_alloc (block_alloc (alloc_new_at _ (by simp)) _) _)
  have V5 : V.heap[bx + 1 + 1 + 1 + 1 + 1]? = some (.cells #[.string key, .bool false, .func (.func 214) #[] #[.pointer (some ⟨bx, 0, none⟩)], .func (.func 215) #[] #[.pointer (some ⟨bx, 0, none⟩), .pointer (some ⟨bx + 1, 0, none⟩), .pointer (some ⟨bx + 1 + 1, 0, none⟩)], .func (.func 218) #[] #[.pointer (some ⟨bx, 0, none⟩), .pointer (some ⟨bx + 1 + 1 + 1, 0, none⟩)], .func (.func 220) #[] #[.pointer (some ⟨bx + 1, 0, none⟩), .pointer (some ⟨bx + 1 + 1 + 1 + 1, 0, none⟩), .pointer (some ⟨bx, 0, none⟩)]] 172 (0, 0)) := by rw [← hV, ← hbx]; exact block_alloc (alloc_new_at _ (by simp)) _
  have d : ∀ o, V.cell? ⟨bx + 1 + 1 + 1 + 1 + 1, o, none⟩ = _ := block_cell V5
  rw [hV]
  simp only [hbx]
  clear hV
  refine bodyPost_ret (v := .agg #[.string key, .bool false, .func (.func 214) #[] #[.pointer (some ⟨bx, 0, none⟩)], .func (.func 215) #[] #[.pointer (some ⟨bx, 0, none⟩), .pointer (some ⟨bx + 1, 0, none⟩), .pointer (some ⟨bx + 1 + 1, 0, none⟩)], .func (.func 218) #[] #[.pointer (some ⟨bx, 0, none⟩), .pointer (some ⟨bx + 1 + 1 + 1, 0, none⟩)], .func (.func 220) #[] #[.pointer (some ⟨bx + 1, 0, none⟩), .pointer (some ⟨bx + 1 + 1 + 1 + 1, 0, none⟩), .pointer (some ⟨bx, 0, none⟩)]]) ?_ rfl ⟨⟨key, false, 214, #[.pointer (some ⟨bx, 0, none⟩)], 215, #[.pointer (some ⟨bx, 0, none⟩), .pointer (some ⟨bx + 1, 0, none⟩), .pointer (some ⟨bx + 1 + 1, 0, none⟩)], 218, #[.pointer (some ⟨bx, 0, none⟩), .pointer (some ⟨bx + 1 + 1 + 1, 0, none⟩)], 220, #[.pointer (some ⟨bx + 1, 0, none⟩), .pointer (some ⟨bx + 1 + 1 + 1 + 1, 0, none⟩), .pointer (some ⟨bx, 0, none⟩)]⟩, rfl, ⟨bx, by omega, ⟨V0, V1, V2, V3, V4⟩, rfl⟩, by rw [← hbx]; exact VB⟩
  simp [results, Tryz.results146, go_sem, d]
structure ManyRSAt (w : World) (bx pb po most : Nat) : Prop where
  b0 : w.heap[bx]? = some (.cells #[.pointer (some ⟨pb, po, none⟩)] 241 (0, 0))
  b1 : w.heap[bx + 1]? = some (.cells #[.int .i64 most] 3 (0, 0))
  b2 : w.heap[bx + 1 + 1]? = some (.cells #[.func (.func 154) #[] #[]] 244 (0, 0))
  b3 : w.heap[bx + 1 + 1 + 1]? = some (.cells #[.func (.func 156) #[] #[]] 245 (0, 0))
  b4 : w.heap[bx + 1 + 1 + 1 + 1]? = some (.cells #[.func (.func 157) #[] #[]] 246 (0, 0))
theorem ManyRSAt.but {w w' : World} {bx pb po most t : Nat} (h : ManyRSAt w bx pb po most) (ht : t < bx) (hb : ∀ i, i ≠ t → w'.heap[i]? = w.heap[i]?) : ManyRSAt w' bx pb po most :=
  ⟨(hb _ (by omega)).trans h.b0, (hb _ (by omega)).trans h.b1, (hb _ (by omega)).trans h.b2, (hb _ (by omega)).trans h.b3, (hb _ (by omega)).trans h.b4⟩
def ManyRS (w : World) (lo : Nat) (key : ByteArray) (pb po most : Nat) (v : FVal) : Prop := ∃ bx, lo ≤ bx ∧ ManyRSAt w bx pb po most ∧ v = ⟨key, false, 227, #[.pointer (some ⟨bx, 0, none⟩)], 228, #[.pointer (some ⟨bx, 0, none⟩), .pointer (some ⟨bx + 1, 0, none⟩), .pointer (some ⟨bx + 1 + 1, 0, none⟩)], 230, #[.pointer (some ⟨bx, 0, none⟩), .pointer (some ⟨bx + 1 + 1 + 1, 0, none⟩)], 231, #[.pointer (some ⟨bx + 1, 0, none⟩), .pointer (some ⟨bx + 1 + 1 + 1 + 1, 0, none⟩), .pointer (some ⟨bx, 0, none⟩)]⟩
set_option maxRecDepth 100000 in
set_option maxHeartbeats 2000000 in
theorem smanyr_any (key : ByteArray) (pb po most : Nat) (w : World) : Calls Tryz.prog 153 #[.string key, .pointer (some ⟨pb, po, none⟩), .int .i64 most, .func (.func 154) #[] #[], .func (.func 156) #[] #[], .func (.func 157) #[] #[]] w fun e w' => ∃ v : FVal, e = .returned v.val ∧ ManyRS w' w.heap.size key pb po most v ∧ Below w.heap.size w w' := by
  go_enter Tryz.func153, Tryz.ntmps153
  go_wp2
  obtain ⟨bx, hbx⟩ : ∃ bx, w.heap.size = bx := ⟨_, rfl⟩
  obtain ⟨V, hV⟩ : ∃ V, (((((((w.alloc (.cells #[.pointer (some ⟨pb, po, none⟩)] 241)).alloc (.cells #[.int .i64 most] 3)).alloc (.cells #[.func (.func 154) #[] #[]] 244)).alloc (.cells #[.func (.func 156) #[] #[]] 245)).alloc (.cells #[.func (.func 157) #[] #[]] 246)).alloc (.cells #[.string key, .bool false, .func (.func 227) #[] #[.pointer (some ⟨w.heap.size, 0, none⟩)], .func (.func 228) #[] #[.pointer (some ⟨w.heap.size, 0, none⟩), .pointer (some ⟨w.heap.size + 1, 0, none⟩), .pointer (some ⟨w.heap.size + 1 + 1, 0, none⟩)], .func (.func 230) #[] #[.pointer (some ⟨w.heap.size, 0, none⟩), .pointer (some ⟨w.heap.size + 1 + 1 + 1, 0, none⟩)], .func (.func 231) #[] #[.pointer (some ⟨w.heap.size + 1, 0, none⟩), .pointer (some ⟨w.heap.size + 1 + 1 + 1 + 1, 0, none⟩), .pointer (some ⟨w.heap.size, 0, none⟩)]] 172)).alloc (.cells #[.string key, .bool false, .func (.func 227) #[] #[.pointer (some ⟨w.heap.size, 0, none⟩)], .func (.func 228) #[] #[.pointer (some ⟨w.heap.size, 0, none⟩), .pointer (some ⟨w.heap.size + 1, 0, none⟩), .pointer (some ⟨w.heap.size + 1 + 1, 0, none⟩)], .func (.func 230) #[] #[.pointer (some ⟨w.heap.size, 0, none⟩), .pointer (some ⟨w.heap.size + 1 + 1 + 1, 0, none⟩)], .func (.func 231) #[] #[.pointer (some ⟨w.heap.size + 1, 0, none⟩), .pointer (some ⟨w.heap.size + 1 + 1 + 1 + 1, 0, none⟩), .pointer (some ⟨w.heap.size, 0, none⟩)]] 172)) = V := ⟨_, rfl⟩
  have VB : Below w.heap.size w V := by rw [← hV]; (repeat (first | exact Below.refl _ _ | assumption | (refine bdrew ?_) | (refine bdrewN ?_ _) | (refine balloc ?_ _) | (refine bset ?_ (by first | omega | (simp; done) | (simp; omega)) _) | (refine bnext ?_ (by assumption))))
  have V0 : V.heap[bx]? = some (.cells #[.pointer (some ⟨pb, po, none⟩)] 241 (0, 0)) := by rw [← hV, ← hbx]; exact (block_alloc (block_alloc (block_alloc (block_alloc (block_alloc (block_alloc (heap_alloc_new _ _) _) _) _) _) _) _)
  have V1 : V.heap[bx + 1]? = some (.cells #[.int .i64 most] 3 (0, 0)) := by rw [← hV, ← hbx]; exact (block_alloc (block_alloc (block_alloc (block_alloc (block_alloc (alloc_new_at _ (by simp)) _) _) _) _) _)
  have V2 : V.heap[bx + 1 + 1]? = some (.cells #[.func (.func 154) #[] #[]] 244 (0, 0)) := by rw [← hV, ← hbx]; exact (block_alloc (block_alloc (block_alloc (block_alloc (alloc_new_at _ (by simp)) _) _) _) _)
  have V3 : V.heap[bx + 1 + 1 + 1]? = some (.cells #[.func (.func 156) #[] #[]] 245 (0, 0)) := by rw [← hV, ← hbx]; exact (block_alloc (block_alloc (block_alloc (alloc_new_at _ (by simp)) _) _) _)
  have V4 : V.heap[bx + 1 + 1 + 1 + 1]? = some (.cells #[.func (.func 157) #[] #[]] 246 (0, 0)) := by rw [← hV, ← hbx]; exact (block_alloc (block_alloc (alloc_new_at _ (by simp)) _) _)
  have V5 : V.heap[bx + 1 + 1 + 1 + 1 + 1]? = some (.cells #[.string key, .bool false, .func (.func 227) #[] #[.pointer (some ⟨bx, 0, none⟩)], .func (.func 228) #[] #[.pointer (some ⟨bx, 0, none⟩), .pointer (some ⟨bx + 1, 0, none⟩), .pointer (some ⟨bx + 1 + 1, 0, none⟩)], .func (.func 230) #[] #[.pointer (some ⟨bx, 0, none⟩), .pointer (some ⟨bx + 1 + 1 + 1, 0, none⟩)], .func (.func 231) #[] #[.pointer (some ⟨bx + 1, 0, none⟩), .pointer (some ⟨bx + 1 + 1 + 1 + 1, 0, none⟩), .pointer (some ⟨bx, 0, none⟩)]] 172 (0, 0)) := by rw [← hV, ← hbx]; exact block_alloc (alloc_new_at _ (by simp)) _
  have d : ∀ o, V.cell? ⟨bx + 1 + 1 + 1 + 1 + 1, o, none⟩ = _ := block_cell V5
  rw [hV]
  simp only [hbx]
  clear hV
  refine bodyPost_ret (v := .agg #[.string key, .bool false, .func (.func 227) #[] #[.pointer (some ⟨bx, 0, none⟩)], .func (.func 228) #[] #[.pointer (some ⟨bx, 0, none⟩), .pointer (some ⟨bx + 1, 0, none⟩), .pointer (some ⟨bx + 1 + 1, 0, none⟩)], .func (.func 230) #[] #[.pointer (some ⟨bx, 0, none⟩), .pointer (some ⟨bx + 1 + 1 + 1, 0, none⟩)], .func (.func 231) #[] #[.pointer (some ⟨bx + 1, 0, none⟩), .pointer (some ⟨bx + 1 + 1 + 1 + 1, 0, none⟩), .pointer (some ⟨bx, 0, none⟩)]]) ?_ rfl ⟨⟨key, false, 227, #[.pointer (some ⟨bx, 0, none⟩)], 228, #[.pointer (some ⟨bx, 0, none⟩), .pointer (some ⟨bx + 1, 0, none⟩), .pointer (some ⟨bx + 1 + 1, 0, none⟩)], 230, #[.pointer (some ⟨bx, 0, none⟩), .pointer (some ⟨bx + 1 + 1 + 1, 0, none⟩)], 231, #[.pointer (some ⟨bx + 1, 0, none⟩), .pointer (some ⟨bx + 1 + 1 + 1 + 1, 0, none⟩), .pointer (some ⟨bx, 0, none⟩)]⟩, rfl, ⟨bx, by omega, ⟨V0, V1, V2, V3, V4⟩, rfl⟩, by rw [← hbx]; exact VB⟩
  simp [results, Tryz.results153, go_sem, d]
set_option maxRecDepth 100000 in
theorem sdigests_any (key : ByteArray) (pb po most : Nat) (w : World) : Calls Tryz.prog 145 #[.string key, .pointer (some ⟨pb, po, none⟩), .int .i64 most] w fun e w' => ∃ v : FVal, e = .returned v.val ∧ ManySS w' w.heap.size key pb po most v ∧ Below w.heap.size w w' := by
  go_enter Tryz.func145, Tryz.ntmps145
  go_wp2_with fail
  refine (smanys_any key pb po most _).mono ?_
  rintro e w1 ⟨v, rfl, ⟨bx, hbx, hat, hv⟩, hb⟩
  have HAT := Lib.hid hat
  have HBX : Hid (w.heap.size < bx) := Lib.hid (by simp at hbx; omega)
  have HVV := Lib.hid hv
  have HB : Hid (Below w.heap.size w w1) := Lib.hid (bnext (balloc (Below.refl _ _) _) hb)
  have hblk := (hb.block w.heap.size (by simp)).trans (heap_alloc_new w _)
  have hfr : ∀ o, w1.frozen? ⟨w.heap.size, o, none⟩ = false := block_free hblk
  have hcl : ∀ o, w1.cell? ⟨w.heap.size, o, none⟩ = _ := block_cell hblk
  have HBK := Lib.hid hblk
  clear hat hb hblk hbx hv
  unfold FVal.val
  go_wp2
  obtain ⟨V, hV⟩ : ∃ V, (((((w1.setCell ⟨w.heap.size, 0, none⟩ (.string v.key)).setCell ⟨w.heap.size, 1, none⟩ (.bool v.must)).setCell ⟨w.heap.size, 2, none⟩ (.func (.func v.ef) #[] v.ec)).setCell ⟨w.heap.size, 3, none⟩ (.func (.func v.mf) #[] v.mc)).setCell ⟨w.heap.size, 4, none⟩ (.func (.func v.pf) #[] v.pc)).setCell ⟨w.heap.size, 5, none⟩ (.func (.func v.gf) #[] v.gc) = V := ⟨_, rfl⟩
  have hV5 := block_setCell (block_setCell (block_setCell (block_setCell (block_setCell (block_setCell HBK.out (o := 0) (.string v.key)) (o := 1) (.bool v.must)) (o := 2) (.func (.func v.ef) #[] v.ec)) (o := 3) (.func (.func v.mf) #[] v.mc)) (o := 4) (.func (.func v.pf) #[] v.pc)) (o := 5) (.func (.func v.gf) #[] v.gc)
  rw [hV] at hV5
  have d : ∀ o, V.cell? ⟨w.heap.size, o, none⟩ = _ := block_cell hV5
  have hbut : ∀ k : Nat, k ≠ w.heap.size → V.heap[k]? = w1.heap[k]? := fun k hk => by
    rw [← hV, Below.heap_setCell _ _ _ _ hk, Below.heap_setCell _ _ _ _ hk, Below.heap_setCell _ _ _ _ hk, Below.heap_setCell _ _ _ _ hk, Below.heap_setCell _ _ _ _ hk, Below.heap_setCell _ _ _ _ hk]
  have hbel : Below w.heap.size w V := by
    rw [← hV]
    exact (((((HB.out.setCell (Nat.le_refl _) _).setCell (Nat.le_refl _) _).setCell (Nat.le_refl _) _).setCell (Nat.le_refl _) _).setCell (Nat.le_refl _) _).setCell (Nat.le_refl _) _
  rw [hV]
  refine bodyPost_ret (v := v.val) ?_ rfl ⟨v, rfl, ⟨bx, by have := HBX.out; omega, HAT.out.but HBX.out hbut, HVV.out⟩, hbel⟩
  simp [results, Tryz.results145, go_sem, d, FVal.val]
theorem says_mustV (w : World) (l : List FVal) : SaysF w l 177 #[] (fun i => (fth l i).must) := by
  refine ⟨enters_of Tryz.func177 (by kernel_rfl) rfl, fun i hi w' hb => ?_⟩
  show Calls Tryz.prog 177 (#[(fth l i).val] ++ #[]) w' (fun e w'' => e = .returned (.bool ((fth l i).must)) ∧ Below w'.heap.size w' w'')
  generalize fth l i = v
  show Calls Tryz.prog 177 #[v.val] w' _
  unfold FVal.val
  go_enter Tryz.func177, Tryz.ntmps177
  go_wp2
  go_ret
  exact ⟨rfl, by (repeat (first | exact Below.refl _ _ | assumption | (refine bdrew ?_) | (refine bdrewN ?_ _) | (refine balloc ?_ _) | (refine bset ?_ (by first | omega | (simp; done) | (simp; omega)) _) | (refine bnext ?_ (by assumption))))⟩
def ObjS (w : World) (lo : Nat) (key : ByteArray) (must : Bool) (g n c : Nat) (v : FVal) : Prop := ∃ bx, lo ≤ bx ∧ w.heap[bx]? = some (.cells #[.slice (some ⟨g, 0, none⟩) n c] 113 (0, 0)) ∧ v = ⟨key, must, 178, #[.pointer (some ⟨bx, 0, none⟩)], 180, #[.pointer (some ⟨bx, 0, none⟩)], 181, #[.pointer (some ⟨bx, 0, none⟩)], 182, #[.pointer (some ⟨bx, 0, none⟩)]⟩
set_option maxRecDepth 100000 in
set_option maxHeartbeats 2000000 in
theorem sobject_any (key : ByteArray) (g c : Nat) (l : List FVal) (w : World) (hF : FRow w g l) (hn : len l ≤ 1000) :
    Calls Tryz.prog 107 #[.string key, .slice (some ⟨g, 0, none⟩) (len l) c] w fun e w' => ∃ v : FVal, e = .returned v.val ∧ ObjS w' w.heap.size key (l.any fun v => v.must) g (len l) c v ∧ Below w.heap.size w w' := by
  have HF := Lib.hid hF
  have eg := (says_mustV w l).1
  clear hF
  go_enter Tryz.func107, Tryz.ntmps107
  go_wp2_with fail
  obtain ⟨bx, hbx⟩ : ∃ bx, w.heap.size = bx := ⟨_, rfl⟩
  obtain ⟨V1, hV1⟩ : ∃ V1, (w.alloc (.cells #[.slice (some ⟨g, 0, none⟩) (len l) c] 113)).alloc (.cells #[.string ⟨#[]⟩, .bool false, .nilFunc, .nilFunc, .nilFunc, .nilFunc] 172) = V1 := ⟨_, rfl⟩
  have HB1 : Hid (Below w.heap.size w V1) := Lib.hid (by rw [← hV1]; (repeat (first | exact Below.refl _ _ | assumption | (refine bdrew ?_) | (refine bdrewN ?_ _) | (refine balloc ?_ _) | (refine bset ?_ (by first | omega | (simp; done) | (simp; omega)) _) | (refine bnext ?_ (by assumption)))))
  have HX1 : Hid (V1.heap[bx]? = some (.cells #[.slice (some ⟨g, 0, none⟩) (len l) c] 113 (0, 0))) := Lib.hid (by rw [← hV1, ← hbx]; exact block_alloc (heap_alloc_new _ _) _)
  have HT1 : Hid (V1.heap[bx + 1]? = some (.cells #[.string ⟨#[]⟩, .bool false, .nilFunc, .nilFunc, .nilFunc, .nilFunc] 172 (0, 0))) := Lib.hid (by rw [← hV1, ← hbx]; exact alloc_new_at _ (by simp))
  rw [hbx]
  try rw [hV1]
  have HBX := Lib.hid hbx
  clear hV1 hbx
  refine (containsf_any (some ⟨g, 0, none⟩) c l 177 #[] _ V1 (HF.out.below HB1.out).flds hn (says_mustV _ l)).mono ?_
  rintro e w2 ⟨q, rfl, hq, hb2⟩
  have HQ : Hid (q = l.any fun v => v.must) := Lib.hid (by
    rw [Bool.eq_iff_iff, hq, List.any_eq_true]
    constructor
    · rintro ⟨i, hi, h⟩
      have hi' : i < l.length := hi
      exact ⟨l[i], List.getElem_mem _, by rw [← fth_eq l i hi']; exact h⟩
    · rintro ⟨x, hx, h⟩
      obtain ⟨i, hi, rfl⟩ := List.getElem_of_mem hx
      exact ⟨i, hi, by rw [fth_eq l i hi]; exact h⟩)
  have HB2 := Lib.hid hb2
  have HX2 : Hid (w2.heap[bx]? = some (.cells #[.slice (some ⟨g, 0, none⟩) (len l) c] 113 (0, 0))) := Lib.hid ((hb2.block _ (lt_of_block HX1.out)).trans HX1.out)
  have hT2 : w2.heap[bx + 1]? = some (.cells #[.string ⟨#[]⟩, .bool false, .nilFunc, .nilFunc, .nilFunc, .nilFunc] 172 (0, 0)) := (hb2.block _ (lt_of_block HT1.out)).trans HT1.out
  have HT2 := Lib.hid hT2
  have hfr : ∀ o, w2.frozen? ⟨bx + 1, o, none⟩ = false := block_free hT2
  have hcl : ∀ o, w2.cell? ⟨bx + 1, o, none⟩ = _ := block_cell hT2
  have lx : bx < w2.heap.size := lt_of_block HX2.out
  clear hb2 hq hT2
  go_wp2
  obtain ⟨V, hV⟩ : ∃ V, ((((((w2.setCell ⟨bx + 1, 0, none⟩ (.string key)).setCell ⟨bx + 1, 1, none⟩ (.bool q)).setCell ⟨bx + 1, 2, none⟩ (.func (.func 178) #[] #[.pointer (some ⟨bx, 0, none⟩)])).setCell ⟨bx + 1, 3, none⟩ (.func (.func 180) #[] #[.pointer (some ⟨bx, 0, none⟩)])).setCell ⟨bx + 1, 4, none⟩ (.func (.func 181) #[] #[.pointer (some ⟨bx, 0, none⟩)])).setCell ⟨bx + 1, 5, none⟩ (.func (.func 182) #[] #[.pointer (some ⟨bx, 0, none⟩)])) = V := ⟨_, rfl⟩
  have hV5 := (block_setCell (block_setCell (block_setCell (block_setCell (block_setCell (block_setCell HT2.out (o := 0) (.string key)) (o := 1) (.bool q)) (o := 2) (.func (.func 178) #[] #[.pointer (some ⟨bx, 0, none⟩)])) (o := 3) (.func (.func 180) #[] #[.pointer (some ⟨bx, 0, none⟩)])) (o := 4) (.func (.func 181) #[] #[.pointer (some ⟨bx, 0, none⟩)])) (o := 5) (.func (.func 182) #[] #[.pointer (some ⟨bx, 0, none⟩)]))
  rw [hV] at hV5
  have d : ∀ o, V.cell? ⟨bx + 1, o, none⟩ = _ := block_cell hV5
  have hne : bx ≠ bx + 1 := by omega
  have VX : V.heap[bx]? = some (.cells #[.slice (some ⟨g, 0, none⟩) (len l) c] 113 (0, 0)) := by
    rw [← hV, Below.heap_setCell _ _ _ _ hne, Below.heap_setCell _ _ _ _ hne, Below.heap_setCell _ _ _ _ hne, Below.heap_setCell _ _ _ _ hne, Below.heap_setCell _ _ _ _ hne, Below.heap_setCell _ _ _ _ hne]; exact HX2.out
  have hwx := HBX.out
  have HBW : Below bx w w2 := by rw [← hwx]; exact bnext HB1.out HB2.out
  have hbel : Below w.heap.size w V := by
    rw [← hV, hwx]
    exact ((((((HBW.setCell (Nat.le_succ_of_le (Nat.le_refl _)) _).setCell (Nat.le_succ_of_le (Nat.le_refl _)) _).setCell (Nat.le_succ_of_le (Nat.le_refl _)) _).setCell (Nat.le_succ_of_le (Nat.le_refl _)) _).setCell (Nat.le_succ_of_le (Nat.le_refl _)) _).setCell (Nat.le_succ_of_le (Nat.le_refl _)) _)
  rw [hV]
  refine bodyPost_ret (v := .agg #[.string key, .bool q, .func (.func 178) #[] #[.pointer (some ⟨bx, 0, none⟩)], .func (.func 180) #[] #[.pointer (some ⟨bx, 0, none⟩)], .func (.func 181) #[] #[.pointer (some ⟨bx, 0, none⟩)], .func (.func 182) #[] #[.pointer (some ⟨bx, 0, none⟩)]]) ?_ rfl ⟨⟨key, q, 178, #[.pointer (some ⟨bx, 0, none⟩)], 180, #[.pointer (some ⟨bx, 0, none⟩)], 181, #[.pointer (some ⟨bx, 0, none⟩)], 182, #[.pointer (some ⟨bx, 0, none⟩)]⟩, rfl, ⟨bx, by omega, VX, by rw [← HQ.out]⟩, hbel⟩
  simp [results, Tryz.results107, go_sem, d]
end Go.Proofs.YtihiaopilnjonaaGreatDoor
namespace Go.Proofs.YtihiaopilnjonaaGreatDoor
open Go.RowKit
set_option linter.unusedSimpArgs false
set_option linter.unusedVariables false
def MadeG (P : World → FVal → Prop) (w : World) (e : Ending) (w' : World) : Prop := ∃ u, e = .returned u ∧ ∃ v : FVal, u = v.val ∧ P w' v ∧ Below w.heap.size w w'
def Lasts (P : World → FVal → Prop) : Prop := ∀ w w' v, Below w.heap.size w w' → P w v → P w' v
def LastsR (P : World → List FVal → Prop) : Prop := ∀ w w' l, Below w.heap.size w w' → P w l → P w' l
def RowG (P : World → List FVal → Prop) (u : Value) (w : World) : Prop := ∃ g c, ∃ l : List FVal, u = .slice (some ⟨g, 0, none⟩) (len l) c ∧ len l ≤ c ∧ FRow w g l ∧ P w l
theorem RowG.below {P : World → List FVal → Prop} (hP : LastsR P) {u : Value} {w w' : World} (h : RowG P u w) (hb : Below w.heap.size w w') : RowG P u w' := by
  obtain ⟨g, c, l, hu, hc, hF, hp⟩ := h
  exact ⟨g, c, l, hu, hc, hF.below hb, hP _ _ _ hb hp⟩
def RowIs (P : World → List FVal → Prop) (w : World) (e : Ending) (w' : World) : Prop := ∃ u, e = .returned u ∧ RowG P u w' ∧ Below w.heap.size w w'
def RowPart (P0 P1 P2 P3 P4 : World → FVal → Prop) : World → List FVal → Prop := fun w l => ∃ x0 x1 x2 x3 x4, l = [x0, x1, x2, x3, x4] ∧ P0 w x0 ∧ P1 w x1 ∧ P2 w x2 ∧ P3 w x3 ∧ P4 w x4
set_option maxRecDepth 100000 in
set_option maxHeartbeats 8000000 in
theorem gofPart_any (sb so : Nat) (w : World) (P0 P1 P2 P3 P4 : World → FVal → Prop)
    (hp0 : ∀ w', Below w.heap.size w w' → Calls Tryz.prog 109 #[.string ⟨#[102]⟩, .pointer (some ⟨sb, so + 2, none⟩)] w' (MadeG P0 w'))
    (hP0 : Lasts P0)
    (hp1 : ∀ w', Below w.heap.size w w' → Calls Tryz.prog 109 #[.string ⟨#[107]⟩, .pointer (some ⟨sb, so + 4, none⟩)] w' (MadeG P1 w'))
    (hP1 : Lasts P1)
    (hp2 : ∀ w', Below w.heap.size w w' → Calls Tryz.prog 109 #[.string ⟨#[108]⟩, .pointer (some ⟨sb, so + 3, none⟩)] w' (MadeG P2 w'))
    (hP2 : Lasts P2)
    (hp3 : ∀ w', Below w.heap.size w w' → Calls Tryz.prog 111 #[.string ⟨#[114]⟩, .pointer (some ⟨sb, so, none⟩)] w' (MadeG P3 w'))
    (hP3 : Lasts P3)
    (hp4 : ∀ w', Below w.heap.size w w' → Calls Tryz.prog 109 #[.string ⟨#[119]⟩, .pointer (some ⟨sb, so + 1, none⟩)] w' (MadeG P4 w'))
    (hP4 : Lasts P4) :
    Calls Tryz.prog 62 #[.pointer (some ⟨sb, so, none⟩)] w (RowIs (RowPart P0 P1 P2 P3 P4) w) := by
  have HP0 := Lib.hid hp0
  have HP1 := Lib.hid hp1
  have HP2 := Lib.hid hp2
  have HP3 := Lib.hid hp3
  have HP4 := Lib.hid hp4
  clear hp0 hp1 hp2 hp3 hp4
  go_enter Tryz.func62, Tryz.ntmps62
  go_upto_region 1 with fail
  refine wp_region_tail 20 1000 (none) (phis [fun u _ => u = (.pointer (some ⟨sb, so, none⟩)), fun u _ => u = (.pointer (some ⟨sb, so, none⟩)), fun u _ => u = (.pointer (some ⟨sb, so + 2, none⟩)), fun u w' => ∃ v : FVal, u = v.val ∧ P0 w' v, fun u _ => u = (.pointer (some ⟨sb, so, none⟩)), fun u _ => u = (.pointer (some ⟨sb, so, none⟩)), fun u _ => u = (.pointer (some ⟨sb, so + 4, none⟩)), fun u w' => ∃ v : FVal, u = v.val ∧ P1 w' v, fun u _ => u = (.pointer (some ⟨sb, so, none⟩)), fun u _ => u = (.pointer (some ⟨sb, so, none⟩)), fun u _ => u = (.pointer (some ⟨sb, so + 3, none⟩)), fun u w' => ∃ v : FVal, u = v.val ∧ P2 w' v, fun u _ => u = (.pointer (some ⟨sb, so, none⟩)), fun u _ => u = (.pointer (some ⟨sb, so, none⟩)), fun u _ => u = (.pointer (some ⟨sb, so, none⟩)), fun u w' => ∃ v : FVal, u = v.val ∧ P3 w' v, fun u _ => u = (.pointer (some ⟨sb, so, none⟩)), fun u _ => u = (.pointer (some ⟨sb, so, none⟩)), fun u _ => u = (.pointer (some ⟨sb, so + 1, none⟩)), fun u w' => ∃ v : FVal, u = v.val ∧ P4 w' v]) rfl (by kernel_rfl) (by kernel_rfl) (mono_of ⟨mono_eq, mono_eq, mono_eq, ?m3, mono_eq, mono_eq, mono_eq, ?m7, mono_eq, mono_eq, mono_eq, ?m11, mono_eq, mono_eq, mono_eq, ?m15, mono_eq, mono_eq, mono_eq, ?m19, trivial⟩) (steps_of 20 ⟨?s0, ?s1, ?s2, ?s3, ?s4, ?s5, ?s6, ?s7, ?s8, ?s9, ?s10, ?s11, ?s12, ?s13, ?s14, ?s15, ?s16, ?s17, ?s18, ?s19, trivial⟩) ?_
  case m3 =>
    exact ⟨fun u w1 w2 h ⟨v, h1, h2⟩ => ⟨v, h1, hP0 _ _ _ h h2⟩, fun _ u w1 w2 h ⟨v, h1, h2⟩ => ⟨v, h1, hP0 _ _ _ (extB_none h) h2⟩⟩
  case m7 =>
    exact ⟨fun u w1 w2 h ⟨v, h1, h2⟩ => ⟨v, h1, hP1 _ _ _ h h2⟩, fun _ u w1 w2 h ⟨v, h1, h2⟩ => ⟨v, h1, hP1 _ _ _ (extB_none h) h2⟩⟩
  case m11 =>
    exact ⟨fun u w1 w2 h ⟨v, h1, h2⟩ => ⟨v, h1, hP2 _ _ _ h h2⟩, fun _ u w1 w2 h ⟨v, h1, h2⟩ => ⟨v, h1, hP2 _ _ _ (extB_none h) h2⟩⟩
  case m15 =>
    exact ⟨fun u w1 w2 h ⟨v, h1, h2⟩ => ⟨v, h1, hP3 _ _ _ h h2⟩, fun _ u w1 w2 h ⟨v, h1, h2⟩ => ⟨v, h1, hP3 _ _ _ (extB_none h) h2⟩⟩
  case m19 =>
    exact ⟨fun u w1 w2 h ⟨v, h1, h2⟩ => ⟨v, h1, hP4 _ _ _ h h2⟩, fun _ u w1 w2 h ⟨v, h1, h2⟩ => ⟨v, h1, hP4 _ _ _ (extB_none h) h2⟩⟩
  case s0 =>
    refine step_val (v := (.pointer (some ⟨sb, so, none⟩))) (fun av wv hE hS hO hD => ?_) (fun _ => rfl)
    have h0 : av.eval (.tmp 0) = (.pointer (some ⟨sb, so, none⟩)) := hO.2.2 0 rfl
    have f0 := (ev_form av 0).symm.trans h0
    refine ⟨rfl, ?_⟩
    simp [go_sem, f0]
  case s1 =>
    refine step_val (v := (.pointer (some ⟨sb, so, none⟩))) (fun av wv hE hS hO hD => ?_) (fun _ => rfl)
    have d3 : av.eval (.tmp 3) = (.pointer (some ⟨sb, so, none⟩)) := hD.1 rfl _ rfl
    have f3 := (ev_form av 3).symm.trans d3
    refine ⟨rfl, ?_⟩
    simp [go_sem, f3]
  case s2 =>
    refine step_val (v := (.pointer (some ⟨sb, so + 2, none⟩))) (fun av wv hE hS hO hD => ?_) (fun _ => rfl)
    have d4 : av.eval (.tmp 4) = (.pointer (some ⟨sb, so, none⟩)) := hD.1 rfl _ rfl
    have f4 := (ev_form av 4).symm.trans d4
    refine ⟨rfl, ?_⟩
    simp [go_sem, f4]
  case s3 =>
    refine step_wp (fun av wv hE hS hO hD => ?_)
    have d5 : av.eval (.tmp 5) = (.pointer (some ⟨sb, so + 2, none⟩)) := hD.1 rfl _ rfl
    have f5 := (ev_form av 5).symm.trans d5
    refine ⟨rfl, ?_⟩
    refine wp_of_callP (f := 109) (args := #[.string ⟨#[102]⟩, .pointer (some ⟨sb, so + 2, none⟩)]) (by simp [go_sem, f5]) (HP0.out wv (of_drew hE)) (fun u w2 ⟨v, hu, hs, hb⟩ => ⟨u, rfl, es_of_ext hb, v, hu, hs⟩)
  case s4 =>
    refine step_val (v := (.pointer (some ⟨sb, so, none⟩))) (fun av wv hE hS hO hD => ?_) (fun _ => rfl)
    have h0 : av.eval (.tmp 0) = (.pointer (some ⟨sb, so, none⟩)) := hO.2.2 0 rfl
    have f0 := (ev_form av 0).symm.trans h0
    refine ⟨rfl, ?_⟩
    simp [go_sem, f0]
  case s5 =>
    refine step_val (v := (.pointer (some ⟨sb, so, none⟩))) (fun av wv hE hS hO hD => ?_) (fun _ => rfl)
    have d7 : av.eval (.tmp 7) = (.pointer (some ⟨sb, so, none⟩)) := hD.1 rfl _ rfl
    have f7 := (ev_form av 7).symm.trans d7
    refine ⟨rfl, ?_⟩
    simp [go_sem, f7]
  case s6 =>
    refine step_val (v := (.pointer (some ⟨sb, so + 4, none⟩))) (fun av wv hE hS hO hD => ?_) (fun _ => rfl)
    have d8 : av.eval (.tmp 8) = (.pointer (some ⟨sb, so, none⟩)) := hD.1 rfl _ rfl
    have f8 := (ev_form av 8).symm.trans d8
    refine ⟨rfl, ?_⟩
    simp [go_sem, f8]
  case s7 =>
    refine step_wp (fun av wv hE hS hO hD => ?_)
    have d9 : av.eval (.tmp 9) = (.pointer (some ⟨sb, so + 4, none⟩)) := hD.1 rfl _ rfl
    have f9 := (ev_form av 9).symm.trans d9
    refine ⟨rfl, ?_⟩
    refine wp_of_callP (f := 109) (args := #[.string ⟨#[107]⟩, .pointer (some ⟨sb, so + 4, none⟩)]) (by simp [go_sem, f9]) (HP1.out wv (of_drew hE)) (fun u w2 ⟨v, hu, hs, hb⟩ => ⟨u, rfl, es_of_ext hb, v, hu, hs⟩)
  case s8 =>
    refine step_val (v := (.pointer (some ⟨sb, so, none⟩))) (fun av wv hE hS hO hD => ?_) (fun _ => rfl)
    have h0 : av.eval (.tmp 0) = (.pointer (some ⟨sb, so, none⟩)) := hO.2.2 0 rfl
    have f0 := (ev_form av 0).symm.trans h0
    refine ⟨rfl, ?_⟩
    simp [go_sem, f0]
  case s9 =>
    refine step_val (v := (.pointer (some ⟨sb, so, none⟩))) (fun av wv hE hS hO hD => ?_) (fun _ => rfl)
    have d11 : av.eval (.tmp 11) = (.pointer (some ⟨sb, so, none⟩)) := hD.1 rfl _ rfl
    have f11 := (ev_form av 11).symm.trans d11
    refine ⟨rfl, ?_⟩
    simp [go_sem, f11]
  case s10 =>
    refine step_val (v := (.pointer (some ⟨sb, so + 3, none⟩))) (fun av wv hE hS hO hD => ?_) (fun _ => rfl)
    have d12 : av.eval (.tmp 12) = (.pointer (some ⟨sb, so, none⟩)) := hD.1 rfl _ rfl
    have f12 := (ev_form av 12).symm.trans d12
    refine ⟨rfl, ?_⟩
    simp [go_sem, f12]
  case s11 =>
    refine step_wp (fun av wv hE hS hO hD => ?_)
    have d13 : av.eval (.tmp 13) = (.pointer (some ⟨sb, so + 3, none⟩)) := hD.1 rfl _ rfl
    have f13 := (ev_form av 13).symm.trans d13
    refine ⟨rfl, ?_⟩
    refine wp_of_callP (f := 109) (args := #[.string ⟨#[108]⟩, .pointer (some ⟨sb, so + 3, none⟩)]) (by simp [go_sem, f13]) (HP2.out wv (of_drew hE)) (fun u w2 ⟨v, hu, hs, hb⟩ => ⟨u, rfl, es_of_ext hb, v, hu, hs⟩)
  case s12 =>
    refine step_val (v := (.pointer (some ⟨sb, so, none⟩))) (fun av wv hE hS hO hD => ?_) (fun _ => rfl)
    have h0 : av.eval (.tmp 0) = (.pointer (some ⟨sb, so, none⟩)) := hO.2.2 0 rfl
    have f0 := (ev_form av 0).symm.trans h0
    refine ⟨rfl, ?_⟩
    simp [go_sem, f0]
  case s13 =>
    refine step_val (v := (.pointer (some ⟨sb, so, none⟩))) (fun av wv hE hS hO hD => ?_) (fun _ => rfl)
    have d15 : av.eval (.tmp 15) = (.pointer (some ⟨sb, so, none⟩)) := hD.1 rfl _ rfl
    have f15 := (ev_form av 15).symm.trans d15
    refine ⟨rfl, ?_⟩
    simp [go_sem, f15]
  case s14 =>
    refine step_val (v := (.pointer (some ⟨sb, so, none⟩))) (fun av wv hE hS hO hD => ?_) (fun _ => rfl)
    have d16 : av.eval (.tmp 16) = (.pointer (some ⟨sb, so, none⟩)) := hD.1 rfl _ rfl
    have f16 := (ev_form av 16).symm.trans d16
    refine ⟨rfl, ?_⟩
    simp [go_sem, f16]
  case s15 =>
    refine step_wp (fun av wv hE hS hO hD => ?_)
    have d17 : av.eval (.tmp 17) = (.pointer (some ⟨sb, so, none⟩)) := hD.1 rfl _ rfl
    have f17 := (ev_form av 17).symm.trans d17
    refine ⟨rfl, ?_⟩
    refine wp_of_callP (f := 111) (args := #[.string ⟨#[114]⟩, .pointer (some ⟨sb, so, none⟩)]) (by simp [go_sem, f17]) (HP3.out wv (of_drew hE)) (fun u w2 ⟨v, hu, hs, hb⟩ => ⟨u, rfl, es_of_ext hb, v, hu, hs⟩)
  case s16 =>
    refine step_val (v := (.pointer (some ⟨sb, so, none⟩))) (fun av wv hE hS hO hD => ?_) (fun _ => rfl)
    have h0 : av.eval (.tmp 0) = (.pointer (some ⟨sb, so, none⟩)) := hO.2.2 0 rfl
    have f0 := (ev_form av 0).symm.trans h0
    refine ⟨rfl, ?_⟩
    simp [go_sem, f0]
  case s17 =>
    refine step_val (v := (.pointer (some ⟨sb, so, none⟩))) (fun av wv hE hS hO hD => ?_) (fun _ => rfl)
    have d19 : av.eval (.tmp 19) = (.pointer (some ⟨sb, so, none⟩)) := hD.1 rfl _ rfl
    have f19 := (ev_form av 19).symm.trans d19
    refine ⟨rfl, ?_⟩
    simp [go_sem, f19]
  case s18 =>
    refine step_val (v := (.pointer (some ⟨sb, so + 1, none⟩))) (fun av wv hE hS hO hD => ?_) (fun _ => rfl)
    have d20 : av.eval (.tmp 20) = (.pointer (some ⟨sb, so, none⟩)) := hD.1 rfl _ rfl
    have f20 := (ev_form av 20).symm.trans d20
    refine ⟨rfl, ?_⟩
    simp [go_sem, f20]
  case s19 =>
    refine step_wp (fun av wv hE hS hO hD => ?_)
    have d21 : av.eval (.tmp 21) = (.pointer (some ⟨sb, so + 1, none⟩)) := hD.1 rfl _ rfl
    have f21 := (ev_form av 21).symm.trans d21
    refine ⟨rfl, ?_⟩
    refine wp_of_callP (f := 109) (args := #[.string ⟨#[119]⟩, .pointer (some ⟨sb, so + 1, none⟩)]) (by simp [go_sem, f21]) (HP4.out wv (of_drew hE)) (fun u w2 ⟨v, hu, hs, hb⟩ => ⟨u, rfl, es_of_ext hb, v, hu, hs⟩)
  intro a' w' hE hO hall
  have hA := act_of_outer (ds := [3, 4, 5, 6, 7, 8, 9, 10, 11, 12, 13, 14, 15, 16, 17, 18, 19, 20, 21, 22]) rfl hO (by kernel_rfl)
  have e3 : (fun u _ => u = (.pointer (some ⟨sb, so, none⟩))) (a'.eval (.tmp 3)) w' := hall.1 _ rfl
  have e4 : (fun u _ => u = (.pointer (some ⟨sb, so, none⟩))) (a'.eval (.tmp 4)) w' := hall.2.1 _ rfl
  have e5 : (fun u _ => u = (.pointer (some ⟨sb, so + 2, none⟩))) (a'.eval (.tmp 5)) w' := hall.2.2.1 _ rfl
  have e6 : (fun u w' => ∃ v : FVal, u = v.val ∧ P0 w' v) (a'.eval (.tmp 6)) w' := hall.2.2.2.1 _ rfl
  have e7 : (fun u _ => u = (.pointer (some ⟨sb, so, none⟩))) (a'.eval (.tmp 7)) w' := hall.2.2.2.2.1 _ rfl
  have e8 : (fun u _ => u = (.pointer (some ⟨sb, so, none⟩))) (a'.eval (.tmp 8)) w' := hall.2.2.2.2.2.1 _ rfl
  have e9 : (fun u _ => u = (.pointer (some ⟨sb, so + 4, none⟩))) (a'.eval (.tmp 9)) w' := hall.2.2.2.2.2.2.1 _ rfl
  have e10 : (fun u w' => ∃ v : FVal, u = v.val ∧ P1 w' v) (a'.eval (.tmp 10)) w' := hall.2.2.2.2.2.2.2.1 _ rfl
  have e11 : (fun u _ => u = (.pointer (some ⟨sb, so, none⟩))) (a'.eval (.tmp 11)) w' := hall.2.2.2.2.2.2.2.2.1 _ rfl
  have e12 : (fun u _ => u = (.pointer (some ⟨sb, so, none⟩))) (a'.eval (.tmp 12)) w' := hall.2.2.2.2.2.2.2.2.2.1 _ rfl
  have e13 : (fun u _ => u = (.pointer (some ⟨sb, so + 3, none⟩))) (a'.eval (.tmp 13)) w' := hall.2.2.2.2.2.2.2.2.2.2.1 _ rfl
  have e14 : (fun u w' => ∃ v : FVal, u = v.val ∧ P2 w' v) (a'.eval (.tmp 14)) w' := hall.2.2.2.2.2.2.2.2.2.2.2.1 _ rfl
  have e15 : (fun u _ => u = (.pointer (some ⟨sb, so, none⟩))) (a'.eval (.tmp 15)) w' := hall.2.2.2.2.2.2.2.2.2.2.2.2.1 _ rfl
  have e16 : (fun u _ => u = (.pointer (some ⟨sb, so, none⟩))) (a'.eval (.tmp 16)) w' := hall.2.2.2.2.2.2.2.2.2.2.2.2.2.1 _ rfl
  have e17 : (fun u _ => u = (.pointer (some ⟨sb, so, none⟩))) (a'.eval (.tmp 17)) w' := hall.2.2.2.2.2.2.2.2.2.2.2.2.2.2.1 _ rfl
  have e18 : (fun u w' => ∃ v : FVal, u = v.val ∧ P3 w' v) (a'.eval (.tmp 18)) w' := hall.2.2.2.2.2.2.2.2.2.2.2.2.2.2.2.1 _ rfl
  have e19 : (fun u _ => u = (.pointer (some ⟨sb, so, none⟩))) (a'.eval (.tmp 19)) w' := hall.2.2.2.2.2.2.2.2.2.2.2.2.2.2.2.2.1 _ rfl
  have e20 : (fun u _ => u = (.pointer (some ⟨sb, so, none⟩))) (a'.eval (.tmp 20)) w' := hall.2.2.2.2.2.2.2.2.2.2.2.2.2.2.2.2.2.1 _ rfl
  have e21 : (fun u _ => u = (.pointer (some ⟨sb, so + 1, none⟩))) (a'.eval (.tmp 21)) w' := hall.2.2.2.2.2.2.2.2.2.2.2.2.2.2.2.2.2.2.1 _ rfl
  have e22 : (fun u w' => ∃ v : FVal, u = v.val ∧ P4 w' v) (a'.eval (.tmp 22)) w' := hall.2.2.2.2.2.2.2.2.2.2.2.2.2.2.2.2.2.2.2.1 _ rfl
  obtain ⟨v6, hv6⟩ : ∃ v, a'.eval (.tmp 6) = v := ⟨_, rfl⟩
  rw [hv6] at e6
  obtain ⟨v10, hv10⟩ : ∃ v, a'.eval (.tmp 10) = v := ⟨_, rfl⟩
  rw [hv10] at e10
  obtain ⟨v14, hv14⟩ : ∃ v, a'.eval (.tmp 14) = v := ⟨_, rfl⟩
  rw [hv14] at e14
  obtain ⟨v18, hv18⟩ : ∃ v, a'.eval (.tmp 18) = v := ⟨_, rfl⟩
  rw [hv18] at e18
  obtain ⟨v22, hv22⟩ : ∃ v, a'.eval (.tmp 22) = v := ⟨_, rfl⟩
  rw [hv22] at e22
  simp only [List.foldl_cons, List.foldl_nil, Act.put, List.setIfInBounds_toArray, List.set_cons_succ, List.set_cons_zero, e3, e4, e5, hv6, e7, e8, e9, hv10, e11, e12, e13, hv14, e15, e16, e17, hv18, e19, e20, e21, hv22] at hA
  clear hO hall e3 e4 e5 hv6 e7 e8 e9 hv10 e11 e12 e13 hv14 e15 e16 e17 hv18 e19 e20 e21 hv22
  subst hA
  obtain ⟨x0, rfl, s0⟩ := e6
  obtain ⟨x1, rfl, s1⟩ := e10
  obtain ⟨x2, rfl, s2⟩ := e14
  obtain ⟨x3, rfl, s3⟩ := e18
  obtain ⟨x4, rfl, s4⟩ := e22
  have HSS : Hid (∀ o, RowPart P0 P1 P2 P3 P4 (w'.alloc o) [x0, x1, x2, x3, x4]) := Lib.hid (fun o => ⟨x0, x1, x2, x3, x4, rfl, hP0 _ _ _ (balloc (Below.refl _ _) _) s0, hP1 _ _ _ (balloc (Below.refl _ _) _) s1, hP2 _ _ _ (balloc (Below.refl _ _) _) s2, hP3 _ _ _ (balloc (Below.refl _ _) _) s3, hP4 _ _ _ (balloc (Below.refl _ _) _) s4⟩)
  have HBW : Hid (Below w.heap.size w w') := Lib.hid (of_drew hE)
  clear s0 s1 s2 s3 s4 hE
  unfold FVal.val
  go_wp2
  go_ret
  exact ⟨_, rfl, ⟨w'.heap.size, 5, [x0, x1, x2, x3, x4], rfl, Nat.le_refl _, ⟨Flds.block (l := [x0, x1, x2, x3, x4]) (heap_alloc_new w' _), _, heap_alloc_new w' _⟩, HSS.out _⟩, bnext HBW.out (balloc (Below.refl _ _) _)⟩
def RowSig (P0 P1 P2 : World → FVal → Prop) : World → List FVal → Prop := fun w l => ∃ x0 x1 x2, l = [x0, x1, x2] ∧ P0 w x0 ∧ P1 w x1 ∧ P2 w x2
set_option maxRecDepth 100000 in
set_option maxHeartbeats 8000000 in
theorem gofSig_any (sb so : Nat) (w : World) (P0 P1 P2 : World → FVal → Prop)
    (hp0 : ∀ w', Below w.heap.size w w' → Calls Tryz.prog 109 #[.string ⟨#[105]⟩, .pointer (some ⟨sb, so, none⟩)] w' (MadeG P0 w'))
    (hP0 : Lasts P0)
    (hp1 : ∀ w', Below w.heap.size w w' → Calls Tryz.prog 145 #[.string ⟨#[112]⟩, .pointer (some ⟨sb, so + 2, none⟩), .int .i64 16] w' (MadeG P1 w'))
    (hP1 : Lasts P1)
    (hp2 : ∀ w', Below w.heap.size w w' → Calls Tryz.prog 145 #[.string ⟨#[118]⟩, .pointer (some ⟨sb, so + 1, none⟩), .int .i64 67] w' (MadeG P2 w'))
    (hP2 : Lasts P2) :
    Calls Tryz.prog 108 #[.pointer (some ⟨sb, so, none⟩)] w (RowIs (RowSig P0 P1 P2) w) := by
  have HP0 := Lib.hid hp0
  have HP1 := Lib.hid hp1
  have HP2 := Lib.hid hp2
  clear hp0 hp1 hp2
  go_enter Tryz.func108, Tryz.ntmps108
  go_upto_region 1 with fail
  refine wp_region_tail 12 1000 (none) (phis [fun u _ => u = (.pointer (some ⟨sb, so, none⟩)), fun u _ => u = (.pointer (some ⟨sb, so, none⟩)), fun u _ => u = (.pointer (some ⟨sb, so, none⟩)), fun u w' => ∃ v : FVal, u = v.val ∧ P0 w' v, fun u _ => u = (.pointer (some ⟨sb, so, none⟩)), fun u _ => u = (.pointer (some ⟨sb, so, none⟩)), fun u _ => u = (.pointer (some ⟨sb, so + 2, none⟩)), fun u w' => ∃ v : FVal, u = v.val ∧ P1 w' v, fun u _ => u = (.pointer (some ⟨sb, so, none⟩)), fun u _ => u = (.pointer (some ⟨sb, so, none⟩)), fun u _ => u = (.pointer (some ⟨sb, so + 1, none⟩)), fun u w' => ∃ v : FVal, u = v.val ∧ P2 w' v]) rfl (by kernel_rfl) (by kernel_rfl) (mono_of ⟨mono_eq, mono_eq, mono_eq, ?m3, mono_eq, mono_eq, mono_eq, ?m7, mono_eq, mono_eq, mono_eq, ?m11, trivial⟩) (steps_of 12 ⟨?s0, ?s1, ?s2, ?s3, ?s4, ?s5, ?s6, ?s7, ?s8, ?s9, ?s10, ?s11, trivial⟩) ?_
  case m3 =>
    exact ⟨fun u w1 w2 h ⟨v, h1, h2⟩ => ⟨v, h1, hP0 _ _ _ h h2⟩, fun _ u w1 w2 h ⟨v, h1, h2⟩ => ⟨v, h1, hP0 _ _ _ (extB_none h) h2⟩⟩
  case m7 =>
    exact ⟨fun u w1 w2 h ⟨v, h1, h2⟩ => ⟨v, h1, hP1 _ _ _ h h2⟩, fun _ u w1 w2 h ⟨v, h1, h2⟩ => ⟨v, h1, hP1 _ _ _ (extB_none h) h2⟩⟩
  case m11 =>
    exact ⟨fun u w1 w2 h ⟨v, h1, h2⟩ => ⟨v, h1, hP2 _ _ _ h h2⟩, fun _ u w1 w2 h ⟨v, h1, h2⟩ => ⟨v, h1, hP2 _ _ _ (extB_none h) h2⟩⟩
  case s0 =>
    refine step_val (v := (.pointer (some ⟨sb, so, none⟩))) (fun av wv hE hS hO hD => ?_) (fun _ => rfl)
    have h0 : av.eval (.tmp 0) = (.pointer (some ⟨sb, so, none⟩)) := hO.2.2 0 rfl
    have f0 := (ev_form av 0).symm.trans h0
    refine ⟨rfl, ?_⟩
    simp [go_sem, f0]
  case s1 =>
    refine step_val (v := (.pointer (some ⟨sb, so, none⟩))) (fun av wv hE hS hO hD => ?_) (fun _ => rfl)
    have d3 : av.eval (.tmp 3) = (.pointer (some ⟨sb, so, none⟩)) := hD.1 rfl _ rfl
    have f3 := (ev_form av 3).symm.trans d3
    refine ⟨rfl, ?_⟩
    simp [go_sem, f3]
  case s2 =>
    refine step_val (v := (.pointer (some ⟨sb, so, none⟩))) (fun av wv hE hS hO hD => ?_) (fun _ => rfl)
    have d4 : av.eval (.tmp 4) = (.pointer (some ⟨sb, so, none⟩)) := hD.1 rfl _ rfl
    have f4 := (ev_form av 4).symm.trans d4
    refine ⟨rfl, ?_⟩
    simp [go_sem, f4]
  case s3 =>
    refine step_wp (fun av wv hE hS hO hD => ?_)
    have d5 : av.eval (.tmp 5) = (.pointer (some ⟨sb, so, none⟩)) := hD.1 rfl _ rfl
    have f5 := (ev_form av 5).symm.trans d5
    refine ⟨rfl, ?_⟩
    refine wp_of_callP (f := 109) (args := #[.string ⟨#[105]⟩, .pointer (some ⟨sb, so, none⟩)]) (by simp [go_sem, f5]) (HP0.out wv (of_drew hE)) (fun u w2 ⟨v, hu, hs, hb⟩ => ⟨u, rfl, es_of_ext hb, v, hu, hs⟩)
  case s4 =>
    refine step_val (v := (.pointer (some ⟨sb, so, none⟩))) (fun av wv hE hS hO hD => ?_) (fun _ => rfl)
    have h0 : av.eval (.tmp 0) = (.pointer (some ⟨sb, so, none⟩)) := hO.2.2 0 rfl
    have f0 := (ev_form av 0).symm.trans h0
    refine ⟨rfl, ?_⟩
    simp [go_sem, f0]
  case s5 =>
    refine step_val (v := (.pointer (some ⟨sb, so, none⟩))) (fun av wv hE hS hO hD => ?_) (fun _ => rfl)
    have d7 : av.eval (.tmp 7) = (.pointer (some ⟨sb, so, none⟩)) := hD.1 rfl _ rfl
    have f7 := (ev_form av 7).symm.trans d7
    refine ⟨rfl, ?_⟩
    simp [go_sem, f7]
  case s6 =>
    refine step_val (v := (.pointer (some ⟨sb, so + 2, none⟩))) (fun av wv hE hS hO hD => ?_) (fun _ => rfl)
    have d8 : av.eval (.tmp 8) = (.pointer (some ⟨sb, so, none⟩)) := hD.1 rfl _ rfl
    have f8 := (ev_form av 8).symm.trans d8
    refine ⟨rfl, ?_⟩
    simp [go_sem, f8]
  case s7 =>
    refine step_wp (fun av wv hE hS hO hD => ?_)
    have d9 : av.eval (.tmp 9) = (.pointer (some ⟨sb, so + 2, none⟩)) := hD.1 rfl _ rfl
    have f9 := (ev_form av 9).symm.trans d9
    refine ⟨rfl, ?_⟩
    refine wp_of_callP (f := 145) (args := #[.string ⟨#[112]⟩, .pointer (some ⟨sb, so + 2, none⟩), .int .i64 16]) (by simp [go_sem, f9]) (HP1.out wv (of_drew hE)) (fun u w2 ⟨v, hu, hs, hb⟩ => ⟨u, rfl, es_of_ext hb, v, hu, hs⟩)
  case s8 =>
    refine step_val (v := (.pointer (some ⟨sb, so, none⟩))) (fun av wv hE hS hO hD => ?_) (fun _ => rfl)
    have h0 : av.eval (.tmp 0) = (.pointer (some ⟨sb, so, none⟩)) := hO.2.2 0 rfl
    have f0 := (ev_form av 0).symm.trans h0
    refine ⟨rfl, ?_⟩
    simp [go_sem, f0]
  case s9 =>
    refine step_val (v := (.pointer (some ⟨sb, so, none⟩))) (fun av wv hE hS hO hD => ?_) (fun _ => rfl)
    have d11 : av.eval (.tmp 11) = (.pointer (some ⟨sb, so, none⟩)) := hD.1 rfl _ rfl
    have f11 := (ev_form av 11).symm.trans d11
    refine ⟨rfl, ?_⟩
    simp [go_sem, f11]
  case s10 =>
    refine step_val (v := (.pointer (some ⟨sb, so + 1, none⟩))) (fun av wv hE hS hO hD => ?_) (fun _ => rfl)
    have d12 : av.eval (.tmp 12) = (.pointer (some ⟨sb, so, none⟩)) := hD.1 rfl _ rfl
    have f12 := (ev_form av 12).symm.trans d12
    refine ⟨rfl, ?_⟩
    simp [go_sem, f12]
  case s11 =>
    refine step_wp (fun av wv hE hS hO hD => ?_)
    have d13 : av.eval (.tmp 13) = (.pointer (some ⟨sb, so + 1, none⟩)) := hD.1 rfl _ rfl
    have f13 := (ev_form av 13).symm.trans d13
    refine ⟨rfl, ?_⟩
    refine wp_of_callP (f := 145) (args := #[.string ⟨#[118]⟩, .pointer (some ⟨sb, so + 1, none⟩), .int .i64 67]) (by simp [go_sem, f13]) (HP2.out wv (of_drew hE)) (fun u w2 ⟨v, hu, hs, hb⟩ => ⟨u, rfl, es_of_ext hb, v, hu, hs⟩)
  intro a' w' hE hO hall
  have hA := act_of_outer (ds := [3, 4, 5, 6, 7, 8, 9, 10, 11, 12, 13, 14]) rfl hO (by kernel_rfl)
  have e3 : (fun u _ => u = (.pointer (some ⟨sb, so, none⟩))) (a'.eval (.tmp 3)) w' := hall.1 _ rfl
  have e4 : (fun u _ => u = (.pointer (some ⟨sb, so, none⟩))) (a'.eval (.tmp 4)) w' := hall.2.1 _ rfl
  have e5 : (fun u _ => u = (.pointer (some ⟨sb, so, none⟩))) (a'.eval (.tmp 5)) w' := hall.2.2.1 _ rfl
  have e6 : (fun u w' => ∃ v : FVal, u = v.val ∧ P0 w' v) (a'.eval (.tmp 6)) w' := hall.2.2.2.1 _ rfl
  have e7 : (fun u _ => u = (.pointer (some ⟨sb, so, none⟩))) (a'.eval (.tmp 7)) w' := hall.2.2.2.2.1 _ rfl
  have e8 : (fun u _ => u = (.pointer (some ⟨sb, so, none⟩))) (a'.eval (.tmp 8)) w' := hall.2.2.2.2.2.1 _ rfl
  have e9 : (fun u _ => u = (.pointer (some ⟨sb, so + 2, none⟩))) (a'.eval (.tmp 9)) w' := hall.2.2.2.2.2.2.1 _ rfl
  have e10 : (fun u w' => ∃ v : FVal, u = v.val ∧ P1 w' v) (a'.eval (.tmp 10)) w' := hall.2.2.2.2.2.2.2.1 _ rfl
  have e11 : (fun u _ => u = (.pointer (some ⟨sb, so, none⟩))) (a'.eval (.tmp 11)) w' := hall.2.2.2.2.2.2.2.2.1 _ rfl
  have e12 : (fun u _ => u = (.pointer (some ⟨sb, so, none⟩))) (a'.eval (.tmp 12)) w' := hall.2.2.2.2.2.2.2.2.2.1 _ rfl
  have e13 : (fun u _ => u = (.pointer (some ⟨sb, so + 1, none⟩))) (a'.eval (.tmp 13)) w' := hall.2.2.2.2.2.2.2.2.2.2.1 _ rfl
  have e14 : (fun u w' => ∃ v : FVal, u = v.val ∧ P2 w' v) (a'.eval (.tmp 14)) w' := hall.2.2.2.2.2.2.2.2.2.2.2.1 _ rfl
  obtain ⟨v6, hv6⟩ : ∃ v, a'.eval (.tmp 6) = v := ⟨_, rfl⟩
  rw [hv6] at e6
  obtain ⟨v10, hv10⟩ : ∃ v, a'.eval (.tmp 10) = v := ⟨_, rfl⟩
  rw [hv10] at e10
  obtain ⟨v14, hv14⟩ : ∃ v, a'.eval (.tmp 14) = v := ⟨_, rfl⟩
  rw [hv14] at e14
  simp only [List.foldl_cons, List.foldl_nil, Act.put, List.setIfInBounds_toArray, List.set_cons_succ, List.set_cons_zero, e3, e4, e5, hv6, e7, e8, e9, hv10, e11, e12, e13, hv14] at hA
  clear hO hall e3 e4 e5 hv6 e7 e8 e9 hv10 e11 e12 e13 hv14
  subst hA
  obtain ⟨x0, rfl, s0⟩ := e6
  obtain ⟨x1, rfl, s1⟩ := e10
  obtain ⟨x2, rfl, s2⟩ := e14
  have HSS : Hid (∀ o, RowSig P0 P1 P2 (w'.alloc o) [x0, x1, x2]) := Lib.hid (fun o => ⟨x0, x1, x2, rfl, hP0 _ _ _ (balloc (Below.refl _ _) _) s0, hP1 _ _ _ (balloc (Below.refl _ _) _) s1, hP2 _ _ _ (balloc (Below.refl _ _) _) s2⟩)
  have HBW : Hid (Below w.heap.size w w') := Lib.hid (of_drew hE)
  clear s0 s1 s2 hE
  unfold FVal.val
  go_wp2
  go_ret
  exact ⟨_, rfl, ⟨w'.heap.size, 3, [x0, x1, x2], rfl, Nat.le_refl _, ⟨Flds.block (l := [x0, x1, x2]) (heap_alloc_new w' _), _, heap_alloc_new w' _⟩, HSS.out _⟩, bnext HBW.out (balloc (Below.refl _ _) _)⟩
def RowSlot (P0 P1 P2 : World → FVal → Prop) : World → List FVal → Prop := fun w l => ∃ x0 x1 x2, l = [x0, x1, x2] ∧ P0 w x0 ∧ P1 w x1 ∧ P2 w x2
set_option maxRecDepth 100000 in
set_option maxHeartbeats 8000000 in
theorem gofSlot_any (sb so : Nat) (w : World) (P0 P1 P2 : World → FVal → Prop) (R0 : World → List FVal → Prop)
    (hR0 : LastsR R0) (hr0 : ∀ w', Below w.heap.size w w' → Calls Tryz.prog 108 #[.pointer (some ⟨sb, so + 2, none⟩)] w' (RowIs R0 w'))
    (hp0 : ∀ w' g c l, Below w.heap.size w w' → FRow w' g l → len l ≤ c → R0 w' l → Calls Tryz.prog 107 #[.string ⟨#[103]⟩, .slice (some ⟨g, 0, none⟩) (len l) c] w' (MadeG P0 w'))
    (hP0 : Lasts P0)
    (hp1 : ∀ w', Below w.heap.size w w' → Calls Tryz.prog 109 #[.string ⟨#[108]⟩, .pointer (some ⟨sb, so, none⟩)] w' (MadeG P1 w'))
    (hP1 : Lasts P1)
    (hp2 : ∀ w', Below w.heap.size w w' → Calls Tryz.prog 110 #[.string ⟨#[115]⟩, .pointer (some ⟨sb, so + 1, none⟩)] w' (MadeG P2 w'))
    (hP2 : Lasts P2) :
    Calls Tryz.prog 61 #[.pointer (some ⟨sb, so, none⟩)] w (RowIs (RowSlot P0 P1 P2) w) := by
  have HR0 := Lib.hid hr0
  have HP0 := Lib.hid hp0
  have HP1 := Lib.hid hp1
  have HP2 := Lib.hid hp2
  clear hr0 hp0 hp1 hp2
  go_enter Tryz.func61, Tryz.ntmps61
  go_upto_region 1 with fail
  refine wp_region_tail 13 1000 (none) (phis [fun u _ => u = (.pointer (some ⟨sb, so, none⟩)), fun u _ => u = (.pointer (some ⟨sb, so, none⟩)), fun u _ => u = (.pointer (some ⟨sb, so + 2, none⟩)), fun u w' => RowG R0 u w', fun u w' => ∃ v : FVal, u = v.val ∧ P0 w' v, fun u _ => u = (.pointer (some ⟨sb, so, none⟩)), fun u _ => u = (.pointer (some ⟨sb, so, none⟩)), fun u _ => u = (.pointer (some ⟨sb, so, none⟩)), fun u w' => ∃ v : FVal, u = v.val ∧ P1 w' v, fun u _ => u = (.pointer (some ⟨sb, so, none⟩)), fun u _ => u = (.pointer (some ⟨sb, so, none⟩)), fun u _ => u = (.pointer (some ⟨sb, so + 1, none⟩)), fun u w' => ∃ v : FVal, u = v.val ∧ P2 w' v]) rfl (by kernel_rfl) (by kernel_rfl) (mono_of ⟨mono_eq, mono_eq, mono_eq, ?m3, ?m4, mono_eq, mono_eq, mono_eq, ?m8, mono_eq, mono_eq, mono_eq, ?m12, trivial⟩) (steps_of 13 ⟨?s0, ?s1, ?s2, ?s3, ?s4, ?s5, ?s6, ?s7, ?s8, ?s9, ?s10, ?s11, ?s12, trivial⟩) ?_
  case m3 =>
    exact ⟨fun u w1 w2 h h1 => h1.below hR0 h, fun _ u w1 w2 h h1 => h1.below hR0 (extB_none h)⟩
  case m4 =>
    exact ⟨fun u w1 w2 h ⟨v, h1, h2⟩ => ⟨v, h1, hP0 _ _ _ h h2⟩, fun _ u w1 w2 h ⟨v, h1, h2⟩ => ⟨v, h1, hP0 _ _ _ (extB_none h) h2⟩⟩
  case m8 =>
    exact ⟨fun u w1 w2 h ⟨v, h1, h2⟩ => ⟨v, h1, hP1 _ _ _ h h2⟩, fun _ u w1 w2 h ⟨v, h1, h2⟩ => ⟨v, h1, hP1 _ _ _ (extB_none h) h2⟩⟩
  case m12 =>
    exact ⟨fun u w1 w2 h ⟨v, h1, h2⟩ => ⟨v, h1, hP2 _ _ _ h h2⟩, fun _ u w1 w2 h ⟨v, h1, h2⟩ => ⟨v, h1, hP2 _ _ _ (extB_none h) h2⟩⟩
  case s0 =>
    refine step_val (v := (.pointer (some ⟨sb, so, none⟩))) (fun av wv hE hS hO hD => ?_) (fun _ => rfl)
    have h0 : av.eval (.tmp 0) = (.pointer (some ⟨sb, so, none⟩)) := hO.2.2 0 rfl
    have f0 := (ev_form av 0).symm.trans h0
    refine ⟨rfl, ?_⟩
    simp [go_sem, f0]
  case s1 =>
    refine step_val (v := (.pointer (some ⟨sb, so, none⟩))) (fun av wv hE hS hO hD => ?_) (fun _ => rfl)
    have d3 : av.eval (.tmp 3) = (.pointer (some ⟨sb, so, none⟩)) := hD.1 rfl _ rfl
    have f3 := (ev_form av 3).symm.trans d3
    refine ⟨rfl, ?_⟩
    simp [go_sem, f3]
  case s2 =>
    refine step_val (v := (.pointer (some ⟨sb, so + 2, none⟩))) (fun av wv hE hS hO hD => ?_) (fun _ => rfl)
    have d4 : av.eval (.tmp 4) = (.pointer (some ⟨sb, so, none⟩)) := hD.1 rfl _ rfl
    have f4 := (ev_form av 4).symm.trans d4
    refine ⟨rfl, ?_⟩
    simp [go_sem, f4]
  case s3 =>
    refine step_wp (fun av wv hE hS hO hD => ?_)
    have d5 : av.eval (.tmp 5) = (.pointer (some ⟨sb, so + 2, none⟩)) := hD.1 rfl _ rfl
    have f5 := (ev_form av 5).symm.trans d5
    refine ⟨rfl, ?_⟩
    refine wp_of_callP (f := 108) (args := #[.pointer (some ⟨sb, so + 2, none⟩)]) (by simp [go_sem, f5]) (HR0.out wv (of_drew hE)) (fun u w2 ⟨h1, hb⟩ => ⟨u, rfl, es_of_ext hb, h1⟩)
  case s4 =>
    refine step_wp (fun av wv hE hS hO hD => ?_)
    have d6 : (fun u w' => RowG R0 u w') (av.eval (.tmp 6)) wv := hD.1 rfl _ rfl
    refine ⟨rfl, ?_⟩
    obtain ⟨gg, cc, ll, hu, hc, hF, hp⟩ := d6
    have f6 := (ev_form av 6).symm.trans hu
    refine wp_of_callP (f := 107) (args := #[.string ⟨#[103]⟩, .slice (some ⟨gg, 0, none⟩) (len ll) cc]) (by simp [go_sem, f6]) (HP0.out wv gg cc ll (of_drew hE) hF hc hp) (fun u w2 ⟨v, hu, hs, hb⟩ => ⟨u, rfl, es_of_ext hb, v, hu, hs⟩)
  case s5 =>
    refine step_val (v := (.pointer (some ⟨sb, so, none⟩))) (fun av wv hE hS hO hD => ?_) (fun _ => rfl)
    have h0 : av.eval (.tmp 0) = (.pointer (some ⟨sb, so, none⟩)) := hO.2.2 0 rfl
    have f0 := (ev_form av 0).symm.trans h0
    refine ⟨rfl, ?_⟩
    simp [go_sem, f0]
  case s6 =>
    refine step_val (v := (.pointer (some ⟨sb, so, none⟩))) (fun av wv hE hS hO hD => ?_) (fun _ => rfl)
    have d8 : av.eval (.tmp 8) = (.pointer (some ⟨sb, so, none⟩)) := hD.1 rfl _ rfl
    have f8 := (ev_form av 8).symm.trans d8
    refine ⟨rfl, ?_⟩
    simp [go_sem, f8]
  case s7 =>
    refine step_val (v := (.pointer (some ⟨sb, so, none⟩))) (fun av wv hE hS hO hD => ?_) (fun _ => rfl)
    have d9 : av.eval (.tmp 9) = (.pointer (some ⟨sb, so, none⟩)) := hD.1 rfl _ rfl
    have f9 := (ev_form av 9).symm.trans d9
    refine ⟨rfl, ?_⟩
    simp [go_sem, f9]
  case s8 =>
    refine step_wp (fun av wv hE hS hO hD => ?_)
    have d10 : av.eval (.tmp 10) = (.pointer (some ⟨sb, so, none⟩)) := hD.1 rfl _ rfl
    have f10 := (ev_form av 10).symm.trans d10
    refine ⟨rfl, ?_⟩
    refine wp_of_callP (f := 109) (args := #[.string ⟨#[108]⟩, .pointer (some ⟨sb, so, none⟩)]) (by simp [go_sem, f10]) (HP1.out wv (of_drew hE)) (fun u w2 ⟨v, hu, hs, hb⟩ => ⟨u, rfl, es_of_ext hb, v, hu, hs⟩)
  case s9 =>
    refine step_val (v := (.pointer (some ⟨sb, so, none⟩))) (fun av wv hE hS hO hD => ?_) (fun _ => rfl)
    have h0 : av.eval (.tmp 0) = (.pointer (some ⟨sb, so, none⟩)) := hO.2.2 0 rfl
    have f0 := (ev_form av 0).symm.trans h0
    refine ⟨rfl, ?_⟩
    simp [go_sem, f0]
  case s10 =>
    refine step_val (v := (.pointer (some ⟨sb, so, none⟩))) (fun av wv hE hS hO hD => ?_) (fun _ => rfl)
    have d12 : av.eval (.tmp 12) = (.pointer (some ⟨sb, so, none⟩)) := hD.1 rfl _ rfl
    have f12 := (ev_form av 12).symm.trans d12
    refine ⟨rfl, ?_⟩
    simp [go_sem, f12]
  case s11 =>
    refine step_val (v := (.pointer (some ⟨sb, so + 1, none⟩))) (fun av wv hE hS hO hD => ?_) (fun _ => rfl)
    have d13 : av.eval (.tmp 13) = (.pointer (some ⟨sb, so, none⟩)) := hD.1 rfl _ rfl
    have f13 := (ev_form av 13).symm.trans d13
    refine ⟨rfl, ?_⟩
    simp [go_sem, f13]
  case s12 =>
    refine step_wp (fun av wv hE hS hO hD => ?_)
    have d14 : av.eval (.tmp 14) = (.pointer (some ⟨sb, so + 1, none⟩)) := hD.1 rfl _ rfl
    have f14 := (ev_form av 14).symm.trans d14
    refine ⟨rfl, ?_⟩
    refine wp_of_callP (f := 110) (args := #[.string ⟨#[115]⟩, .pointer (some ⟨sb, so + 1, none⟩)]) (by simp [go_sem, f14]) (HP2.out wv (of_drew hE)) (fun u w2 ⟨v, hu, hs, hb⟩ => ⟨u, rfl, es_of_ext hb, v, hu, hs⟩)
  intro a' w' hE hO hall
  have hA := act_of_outer (ds := [3, 4, 5, 6, 7, 8, 9, 10, 11, 12, 13, 14, 15]) rfl hO (by kernel_rfl)
  have e3 : (fun u _ => u = (.pointer (some ⟨sb, so, none⟩))) (a'.eval (.tmp 3)) w' := hall.1 _ rfl
  have e4 : (fun u _ => u = (.pointer (some ⟨sb, so, none⟩))) (a'.eval (.tmp 4)) w' := hall.2.1 _ rfl
  have e5 : (fun u _ => u = (.pointer (some ⟨sb, so + 2, none⟩))) (a'.eval (.tmp 5)) w' := hall.2.2.1 _ rfl
  have e6 : (fun u w' => RowG R0 u w') (a'.eval (.tmp 6)) w' := hall.2.2.2.1 _ rfl
  have e7 : (fun u w' => ∃ v : FVal, u = v.val ∧ P0 w' v) (a'.eval (.tmp 7)) w' := hall.2.2.2.2.1 _ rfl
  have e8 : (fun u _ => u = (.pointer (some ⟨sb, so, none⟩))) (a'.eval (.tmp 8)) w' := hall.2.2.2.2.2.1 _ rfl
  have e9 : (fun u _ => u = (.pointer (some ⟨sb, so, none⟩))) (a'.eval (.tmp 9)) w' := hall.2.2.2.2.2.2.1 _ rfl
  have e10 : (fun u _ => u = (.pointer (some ⟨sb, so, none⟩))) (a'.eval (.tmp 10)) w' := hall.2.2.2.2.2.2.2.1 _ rfl
  have e11 : (fun u w' => ∃ v : FVal, u = v.val ∧ P1 w' v) (a'.eval (.tmp 11)) w' := hall.2.2.2.2.2.2.2.2.1 _ rfl
  have e12 : (fun u _ => u = (.pointer (some ⟨sb, so, none⟩))) (a'.eval (.tmp 12)) w' := hall.2.2.2.2.2.2.2.2.2.1 _ rfl
  have e13 : (fun u _ => u = (.pointer (some ⟨sb, so, none⟩))) (a'.eval (.tmp 13)) w' := hall.2.2.2.2.2.2.2.2.2.2.1 _ rfl
  have e14 : (fun u _ => u = (.pointer (some ⟨sb, so + 1, none⟩))) (a'.eval (.tmp 14)) w' := hall.2.2.2.2.2.2.2.2.2.2.2.1 _ rfl
  have e15 : (fun u w' => ∃ v : FVal, u = v.val ∧ P2 w' v) (a'.eval (.tmp 15)) w' := hall.2.2.2.2.2.2.2.2.2.2.2.2.1 _ rfl
  obtain ⟨v6, hv6⟩ : ∃ v, a'.eval (.tmp 6) = v := ⟨_, rfl⟩
  rw [hv6] at e6
  obtain ⟨v7, hv7⟩ : ∃ v, a'.eval (.tmp 7) = v := ⟨_, rfl⟩
  rw [hv7] at e7
  obtain ⟨v11, hv11⟩ : ∃ v, a'.eval (.tmp 11) = v := ⟨_, rfl⟩
  rw [hv11] at e11
  obtain ⟨v15, hv15⟩ : ∃ v, a'.eval (.tmp 15) = v := ⟨_, rfl⟩
  rw [hv15] at e15
  simp only [List.foldl_cons, List.foldl_nil, Act.put, List.setIfInBounds_toArray, List.set_cons_succ, List.set_cons_zero, e3, e4, e5, hv6, hv7, e8, e9, e10, hv11, e12, e13, e14, hv15] at hA
  clear hO hall e3 e4 e5 hv6 hv7 e8 e9 e10 hv11 e12 e13 e14 hv15
  subst hA
  obtain ⟨x0, rfl, s0⟩ := e7
  obtain ⟨x1, rfl, s1⟩ := e11
  obtain ⟨x2, rfl, s2⟩ := e15
  have HSS : Hid (∀ o, RowSlot P0 P1 P2 (w'.alloc o) [x0, x1, x2]) := Lib.hid (fun o => ⟨x0, x1, x2, rfl, hP0 _ _ _ (balloc (Below.refl _ _) _) s0, hP1 _ _ _ (balloc (Below.refl _ _) _) s1, hP2 _ _ _ (balloc (Below.refl _ _) _) s2⟩)
  have HBW : Hid (Below w.heap.size w w') := Lib.hid (of_drew hE)
  clear s0 s1 s2 hE
  unfold FVal.val
  go_wp2
  go_ret
  exact ⟨_, rfl, ⟨w'.heap.size, 3, [x0, x1, x2], rfl, Nat.le_refl _, ⟨Flds.block (l := [x0, x1, x2]) (heap_alloc_new w' _), _, heap_alloc_new w' _⟩, HSS.out _⟩, bnext HBW.out (balloc (Below.refl _ _) _)⟩
def RowReveal (P0 P1 P2 : World → FVal → Prop) : World → List FVal → Prop := fun w l => ∃ x0 x1 x2, l = [x0, x1, x2] ∧ P0 w x0 ∧ P1 w x1 ∧ P2 w x2
set_option maxRecDepth 100000 in
set_option maxHeartbeats 8000000 in
theorem gofReveal_any (sb so : Nat) (w : World) (P0 P1 P2 : World → FVal → Prop) (R1 R2 : World → List FVal → Prop)
    (hp0 : ∀ w', Below w.heap.size w w' → Calls Tryz.prog 109 #[.string ⟨#[112]⟩, .pointer (some ⟨sb, so, none⟩)] w' (MadeG P0 w'))
    (hP0 : Lasts P0)
    (hR1 : LastsR R1) (hr1 : ∀ w', Below w.heap.size w w' → Calls Tryz.prog 62 #[.pointer (some ⟨sb, so + 6, none⟩)] w' (RowIs R1 w'))
    (hp1 : ∀ w' g c l, Below w.heap.size w w' → FRow w' g l → len l ≤ c → R1 w' l → Calls Tryz.prog 107 #[.string ⟨#[113]⟩, .slice (some ⟨g, 0, none⟩) (len l) c] w' (MadeG P1 w'))
    (hP1 : Lasts P1)
    (hR2 : LastsR R2) (hr2 : ∀ w', Below w.heap.size w w' → Calls Tryz.prog 61 #[.pointer (some ⟨sb, so + 1, none⟩)] w' (RowIs R2 w'))
    (hp2 : ∀ w' g c l, Below w.heap.size w w' → FRow w' g l → len l ≤ c → R2 w' l → Calls Tryz.prog 107 #[.string ⟨#[115]⟩, .slice (some ⟨g, 0, none⟩) (len l) c] w' (MadeG P2 w'))
    (hP2 : Lasts P2) :
    Calls Tryz.prog 155 #[.pointer (some ⟨sb, so, none⟩)] w (RowIs (RowReveal P0 P1 P2) w) := by
  have HP0 := Lib.hid hp0
  have HR1 := Lib.hid hr1
  have HP1 := Lib.hid hp1
  have HR2 := Lib.hid hr2
  have HP2 := Lib.hid hp2
  clear hp0 hr1 hp1 hr2 hp2
  go_enter Tryz.func155, Tryz.ntmps155
  go_upto_region 1 with fail
  refine wp_region_tail 14 1000 (none) (phis [fun u _ => u = (.pointer (some ⟨sb, so, none⟩)), fun u _ => u = (.pointer (some ⟨sb, so, none⟩)), fun u _ => u = (.pointer (some ⟨sb, so, none⟩)), fun u w' => ∃ v : FVal, u = v.val ∧ P0 w' v, fun u _ => u = (.pointer (some ⟨sb, so, none⟩)), fun u _ => u = (.pointer (some ⟨sb, so, none⟩)), fun u _ => u = (.pointer (some ⟨sb, so + 6, none⟩)), fun u w' => RowG R1 u w', fun u w' => ∃ v : FVal, u = v.val ∧ P1 w' v, fun u _ => u = (.pointer (some ⟨sb, so, none⟩)), fun u _ => u = (.pointer (some ⟨sb, so, none⟩)), fun u _ => u = (.pointer (some ⟨sb, so + 1, none⟩)), fun u w' => RowG R2 u w', fun u w' => ∃ v : FVal, u = v.val ∧ P2 w' v]) rfl (by kernel_rfl) (by kernel_rfl) (mono_of ⟨mono_eq, mono_eq, mono_eq, ?m3, mono_eq, mono_eq, mono_eq, ?m7, ?m8, mono_eq, mono_eq, mono_eq, ?m12, ?m13, trivial⟩) (steps_of 14 ⟨?s0, ?s1, ?s2, ?s3, ?s4, ?s5, ?s6, ?s7, ?s8, ?s9, ?s10, ?s11, ?s12, ?s13, trivial⟩) ?_
  case m3 =>
    exact ⟨fun u w1 w2 h ⟨v, h1, h2⟩ => ⟨v, h1, hP0 _ _ _ h h2⟩, fun _ u w1 w2 h ⟨v, h1, h2⟩ => ⟨v, h1, hP0 _ _ _ (extB_none h) h2⟩⟩
  case m7 =>
    exact ⟨fun u w1 w2 h h1 => h1.below hR1 h, fun _ u w1 w2 h h1 => h1.below hR1 (extB_none h)⟩
  case m8 =>
    exact ⟨fun u w1 w2 h ⟨v, h1, h2⟩ => ⟨v, h1, hP1 _ _ _ h h2⟩, fun _ u w1 w2 h ⟨v, h1, h2⟩ => ⟨v, h1, hP1 _ _ _ (extB_none h) h2⟩⟩
  case m12 =>
    exact ⟨fun u w1 w2 h h1 => h1.below hR2 h, fun _ u w1 w2 h h1 => h1.below hR2 (extB_none h)⟩
  case m13 =>
    exact ⟨fun u w1 w2 h ⟨v, h1, h2⟩ => ⟨v, h1, hP2 _ _ _ h h2⟩, fun _ u w1 w2 h ⟨v, h1, h2⟩ => ⟨v, h1, hP2 _ _ _ (extB_none h) h2⟩⟩
  case s0 =>
    refine step_val (v := (.pointer (some ⟨sb, so, none⟩))) (fun av wv hE hS hO hD => ?_) (fun _ => rfl)
    have h0 : av.eval (.tmp 0) = (.pointer (some ⟨sb, so, none⟩)) := hO.2.2 0 rfl
    have f0 := (ev_form av 0).symm.trans h0
    refine ⟨rfl, ?_⟩
    simp [go_sem, f0]
  case s1 =>
    refine step_val (v := (.pointer (some ⟨sb, so, none⟩))) (fun av wv hE hS hO hD => ?_) (fun _ => rfl)
    have d3 : av.eval (.tmp 3) = (.pointer (some ⟨sb, so, none⟩)) := hD.1 rfl _ rfl
    have f3 := (ev_form av 3).symm.trans d3
    refine ⟨rfl, ?_⟩
    simp [go_sem, f3]
  case s2 =>
    refine step_val (v := (.pointer (some ⟨sb, so, none⟩))) (fun av wv hE hS hO hD => ?_) (fun _ => rfl)
    have d4 : av.eval (.tmp 4) = (.pointer (some ⟨sb, so, none⟩)) := hD.1 rfl _ rfl
    have f4 := (ev_form av 4).symm.trans d4
    refine ⟨rfl, ?_⟩
    simp [go_sem, f4]
  case s3 =>
    refine step_wp (fun av wv hE hS hO hD => ?_)
    have d5 : av.eval (.tmp 5) = (.pointer (some ⟨sb, so, none⟩)) := hD.1 rfl _ rfl
    have f5 := (ev_form av 5).symm.trans d5
    refine ⟨rfl, ?_⟩
    refine wp_of_callP (f := 109) (args := #[.string ⟨#[112]⟩, .pointer (some ⟨sb, so, none⟩)]) (by simp [go_sem, f5]) (HP0.out wv (of_drew hE)) (fun u w2 ⟨v, hu, hs, hb⟩ => ⟨u, rfl, es_of_ext hb, v, hu, hs⟩)
  case s4 =>
    refine step_val (v := (.pointer (some ⟨sb, so, none⟩))) (fun av wv hE hS hO hD => ?_) (fun _ => rfl)
    have h0 : av.eval (.tmp 0) = (.pointer (some ⟨sb, so, none⟩)) := hO.2.2 0 rfl
    have f0 := (ev_form av 0).symm.trans h0
    refine ⟨rfl, ?_⟩
    simp [go_sem, f0]
  case s5 =>
    refine step_val (v := (.pointer (some ⟨sb, so, none⟩))) (fun av wv hE hS hO hD => ?_) (fun _ => rfl)
    have d7 : av.eval (.tmp 7) = (.pointer (some ⟨sb, so, none⟩)) := hD.1 rfl _ rfl
    have f7 := (ev_form av 7).symm.trans d7
    refine ⟨rfl, ?_⟩
    simp [go_sem, f7]
  case s6 =>
    refine step_val (v := (.pointer (some ⟨sb, so + 6, none⟩))) (fun av wv hE hS hO hD => ?_) (fun _ => rfl)
    have d8 : av.eval (.tmp 8) = (.pointer (some ⟨sb, so, none⟩)) := hD.1 rfl _ rfl
    have f8 := (ev_form av 8).symm.trans d8
    refine ⟨rfl, ?_⟩
    simp [go_sem, f8]
  case s7 =>
    refine step_wp (fun av wv hE hS hO hD => ?_)
    have d9 : av.eval (.tmp 9) = (.pointer (some ⟨sb, so + 6, none⟩)) := hD.1 rfl _ rfl
    have f9 := (ev_form av 9).symm.trans d9
    refine ⟨rfl, ?_⟩
    refine wp_of_callP (f := 62) (args := #[.pointer (some ⟨sb, so + 6, none⟩)]) (by simp [go_sem, f9]) (HR1.out wv (of_drew hE)) (fun u w2 ⟨h1, hb⟩ => ⟨u, rfl, es_of_ext hb, h1⟩)
  case s8 =>
    refine step_wp (fun av wv hE hS hO hD => ?_)
    have d10 : (fun u w' => RowG R1 u w') (av.eval (.tmp 10)) wv := hD.1 rfl _ rfl
    refine ⟨rfl, ?_⟩
    obtain ⟨gg, cc, ll, hu, hc, hF, hp⟩ := d10
    have f10 := (ev_form av 10).symm.trans hu
    refine wp_of_callP (f := 107) (args := #[.string ⟨#[113]⟩, .slice (some ⟨gg, 0, none⟩) (len ll) cc]) (by simp [go_sem, f10]) (HP1.out wv gg cc ll (of_drew hE) hF hc hp) (fun u w2 ⟨v, hu, hs, hb⟩ => ⟨u, rfl, es_of_ext hb, v, hu, hs⟩)
  case s9 =>
    refine step_val (v := (.pointer (some ⟨sb, so, none⟩))) (fun av wv hE hS hO hD => ?_) (fun _ => rfl)
    have h0 : av.eval (.tmp 0) = (.pointer (some ⟨sb, so, none⟩)) := hO.2.2 0 rfl
    have f0 := (ev_form av 0).symm.trans h0
    refine ⟨rfl, ?_⟩
    simp [go_sem, f0]
  case s10 =>
    refine step_val (v := (.pointer (some ⟨sb, so, none⟩))) (fun av wv hE hS hO hD => ?_) (fun _ => rfl)
    have d12 : av.eval (.tmp 12) = (.pointer (some ⟨sb, so, none⟩)) := hD.1 rfl _ rfl
    have f12 := (ev_form av 12).symm.trans d12
    refine ⟨rfl, ?_⟩
    simp [go_sem, f12]
  case s11 =>
    refine step_val (v := (.pointer (some ⟨sb, so + 1, none⟩))) (fun av wv hE hS hO hD => ?_) (fun _ => rfl)
    have d13 : av.eval (.tmp 13) = (.pointer (some ⟨sb, so, none⟩)) := hD.1 rfl _ rfl
    have f13 := (ev_form av 13).symm.trans d13
    refine ⟨rfl, ?_⟩
    simp [go_sem, f13]
  case s12 =>
    refine step_wp (fun av wv hE hS hO hD => ?_)
    have d14 : av.eval (.tmp 14) = (.pointer (some ⟨sb, so + 1, none⟩)) := hD.1 rfl _ rfl
    have f14 := (ev_form av 14).symm.trans d14
    refine ⟨rfl, ?_⟩
    refine wp_of_callP (f := 61) (args := #[.pointer (some ⟨sb, so + 1, none⟩)]) (by simp [go_sem, f14]) (HR2.out wv (of_drew hE)) (fun u w2 ⟨h1, hb⟩ => ⟨u, rfl, es_of_ext hb, h1⟩)
  case s13 =>
    refine step_wp (fun av wv hE hS hO hD => ?_)
    have d15 : (fun u w' => RowG R2 u w') (av.eval (.tmp 15)) wv := hD.1 rfl _ rfl
    refine ⟨rfl, ?_⟩
    obtain ⟨gg, cc, ll, hu, hc, hF, hp⟩ := d15
    have f15 := (ev_form av 15).symm.trans hu
    refine wp_of_callP (f := 107) (args := #[.string ⟨#[115]⟩, .slice (some ⟨gg, 0, none⟩) (len ll) cc]) (by simp [go_sem, f15]) (HP2.out wv gg cc ll (of_drew hE) hF hc hp) (fun u w2 ⟨v, hu, hs, hb⟩ => ⟨u, rfl, es_of_ext hb, v, hu, hs⟩)
  intro a' w' hE hO hall
  have hA := act_of_outer (ds := [3, 4, 5, 6, 7, 8, 9, 10, 11, 12, 13, 14, 15, 16]) rfl hO (by kernel_rfl)
  have e3 : (fun u _ => u = (.pointer (some ⟨sb, so, none⟩))) (a'.eval (.tmp 3)) w' := hall.1 _ rfl
  have e4 : (fun u _ => u = (.pointer (some ⟨sb, so, none⟩))) (a'.eval (.tmp 4)) w' := hall.2.1 _ rfl
  have e5 : (fun u _ => u = (.pointer (some ⟨sb, so, none⟩))) (a'.eval (.tmp 5)) w' := hall.2.2.1 _ rfl
  have e6 : (fun u w' => ∃ v : FVal, u = v.val ∧ P0 w' v) (a'.eval (.tmp 6)) w' := hall.2.2.2.1 _ rfl
  have e7 : (fun u _ => u = (.pointer (some ⟨sb, so, none⟩))) (a'.eval (.tmp 7)) w' := hall.2.2.2.2.1 _ rfl
  have e8 : (fun u _ => u = (.pointer (some ⟨sb, so, none⟩))) (a'.eval (.tmp 8)) w' := hall.2.2.2.2.2.1 _ rfl
  have e9 : (fun u _ => u = (.pointer (some ⟨sb, so + 6, none⟩))) (a'.eval (.tmp 9)) w' := hall.2.2.2.2.2.2.1 _ rfl
  have e10 : (fun u w' => RowG R1 u w') (a'.eval (.tmp 10)) w' := hall.2.2.2.2.2.2.2.1 _ rfl
  have e11 : (fun u w' => ∃ v : FVal, u = v.val ∧ P1 w' v) (a'.eval (.tmp 11)) w' := hall.2.2.2.2.2.2.2.2.1 _ rfl
  have e12 : (fun u _ => u = (.pointer (some ⟨sb, so, none⟩))) (a'.eval (.tmp 12)) w' := hall.2.2.2.2.2.2.2.2.2.1 _ rfl
  have e13 : (fun u _ => u = (.pointer (some ⟨sb, so, none⟩))) (a'.eval (.tmp 13)) w' := hall.2.2.2.2.2.2.2.2.2.2.1 _ rfl
  have e14 : (fun u _ => u = (.pointer (some ⟨sb, so + 1, none⟩))) (a'.eval (.tmp 14)) w' := hall.2.2.2.2.2.2.2.2.2.2.2.1 _ rfl
  have e15 : (fun u w' => RowG R2 u w') (a'.eval (.tmp 15)) w' := hall.2.2.2.2.2.2.2.2.2.2.2.2.1 _ rfl
  have e16 : (fun u w' => ∃ v : FVal, u = v.val ∧ P2 w' v) (a'.eval (.tmp 16)) w' := hall.2.2.2.2.2.2.2.2.2.2.2.2.2.1 _ rfl
  obtain ⟨v6, hv6⟩ : ∃ v, a'.eval (.tmp 6) = v := ⟨_, rfl⟩
  rw [hv6] at e6
  obtain ⟨v10, hv10⟩ : ∃ v, a'.eval (.tmp 10) = v := ⟨_, rfl⟩
  rw [hv10] at e10
  obtain ⟨v11, hv11⟩ : ∃ v, a'.eval (.tmp 11) = v := ⟨_, rfl⟩
  rw [hv11] at e11
  obtain ⟨v15, hv15⟩ : ∃ v, a'.eval (.tmp 15) = v := ⟨_, rfl⟩
  rw [hv15] at e15
  obtain ⟨v16, hv16⟩ : ∃ v, a'.eval (.tmp 16) = v := ⟨_, rfl⟩
  rw [hv16] at e16
  simp only [List.foldl_cons, List.foldl_nil, Act.put, List.setIfInBounds_toArray, List.set_cons_succ, List.set_cons_zero, e3, e4, e5, hv6, e7, e8, e9, hv10, hv11, e12, e13, e14, hv15, hv16] at hA
  clear hO hall e3 e4 e5 hv6 e7 e8 e9 hv10 hv11 e12 e13 e14 hv15 hv16
  subst hA
  obtain ⟨x0, rfl, s0⟩ := e6
  obtain ⟨x1, rfl, s1⟩ := e11
  obtain ⟨x2, rfl, s2⟩ := e16
  have HSS : Hid (∀ o, RowReveal P0 P1 P2 (w'.alloc o) [x0, x1, x2]) := Lib.hid (fun o => ⟨x0, x1, x2, rfl, hP0 _ _ _ (balloc (Below.refl _ _) _) s0, hP1 _ _ _ (balloc (Below.refl _ _) _) s1, hP2 _ _ _ (balloc (Below.refl _ _) _) s2⟩)
  have HBW : Hid (Below w.heap.size w w') := Lib.hid (of_drew hE)
  clear s0 s1 s2 hE
  unfold FVal.val
  go_wp2
  go_ret
  exact ⟨_, rfl, ⟨w'.heap.size, 3, [x0, x1, x2], rfl, Nat.le_refl _, ⟨Flds.block (l := [x0, x1, x2]) (heap_alloc_new w' _), _, heap_alloc_new w' _⟩, HSS.out _⟩, bnext HBW.out (balloc (Below.refl _ _) _)⟩
def RowCert (P0 P1 P2 P3 P4 P5 : World → FVal → Prop) : World → List FVal → Prop := fun w l => ∃ x0 x1 x2 x3 x4 x5, l = [x0, x1, x2, x3, x4, x5] ∧ P0 w x0 ∧ P1 w x1 ∧ P2 w x2 ∧ P3 w x3 ∧ P4 w x4 ∧ P5 w x5
set_option maxRecDepth 100000 in
set_option maxHeartbeats 8000000 in
theorem gofCert_any (sb so : Nat) (w : World) (P0 P1 P2 P3 P4 P5 : World → FVal → Prop)
    (hp0 : ∀ w', Below w.heap.size w w' → Calls Tryz.prog 145 #[.string ⟨#[80]⟩, .pointer (some ⟨sb, so + 5, none⟩), .int .i64 10240] w' (MadeG P0 w'))
    (hP0 : Lasts P0)
    (hp1 : ∀ w', Below w.heap.size w w' → Calls Tryz.prog 145 #[.string ⟨#[83]⟩, .pointer (some ⟨sb, so + 4, none⟩), .int .i64 10240] w' (MadeG P1 w'))
    (hP1 : Lasts P1)
    (hp2 : ∀ w', Below w.heap.size w w' → Calls Tryz.prog 111 #[.string ⟨#[99]⟩, .pointer (some ⟨sb, so, none⟩)] w' (MadeG P2 w'))
    (hP2 : Lasts P2)
    (hp3 : ∀ w', Below w.heap.size w w' → Calls Tryz.prog 146 #[.string ⟨#[112]⟩, .pointer (some ⟨sb, so + 3, none⟩), .int .i64 640, .func (.func 147) #[] #[], .func (.func 148) #[] #[], .func (.func 150) #[] #[]] w' (MadeG P3 w'))
    (hP3 : Lasts P3)
    (hp4 : ∀ w', Below w.heap.size w w' → Calls Tryz.prog 153 #[.string ⟨#[114]⟩, .pointer (some ⟨sb, so + 2, none⟩), .int .i64 640, .func (.func 154) #[] #[], .func (.func 156) #[] #[], .func (.func 157) #[] #[]] w' (MadeG P4 w'))
    (hP4 : Lasts P4)
    (hp5 : ∀ w', Below w.heap.size w w' → Calls Tryz.prog 109 #[.string ⟨#[119]⟩, .pointer (some ⟨sb, so + 1, none⟩)] w' (MadeG P5 w'))
    (hP5 : Lasts P5) :
    Calls Tryz.prog 93 #[.pointer (some ⟨sb, so, none⟩)] w (RowIs (RowCert P0 P1 P2 P3 P4 P5) w) := by
  have HP0 := Lib.hid hp0
  have HP1 := Lib.hid hp1
  have HP2 := Lib.hid hp2
  have HP3 := Lib.hid hp3
  have HP4 := Lib.hid hp4
  have HP5 := Lib.hid hp5
  clear hp0 hp1 hp2 hp3 hp4 hp5
  go_enter Tryz.func93, Tryz.ntmps93
  go_upto_region 1 with fail
  refine wp_region_tail 24 1000 (none) (phis [fun u _ => u = (.pointer (some ⟨sb, so, none⟩)), fun u _ => u = (.pointer (some ⟨sb, so, none⟩)), fun u _ => u = (.pointer (some ⟨sb, so + 5, none⟩)), fun u w' => ∃ v : FVal, u = v.val ∧ P0 w' v, fun u _ => u = (.pointer (some ⟨sb, so, none⟩)), fun u _ => u = (.pointer (some ⟨sb, so, none⟩)), fun u _ => u = (.pointer (some ⟨sb, so + 4, none⟩)), fun u w' => ∃ v : FVal, u = v.val ∧ P1 w' v, fun u _ => u = (.pointer (some ⟨sb, so, none⟩)), fun u _ => u = (.pointer (some ⟨sb, so, none⟩)), fun u _ => u = (.pointer (some ⟨sb, so, none⟩)), fun u w' => ∃ v : FVal, u = v.val ∧ P2 w' v, fun u _ => u = (.pointer (some ⟨sb, so, none⟩)), fun u _ => u = (.pointer (some ⟨sb, so, none⟩)), fun u _ => u = (.pointer (some ⟨sb, so + 3, none⟩)), fun u w' => ∃ v : FVal, u = v.val ∧ P3 w' v, fun u _ => u = (.pointer (some ⟨sb, so, none⟩)), fun u _ => u = (.pointer (some ⟨sb, so, none⟩)), fun u _ => u = (.pointer (some ⟨sb, so + 2, none⟩)), fun u w' => ∃ v : FVal, u = v.val ∧ P4 w' v, fun u _ => u = (.pointer (some ⟨sb, so, none⟩)), fun u _ => u = (.pointer (some ⟨sb, so, none⟩)), fun u _ => u = (.pointer (some ⟨sb, so + 1, none⟩)), fun u w' => ∃ v : FVal, u = v.val ∧ P5 w' v]) rfl (by kernel_rfl) (by kernel_rfl) (mono_of ⟨mono_eq, mono_eq, mono_eq, ?m3, mono_eq, mono_eq, mono_eq, ?m7, mono_eq, mono_eq, mono_eq, ?m11, mono_eq, mono_eq, mono_eq, ?m15, mono_eq, mono_eq, mono_eq, ?m19, mono_eq, mono_eq, mono_eq, ?m23, trivial⟩) (steps_of 24 ⟨?s0, ?s1, ?s2, ?s3, ?s4, ?s5, ?s6, ?s7, ?s8, ?s9, ?s10, ?s11, ?s12, ?s13, ?s14, ?s15, ?s16, ?s17, ?s18, ?s19, ?s20, ?s21, ?s22, ?s23, trivial⟩) ?_
  case m3 =>
    exact ⟨fun u w1 w2 h ⟨v, h1, h2⟩ => ⟨v, h1, hP0 _ _ _ h h2⟩, fun _ u w1 w2 h ⟨v, h1, h2⟩ => ⟨v, h1, hP0 _ _ _ (extB_none h) h2⟩⟩
  case m7 =>
    exact ⟨fun u w1 w2 h ⟨v, h1, h2⟩ => ⟨v, h1, hP1 _ _ _ h h2⟩, fun _ u w1 w2 h ⟨v, h1, h2⟩ => ⟨v, h1, hP1 _ _ _ (extB_none h) h2⟩⟩
  case m11 =>
    exact ⟨fun u w1 w2 h ⟨v, h1, h2⟩ => ⟨v, h1, hP2 _ _ _ h h2⟩, fun _ u w1 w2 h ⟨v, h1, h2⟩ => ⟨v, h1, hP2 _ _ _ (extB_none h) h2⟩⟩
  case m15 =>
    exact ⟨fun u w1 w2 h ⟨v, h1, h2⟩ => ⟨v, h1, hP3 _ _ _ h h2⟩, fun _ u w1 w2 h ⟨v, h1, h2⟩ => ⟨v, h1, hP3 _ _ _ (extB_none h) h2⟩⟩
  case m19 =>
    exact ⟨fun u w1 w2 h ⟨v, h1, h2⟩ => ⟨v, h1, hP4 _ _ _ h h2⟩, fun _ u w1 w2 h ⟨v, h1, h2⟩ => ⟨v, h1, hP4 _ _ _ (extB_none h) h2⟩⟩
  case m23 =>
    exact ⟨fun u w1 w2 h ⟨v, h1, h2⟩ => ⟨v, h1, hP5 _ _ _ h h2⟩, fun _ u w1 w2 h ⟨v, h1, h2⟩ => ⟨v, h1, hP5 _ _ _ (extB_none h) h2⟩⟩
  case s0 =>
    refine step_val (v := (.pointer (some ⟨sb, so, none⟩))) (fun av wv hE hS hO hD => ?_) (fun _ => rfl)
    have h0 : av.eval (.tmp 0) = (.pointer (some ⟨sb, so, none⟩)) := hO.2.2 0 rfl
    have f0 := (ev_form av 0).symm.trans h0
    refine ⟨rfl, ?_⟩
    simp [go_sem, f0]
  case s1 =>
    refine step_val (v := (.pointer (some ⟨sb, so, none⟩))) (fun av wv hE hS hO hD => ?_) (fun _ => rfl)
    have d3 : av.eval (.tmp 3) = (.pointer (some ⟨sb, so, none⟩)) := hD.1 rfl _ rfl
    have f3 := (ev_form av 3).symm.trans d3
    refine ⟨rfl, ?_⟩
    simp [go_sem, f3]
  case s2 =>
    refine step_val (v := (.pointer (some ⟨sb, so + 5, none⟩))) (fun av wv hE hS hO hD => ?_) (fun _ => rfl)
    have d4 : av.eval (.tmp 4) = (.pointer (some ⟨sb, so, none⟩)) := hD.1 rfl _ rfl
    have f4 := (ev_form av 4).symm.trans d4
    refine ⟨rfl, ?_⟩
    simp [go_sem, f4]
  case s3 =>
    refine step_wp (fun av wv hE hS hO hD => ?_)
    have d5 : av.eval (.tmp 5) = (.pointer (some ⟨sb, so + 5, none⟩)) := hD.1 rfl _ rfl
    have f5 := (ev_form av 5).symm.trans d5
    refine ⟨rfl, ?_⟩
    refine wp_of_callP (f := 145) (args := #[.string ⟨#[80]⟩, .pointer (some ⟨sb, so + 5, none⟩), .int .i64 10240]) (by simp [go_sem, f5]) (HP0.out wv (of_drew hE)) (fun u w2 ⟨v, hu, hs, hb⟩ => ⟨u, rfl, es_of_ext hb, v, hu, hs⟩)
  case s4 =>
    refine step_val (v := (.pointer (some ⟨sb, so, none⟩))) (fun av wv hE hS hO hD => ?_) (fun _ => rfl)
    have h0 : av.eval (.tmp 0) = (.pointer (some ⟨sb, so, none⟩)) := hO.2.2 0 rfl
    have f0 := (ev_form av 0).symm.trans h0
    refine ⟨rfl, ?_⟩
    simp [go_sem, f0]
  case s5 =>
    refine step_val (v := (.pointer (some ⟨sb, so, none⟩))) (fun av wv hE hS hO hD => ?_) (fun _ => rfl)
    have d7 : av.eval (.tmp 7) = (.pointer (some ⟨sb, so, none⟩)) := hD.1 rfl _ rfl
    have f7 := (ev_form av 7).symm.trans d7
    refine ⟨rfl, ?_⟩
    simp [go_sem, f7]
  case s6 =>
    refine step_val (v := (.pointer (some ⟨sb, so + 4, none⟩))) (fun av wv hE hS hO hD => ?_) (fun _ => rfl)
    have d8 : av.eval (.tmp 8) = (.pointer (some ⟨sb, so, none⟩)) := hD.1 rfl _ rfl
    have f8 := (ev_form av 8).symm.trans d8
    refine ⟨rfl, ?_⟩
    simp [go_sem, f8]
  case s7 =>
    refine step_wp (fun av wv hE hS hO hD => ?_)
    have d9 : av.eval (.tmp 9) = (.pointer (some ⟨sb, so + 4, none⟩)) := hD.1 rfl _ rfl
    have f9 := (ev_form av 9).symm.trans d9
    refine ⟨rfl, ?_⟩
    refine wp_of_callP (f := 145) (args := #[.string ⟨#[83]⟩, .pointer (some ⟨sb, so + 4, none⟩), .int .i64 10240]) (by simp [go_sem, f9]) (HP1.out wv (of_drew hE)) (fun u w2 ⟨v, hu, hs, hb⟩ => ⟨u, rfl, es_of_ext hb, v, hu, hs⟩)
  case s8 =>
    refine step_val (v := (.pointer (some ⟨sb, so, none⟩))) (fun av wv hE hS hO hD => ?_) (fun _ => rfl)
    have h0 : av.eval (.tmp 0) = (.pointer (some ⟨sb, so, none⟩)) := hO.2.2 0 rfl
    have f0 := (ev_form av 0).symm.trans h0
    refine ⟨rfl, ?_⟩
    simp [go_sem, f0]
  case s9 =>
    refine step_val (v := (.pointer (some ⟨sb, so, none⟩))) (fun av wv hE hS hO hD => ?_) (fun _ => rfl)
    have d11 : av.eval (.tmp 11) = (.pointer (some ⟨sb, so, none⟩)) := hD.1 rfl _ rfl
    have f11 := (ev_form av 11).symm.trans d11
    refine ⟨rfl, ?_⟩
    simp [go_sem, f11]
  case s10 =>
    refine step_val (v := (.pointer (some ⟨sb, so, none⟩))) (fun av wv hE hS hO hD => ?_) (fun _ => rfl)
    have d12 : av.eval (.tmp 12) = (.pointer (some ⟨sb, so, none⟩)) := hD.1 rfl _ rfl
    have f12 := (ev_form av 12).symm.trans d12
    refine ⟨rfl, ?_⟩
    simp [go_sem, f12]
  case s11 =>
    refine step_wp (fun av wv hE hS hO hD => ?_)
    have d13 : av.eval (.tmp 13) = (.pointer (some ⟨sb, so, none⟩)) := hD.1 rfl _ rfl
    have f13 := (ev_form av 13).symm.trans d13
    refine ⟨rfl, ?_⟩
    refine wp_of_callP (f := 111) (args := #[.string ⟨#[99]⟩, .pointer (some ⟨sb, so, none⟩)]) (by simp [go_sem, f13]) (HP2.out wv (of_drew hE)) (fun u w2 ⟨v, hu, hs, hb⟩ => ⟨u, rfl, es_of_ext hb, v, hu, hs⟩)
  case s12 =>
    refine step_val (v := (.pointer (some ⟨sb, so, none⟩))) (fun av wv hE hS hO hD => ?_) (fun _ => rfl)
    have h0 : av.eval (.tmp 0) = (.pointer (some ⟨sb, so, none⟩)) := hO.2.2 0 rfl
    have f0 := (ev_form av 0).symm.trans h0
    refine ⟨rfl, ?_⟩
    simp [go_sem, f0]
  case s13 =>
    refine step_val (v := (.pointer (some ⟨sb, so, none⟩))) (fun av wv hE hS hO hD => ?_) (fun _ => rfl)
    have d15 : av.eval (.tmp 15) = (.pointer (some ⟨sb, so, none⟩)) := hD.1 rfl _ rfl
    have f15 := (ev_form av 15).symm.trans d15
    refine ⟨rfl, ?_⟩
    simp [go_sem, f15]
  case s14 =>
    refine step_val (v := (.pointer (some ⟨sb, so + 3, none⟩))) (fun av wv hE hS hO hD => ?_) (fun _ => rfl)
    have d16 : av.eval (.tmp 16) = (.pointer (some ⟨sb, so, none⟩)) := hD.1 rfl _ rfl
    have f16 := (ev_form av 16).symm.trans d16
    refine ⟨rfl, ?_⟩
    simp [go_sem, f16]
  case s15 =>
    refine step_wp (fun av wv hE hS hO hD => ?_)
    have d17 : av.eval (.tmp 17) = (.pointer (some ⟨sb, so + 3, none⟩)) := hD.1 rfl _ rfl
    have f17 := (ev_form av 17).symm.trans d17
    refine ⟨rfl, ?_⟩
    refine wp_of_callP (f := 146) (args := #[.string ⟨#[112]⟩, .pointer (some ⟨sb, so + 3, none⟩), .int .i64 640, .func (.func 147) #[] #[], .func (.func 148) #[] #[], .func (.func 150) #[] #[]]) (by simp [go_sem, f17]) (HP3.out wv (of_drew hE)) (fun u w2 ⟨v, hu, hs, hb⟩ => ⟨u, rfl, es_of_ext hb, v, hu, hs⟩)
  case s16 =>
    refine step_val (v := (.pointer (some ⟨sb, so, none⟩))) (fun av wv hE hS hO hD => ?_) (fun _ => rfl)
    have h0 : av.eval (.tmp 0) = (.pointer (some ⟨sb, so, none⟩)) := hO.2.2 0 rfl
    have f0 := (ev_form av 0).symm.trans h0
    refine ⟨rfl, ?_⟩
    simp [go_sem, f0]
  case s17 =>
    refine step_val (v := (.pointer (some ⟨sb, so, none⟩))) (fun av wv hE hS hO hD => ?_) (fun _ => rfl)
    have d19 : av.eval (.tmp 19) = (.pointer (some ⟨sb, so, none⟩)) := hD.1 rfl _ rfl
    have f19 := (ev_form av 19).symm.trans d19
    refine ⟨rfl, ?_⟩
    simp [go_sem, f19]
  case s18 =>
    refine step_val (v := (.pointer (some ⟨sb, so + 2, none⟩))) (fun av wv hE hS hO hD => ?_) (fun _ => rfl)
    have d20 : av.eval (.tmp 20) = (.pointer (some ⟨sb, so, none⟩)) := hD.1 rfl _ rfl
    have f20 := (ev_form av 20).symm.trans d20
    refine ⟨rfl, ?_⟩
    simp [go_sem, f20]
  case s19 =>
    refine step_wp (fun av wv hE hS hO hD => ?_)
    have d21 : av.eval (.tmp 21) = (.pointer (some ⟨sb, so + 2, none⟩)) := hD.1 rfl _ rfl
    have f21 := (ev_form av 21).symm.trans d21
    refine ⟨rfl, ?_⟩
    refine wp_of_callP (f := 153) (args := #[.string ⟨#[114]⟩, .pointer (some ⟨sb, so + 2, none⟩), .int .i64 640, .func (.func 154) #[] #[], .func (.func 156) #[] #[], .func (.func 157) #[] #[]]) (by simp [go_sem, f21]) (HP4.out wv (of_drew hE)) (fun u w2 ⟨v, hu, hs, hb⟩ => ⟨u, rfl, es_of_ext hb, v, hu, hs⟩)
  case s20 =>
    refine step_val (v := (.pointer (some ⟨sb, so, none⟩))) (fun av wv hE hS hO hD => ?_) (fun _ => rfl)
    have h0 : av.eval (.tmp 0) = (.pointer (some ⟨sb, so, none⟩)) := hO.2.2 0 rfl
    have f0 := (ev_form av 0).symm.trans h0
    refine ⟨rfl, ?_⟩
    simp [go_sem, f0]
  case s21 =>
    refine step_val (v := (.pointer (some ⟨sb, so, none⟩))) (fun av wv hE hS hO hD => ?_) (fun _ => rfl)
    have d23 : av.eval (.tmp 23) = (.pointer (some ⟨sb, so, none⟩)) := hD.1 rfl _ rfl
    have f23 := (ev_form av 23).symm.trans d23
    refine ⟨rfl, ?_⟩
    simp [go_sem, f23]
  case s22 =>
    refine step_val (v := (.pointer (some ⟨sb, so + 1, none⟩))) (fun av wv hE hS hO hD => ?_) (fun _ => rfl)
    have d24 : av.eval (.tmp 24) = (.pointer (some ⟨sb, so, none⟩)) := hD.1 rfl _ rfl
    have f24 := (ev_form av 24).symm.trans d24
    refine ⟨rfl, ?_⟩
    simp [go_sem, f24]
  case s23 =>
    refine step_wp (fun av wv hE hS hO hD => ?_)
    have d25 : av.eval (.tmp 25) = (.pointer (some ⟨sb, so + 1, none⟩)) := hD.1 rfl _ rfl
    have f25 := (ev_form av 25).symm.trans d25
    refine ⟨rfl, ?_⟩
    refine wp_of_callP (f := 109) (args := #[.string ⟨#[119]⟩, .pointer (some ⟨sb, so + 1, none⟩)]) (by simp [go_sem, f25]) (HP5.out wv (of_drew hE)) (fun u w2 ⟨v, hu, hs, hb⟩ => ⟨u, rfl, es_of_ext hb, v, hu, hs⟩)
  intro a' w' hE hO hall
  have hA := act_of_outer (ds := [3, 4, 5, 6, 7, 8, 9, 10, 11, 12, 13, 14, 15, 16, 17, 18, 19, 20, 21, 22, 23, 24, 25, 26]) rfl hO (by kernel_rfl)
  have e3 : (fun u _ => u = (.pointer (some ⟨sb, so, none⟩))) (a'.eval (.tmp 3)) w' := hall.1 _ rfl
  have e4 : (fun u _ => u = (.pointer (some ⟨sb, so, none⟩))) (a'.eval (.tmp 4)) w' := hall.2.1 _ rfl
  have e5 : (fun u _ => u = (.pointer (some ⟨sb, so + 5, none⟩))) (a'.eval (.tmp 5)) w' := hall.2.2.1 _ rfl
  have e6 : (fun u w' => ∃ v : FVal, u = v.val ∧ P0 w' v) (a'.eval (.tmp 6)) w' := hall.2.2.2.1 _ rfl
  have e7 : (fun u _ => u = (.pointer (some ⟨sb, so, none⟩))) (a'.eval (.tmp 7)) w' := hall.2.2.2.2.1 _ rfl
  have e8 : (fun u _ => u = (.pointer (some ⟨sb, so, none⟩))) (a'.eval (.tmp 8)) w' := hall.2.2.2.2.2.1 _ rfl
  have e9 : (fun u _ => u = (.pointer (some ⟨sb, so + 4, none⟩))) (a'.eval (.tmp 9)) w' := hall.2.2.2.2.2.2.1 _ rfl
  have e10 : (fun u w' => ∃ v : FVal, u = v.val ∧ P1 w' v) (a'.eval (.tmp 10)) w' := hall.2.2.2.2.2.2.2.1 _ rfl
  have e11 : (fun u _ => u = (.pointer (some ⟨sb, so, none⟩))) (a'.eval (.tmp 11)) w' := hall.2.2.2.2.2.2.2.2.1 _ rfl
  have e12 : (fun u _ => u = (.pointer (some ⟨sb, so, none⟩))) (a'.eval (.tmp 12)) w' := hall.2.2.2.2.2.2.2.2.2.1 _ rfl
  have e13 : (fun u _ => u = (.pointer (some ⟨sb, so, none⟩))) (a'.eval (.tmp 13)) w' := hall.2.2.2.2.2.2.2.2.2.2.1 _ rfl
  have e14 : (fun u w' => ∃ v : FVal, u = v.val ∧ P2 w' v) (a'.eval (.tmp 14)) w' := hall.2.2.2.2.2.2.2.2.2.2.2.1 _ rfl
  have e15 : (fun u _ => u = (.pointer (some ⟨sb, so, none⟩))) (a'.eval (.tmp 15)) w' := hall.2.2.2.2.2.2.2.2.2.2.2.2.1 _ rfl
  have e16 : (fun u _ => u = (.pointer (some ⟨sb, so, none⟩))) (a'.eval (.tmp 16)) w' := hall.2.2.2.2.2.2.2.2.2.2.2.2.2.1 _ rfl
  have e17 : (fun u _ => u = (.pointer (some ⟨sb, so + 3, none⟩))) (a'.eval (.tmp 17)) w' := hall.2.2.2.2.2.2.2.2.2.2.2.2.2.2.1 _ rfl
  have e18 : (fun u w' => ∃ v : FVal, u = v.val ∧ P3 w' v) (a'.eval (.tmp 18)) w' := hall.2.2.2.2.2.2.2.2.2.2.2.2.2.2.2.1 _ rfl
  have e19 : (fun u _ => u = (.pointer (some ⟨sb, so, none⟩))) (a'.eval (.tmp 19)) w' := hall.2.2.2.2.2.2.2.2.2.2.2.2.2.2.2.2.1 _ rfl
  have e20 : (fun u _ => u = (.pointer (some ⟨sb, so, none⟩))) (a'.eval (.tmp 20)) w' := hall.2.2.2.2.2.2.2.2.2.2.2.2.2.2.2.2.2.1 _ rfl
  have e21 : (fun u _ => u = (.pointer (some ⟨sb, so + 2, none⟩))) (a'.eval (.tmp 21)) w' := hall.2.2.2.2.2.2.2.2.2.2.2.2.2.2.2.2.2.2.1 _ rfl
  have e22 : (fun u w' => ∃ v : FVal, u = v.val ∧ P4 w' v) (a'.eval (.tmp 22)) w' := hall.2.2.2.2.2.2.2.2.2.2.2.2.2.2.2.2.2.2.2.1 _ rfl
  have e23 : (fun u _ => u = (.pointer (some ⟨sb, so, none⟩))) (a'.eval (.tmp 23)) w' := hall.2.2.2.2.2.2.2.2.2.2.2.2.2.2.2.2.2.2.2.2.1 _ rfl
  have e24 : (fun u _ => u = (.pointer (some ⟨sb, so, none⟩))) (a'.eval (.tmp 24)) w' := hall.2.2.2.2.2.2.2.2.2.2.2.2.2.2.2.2.2.2.2.2.2.1 _ rfl
  have e25 : (fun u _ => u = (.pointer (some ⟨sb, so + 1, none⟩))) (a'.eval (.tmp 25)) w' := hall.2.2.2.2.2.2.2.2.2.2.2.2.2.2.2.2.2.2.2.2.2.2.1 _ rfl
  have e26 : (fun u w' => ∃ v : FVal, u = v.val ∧ P5 w' v) (a'.eval (.tmp 26)) w' := hall.2.2.2.2.2.2.2.2.2.2.2.2.2.2.2.2.2.2.2.2.2.2.2.1 _ rfl
  obtain ⟨v6, hv6⟩ : ∃ v, a'.eval (.tmp 6) = v := ⟨_, rfl⟩
  rw [hv6] at e6
  obtain ⟨v10, hv10⟩ : ∃ v, a'.eval (.tmp 10) = v := ⟨_, rfl⟩
  rw [hv10] at e10
  obtain ⟨v14, hv14⟩ : ∃ v, a'.eval (.tmp 14) = v := ⟨_, rfl⟩
  rw [hv14] at e14
  obtain ⟨v18, hv18⟩ : ∃ v, a'.eval (.tmp 18) = v := ⟨_, rfl⟩
  rw [hv18] at e18
  obtain ⟨v22, hv22⟩ : ∃ v, a'.eval (.tmp 22) = v := ⟨_, rfl⟩
  rw [hv22] at e22
  obtain ⟨v26, hv26⟩ : ∃ v, a'.eval (.tmp 26) = v := ⟨_, rfl⟩
  rw [hv26] at e26
  simp only [List.foldl_cons, List.foldl_nil, Act.put, List.setIfInBounds_toArray, List.set_cons_succ, List.set_cons_zero, e3, e4, e5, hv6, e7, e8, e9, hv10, e11, e12, e13, hv14, e15, e16, e17, hv18, e19, e20, e21, hv22, e23, e24, e25, hv26] at hA
  clear hO hall e3 e4 e5 hv6 e7 e8 e9 hv10 e11 e12 e13 hv14 e15 e16 e17 hv18 e19 e20 e21 hv22 e23 e24 e25 hv26
  subst hA
  obtain ⟨x0, rfl, s0⟩ := e6
  obtain ⟨x1, rfl, s1⟩ := e10
  obtain ⟨x2, rfl, s2⟩ := e14
  obtain ⟨x3, rfl, s3⟩ := e18
  obtain ⟨x4, rfl, s4⟩ := e22
  obtain ⟨x5, rfl, s5⟩ := e26
  have HSS : Hid (∀ o, RowCert P0 P1 P2 P3 P4 P5 (w'.alloc o) [x0, x1, x2, x3, x4, x5]) := Lib.hid (fun o => ⟨x0, x1, x2, x3, x4, x5, rfl, hP0 _ _ _ (balloc (Below.refl _ _) _) s0, hP1 _ _ _ (balloc (Below.refl _ _) _) s1, hP2 _ _ _ (balloc (Below.refl _ _) _) s2, hP3 _ _ _ (balloc (Below.refl _ _) _) s3, hP4 _ _ _ (balloc (Below.refl _ _) _) s4, hP5 _ _ _ (balloc (Below.refl _ _) _) s5⟩)
  have HBW : Hid (Below w.heap.size w w') := Lib.hid (of_drew hE)
  clear s0 s1 s2 s3 s4 s5 hE
  unfold FVal.val
  go_wp2
  go_ret
  exact ⟨_, rfl, ⟨w'.heap.size, 6, [x0, x1, x2, x3, x4, x5], rfl, Nat.le_refl _, ⟨Flds.block (l := [x0, x1, x2, x3, x4, x5]) (heap_alloc_new w' _), _, heap_alloc_new w' _⟩, HSS.out _⟩, bnext HBW.out (balloc (Below.refl _ _) _)⟩
def RowMsg (P0 P1 P2 P3 P4 P5 : World → FVal → Prop) : World → List FVal → Prop := fun w l => ∃ x0 x1 x2 x3 x4 x5, l = [x0, x1, x2, x3, x4, x5] ∧ P0 w x0 ∧ P1 w x1 ∧ P2 w x2 ∧ P3 w x3 ∧ P4 w x4 ∧ P5 w x5
set_option maxRecDepth 100000 in
set_option maxHeartbeats 8000000 in
theorem gofMsg_any (sb so : Nat) (w : World) (P0 P1 P2 P3 P4 P5 : World → FVal → Prop)
    (hp0 : ∀ w', Below w.heap.size w w' → Calls Tryz.prog 109 #[.string ⟨#[102]⟩, .pointer (some ⟨sb, so + 4, none⟩)] w' (MadeG P0 w'))
    (hP0 : Lasts P0)
    (hp1 : ∀ w', Below w.heap.size w w' → Calls Tryz.prog 111 #[.string ⟨#[104]⟩, .pointer (some ⟨sb, so, none⟩)] w' (MadeG P1 w'))
    (hP1 : Lasts P1)
    (hp2 : ∀ w', Below w.heap.size w w' → Calls Tryz.prog 109 #[.string ⟨#[108]⟩, .pointer (some ⟨sb, so + 5, none⟩)] w' (MadeG P2 w'))
    (hP2 : Lasts P2)
    (hp3 : ∀ w', Below w.heap.size w w' → Calls Tryz.prog 109 #[.string ⟨#[110]⟩, .pointer (some ⟨sb, so + 2, none⟩)] w' (MadeG P3 w'))
    (hP3 : Lasts P3)
    (hp4 : ∀ w', Below w.heap.size w w' → Calls Tryz.prog 111 #[.string ⟨#[118]⟩, .pointer (some ⟨sb, so + 1, none⟩)] w' (MadeG P4 w'))
    (hP4 : Lasts P4)
    (hp5 : ∀ w', Below w.heap.size w w' → Calls Tryz.prog 109 #[.string ⟨#[119]⟩, .pointer (some ⟨sb, so + 3, none⟩)] w' (MadeG P5 w'))
    (hP5 : Lasts P5) :
    Calls Tryz.prog 80 #[.pointer (some ⟨sb, so, none⟩)] w (RowIs (RowMsg P0 P1 P2 P3 P4 P5) w) := by
  have HP0 := Lib.hid hp0
  have HP1 := Lib.hid hp1
  have HP2 := Lib.hid hp2
  have HP3 := Lib.hid hp3
  have HP4 := Lib.hid hp4
  have HP5 := Lib.hid hp5
  clear hp0 hp1 hp2 hp3 hp4 hp5
  go_enter Tryz.func80, Tryz.ntmps80
  go_upto_region 1 with fail
  refine wp_region_tail 24 1000 (none) (phis [fun u _ => u = (.pointer (some ⟨sb, so, none⟩)), fun u _ => u = (.pointer (some ⟨sb, so, none⟩)), fun u _ => u = (.pointer (some ⟨sb, so + 4, none⟩)), fun u w' => ∃ v : FVal, u = v.val ∧ P0 w' v, fun u _ => u = (.pointer (some ⟨sb, so, none⟩)), fun u _ => u = (.pointer (some ⟨sb, so, none⟩)), fun u _ => u = (.pointer (some ⟨sb, so, none⟩)), fun u w' => ∃ v : FVal, u = v.val ∧ P1 w' v, fun u _ => u = (.pointer (some ⟨sb, so, none⟩)), fun u _ => u = (.pointer (some ⟨sb, so, none⟩)), fun u _ => u = (.pointer (some ⟨sb, so + 5, none⟩)), fun u w' => ∃ v : FVal, u = v.val ∧ P2 w' v, fun u _ => u = (.pointer (some ⟨sb, so, none⟩)), fun u _ => u = (.pointer (some ⟨sb, so, none⟩)), fun u _ => u = (.pointer (some ⟨sb, so + 2, none⟩)), fun u w' => ∃ v : FVal, u = v.val ∧ P3 w' v, fun u _ => u = (.pointer (some ⟨sb, so, none⟩)), fun u _ => u = (.pointer (some ⟨sb, so, none⟩)), fun u _ => u = (.pointer (some ⟨sb, so + 1, none⟩)), fun u w' => ∃ v : FVal, u = v.val ∧ P4 w' v, fun u _ => u = (.pointer (some ⟨sb, so, none⟩)), fun u _ => u = (.pointer (some ⟨sb, so, none⟩)), fun u _ => u = (.pointer (some ⟨sb, so + 3, none⟩)), fun u w' => ∃ v : FVal, u = v.val ∧ P5 w' v]) rfl (by kernel_rfl) (by kernel_rfl) (mono_of ⟨mono_eq, mono_eq, mono_eq, ?m3, mono_eq, mono_eq, mono_eq, ?m7, mono_eq, mono_eq, mono_eq, ?m11, mono_eq, mono_eq, mono_eq, ?m15, mono_eq, mono_eq, mono_eq, ?m19, mono_eq, mono_eq, mono_eq, ?m23, trivial⟩) (steps_of 24 ⟨?s0, ?s1, ?s2, ?s3, ?s4, ?s5, ?s6, ?s7, ?s8, ?s9, ?s10, ?s11, ?s12, ?s13, ?s14, ?s15, ?s16, ?s17, ?s18, ?s19, ?s20, ?s21, ?s22, ?s23, trivial⟩) ?_
  case m3 =>
    exact ⟨fun u w1 w2 h ⟨v, h1, h2⟩ => ⟨v, h1, hP0 _ _ _ h h2⟩, fun _ u w1 w2 h ⟨v, h1, h2⟩ => ⟨v, h1, hP0 _ _ _ (extB_none h) h2⟩⟩
  case m7 =>
    exact ⟨fun u w1 w2 h ⟨v, h1, h2⟩ => ⟨v, h1, hP1 _ _ _ h h2⟩, fun _ u w1 w2 h ⟨v, h1, h2⟩ => ⟨v, h1, hP1 _ _ _ (extB_none h) h2⟩⟩
  case m11 =>
    exact ⟨fun u w1 w2 h ⟨v, h1, h2⟩ => ⟨v, h1, hP2 _ _ _ h h2⟩, fun _ u w1 w2 h ⟨v, h1, h2⟩ => ⟨v, h1, hP2 _ _ _ (extB_none h) h2⟩⟩
  case m15 =>
    exact ⟨fun u w1 w2 h ⟨v, h1, h2⟩ => ⟨v, h1, hP3 _ _ _ h h2⟩, fun _ u w1 w2 h ⟨v, h1, h2⟩ => ⟨v, h1, hP3 _ _ _ (extB_none h) h2⟩⟩
  case m19 =>
    exact ⟨fun u w1 w2 h ⟨v, h1, h2⟩ => ⟨v, h1, hP4 _ _ _ h h2⟩, fun _ u w1 w2 h ⟨v, h1, h2⟩ => ⟨v, h1, hP4 _ _ _ (extB_none h) h2⟩⟩
  case m23 =>
    exact ⟨fun u w1 w2 h ⟨v, h1, h2⟩ => ⟨v, h1, hP5 _ _ _ h h2⟩, fun _ u w1 w2 h ⟨v, h1, h2⟩ => ⟨v, h1, hP5 _ _ _ (extB_none h) h2⟩⟩
  case s0 =>
    refine step_val (v := (.pointer (some ⟨sb, so, none⟩))) (fun av wv hE hS hO hD => ?_) (fun _ => rfl)
    have h0 : av.eval (.tmp 0) = (.pointer (some ⟨sb, so, none⟩)) := hO.2.2 0 rfl
    have f0 := (ev_form av 0).symm.trans h0
    refine ⟨rfl, ?_⟩
    simp [go_sem, f0]
  case s1 =>
    refine step_val (v := (.pointer (some ⟨sb, so, none⟩))) (fun av wv hE hS hO hD => ?_) (fun _ => rfl)
    have d3 : av.eval (.tmp 3) = (.pointer (some ⟨sb, so, none⟩)) := hD.1 rfl _ rfl
    have f3 := (ev_form av 3).symm.trans d3
    refine ⟨rfl, ?_⟩
    simp [go_sem, f3]
  case s2 =>
    refine step_val (v := (.pointer (some ⟨sb, so + 4, none⟩))) (fun av wv hE hS hO hD => ?_) (fun _ => rfl)
    have d4 : av.eval (.tmp 4) = (.pointer (some ⟨sb, so, none⟩)) := hD.1 rfl _ rfl
    have f4 := (ev_form av 4).symm.trans d4
    refine ⟨rfl, ?_⟩
    simp [go_sem, f4]
  case s3 =>
    refine step_wp (fun av wv hE hS hO hD => ?_)
    have d5 : av.eval (.tmp 5) = (.pointer (some ⟨sb, so + 4, none⟩)) := hD.1 rfl _ rfl
    have f5 := (ev_form av 5).symm.trans d5
    refine ⟨rfl, ?_⟩
    refine wp_of_callP (f := 109) (args := #[.string ⟨#[102]⟩, .pointer (some ⟨sb, so + 4, none⟩)]) (by simp [go_sem, f5]) (HP0.out wv (of_drew hE)) (fun u w2 ⟨v, hu, hs, hb⟩ => ⟨u, rfl, es_of_ext hb, v, hu, hs⟩)
  case s4 =>
    refine step_val (v := (.pointer (some ⟨sb, so, none⟩))) (fun av wv hE hS hO hD => ?_) (fun _ => rfl)
    have h0 : av.eval (.tmp 0) = (.pointer (some ⟨sb, so, none⟩)) := hO.2.2 0 rfl
    have f0 := (ev_form av 0).symm.trans h0
    refine ⟨rfl, ?_⟩
    simp [go_sem, f0]
  case s5 =>
    refine step_val (v := (.pointer (some ⟨sb, so, none⟩))) (fun av wv hE hS hO hD => ?_) (fun _ => rfl)
    have d7 : av.eval (.tmp 7) = (.pointer (some ⟨sb, so, none⟩)) := hD.1 rfl _ rfl
    have f7 := (ev_form av 7).symm.trans d7
    refine ⟨rfl, ?_⟩
    simp [go_sem, f7]
  case s6 =>
    refine step_val (v := (.pointer (some ⟨sb, so, none⟩))) (fun av wv hE hS hO hD => ?_) (fun _ => rfl)
    have d8 : av.eval (.tmp 8) = (.pointer (some ⟨sb, so, none⟩)) := hD.1 rfl _ rfl
    have f8 := (ev_form av 8).symm.trans d8
    refine ⟨rfl, ?_⟩
    simp [go_sem, f8]
  case s7 =>
    refine step_wp (fun av wv hE hS hO hD => ?_)
    have d9 : av.eval (.tmp 9) = (.pointer (some ⟨sb, so, none⟩)) := hD.1 rfl _ rfl
    have f9 := (ev_form av 9).symm.trans d9
    refine ⟨rfl, ?_⟩
    refine wp_of_callP (f := 111) (args := #[.string ⟨#[104]⟩, .pointer (some ⟨sb, so, none⟩)]) (by simp [go_sem, f9]) (HP1.out wv (of_drew hE)) (fun u w2 ⟨v, hu, hs, hb⟩ => ⟨u, rfl, es_of_ext hb, v, hu, hs⟩)
  case s8 =>
    refine step_val (v := (.pointer (some ⟨sb, so, none⟩))) (fun av wv hE hS hO hD => ?_) (fun _ => rfl)
    have h0 : av.eval (.tmp 0) = (.pointer (some ⟨sb, so, none⟩)) := hO.2.2 0 rfl
    have f0 := (ev_form av 0).symm.trans h0
    refine ⟨rfl, ?_⟩
    simp [go_sem, f0]
  case s9 =>
    refine step_val (v := (.pointer (some ⟨sb, so, none⟩))) (fun av wv hE hS hO hD => ?_) (fun _ => rfl)
    have d11 : av.eval (.tmp 11) = (.pointer (some ⟨sb, so, none⟩)) := hD.1 rfl _ rfl
    have f11 := (ev_form av 11).symm.trans d11
    refine ⟨rfl, ?_⟩
    simp [go_sem, f11]
  case s10 =>
    refine step_val (v := (.pointer (some ⟨sb, so + 5, none⟩))) (fun av wv hE hS hO hD => ?_) (fun _ => rfl)
    have d12 : av.eval (.tmp 12) = (.pointer (some ⟨sb, so, none⟩)) := hD.1 rfl _ rfl
    have f12 := (ev_form av 12).symm.trans d12
    refine ⟨rfl, ?_⟩
    simp [go_sem, f12]
  case s11 =>
    refine step_wp (fun av wv hE hS hO hD => ?_)
    have d13 : av.eval (.tmp 13) = (.pointer (some ⟨sb, so + 5, none⟩)) := hD.1 rfl _ rfl
    have f13 := (ev_form av 13).symm.trans d13
    refine ⟨rfl, ?_⟩
    refine wp_of_callP (f := 109) (args := #[.string ⟨#[108]⟩, .pointer (some ⟨sb, so + 5, none⟩)]) (by simp [go_sem, f13]) (HP2.out wv (of_drew hE)) (fun u w2 ⟨v, hu, hs, hb⟩ => ⟨u, rfl, es_of_ext hb, v, hu, hs⟩)
  case s12 =>
    refine step_val (v := (.pointer (some ⟨sb, so, none⟩))) (fun av wv hE hS hO hD => ?_) (fun _ => rfl)
    have h0 : av.eval (.tmp 0) = (.pointer (some ⟨sb, so, none⟩)) := hO.2.2 0 rfl
    have f0 := (ev_form av 0).symm.trans h0
    refine ⟨rfl, ?_⟩
    simp [go_sem, f0]
  case s13 =>
    refine step_val (v := (.pointer (some ⟨sb, so, none⟩))) (fun av wv hE hS hO hD => ?_) (fun _ => rfl)
    have d15 : av.eval (.tmp 15) = (.pointer (some ⟨sb, so, none⟩)) := hD.1 rfl _ rfl
    have f15 := (ev_form av 15).symm.trans d15
    refine ⟨rfl, ?_⟩
    simp [go_sem, f15]
  case s14 =>
    refine step_val (v := (.pointer (some ⟨sb, so + 2, none⟩))) (fun av wv hE hS hO hD => ?_) (fun _ => rfl)
    have d16 : av.eval (.tmp 16) = (.pointer (some ⟨sb, so, none⟩)) := hD.1 rfl _ rfl
    have f16 := (ev_form av 16).symm.trans d16
    refine ⟨rfl, ?_⟩
    simp [go_sem, f16]
  case s15 =>
    refine step_wp (fun av wv hE hS hO hD => ?_)
    have d17 : av.eval (.tmp 17) = (.pointer (some ⟨sb, so + 2, none⟩)) := hD.1 rfl _ rfl
    have f17 := (ev_form av 17).symm.trans d17
    refine ⟨rfl, ?_⟩
    refine wp_of_callP (f := 109) (args := #[.string ⟨#[110]⟩, .pointer (some ⟨sb, so + 2, none⟩)]) (by simp [go_sem, f17]) (HP3.out wv (of_drew hE)) (fun u w2 ⟨v, hu, hs, hb⟩ => ⟨u, rfl, es_of_ext hb, v, hu, hs⟩)
  case s16 =>
    refine step_val (v := (.pointer (some ⟨sb, so, none⟩))) (fun av wv hE hS hO hD => ?_) (fun _ => rfl)
    have h0 : av.eval (.tmp 0) = (.pointer (some ⟨sb, so, none⟩)) := hO.2.2 0 rfl
    have f0 := (ev_form av 0).symm.trans h0
    refine ⟨rfl, ?_⟩
    simp [go_sem, f0]
  case s17 =>
    refine step_val (v := (.pointer (some ⟨sb, so, none⟩))) (fun av wv hE hS hO hD => ?_) (fun _ => rfl)
    have d19 : av.eval (.tmp 19) = (.pointer (some ⟨sb, so, none⟩)) := hD.1 rfl _ rfl
    have f19 := (ev_form av 19).symm.trans d19
    refine ⟨rfl, ?_⟩
    simp [go_sem, f19]
  case s18 =>
    refine step_val (v := (.pointer (some ⟨sb, so + 1, none⟩))) (fun av wv hE hS hO hD => ?_) (fun _ => rfl)
    have d20 : av.eval (.tmp 20) = (.pointer (some ⟨sb, so, none⟩)) := hD.1 rfl _ rfl
    have f20 := (ev_form av 20).symm.trans d20
    refine ⟨rfl, ?_⟩
    simp [go_sem, f20]
  case s19 =>
    refine step_wp (fun av wv hE hS hO hD => ?_)
    have d21 : av.eval (.tmp 21) = (.pointer (some ⟨sb, so + 1, none⟩)) := hD.1 rfl _ rfl
    have f21 := (ev_form av 21).symm.trans d21
    refine ⟨rfl, ?_⟩
    refine wp_of_callP (f := 111) (args := #[.string ⟨#[118]⟩, .pointer (some ⟨sb, so + 1, none⟩)]) (by simp [go_sem, f21]) (HP4.out wv (of_drew hE)) (fun u w2 ⟨v, hu, hs, hb⟩ => ⟨u, rfl, es_of_ext hb, v, hu, hs⟩)
  case s20 =>
    refine step_val (v := (.pointer (some ⟨sb, so, none⟩))) (fun av wv hE hS hO hD => ?_) (fun _ => rfl)
    have h0 : av.eval (.tmp 0) = (.pointer (some ⟨sb, so, none⟩)) := hO.2.2 0 rfl
    have f0 := (ev_form av 0).symm.trans h0
    refine ⟨rfl, ?_⟩
    simp [go_sem, f0]
  case s21 =>
    refine step_val (v := (.pointer (some ⟨sb, so, none⟩))) (fun av wv hE hS hO hD => ?_) (fun _ => rfl)
    have d23 : av.eval (.tmp 23) = (.pointer (some ⟨sb, so, none⟩)) := hD.1 rfl _ rfl
    have f23 := (ev_form av 23).symm.trans d23
    refine ⟨rfl, ?_⟩
    simp [go_sem, f23]
  case s22 =>
    refine step_val (v := (.pointer (some ⟨sb, so + 3, none⟩))) (fun av wv hE hS hO hD => ?_) (fun _ => rfl)
    have d24 : av.eval (.tmp 24) = (.pointer (some ⟨sb, so, none⟩)) := hD.1 rfl _ rfl
    have f24 := (ev_form av 24).symm.trans d24
    refine ⟨rfl, ?_⟩
    simp [go_sem, f24]
  case s23 =>
    refine step_wp (fun av wv hE hS hO hD => ?_)
    have d25 : av.eval (.tmp 25) = (.pointer (some ⟨sb, so + 3, none⟩)) := hD.1 rfl _ rfl
    have f25 := (ev_form av 25).symm.trans d25
    refine ⟨rfl, ?_⟩
    refine wp_of_callP (f := 109) (args := #[.string ⟨#[119]⟩, .pointer (some ⟨sb, so + 3, none⟩)]) (by simp [go_sem, f25]) (HP5.out wv (of_drew hE)) (fun u w2 ⟨v, hu, hs, hb⟩ => ⟨u, rfl, es_of_ext hb, v, hu, hs⟩)
  intro a' w' hE hO hall
  have hA := act_of_outer (ds := [3, 4, 5, 6, 7, 8, 9, 10, 11, 12, 13, 14, 15, 16, 17, 18, 19, 20, 21, 22, 23, 24, 25, 26]) rfl hO (by kernel_rfl)
  have e3 : (fun u _ => u = (.pointer (some ⟨sb, so, none⟩))) (a'.eval (.tmp 3)) w' := hall.1 _ rfl
  have e4 : (fun u _ => u = (.pointer (some ⟨sb, so, none⟩))) (a'.eval (.tmp 4)) w' := hall.2.1 _ rfl
  have e5 : (fun u _ => u = (.pointer (some ⟨sb, so + 4, none⟩))) (a'.eval (.tmp 5)) w' := hall.2.2.1 _ rfl
  have e6 : (fun u w' => ∃ v : FVal, u = v.val ∧ P0 w' v) (a'.eval (.tmp 6)) w' := hall.2.2.2.1 _ rfl
  have e7 : (fun u _ => u = (.pointer (some ⟨sb, so, none⟩))) (a'.eval (.tmp 7)) w' := hall.2.2.2.2.1 _ rfl
  have e8 : (fun u _ => u = (.pointer (some ⟨sb, so, none⟩))) (a'.eval (.tmp 8)) w' := hall.2.2.2.2.2.1 _ rfl
  have e9 : (fun u _ => u = (.pointer (some ⟨sb, so, none⟩))) (a'.eval (.tmp 9)) w' := hall.2.2.2.2.2.2.1 _ rfl
  have e10 : (fun u w' => ∃ v : FVal, u = v.val ∧ P1 w' v) (a'.eval (.tmp 10)) w' := hall.2.2.2.2.2.2.2.1 _ rfl
  have e11 : (fun u _ => u = (.pointer (some ⟨sb, so, none⟩))) (a'.eval (.tmp 11)) w' := hall.2.2.2.2.2.2.2.2.1 _ rfl
  have e12 : (fun u _ => u = (.pointer (some ⟨sb, so, none⟩))) (a'.eval (.tmp 12)) w' := hall.2.2.2.2.2.2.2.2.2.1 _ rfl
  have e13 : (fun u _ => u = (.pointer (some ⟨sb, so + 5, none⟩))) (a'.eval (.tmp 13)) w' := hall.2.2.2.2.2.2.2.2.2.2.1 _ rfl
  have e14 : (fun u w' => ∃ v : FVal, u = v.val ∧ P2 w' v) (a'.eval (.tmp 14)) w' := hall.2.2.2.2.2.2.2.2.2.2.2.1 _ rfl
  have e15 : (fun u _ => u = (.pointer (some ⟨sb, so, none⟩))) (a'.eval (.tmp 15)) w' := hall.2.2.2.2.2.2.2.2.2.2.2.2.1 _ rfl
  have e16 : (fun u _ => u = (.pointer (some ⟨sb, so, none⟩))) (a'.eval (.tmp 16)) w' := hall.2.2.2.2.2.2.2.2.2.2.2.2.2.1 _ rfl
  have e17 : (fun u _ => u = (.pointer (some ⟨sb, so + 2, none⟩))) (a'.eval (.tmp 17)) w' := hall.2.2.2.2.2.2.2.2.2.2.2.2.2.2.1 _ rfl
  have e18 : (fun u w' => ∃ v : FVal, u = v.val ∧ P3 w' v) (a'.eval (.tmp 18)) w' := hall.2.2.2.2.2.2.2.2.2.2.2.2.2.2.2.1 _ rfl
  have e19 : (fun u _ => u = (.pointer (some ⟨sb, so, none⟩))) (a'.eval (.tmp 19)) w' := hall.2.2.2.2.2.2.2.2.2.2.2.2.2.2.2.2.1 _ rfl
  have e20 : (fun u _ => u = (.pointer (some ⟨sb, so, none⟩))) (a'.eval (.tmp 20)) w' := hall.2.2.2.2.2.2.2.2.2.2.2.2.2.2.2.2.2.1 _ rfl
  have e21 : (fun u _ => u = (.pointer (some ⟨sb, so + 1, none⟩))) (a'.eval (.tmp 21)) w' := hall.2.2.2.2.2.2.2.2.2.2.2.2.2.2.2.2.2.2.1 _ rfl
  have e22 : (fun u w' => ∃ v : FVal, u = v.val ∧ P4 w' v) (a'.eval (.tmp 22)) w' := hall.2.2.2.2.2.2.2.2.2.2.2.2.2.2.2.2.2.2.2.1 _ rfl
  have e23 : (fun u _ => u = (.pointer (some ⟨sb, so, none⟩))) (a'.eval (.tmp 23)) w' := hall.2.2.2.2.2.2.2.2.2.2.2.2.2.2.2.2.2.2.2.2.1 _ rfl
  have e24 : (fun u _ => u = (.pointer (some ⟨sb, so, none⟩))) (a'.eval (.tmp 24)) w' := hall.2.2.2.2.2.2.2.2.2.2.2.2.2.2.2.2.2.2.2.2.2.1 _ rfl
  have e25 : (fun u _ => u = (.pointer (some ⟨sb, so + 3, none⟩))) (a'.eval (.tmp 25)) w' := hall.2.2.2.2.2.2.2.2.2.2.2.2.2.2.2.2.2.2.2.2.2.2.1 _ rfl
  have e26 : (fun u w' => ∃ v : FVal, u = v.val ∧ P5 w' v) (a'.eval (.tmp 26)) w' := hall.2.2.2.2.2.2.2.2.2.2.2.2.2.2.2.2.2.2.2.2.2.2.2.1 _ rfl
  obtain ⟨v6, hv6⟩ : ∃ v, a'.eval (.tmp 6) = v := ⟨_, rfl⟩
  rw [hv6] at e6
  obtain ⟨v10, hv10⟩ : ∃ v, a'.eval (.tmp 10) = v := ⟨_, rfl⟩
  rw [hv10] at e10
  obtain ⟨v14, hv14⟩ : ∃ v, a'.eval (.tmp 14) = v := ⟨_, rfl⟩
  rw [hv14] at e14
  obtain ⟨v18, hv18⟩ : ∃ v, a'.eval (.tmp 18) = v := ⟨_, rfl⟩
  rw [hv18] at e18
  obtain ⟨v22, hv22⟩ : ∃ v, a'.eval (.tmp 22) = v := ⟨_, rfl⟩
  rw [hv22] at e22
  obtain ⟨v26, hv26⟩ : ∃ v, a'.eval (.tmp 26) = v := ⟨_, rfl⟩
  rw [hv26] at e26
  simp only [List.foldl_cons, List.foldl_nil, Act.put, List.setIfInBounds_toArray, List.set_cons_succ, List.set_cons_zero, e3, e4, e5, hv6, e7, e8, e9, hv10, e11, e12, e13, hv14, e15, e16, e17, hv18, e19, e20, e21, hv22, e23, e24, e25, hv26] at hA
  clear hO hall e3 e4 e5 hv6 e7 e8 e9 hv10 e11 e12 e13 hv14 e15 e16 e17 hv18 e19 e20 e21 hv22 e23 e24 e25 hv26
  subst hA
  obtain ⟨x0, rfl, s0⟩ := e6
  obtain ⟨x1, rfl, s1⟩ := e10
  obtain ⟨x2, rfl, s2⟩ := e14
  obtain ⟨x3, rfl, s3⟩ := e18
  obtain ⟨x4, rfl, s4⟩ := e22
  obtain ⟨x5, rfl, s5⟩ := e26
  have HSS : Hid (∀ o, RowMsg P0 P1 P2 P3 P4 P5 (w'.alloc o) [x0, x1, x2, x3, x4, x5]) := Lib.hid (fun o => ⟨x0, x1, x2, x3, x4, x5, rfl, hP0 _ _ _ (balloc (Below.refl _ _) _) s0, hP1 _ _ _ (balloc (Below.refl _ _) _) s1, hP2 _ _ _ (balloc (Below.refl _ _) _) s2, hP3 _ _ _ (balloc (Below.refl _ _) _) s3, hP4 _ _ _ (balloc (Below.refl _ _) _) s4, hP5 _ _ _ (balloc (Below.refl _ _) _) s5⟩)
  have HBW : Hid (Below w.heap.size w w') := Lib.hid (of_drew hE)
  clear s0 s1 s2 s3 s4 s5 hE
  unfold FVal.val
  go_wp2
  go_ret
  exact ⟨_, rfl, ⟨w'.heap.size, 6, [x0, x1, x2, x3, x4, x5], rfl, Nat.le_refl _, ⟨Flds.block (l := [x0, x1, x2, x3, x4, x5]) (heap_alloc_new w' _), _, heap_alloc_new w' _⟩, HSS.out _⟩, bnext HBW.out (balloc (Below.refl _ _) _)⟩
def RowHeader (P0 P1 P2 P3 : World → FVal → Prop) : World → List FVal → Prop := fun w l => ∃ x0 x1 x2 x3, l = [x0, x1, x2, x3] ∧ P0 w x0 ∧ P1 w x1 ∧ P2 w x2 ∧ P3 w x3
set_option maxRecDepth 100000 in
set_option maxHeartbeats 8000000 in
theorem gofHeader_any (sb so : Nat) (w : World) (P0 P1 P2 P3 : World → FVal → Prop)
    (hp0 : ∀ w', Below w.heap.size w w' → Calls Tryz.prog 111 #[.string ⟨#[112]⟩, .pointer (some ⟨sb, so + 1, none⟩)] w' (MadeG P0 w'))
    (hP0 : Lasts P0)
    (hp1 : ∀ w', Below w.heap.size w w' → Calls Tryz.prog 109 #[.string ⟨#[114]⟩, .pointer (some ⟨sb, so, none⟩)] w' (MadeG P1 w'))
    (hP1 : Lasts P1)
    (hp2 : ∀ w', Below w.heap.size w w' → Calls Tryz.prog 111 #[.string ⟨#[115]⟩, .pointer (some ⟨sb, so + 3, none⟩)] w' (MadeG P2 w'))
    (hP2 : Lasts P2)
    (hp3 : ∀ w', Below w.heap.size w w' → Calls Tryz.prog 111 #[.string ⟨#[116]⟩, .pointer (some ⟨sb, so + 2, none⟩)] w' (MadeG P3 w'))
    (hP3 : Lasts P3) :
    Calls Tryz.prog 85 #[.pointer (some ⟨sb, so, none⟩)] w (RowIs (RowHeader P0 P1 P2 P3) w) := by
  have HP0 := Lib.hid hp0
  have HP1 := Lib.hid hp1
  have HP2 := Lib.hid hp2
  have HP3 := Lib.hid hp3
  clear hp0 hp1 hp2 hp3
  go_enter Tryz.func85, Tryz.ntmps85
  go_upto_region 1 with fail
  refine wp_region_tail 16 1000 (none) (phis [fun u _ => u = (.pointer (some ⟨sb, so, none⟩)), fun u _ => u = (.pointer (some ⟨sb, so, none⟩)), fun u _ => u = (.pointer (some ⟨sb, so + 1, none⟩)), fun u w' => ∃ v : FVal, u = v.val ∧ P0 w' v, fun u _ => u = (.pointer (some ⟨sb, so, none⟩)), fun u _ => u = (.pointer (some ⟨sb, so, none⟩)), fun u _ => u = (.pointer (some ⟨sb, so, none⟩)), fun u w' => ∃ v : FVal, u = v.val ∧ P1 w' v, fun u _ => u = (.pointer (some ⟨sb, so, none⟩)), fun u _ => u = (.pointer (some ⟨sb, so, none⟩)), fun u _ => u = (.pointer (some ⟨sb, so + 3, none⟩)), fun u w' => ∃ v : FVal, u = v.val ∧ P2 w' v, fun u _ => u = (.pointer (some ⟨sb, so, none⟩)), fun u _ => u = (.pointer (some ⟨sb, so, none⟩)), fun u _ => u = (.pointer (some ⟨sb, so + 2, none⟩)), fun u w' => ∃ v : FVal, u = v.val ∧ P3 w' v]) rfl (by kernel_rfl) (by kernel_rfl) (mono_of ⟨mono_eq, mono_eq, mono_eq, ?m3, mono_eq, mono_eq, mono_eq, ?m7, mono_eq, mono_eq, mono_eq, ?m11, mono_eq, mono_eq, mono_eq, ?m15, trivial⟩) (steps_of 16 ⟨?s0, ?s1, ?s2, ?s3, ?s4, ?s5, ?s6, ?s7, ?s8, ?s9, ?s10, ?s11, ?s12, ?s13, ?s14, ?s15, trivial⟩) ?_
  case m3 =>
    exact ⟨fun u w1 w2 h ⟨v, h1, h2⟩ => ⟨v, h1, hP0 _ _ _ h h2⟩, fun _ u w1 w2 h ⟨v, h1, h2⟩ => ⟨v, h1, hP0 _ _ _ (extB_none h) h2⟩⟩
  case m7 =>
    exact ⟨fun u w1 w2 h ⟨v, h1, h2⟩ => ⟨v, h1, hP1 _ _ _ h h2⟩, fun _ u w1 w2 h ⟨v, h1, h2⟩ => ⟨v, h1, hP1 _ _ _ (extB_none h) h2⟩⟩
  case m11 =>
    exact ⟨fun u w1 w2 h ⟨v, h1, h2⟩ => ⟨v, h1, hP2 _ _ _ h h2⟩, fun _ u w1 w2 h ⟨v, h1, h2⟩ => ⟨v, h1, hP2 _ _ _ (extB_none h) h2⟩⟩
  case m15 =>
    exact ⟨fun u w1 w2 h ⟨v, h1, h2⟩ => ⟨v, h1, hP3 _ _ _ h h2⟩, fun _ u w1 w2 h ⟨v, h1, h2⟩ => ⟨v, h1, hP3 _ _ _ (extB_none h) h2⟩⟩
  case s0 =>
    refine step_val (v := (.pointer (some ⟨sb, so, none⟩))) (fun av wv hE hS hO hD => ?_) (fun _ => rfl)
    have h0 : av.eval (.tmp 0) = (.pointer (some ⟨sb, so, none⟩)) := hO.2.2 0 rfl
    have f0 := (ev_form av 0).symm.trans h0
    refine ⟨rfl, ?_⟩
    simp [go_sem, f0]
  case s1 =>
    refine step_val (v := (.pointer (some ⟨sb, so, none⟩))) (fun av wv hE hS hO hD => ?_) (fun _ => rfl)
    have d3 : av.eval (.tmp 3) = (.pointer (some ⟨sb, so, none⟩)) := hD.1 rfl _ rfl
    have f3 := (ev_form av 3).symm.trans d3
    refine ⟨rfl, ?_⟩
    simp [go_sem, f3]
  case s2 =>
    refine step_val (v := (.pointer (some ⟨sb, so + 1, none⟩))) (fun av wv hE hS hO hD => ?_) (fun _ => rfl)
    have d4 : av.eval (.tmp 4) = (.pointer (some ⟨sb, so, none⟩)) := hD.1 rfl _ rfl
    have f4 := (ev_form av 4).symm.trans d4
    refine ⟨rfl, ?_⟩
    simp [go_sem, f4]
  case s3 =>
    refine step_wp (fun av wv hE hS hO hD => ?_)
    have d5 : av.eval (.tmp 5) = (.pointer (some ⟨sb, so + 1, none⟩)) := hD.1 rfl _ rfl
    have f5 := (ev_form av 5).symm.trans d5
    refine ⟨rfl, ?_⟩
    refine wp_of_callP (f := 111) (args := #[.string ⟨#[112]⟩, .pointer (some ⟨sb, so + 1, none⟩)]) (by simp [go_sem, f5]) (HP0.out wv (of_drew hE)) (fun u w2 ⟨v, hu, hs, hb⟩ => ⟨u, rfl, es_of_ext hb, v, hu, hs⟩)
  case s4 =>
    refine step_val (v := (.pointer (some ⟨sb, so, none⟩))) (fun av wv hE hS hO hD => ?_) (fun _ => rfl)
    have h0 : av.eval (.tmp 0) = (.pointer (some ⟨sb, so, none⟩)) := hO.2.2 0 rfl
    have f0 := (ev_form av 0).symm.trans h0
    refine ⟨rfl, ?_⟩
    simp [go_sem, f0]
  case s5 =>
    refine step_val (v := (.pointer (some ⟨sb, so, none⟩))) (fun av wv hE hS hO hD => ?_) (fun _ => rfl)
    have d7 : av.eval (.tmp 7) = (.pointer (some ⟨sb, so, none⟩)) := hD.1 rfl _ rfl
    have f7 := (ev_form av 7).symm.trans d7
    refine ⟨rfl, ?_⟩
    simp [go_sem, f7]
  case s6 =>
    refine step_val (v := (.pointer (some ⟨sb, so, none⟩))) (fun av wv hE hS hO hD => ?_) (fun _ => rfl)
    have d8 : av.eval (.tmp 8) = (.pointer (some ⟨sb, so, none⟩)) := hD.1 rfl _ rfl
    have f8 := (ev_form av 8).symm.trans d8
    refine ⟨rfl, ?_⟩
    simp [go_sem, f8]
  case s7 =>
    refine step_wp (fun av wv hE hS hO hD => ?_)
    have d9 : av.eval (.tmp 9) = (.pointer (some ⟨sb, so, none⟩)) := hD.1 rfl _ rfl
    have f9 := (ev_form av 9).symm.trans d9
    refine ⟨rfl, ?_⟩
    refine wp_of_callP (f := 109) (args := #[.string ⟨#[114]⟩, .pointer (some ⟨sb, so, none⟩)]) (by simp [go_sem, f9]) (HP1.out wv (of_drew hE)) (fun u w2 ⟨v, hu, hs, hb⟩ => ⟨u, rfl, es_of_ext hb, v, hu, hs⟩)
  case s8 =>
    refine step_val (v := (.pointer (some ⟨sb, so, none⟩))) (fun av wv hE hS hO hD => ?_) (fun _ => rfl)
    have h0 : av.eval (.tmp 0) = (.pointer (some ⟨sb, so, none⟩)) := hO.2.2 0 rfl
    have f0 := (ev_form av 0).symm.trans h0
    refine ⟨rfl, ?_⟩
    simp [go_sem, f0]
  case s9 =>
    refine step_val (v := (.pointer (some ⟨sb, so, none⟩))) (fun av wv hE hS hO hD => ?_) (fun _ => rfl)
    have d11 : av.eval (.tmp 11) = (.pointer (some ⟨sb, so, none⟩)) := hD.1 rfl _ rfl
    have f11 := (ev_form av 11).symm.trans d11
    refine ⟨rfl, ?_⟩
    simp [go_sem, f11]
  case s10 =>
    refine step_val (v := (.pointer (some ⟨sb, so + 3, none⟩))) (fun av wv hE hS hO hD => ?_) (fun _ => rfl)
    have d12 : av.eval (.tmp 12) = (.pointer (some ⟨sb, so, none⟩)) := hD.1 rfl _ rfl
    have f12 := (ev_form av 12).symm.trans d12
    refine ⟨rfl, ?_⟩
    simp [go_sem, f12]
  case s11 =>
    refine step_wp (fun av wv hE hS hO hD => ?_)
    have d13 : av.eval (.tmp 13) = (.pointer (some ⟨sb, so + 3, none⟩)) := hD.1 rfl _ rfl
    have f13 := (ev_form av 13).symm.trans d13
    refine ⟨rfl, ?_⟩
    refine wp_of_callP (f := 111) (args := #[.string ⟨#[115]⟩, .pointer (some ⟨sb, so + 3, none⟩)]) (by simp [go_sem, f13]) (HP2.out wv (of_drew hE)) (fun u w2 ⟨v, hu, hs, hb⟩ => ⟨u, rfl, es_of_ext hb, v, hu, hs⟩)
  case s12 =>
    refine step_val (v := (.pointer (some ⟨sb, so, none⟩))) (fun av wv hE hS hO hD => ?_) (fun _ => rfl)
    have h0 : av.eval (.tmp 0) = (.pointer (some ⟨sb, so, none⟩)) := hO.2.2 0 rfl
    have f0 := (ev_form av 0).symm.trans h0
    refine ⟨rfl, ?_⟩
    simp [go_sem, f0]
  case s13 =>
    refine step_val (v := (.pointer (some ⟨sb, so, none⟩))) (fun av wv hE hS hO hD => ?_) (fun _ => rfl)
    have d15 : av.eval (.tmp 15) = (.pointer (some ⟨sb, so, none⟩)) := hD.1 rfl _ rfl
    have f15 := (ev_form av 15).symm.trans d15
    refine ⟨rfl, ?_⟩
    simp [go_sem, f15]
  case s14 =>
    refine step_val (v := (.pointer (some ⟨sb, so + 2, none⟩))) (fun av wv hE hS hO hD => ?_) (fun _ => rfl)
    have d16 : av.eval (.tmp 16) = (.pointer (some ⟨sb, so, none⟩)) := hD.1 rfl _ rfl
    have f16 := (ev_form av 16).symm.trans d16
    refine ⟨rfl, ?_⟩
    simp [go_sem, f16]
  case s15 =>
    refine step_wp (fun av wv hE hS hO hD => ?_)
    have d17 : av.eval (.tmp 17) = (.pointer (some ⟨sb, so + 2, none⟩)) := hD.1 rfl _ rfl
    have f17 := (ev_form av 17).symm.trans d17
    refine ⟨rfl, ?_⟩
    refine wp_of_callP (f := 111) (args := #[.string ⟨#[116]⟩, .pointer (some ⟨sb, so + 2, none⟩)]) (by simp [go_sem, f17]) (HP3.out wv (of_drew hE)) (fun u w2 ⟨v, hu, hs, hb⟩ => ⟨u, rfl, es_of_ext hb, v, hu, hs⟩)
  intro a' w' hE hO hall
  have hA := act_of_outer (ds := [3, 4, 5, 6, 7, 8, 9, 10, 11, 12, 13, 14, 15, 16, 17, 18]) rfl hO (by kernel_rfl)
  have e3 : (fun u _ => u = (.pointer (some ⟨sb, so, none⟩))) (a'.eval (.tmp 3)) w' := hall.1 _ rfl
  have e4 : (fun u _ => u = (.pointer (some ⟨sb, so, none⟩))) (a'.eval (.tmp 4)) w' := hall.2.1 _ rfl
  have e5 : (fun u _ => u = (.pointer (some ⟨sb, so + 1, none⟩))) (a'.eval (.tmp 5)) w' := hall.2.2.1 _ rfl
  have e6 : (fun u w' => ∃ v : FVal, u = v.val ∧ P0 w' v) (a'.eval (.tmp 6)) w' := hall.2.2.2.1 _ rfl
  have e7 : (fun u _ => u = (.pointer (some ⟨sb, so, none⟩))) (a'.eval (.tmp 7)) w' := hall.2.2.2.2.1 _ rfl
  have e8 : (fun u _ => u = (.pointer (some ⟨sb, so, none⟩))) (a'.eval (.tmp 8)) w' := hall.2.2.2.2.2.1 _ rfl
  have e9 : (fun u _ => u = (.pointer (some ⟨sb, so, none⟩))) (a'.eval (.tmp 9)) w' := hall.2.2.2.2.2.2.1 _ rfl
  have e10 : (fun u w' => ∃ v : FVal, u = v.val ∧ P1 w' v) (a'.eval (.tmp 10)) w' := hall.2.2.2.2.2.2.2.1 _ rfl
  have e11 : (fun u _ => u = (.pointer (some ⟨sb, so, none⟩))) (a'.eval (.tmp 11)) w' := hall.2.2.2.2.2.2.2.2.1 _ rfl
  have e12 : (fun u _ => u = (.pointer (some ⟨sb, so, none⟩))) (a'.eval (.tmp 12)) w' := hall.2.2.2.2.2.2.2.2.2.1 _ rfl
  have e13 : (fun u _ => u = (.pointer (some ⟨sb, so + 3, none⟩))) (a'.eval (.tmp 13)) w' := hall.2.2.2.2.2.2.2.2.2.2.1 _ rfl
  have e14 : (fun u w' => ∃ v : FVal, u = v.val ∧ P2 w' v) (a'.eval (.tmp 14)) w' := hall.2.2.2.2.2.2.2.2.2.2.2.1 _ rfl
  have e15 : (fun u _ => u = (.pointer (some ⟨sb, so, none⟩))) (a'.eval (.tmp 15)) w' := hall.2.2.2.2.2.2.2.2.2.2.2.2.1 _ rfl
  have e16 : (fun u _ => u = (.pointer (some ⟨sb, so, none⟩))) (a'.eval (.tmp 16)) w' := hall.2.2.2.2.2.2.2.2.2.2.2.2.2.1 _ rfl
  have e17 : (fun u _ => u = (.pointer (some ⟨sb, so + 2, none⟩))) (a'.eval (.tmp 17)) w' := hall.2.2.2.2.2.2.2.2.2.2.2.2.2.2.1 _ rfl
  have e18 : (fun u w' => ∃ v : FVal, u = v.val ∧ P3 w' v) (a'.eval (.tmp 18)) w' := hall.2.2.2.2.2.2.2.2.2.2.2.2.2.2.2.1 _ rfl
  obtain ⟨v6, hv6⟩ : ∃ v, a'.eval (.tmp 6) = v := ⟨_, rfl⟩
  rw [hv6] at e6
  obtain ⟨v10, hv10⟩ : ∃ v, a'.eval (.tmp 10) = v := ⟨_, rfl⟩
  rw [hv10] at e10
  obtain ⟨v14, hv14⟩ : ∃ v, a'.eval (.tmp 14) = v := ⟨_, rfl⟩
  rw [hv14] at e14
  obtain ⟨v18, hv18⟩ : ∃ v, a'.eval (.tmp 18) = v := ⟨_, rfl⟩
  rw [hv18] at e18
  simp only [List.foldl_cons, List.foldl_nil, Act.put, List.setIfInBounds_toArray, List.set_cons_succ, List.set_cons_zero, e3, e4, e5, hv6, e7, e8, e9, hv10, e11, e12, e13, hv14, e15, e16, e17, hv18] at hA
  clear hO hall e3 e4 e5 hv6 e7 e8 e9 hv10 e11 e12 e13 hv14 e15 e16 e17 hv18
  subst hA
  obtain ⟨x0, rfl, s0⟩ := e6
  obtain ⟨x1, rfl, s1⟩ := e10
  obtain ⟨x2, rfl, s2⟩ := e14
  obtain ⟨x3, rfl, s3⟩ := e18
  have HSS : Hid (∀ o, RowHeader P0 P1 P2 P3 (w'.alloc o) [x0, x1, x2, x3]) := Lib.hid (fun o => ⟨x0, x1, x2, x3, rfl, hP0 _ _ _ (balloc (Below.refl _ _) _) s0, hP1 _ _ _ (balloc (Below.refl _ _) _) s1, hP2 _ _ _ (balloc (Below.refl _ _) _) s2, hP3 _ _ _ (balloc (Below.refl _ _) _) s3⟩)
  have HBW : Hid (Below w.heap.size w w') := Lib.hid (of_drew hE)
  clear s0 s1 s2 s3 hE
  unfold FVal.val
  go_wp2
  go_ret
  exact ⟨_, rfl, ⟨w'.heap.size, 4, [x0, x1, x2, x3], rfl, Nat.le_refl _, ⟨Flds.block (l := [x0, x1, x2, x3]) (heap_alloc_new w' _), _, heap_alloc_new w' _⟩, HSS.out _⟩, bnext HBW.out (balloc (Below.refl _ _) _)⟩
end Go.Proofs.YtihiaopilnjonaaGreatDoor
namespace Go.Proofs.YtihiaopilnjonaaGreatDoor
open Go.RowKit
set_option linter.unusedSimpArgs false
set_option linter.unusedVariables false
theorem fin_lasts (B : Nat) (S : FSpec) : Lasts (fun w v => FIn B w v S) := fun w w' v hb h => h.below hb
structure MsgAt (B : Nat) (w : World) (b o : Nat) (hd : ByteArray) (pt : ByteArray) (cnt : Int) (prv : Int) (fst : Int) (lst : Int) : Prop where
  c0 : CellAt B w b (o) (.string hd)
  c1 : CellAt B w b (o + 1) (.string pt)
  c2 : CellAt B w b (o + 2) (.int .u64 cnt)
  c3 : CellAt B w b (o + 3) (.int .u64 prv)
  c4 : CellAt B w b (o + 4) (.int .u64 fst)
  c5 : CellAt B w b (o + 5) (.int .u64 lst)
theorem MsgAt.below {B : Nat} {w w' : World} {b o : Nat} {hd : ByteArray} {pt : ByteArray} {cnt : Int} {prv : Int} {fst : Int} {lst : Int} (h : MsgAt B w b o hd pt cnt prv fst lst) (hb : Below w.heap.size w w') : MsgAt B w' b o hd pt cnt prv fst lst := ⟨h.c0.below hb, h.c1.below hb, h.c2.below hb, h.c3.below hb, h.c4.below hb, h.c5.below hb⟩
def msgSpecs (hd : ByteArray) (pt : ByteArray) (cnt : Int) (prv : Int) (fst : Int) (lst : Int) : List FSpec :=
  [⟨⟨#[102]⟩, false, fst == 0, true, numP fst⟩, ⟨⟨#[104]⟩, true, false, decide (hd.size = 32), binP hd⟩, ⟨⟨#[108]⟩, false, lst == 0, true, numP lst⟩, ⟨⟨#[110]⟩, false, cnt == 0, true, numP cnt⟩, ⟨⟨#[118]⟩, true, false, decide (pt.size = 32), binP pt⟩, ⟨⟨#[119]⟩, false, prv == 0, true, numP prv⟩]
set_option maxRecDepth 100000 in
set_option maxHeartbeats 4000000 in
theorem ofmsg_any (B sb so : Nat) (hd : ByteArray) (pt : ByteArray) (cnt : Int) (prv : Int) (fst : Int) (lst : Int) (w : World) (hB : B ≤ w.heap.size) (h : MsgAt B w sb so hd pt cnt prv fst lst) (h0 : hd.size ≤ 9223372036854775807) (h1 : pt.size ≤ 9223372036854775807) (h2 : U64i cnt) (h3 : U64i prv) (h4 : U64i fst) (h5 : U64i lst) :
    Calls Tryz.prog 80 #[.pointer (some ⟨sb, so, none⟩)] w (RowOf B (msgSpecs hd pt cnt prv fst lst) w) := by
  obtain ⟨S0, hS0⟩ : ∃ S : FSpec, (⟨⟨#[102]⟩, false, fst == 0, true, numP fst⟩ : FSpec) = S := ⟨_, rfl⟩
  obtain ⟨S1, hS1⟩ : ∃ S : FSpec, (⟨⟨#[104]⟩, true, false, decide (hd.size = 32), binP hd⟩ : FSpec) = S := ⟨_, rfl⟩
  obtain ⟨S2, hS2⟩ : ∃ S : FSpec, (⟨⟨#[108]⟩, false, lst == 0, true, numP lst⟩ : FSpec) = S := ⟨_, rfl⟩
  obtain ⟨S3, hS3⟩ : ∃ S : FSpec, (⟨⟨#[110]⟩, false, cnt == 0, true, numP cnt⟩ : FSpec) = S := ⟨_, rfl⟩
  obtain ⟨S4, hS4⟩ : ∃ S : FSpec, (⟨⟨#[118]⟩, true, false, decide (pt.size = 32), binP pt⟩ : FSpec) = S := ⟨_, rfl⟩
  obtain ⟨S5, hS5⟩ : ∃ S : FSpec, (⟨⟨#[119]⟩, false, prv == 0, true, numP prv⟩ : FSpec) = S := ⟨_, rfl⟩
  refine (gofMsg_any sb so w (fun w v => FIn B w v S0) (fun w v => FIn B w v S1) (fun w v => FIn B w v S2) (fun w v => FIn B w v S3) (fun w v => FIn B w v S4) (fun w v => FIn B w v S5) (fun w' hb => ?p0) (fin_lasts B S0) (fun w' hb => ?p1) (fin_lasts B S1) (fun w' hb => ?p2) (fin_lasts B S2) (fun w' hb => ?p3) (fin_lasts B S3) (fun w' hb => ?p4) (fin_lasts B S4) (fun w' hb => ?p5) (fin_lasts B S5)).mono ?_
  case p0 =>
    rw [← hS0]
    exact (fnum_any B ⟨#[102]⟩ sb (so + 4) fst w' (by decide) (Nat.le_trans hB hb.size) (h.c4.below hb) h4.1 h4.2).mono (fun e w'' hh => madeF (Nat.le_trans hB hb.size) hh)
  case p1 =>
    rw [← hS1]
    exact (fdigest_any B ⟨#[104]⟩ sb (so) hd w' (by decide) (Nat.le_trans hB hb.size) (h.c0.below hb) h0).mono (fun e w'' hh => madeF (Nat.le_trans hB hb.size) hh)
  case p2 =>
    rw [← hS2]
    exact (fnum_any B ⟨#[108]⟩ sb (so + 5) lst w' (by decide) (Nat.le_trans hB hb.size) (h.c5.below hb) h5.1 h5.2).mono (fun e w'' hh => madeF (Nat.le_trans hB hb.size) hh)
  case p3 =>
    rw [← hS3]
    exact (fnum_any B ⟨#[110]⟩ sb (so + 2) cnt w' (by decide) (Nat.le_trans hB hb.size) (h.c2.below hb) h2.1 h2.2).mono (fun e w'' hh => madeF (Nat.le_trans hB hb.size) hh)
  case p4 =>
    rw [← hS4]
    exact (fdigest_any B ⟨#[118]⟩ sb (so + 1) pt w' (by decide) (Nat.le_trans hB hb.size) (h.c1.below hb) h1).mono (fun e w'' hh => madeF (Nat.le_trans hB hb.size) hh)
  case p5 =>
    rw [← hS5]
    exact (fnum_any B ⟨#[119]⟩ sb (so + 3) prv w' (by decide) (Nat.le_trans hB hb.size) (h.c3.below hb) h3.1 h3.2).mono (fun e w'' hh => madeF (Nat.le_trans hB hb.size) hh)
  rintro e w' ⟨u, rfl, ⟨g, c, l, rfl, hc, hF, ⟨x0, x1, x2, x3, x4, x5, rfl, p0, p1, p2, p3, p4, p5⟩⟩, hb⟩
  refine ⟨g, c, [x0, x1, x2, x3, x4, x5], rfl, hF, ⟨rfl, fun i hi => ?_⟩, hb⟩
  have hi : i < 6 := by simpa [len] using hi
  match i, hi with
  | 0, _ => show FSem B w' x0 (⟨⟨#[102]⟩, false, fst == 0, true, numP fst⟩); rw [hS0]; exact p0.2
  | 1, _ => show FSem B w' x1 (⟨⟨#[104]⟩, true, false, decide (hd.size = 32), binP hd⟩); rw [hS1]; exact p1.2
  | 2, _ => show FSem B w' x2 (⟨⟨#[108]⟩, false, lst == 0, true, numP lst⟩); rw [hS2]; exact p2.2
  | 3, _ => show FSem B w' x3 (⟨⟨#[110]⟩, false, cnt == 0, true, numP cnt⟩); rw [hS3]; exact p3.2
  | 4, _ => show FSem B w' x4 (⟨⟨#[118]⟩, true, false, decide (pt.size = 32), binP pt⟩); rw [hS4]; exact p4.2
  | 5, _ => show FSem B w' x5 (⟨⟨#[119]⟩, false, prv == 0, true, numP prv⟩); rw [hS5]; exact p5.2
set_option maxRecDepth 100000 in
theorem wmsg2_any (B : Nat) (hd : ByteArray) (pt : ByteArray) (cnt : Int) (prv : Int) (fst : Int) (lst : Int) (w : World) (ht : PTab B w) (h0 : hd.size ≤ 9223372036854775807) (h1 : pt.size ≤ 9223372036854775807) (h2 : U64i cnt) (h3 : U64i prv) (h4 : U64i fst) (h5 : U64i lst)
    (hsz : allMay (msgSpecs hd pt cnt prv fst lst) = true → (layP (msgSpecs hd pt cnt prv fst lst)).size ≤ 60000000000000) :
    Calls Tryz.prog 38 #[.agg #[.string hd, .string pt, .int .u64 cnt, .int .u64 prv, .int .u64 fst, .int .u64 lst]] w (LaidIs (msgSpecs hd pt cnt prv fst lst) w) := by
  have HT := Lib.hid ht
  clear ht
  go_enter Tryz.func38, Tryz.ntmps38
  go_wp2_with fail
  obtain ⟨V, hV⟩ : ∃ V, w.alloc (.cells #[.string hd, .string pt, .int .u64 cnt, .int .u64 prv, .int .u64 fst, .int .u64 lst] 76) = V := ⟨_, rfl⟩
  have HB : Hid (Below w.heap.size w V) := Lib.hid (by rw [← hV]; (repeat (first | exact Below.refl _ _ | assumption | (refine bdrew ?_) | (refine bdrewN ?_ _) | (refine balloc ?_ _) | (refine bset ?_ (by first | omega | (simp; done) | (simp; omega)) _) | (refine bnext ?_ (by assumption)))))
  have hblk : V.heap[w.heap.size]? = some (.cells #[.string hd, .string pt, .int .u64 cnt, .int .u64 prv, .int .u64 fst, .int .u64 lst] 76 (0, 0)) := by rw [← hV]; exact heap_alloc_new _ _
  have HSL : Hid (MsgAt B V w.heap.size 0 hd pt cnt prv fst lst) := Lib.hid ⟨cellAt_new hblk (by decide) rfl, cellAt_new hblk (by decide) rfl, cellAt_new hblk (by decide) rfl, cellAt_new hblk (by decide) rfl, cellAt_new hblk (by decide) rfl, cellAt_new hblk (by decide) rfl⟩
  have HTV := Lib.hid (HT.out.keep HB.out HT.out.size)
  try rw [hV]
  clear hV hblk HT
  refine (ofmsg_any B w.heap.size 0 hd pt cnt prv fst lst V HTV.out.size HSL.out h0 h1 h2 h3 h4 h5).mono ?_
  rintro e w1 ⟨g, c, l, rfl, hF, hS, hb⟩
  have HF := Lib.hid hF
  have HS := Lib.hid hS
  have HB1 : Hid (Below w.heap.size w w1) := Lib.hid (bnext HB.out hb)
  have HT1 := Lib.hid (HTV.out.keep hb HTV.out.size)
  have hl : len l = 6 := hS.1.symm
  have HL := Lib.hid hl
  clear hF hS hb hl HTV HSL
  go_wp2_with fail
  refine (wlaid2_any B g 0 c w1 l (msgSpecs hd pt cnt prv fst lst) w1 HF.out.flds (by rw [HL.out]; decide) (by rw [HL.out]; decide) HS.out (Keep8.refl HT1.out.size) HT1.out hsz).mono ?_
  rintro e w2 ⟨rfl, hb2⟩
  have HB2 : Hid (Below w.heap.size w w2) := Lib.hid (bnext HB1.out hb2)
  clear hb2
  cases hm : allMay (msgSpecs hd pt cnt prv fst lst) with
  | true =>
    have HM := Lib.hid hm
    clear hm
    rw [if_pos rfl]
    go_wp2
    go_ret2
    exact ⟨by rw [HM.out]; rfl, HB2.out⟩
  | false =>
    have HM := Lib.hid hm
    clear hm
    rw [if_neg (by decide)]
    go_wp2
    go_ret2
    exact ⟨by rw [HM.out]; rfl, HB2.out⟩
structure HeaderAt (B : Nat) (w : World) (b o : Nat) (rnd : Int) (prev : ByteArray) (txns : ByteArray) (seed : ByteArray) : Prop where
  c0 : CellAt B w b (o) (.int .u64 rnd)
  c1 : CellAt B w b (o + 1) (.string prev)
  c2 : CellAt B w b (o + 2) (.string txns)
  c3 : CellAt B w b (o + 3) (.string seed)
theorem HeaderAt.below {B : Nat} {w w' : World} {b o : Nat} {rnd : Int} {prev : ByteArray} {txns : ByteArray} {seed : ByteArray} (h : HeaderAt B w b o rnd prev txns seed) (hb : Below w.heap.size w w') : HeaderAt B w' b o rnd prev txns seed := ⟨h.c0.below hb, h.c1.below hb, h.c2.below hb, h.c3.below hb⟩
def headerSpecs (rnd : Int) (prev : ByteArray) (txns : ByteArray) (seed : ByteArray) : List FSpec :=
  [⟨⟨#[112]⟩, true, false, decide (prev.size = 32), binP prev⟩, ⟨⟨#[114]⟩, false, rnd == 0, true, numP rnd⟩, ⟨⟨#[115]⟩, true, false, decide (seed.size = 32), binP seed⟩, ⟨⟨#[116]⟩, true, false, decide (txns.size = 32), binP txns⟩]
set_option maxRecDepth 100000 in
set_option maxHeartbeats 4000000 in
theorem ofheader_any (B sb so : Nat) (rnd : Int) (prev : ByteArray) (txns : ByteArray) (seed : ByteArray) (w : World) (hB : B ≤ w.heap.size) (h : HeaderAt B w sb so rnd prev txns seed) (h0 : U64i rnd) (h1 : prev.size ≤ 9223372036854775807) (h2 : txns.size ≤ 9223372036854775807) (h3 : seed.size ≤ 9223372036854775807) :
    Calls Tryz.prog 85 #[.pointer (some ⟨sb, so, none⟩)] w (RowOf B (headerSpecs rnd prev txns seed) w) := by
  obtain ⟨S0, hS0⟩ : ∃ S : FSpec, (⟨⟨#[112]⟩, true, false, decide (prev.size = 32), binP prev⟩ : FSpec) = S := ⟨_, rfl⟩
  obtain ⟨S1, hS1⟩ : ∃ S : FSpec, (⟨⟨#[114]⟩, false, rnd == 0, true, numP rnd⟩ : FSpec) = S := ⟨_, rfl⟩
  obtain ⟨S2, hS2⟩ : ∃ S : FSpec, (⟨⟨#[115]⟩, true, false, decide (seed.size = 32), binP seed⟩ : FSpec) = S := ⟨_, rfl⟩
  obtain ⟨S3, hS3⟩ : ∃ S : FSpec, (⟨⟨#[116]⟩, true, false, decide (txns.size = 32), binP txns⟩ : FSpec) = S := ⟨_, rfl⟩
  refine (gofHeader_any sb so w (fun w v => FIn B w v S0) (fun w v => FIn B w v S1) (fun w v => FIn B w v S2) (fun w v => FIn B w v S3) (fun w' hb => ?p0) (fin_lasts B S0) (fun w' hb => ?p1) (fin_lasts B S1) (fun w' hb => ?p2) (fin_lasts B S2) (fun w' hb => ?p3) (fin_lasts B S3)).mono ?_
  case p0 =>
    rw [← hS0]
    exact (fdigest_any B ⟨#[112]⟩ sb (so + 1) prev w' (by decide) (Nat.le_trans hB hb.size) (h.c1.below hb) h1).mono (fun e w'' hh => madeF (Nat.le_trans hB hb.size) hh)
  case p1 =>
    rw [← hS1]
    exact (fnum_any B ⟨#[114]⟩ sb (so) rnd w' (by decide) (Nat.le_trans hB hb.size) (h.c0.below hb) h0.1 h0.2).mono (fun e w'' hh => madeF (Nat.le_trans hB hb.size) hh)
  case p2 =>
    rw [← hS2]
    exact (fdigest_any B ⟨#[115]⟩ sb (so + 3) seed w' (by decide) (Nat.le_trans hB hb.size) (h.c3.below hb) h3).mono (fun e w'' hh => madeF (Nat.le_trans hB hb.size) hh)
  case p3 =>
    rw [← hS3]
    exact (fdigest_any B ⟨#[116]⟩ sb (so + 2) txns w' (by decide) (Nat.le_trans hB hb.size) (h.c2.below hb) h2).mono (fun e w'' hh => madeF (Nat.le_trans hB hb.size) hh)
  rintro e w' ⟨u, rfl, ⟨g, c, l, rfl, hc, hF, ⟨x0, x1, x2, x3, rfl, p0, p1, p2, p3⟩⟩, hb⟩
  refine ⟨g, c, [x0, x1, x2, x3], rfl, hF, ⟨rfl, fun i hi => ?_⟩, hb⟩
  have hi : i < 4 := by simpa [len] using hi
  match i, hi with
  | 0, _ => show FSem B w' x0 (⟨⟨#[112]⟩, true, false, decide (prev.size = 32), binP prev⟩); rw [hS0]; exact p0.2
  | 1, _ => show FSem B w' x1 (⟨⟨#[114]⟩, false, rnd == 0, true, numP rnd⟩); rw [hS1]; exact p1.2
  | 2, _ => show FSem B w' x2 (⟨⟨#[115]⟩, true, false, decide (seed.size = 32), binP seed⟩); rw [hS2]; exact p2.2
  | 3, _ => show FSem B w' x3 (⟨⟨#[116]⟩, true, false, decide (txns.size = 32), binP txns⟩); rw [hS3]; exact p3.2
set_option maxRecDepth 100000 in
theorem wheader2_any (B : Nat) (rnd : Int) (prev : ByteArray) (txns : ByteArray) (seed : ByteArray) (w : World) (ht : PTab B w) (h0 : U64i rnd) (h1 : prev.size ≤ 9223372036854775807) (h2 : txns.size ≤ 9223372036854775807) (h3 : seed.size ≤ 9223372036854775807)
    (hsz : allMay (headerSpecs rnd prev txns seed) = true → (layP (headerSpecs rnd prev txns seed)).size ≤ 60000000000000) :
    Calls Tryz.prog 40 #[.agg #[.int .u64 rnd, .string prev, .string txns, .string seed]] w (LaidIs (headerSpecs rnd prev txns seed) w) := by
  have HT := Lib.hid ht
  clear ht
  go_enter Tryz.func40, Tryz.ntmps40
  go_wp2_with fail
  obtain ⟨V, hV⟩ : ∃ V, w.alloc (.cells #[.int .u64 rnd, .string prev, .string txns, .string seed] 78) = V := ⟨_, rfl⟩
  have HB : Hid (Below w.heap.size w V) := Lib.hid (by rw [← hV]; (repeat (first | exact Below.refl _ _ | assumption | (refine bdrew ?_) | (refine bdrewN ?_ _) | (refine balloc ?_ _) | (refine bset ?_ (by first | omega | (simp; done) | (simp; omega)) _) | (refine bnext ?_ (by assumption)))))
  have hblk : V.heap[w.heap.size]? = some (.cells #[.int .u64 rnd, .string prev, .string txns, .string seed] 78 (0, 0)) := by rw [← hV]; exact heap_alloc_new _ _
  have HSL : Hid (HeaderAt B V w.heap.size 0 rnd prev txns seed) := Lib.hid ⟨cellAt_new hblk (by decide) rfl, cellAt_new hblk (by decide) rfl, cellAt_new hblk (by decide) rfl, cellAt_new hblk (by decide) rfl⟩
  have HTV := Lib.hid (HT.out.keep HB.out HT.out.size)
  try rw [hV]
  clear hV hblk HT
  refine (ofheader_any B w.heap.size 0 rnd prev txns seed V HTV.out.size HSL.out h0 h1 h2 h3).mono ?_
  rintro e w1 ⟨g, c, l, rfl, hF, hS, hb⟩
  have HF := Lib.hid hF
  have HS := Lib.hid hS
  have HB1 : Hid (Below w.heap.size w w1) := Lib.hid (bnext HB.out hb)
  have HT1 := Lib.hid (HTV.out.keep hb HTV.out.size)
  have hl : len l = 4 := hS.1.symm
  have HL := Lib.hid hl
  clear hF hS hb hl HTV HSL
  go_wp2_with fail
  refine (wlaid2_any B g 0 c w1 l (headerSpecs rnd prev txns seed) w1 HF.out.flds (by rw [HL.out]; decide) (by rw [HL.out]; decide) HS.out (Keep8.refl HT1.out.size) HT1.out hsz).mono ?_
  rintro e w2 ⟨rfl, hb2⟩
  have HB2 : Hid (Below w.heap.size w w2) := Lib.hid (bnext HB1.out hb2)
  clear hb2
  cases hm : allMay (headerSpecs rnd prev txns seed) with
  | true =>
    have HM := Lib.hid hm
    clear hm
    rw [if_pos rfl]
    go_wp2
    go_ret2
    exact ⟨by rw [HM.out]; rfl, HB2.out⟩
  | false =>
    have HM := Lib.hid hm
    clear hm
    rw [if_neg (by decide)]
    go_wp2
    go_ret2
    exact ⟨by rw [HM.out]; rfl, HB2.out⟩
end Go.Proofs.YtihiaopilnjonaaGreatDoor
namespace Go.Proofs.YtihiaopilnjonaaGreatDoor
open Go.RowKit
set_option linter.unusedSimpArgs false
set_option linter.unusedVariables false
structure TEnv (B qb rb tb n : Nat) (T : TypeId) (w : World) : Prop where
  rd : ∃ cs, w.heap[rb]? = some (.cells cs 275 (0, 0))
  th : ∃ cs, w.heap[tb]? = some (.cells cs T (0, 0))
  ne : tb ≠ rb
  nq : qb ≠ tb
  le : B ≤ tb
  t8 : T ≠ 5
  tf : T ≠ 172
theorem TEnv.below {B qb rb tb n : Nat} {T : TypeId} {w w' : World} (h : TEnv B qb rb tb n T w) (hb : Below w.heap.size w w') : TEnv B qb rb tb n T w' := by
  obtain ⟨cs, h1⟩ := h.rd
  obtain ⟨ct, h2⟩ := h.th
  exact ⟨⟨cs, (hb.block _ (lt_of_block h1)).trans h1⟩, ⟨ct, (hb.block _ (lt_of_block h2)).trans h2⟩, h.ne, h.nq, h.le, h.t8, h.tf⟩
theorem TEnv.rlt {B qb rb tb n : Nat} {T : TypeId} {w : World} (h : TEnv B qb rb tb n T w) : rb < w.heap.size := by obtain ⟨cs, h1⟩ := h.rd; exact lt_of_block h1
theorem TEnv.tlt {B qb rb tb n : Nat} {T : TypeId} {w : World} (h : TEnv B qb rb tb n T w) : tb < w.heap.size := by obtain ⟨cs, h1⟩ := h.th; exact lt_of_block h1
theorem TEnv.apart {B qb rb tb n : Nat} {T : TypeId} {w : World} (h : TEnv B qb rb tb n T w) {g : Nat} (hg : ∃ cs, w.heap[g]? = some (.cells cs 172 (0, 0))) : g ≠ rb ∧ g ≠ tb := by
  obtain ⟨cs, h1⟩ := h.rd
  obtain ⟨ct, h2⟩ := h.th
  obtain ⟨cg, h3⟩ := hg
  refine ⟨fun e => ?_, fun e => ?_⟩
  · subst e; rw [h1] at h3; cases h3
  · subst e; rw [h2] at h3; cases h3; exact h.tf rfl
theorem RecAt.cellAt {B rb tb : Nat} {T : TypeId} {n : Nat} {w : World} {x : Rcd} (h : RecAt rb tb T n w x) (hT : T ≠ 5) {o : Nat} (ho : o < n) : ∃ v, CellAt B w tb o v ∧ HoldsD rb tb w v (x o) := by
  obtain ⟨cs, h1, h2, h3⟩ := h
  obtain ⟨v, h4, h5⟩ := h3 o ho
  exact ⟨v, cellAt_new h1 hT h4, h5⟩
theorem Kd.strs {x0 x : Rcd} (h : Kd x0 x) {o : Nat} (h0 : kindD (x0 o) = 3) : ∃ n, x o = .strs n := by
  have := (h o).trans h0
  cases hx : x o <;> rw [hx] at this <;> first | exact ⟨_, rfl⟩ | cases this
theorem Kd.nums {x0 x : Rcd} (h : Kd x0 x) {o : Nat} (h0 : kindD (x0 o) = 4) : ∃ n, x o = .nums n := by
  have := (h o).trans h0
  cases hx : x o <;> rw [hx] at this <;> first | exact ⟨_, rfl⟩ | cases this
theorem Kd.revs {x0 x : Rcd} (h : Kd x0 x) {o : Nat} (h0 : kindD (x0 o) = 5) : ∃ n, x o = .revs n := by
  have := (h o).trans h0
  cases hx : x o <;> rw [hx] at this <;> first | exact ⟨_, rfl⟩ | cases this
section
variable {B qb rb tb n : Nat} {T : TypeId} {w : World} {x0 : Rcd} {s : ByteArray}
theorem gsem_num {lo : Nat} {key : ByteArray} {o : Nat} {v : FVal} (E : TEnv B qb rb tb n T w) (h : NumS w lo key tb o v) (hr : rb < lo) (ht : tb < lo) (ho : o < n) (h0 : kindD (x0 o) = 0) : GSem B qb rb tb x0 T n s w v (gnum s key o) := by
  obtain ⟨bx, hlo, hb, rfl⟩ := h
  have hbk : ∀ w', Chg rb tb w w' → w'.heap[bx]? = some (.cells #[.pointer (some ⟨tb, o, none⟩)] 177 (0, 0)) := fun w' hc => (hc.block bx (lt_of_block hb) (by omega) (by omega)).trans hb
  refine ⟨rfl, rfl, enters_of Tryz.func183 (by kernel_rfl) rfl, enters_of Tryz.func186 (by kernel_rfl) rfl, fun w' x hc hx hk => ?_, fun w' x a hc hx he hf hk => num3_any B qb rb tb o bx T n s key a x w' (hbk w' hc) (by omega) E.ne ho hx he⟩
  obtain ⟨m, hm⟩ := hk.num h0
  obtain ⟨u, hu, hv⟩ := hx.cellAt (B := B) E.t8 ho
  rw [hm] at hv
  obtain rfl : u = .int .u64 m := hv
  show Calls Tryz.prog _ _ _ fun e w'' => e = .returned (.bool (zeroD (x o))) ∧ Below w'.heap.size w' w''
  rw [hm]
  exact num1_any B bx tb o m w' (cellAt_new (hbk w' hc) (by decide) rfl) hu
theorem gsem_flag {lo : Nat} {key : ByteArray} {o : Nat} {v : FVal} (E : TEnv B qb rb tb n T w) (h : FlagS w lo key tb o v) (hr : rb < lo) (ht : tb < lo) (ho : o < n) (h0 : kindD (x0 o) = 1) : GSem B qb rb tb x0 T n s w v (gflag s key o) := by
  obtain ⟨bx, hlo, hb, rfl⟩ := h
  have hbk : ∀ w', Chg rb tb w w' → w'.heap[bx]? = some (.cells #[.pointer (some ⟨tb, o, none⟩)] 179 (0, 0)) := fun w' hc => (hc.block bx (lt_of_block hb) (by omega) (by omega)).trans hb
  refine ⟨rfl, rfl, enters_of Tryz.func187 (by kernel_rfl) rfl, enters_of Tryz.func189 (by kernel_rfl) rfl, fun w' x hc hx hk => ?_, fun w' x a hc hx he hf hk => flag3_any B qb rb tb o bx T n s key a x w' (hbk w' hc) (by omega) E.ne ho hx he⟩
  obtain ⟨m, hm⟩ := hk.flag h0
  obtain ⟨u, hu, hv⟩ := hx.cellAt (B := B) E.t8 ho
  rw [hm] at hv
  obtain rfl : u = .bool m := hv
  show Calls Tryz.prog _ _ _ fun e w'' => e = .returned (.bool (zeroD (x o))) ∧ Below w'.heap.size w' w''
  rw [hm]
  exact flag1_any B bx tb o m w' (cellAt_new (hbk w' hc) (by decide) rfl) hu
theorem gsem_dig {lo : Nat} {key : ByteArray} {o : Nat} {v : FVal} (E : TEnv B qb rb tb n T w) (h : DigS w lo key tb o v) (hr : rb < lo) (ht : tb < lo) (ho : o < n) : GSem B qb rb tb x0 T n s w v (gdig s key o) := by
  obtain ⟨bx, hlo, hb, rfl⟩ := h
  have hbk : ∀ w', Chg rb tb w w' → w'.heap[bx]? = some (.cells #[.pointer (some ⟨tb, o, none⟩)] 181 (0, 0)) := fun w' hc => (hc.block bx (lt_of_block hb) (by omega) (by omega)).trans hb
  exact ⟨rfl, rfl, enters_of Tryz.func190 (by kernel_rfl) rfl, enters_of Tryz.func194 (by kernel_rfl) rfl, fun w' x hc hx hk => digest1_any w', fun w' x a hc hx he hf hk => digest4_any B qb rb tb o bx T n s key a x w' (hbk w' hc) (by omega) E.ne ho hx he⟩
end
theorem gsem_manys {B qb rb tb n : Nat} {T : TypeId} {w : World} {x0 : Rcd} {s : ByteArray} {lo : Nat} {key : ByteArray} {o most : Nat} {v : FVal} {rd : Nat → Except Flt (ByteArray × Nat)} (E : TEnv B qb rb tb n T w) (h : ManySS w lo key tb o most v) (hr : rb < lo) (ht : tb < lo) (ho : o < n) (hm : most ≤ 10240) (h0 : x0 o = .strs [])
    (hget : ∀ w' xb a', Chg rb tb w w' → w.heap.size ≤ xb → w'.heap[xb]? = some (.cells #[.string ⟨#[]⟩] 9 (0, 0)) → RdEnv B w' qb rb s a' → Calls Tryz.prog 213 #[.pointer (some ⟨qb, 0, none⟩), .pointer (some ⟨xb, 0, none⟩)] w' (ElIs (rd a') (fun y _ c => c = #[.string y]) rb xb 9 s w')) : GSem B qb rb tb x0 T n s w v (gmany s key o most .strs rd) := by
  obtain ⟨bx, hlo, hb, rfl⟩ := h
  have hch : ∀ w' b y, Chg rb tb w w' → bx ≤ b → w.heap[b]? = some y → w'.heap[b]? = some y := fun w' b y hc hle hy => (hc.block b (lt_of_block hy) (by omega) (by omega)).trans hy
  refine ⟨rfl, rfl, enters_of Tryz.func247 (by kernel_rfl) rfl, enters_of Tryz.func252 (by kernel_rfl) rfl, fun w' x hc hx hk => ?_, fun w' x a hc hx he hf hk => ?_⟩
  · obtain ⟨m, hm⟩ := hk.strs (show kindD (x0 o) = _ by rw [h0]; rfl)
    obtain ⟨u, hu, hv⟩ := hx.cellAt (B := B) E.t8 ho
    rw [hm] at hv
    obtain ⟨za, zc, rfl, -⟩ := hv
    show Calls Tryz.prog _ _ _ fun e w'' => e = .returned (.bool (zeroD (x o))) ∧ Below w'.heap.size w' w''
    rw [hm]
    refine (many1_any B bx tb o (len m) zc za w' (cellAt_new (hch w' _ _ hc (Nat.le_refl _) hb.b0) (by decide) rfl) hu).mono fun e w'' ⟨h1, h2⟩ => ⟨h1.trans ?_, h2⟩
    congr 2
  · have hx1 : x o = .strs [] := (hf o (by simp [gmany])).trans h0
    exact many4s_any B qb rb tb o bx (bx + 1) (bx + 1 + 1 + 1 + 1) 213 most #[] x0 T n s key a x w' rd (hch w' _ _ hc (Nat.le_refl _) hb.b0) (hch w' _ _ hc (by omega) hb.b1) ⟨_, hch w' _ _ hc (by omega) hb.b4⟩ ⟨by omega, by omega⟩ ⟨by omega, by omega⟩ E.ne E.nq E.le ho hm (enters_of Tryz.func213 (by kernel_rfl) rfl)
      (fun w2 xb a' hc2 hxb hx2 he2 => hget w2 xb a' (hc.trans hc2) (Nat.le_trans hc.size hxb) hx2 he2) hx hx1 he
theorem many1u_any (B b7 pb po n c : Nat) (a : Option Addr) (w : World) (h1 : CellAt B w b7 0 (.pointer (some ⟨pb, po, none⟩))) (h2 : CellAt B w pb po (.slice a n c)) : Calls Tryz.prog 214 #[.pointer (some ⟨b7, 0, none⟩)] w fun e w' => e = .returned (.bool (decide (n = 0))) ∧ Below w.heap.size w w' := by
  have c1 := h1.cell
  have c2 := h2.cell
  have HE : Hid (((n : Int) == 0) = decide (n = 0)) := Lib.hid (by rw [Bool.eq_iff_iff]; simp)
  clear h1 h2
  go_enter Tryz.func214, Tryz.ntmps214
  go_wp2
  go_ret
  exact ⟨ret_bool HE.out, Below.refl _ _⟩
theorem gsem_manyu {B qb rb tb n : Nat} {T : TypeId} {w : World} {x0 : Rcd} {s : ByteArray} {lo : Nat} {key : ByteArray} {o most : Nat} {v : FVal} {rd : Nat → Except Flt (Int × Nat)} (E : TEnv B qb rb tb n T w) (h : ManyUS w lo key tb o most v) (hr : rb < lo) (ht : tb < lo) (ho : o < n) (hm : most ≤ 10240) (h0 : x0 o = .nums [])
    (hget : ∀ w' xb a', Chg rb tb w w' → w.heap.size ≤ xb → w'.heap[xb]? = some (.cells #[.int .u64 0] 23 (0, 0)) → RdEnv B w' qb rb s a' → Calls Tryz.prog 150 #[.pointer (some ⟨qb, 0, none⟩), .pointer (some ⟨xb, 0, none⟩)] w' (ElIs (rd a') (fun y _ c => c = #[.int .u64 y]) rb xb 23 s w')) : GSem B qb rb tb x0 T n s w v (gmany s key o most .nums rd) := by
  obtain ⟨bx, hlo, hb, rfl⟩ := h
  have hch : ∀ w' b y, Chg rb tb w w' → bx ≤ b → w.heap[b]? = some y → w'.heap[b]? = some y := fun w' b y hc hle hy => (hc.block b (lt_of_block hy) (by omega) (by omega)).trans hy
  refine ⟨rfl, rfl, enters_of Tryz.func214 (by kernel_rfl) rfl, enters_of Tryz.func220 (by kernel_rfl) rfl, fun w' x hc hx hk => ?_, fun w' x a hc hx he hf hk => ?_⟩
  · obtain ⟨m, hm⟩ := hk.nums (show kindD (x0 o) = _ by rw [h0]; rfl)
    obtain ⟨u, hu, hv⟩ := hx.cellAt (B := B) E.t8 ho
    rw [hm] at hv
    obtain ⟨za, zc, rfl, -⟩ := hv
    show Calls Tryz.prog _ _ _ fun e w'' => e = .returned (.bool (zeroD (x o))) ∧ Below w'.heap.size w' w''
    rw [hm]
    refine (many1u_any B bx tb o (len m) zc za w' (cellAt_new (hch w' _ _ hc (Nat.le_refl _) hb.b0) (by decide) rfl) hu).mono fun e w'' ⟨h1, h2⟩ => ⟨h1.trans ?_, h2⟩
    congr 2
  · have hx1 : x o = .nums [] := (hf o (by simp [gmany])).trans h0
    exact many4u_any B qb rb tb o bx (bx + 1) (bx + 1 + 1 + 1 + 1) 150 most #[] x0 T n s key a x w' rd (hch w' _ _ hc (Nat.le_refl _) hb.b0) (hch w' _ _ hc (by omega) hb.b1) ⟨_, hch w' _ _ hc (by omega) hb.b4⟩ ⟨by omega, by omega⟩ ⟨by omega, by omega⟩ E.ne E.nq E.le ho hm (enters_of Tryz.func150 (by kernel_rfl) rfl)
      (fun w2 xb a' hc2 hxb hx2 he2 => hget w2 xb a' (hc.trans hc2) (Nat.le_trans hc.size hxb) hx2 he2) hx hx1 he
theorem many1r_any (B b7 pb po n c : Nat) (a : Option Addr) (w : World) (h1 : CellAt B w b7 0 (.pointer (some ⟨pb, po, none⟩))) (h2 : CellAt B w pb po (.slice a n c)) : Calls Tryz.prog 227 #[.pointer (some ⟨b7, 0, none⟩)] w fun e w' => e = .returned (.bool (decide (n = 0))) ∧ Below w.heap.size w w' := by
  have c1 := h1.cell
  have c2 := h2.cell
  have HE : Hid (((n : Int) == 0) = decide (n = 0)) := Lib.hid (by rw [Bool.eq_iff_iff]; simp)
  clear h1 h2
  go_enter Tryz.func227, Tryz.ntmps227
  go_wp2
  go_ret
  exact ⟨ret_bool HE.out, Below.refl _ _⟩
theorem gsem_manyr {B qb rb tb n : Nat} {T : TypeId} {w : World} {x0 : Rcd} {s : ByteArray} {lo : Nat} {key : ByteArray} {o most : Nat} {v : FVal} {rd : Nat → Except Flt (RevD × Nat)} (E : TEnv B qb rb tb n T w) (h : ManyRS w lo key tb o most v) (hr : rb < lo) (ht : tb < lo) (ho : o < n) (hm : most ≤ 10240) (h0 : x0 o = .revs [])
    (hget : ∀ w' xb a', Chg rb tb w w' → w.heap.size ≤ xb → w'.heap[xb]? = some (.cells #[.int .u64 0, .int .u64 0, .bool false, .int .u64 0, .slice none 0 0, .slice none 0 0, .string ⟨#[]⟩, .int .u64 0, .int .u64 0, .int .u64 0, .int .u64 0] 48 (0, 0)) → RdEnv B w' qb rb s a' → Calls Tryz.prog 157 #[.pointer (some ⟨qb, 0, none⟩), .pointer (some ⟨xb, 0, none⟩)] w' (ElIs (rd a') (fun d w2 c => ∃ r : Rev, c = r.cells.toArray ∧ RevIs rb xb w2 r d) rb xb 48 s w')) : GSem B qb rb tb x0 T n s w v (gmany s key o most .revs rd) := by
  obtain ⟨bx, hlo, hb, rfl⟩ := h
  have hch : ∀ w' b y, Chg rb tb w w' → bx ≤ b → w.heap[b]? = some y → w'.heap[b]? = some y := fun w' b y hc hle hy => (hc.block b (lt_of_block hy) (by omega) (by omega)).trans hy
  refine ⟨rfl, rfl, enters_of Tryz.func227 (by kernel_rfl) rfl, enters_of Tryz.func231 (by kernel_rfl) rfl, fun w' x hc hx hk => ?_, fun w' x a hc hx he hf hk => ?_⟩
  · obtain ⟨m, hm⟩ := hk.revs (show kindD (x0 o) = _ by rw [h0]; rfl)
    obtain ⟨u, hu, hv⟩ := hx.cellAt (B := B) E.t8 ho
    rw [hm] at hv
    obtain ⟨za, zc, rfl, -⟩ := hv
    show Calls Tryz.prog _ _ _ fun e w'' => e = .returned (.bool (zeroD (x o))) ∧ Below w'.heap.size w' w''
    rw [hm]
    refine (many1r_any B bx tb o (len m) zc za w' (cellAt_new (hch w' _ _ hc (Nat.le_refl _) hb.b0) (by decide) rfl) hu).mono fun e w'' ⟨h1, h2⟩ => ⟨h1.trans ?_, h2⟩
    congr 2
  · have hx1 : x o = .revs [] := (hf o (by simp [gmany])).trans h0
    exact many4r_any B qb rb tb o bx (bx + 1) (bx + 1 + 1 + 1 + 1) 157 most #[] x0 T n s key a x w' rd (hch w' _ _ hc (Nat.le_refl _) hb.b0) (hch w' _ _ hc (by omega) hb.b1) ⟨_, hch w' _ _ hc (by omega) hb.b4⟩ ⟨by omega, by omega⟩ ⟨by omega, by omega⟩ E.ne E.nq E.le ho hm (enters_of Tryz.func157 (by kernel_rfl) rfl)
      (fun w2 xb a' hc2 hxb hx2 he2 => hget w2 xb a' (hc.trans hc2) (Nat.le_trans hc.size hxb) hx2 he2) hx hx1 he
set_option maxRecDepth 100000 in
theorem says_gfull {B qb rb tb n : Nat} {T : TypeId} {W0 w : World} {x0 : Rcd} {s : ByteArray} {l : List FVal} {gs : List GSpec} {x : Rcd} (h : GSems B qb rb tb x0 T n s W0 l gs) (hc : Chg rb tb W0 w) (hx : RecAt rb tb T n w x) (hk : Kd x0 x) : SaysF w l 179 #[] (fun i => !(gth gs i).empty x) := by
  refine ⟨enters_of Tryz.func179 (by kernel_rfl) rfl, fun i hi w' hb => ?_⟩
  show Calls Tryz.prog 179 (#[(fth l i).val] ++ #[]) w' (fun e w'' => e = .returned (.bool (!(gth gs i).empty x)) ∧ Below w'.heap.size w' w'')
  have hs := h.2 i hi
  generalize fth l i = v at hs
  generalize gth gs i = f at hs
  have ee := hs.ee
  have HM : Hid (∀ u, Below w'.heap.size w' u → Calls Tryz.prog v.ef v.ec u fun e w' => e = .returned (.bool (f.empty x)) ∧ Below u.heap.size u w') := Lib.hid (fun u hu => hs.empty u x ((hc.next hb).next hu) ((hx.below hb).below hu) hk)
  clear hs
  show Calls Tryz.prog 179 #[v.val] w' _
  unfold FVal.val
  go_enter Tryz.func179, Tryz.ntmps179
  go_wp2_with fail
  refine (HM.out _ (balloc (Below.refl _ _) _)).mono ?_
  rintro e w1 ⟨rfl, hb1⟩
  have HB1 : Hid (Below w'.heap.size w' w1) := Lib.hid (bnext (balloc (Below.refl _ _) _) hb1)
  clear hb1
  go_wp2
  go_ret
  exact ⟨rfl, HB1.out⟩
theorem gAll_iff (gs : List GSpec) (x : Rcd) : ((gs.all fun g => g.empty x) = false ↔ ∃ i, i < gs.length ∧ (!(gth gs i).empty x) = true) := by
  rw [List.all_eq_false]
  constructor
  · rintro ⟨y, hx, hm⟩
    obtain ⟨i, hi, rfl⟩ := List.getElem_of_mem hx
    exact ⟨i, hi, by rw [gth_eq gs i hi]; simpa using hm⟩
  · rintro ⟨i, hi, hm⟩
    exact ⟨gs[i], List.getElem_mem _, by rw [gth_eq gs i hi] at hm; simpa using hm⟩
set_option maxRecDepth 100000 in
theorem gobj2_any {B qb rb tb n : Nat} {T : TypeId} {W0 : World} {x0 : Rcd} {s : ByteArray} (bx g c : Nat) (l : List FVal) (gs : List GSpec) (x : Rcd) (w : World) (h1 : w.heap[bx]? = some (.cells #[.slice (some ⟨g, 0, none⟩) (len l) c] 113 (0, 0))) (hl : Flds w (some ⟨g, 0, none⟩) l) (hn : len l ≤ 1000) (hS : GSems B qb rb tb x0 T n s W0 l gs) (hc : Chg rb tb W0 w) (hx : RecAt rb tb T n w x) (hk : Kd x0 x) :
    Calls Tryz.prog 178 #[.pointer (some ⟨bx, 0, none⟩)] w fun e w' => e = .returned (.bool (gs.all fun g => g.empty x)) ∧ Below w.heap.size w w' := by
  have c1 : w.cell? ⟨bx, 0, none⟩ = some (.slice (some ⟨g, 0, none⟩) (len l) c) := block_cell h1 0
  have H := Lib.hid (containsf_any (some ⟨g, 0, none⟩) c l 179 #[] _ w hl hn (says_gfull hS hc hx hk))
  have HI := Lib.hid (gAll_iff gs x)
  have HL : Hid (gs.length = len l) := Lib.hid hS.1
  clear h1 hl hS hc hx
  go_enter Tryz.func178, Tryz.ntmps178
  go_wp2_with fail
  refine H.out.mono ?_
  rintro e w1 ⟨b, rfl, hb1, hb⟩
  have HB := Lib.hid hb
  have HE : Hid ((!b) = (gs.all fun g => g.empty x)) := Lib.hid (by
    have h := HI.out
    rw [HL.out] at h
    cases b with
    | true => rw [h.2 (hb1.1 rfl)]; rfl
    | false =>
      cases hm : (gs.all fun g => g.empty x) with
      | true => rfl
      | false => exact absurd (hb1.2 (h.1 hm)) (by decide))
  clear hb hb1
  go_wp2
  go_ret
  exact ⟨ret_bool HE.out, HB.out⟩
set_option maxRecDepth 100000 in
theorem gobj5_any {qb rb tb n : Nat} {T : TypeId} {s : ByteArray} (bx g c : Nat) (key : ByteArray) (l : List FVal) (gs : List GSpec) (x : Rcd) (a : Nat) (w : World) (h1 : w.heap[bx]? = some (.cells #[.slice (some ⟨g, 0, none⟩) (len l) c] 113 (0, 0)))
    (H : Calls Tryz.prog 123 #[.pointer (some ⟨qb, 0, none⟩), .slice (some ⟨g, 0, none⟩) (len l) c] w (GetIs (objR s gs x a) rb tb T n s w)) :
    Calls Tryz.prog 182 #[.pointer (some ⟨qb, 0, none⟩), .pointer (some ⟨bx, 0, none⟩)] w (GetIs ((gobj s key gs).read x a) rb tb T n s w) := by
  have c1 : w.cell? ⟨bx, 0, none⟩ = some (.slice (some ⟨g, 0, none⟩) (len l) c) := block_cell h1 0
  have H := Lib.hid H
  clear h1
  go_enter Tryz.func182, Tryz.ntmps182
  go_wp2_with fail
  refine H.out.mono ?_
  intro e w1 hh
  show _
  cases hr : objR s gs x a with
  | error f =>
    rw [hr] at hh
    have HTH := Lib.hid (getIs_th hh)
    obtain ⟨fb, rfl, hf, hc⟩ := getIs_err hh
    have HF := Lib.hid hf
    have HC := Lib.hid hc
    have HR : Hid ((gobj s key gs).read x a = .error f) := Lib.hid hr
    clear hh hf hc hr
    go_wp2
    refine ⟨rfl, ?_⟩
    rw [HR.out]
    exact ⟨HC.out, fb, rfl, HF.out, HTH.out⟩
  | ok q =>
    rw [hr] at hh
    obtain ⟨rfl, h2, h3, h4, h5⟩ := getIs_ok hh
    have H2 := Lib.hid h2
    have H4 := Lib.hid h4
    have H5 := Lib.hid h5
    have HR : Hid ((gobj s key gs).read x a = .ok q) := Lib.hid hr
    clear hh h2 h4 h5 hr
    go_wp2
    go_end0
    rw [HR.out]
    exact ⟨H5.out, rfl, H2.out, h3, H4.out⟩
theorem FRow.chg {rb tb g : Nat} {w w' : World} {l : List FVal} (h : FRow w g l) (hc : Chg rb tb w w') (h1 : g ≠ rb) (h2 : g ≠ tb) : FRow w' g l := by
  obtain ⟨hf, cur, hg⟩ := h
  have h3 := hc.block g (lt_of_block hg) h1 h2
  exact ⟨flds_keep hf h3, cur, h3.trans hg⟩
structure GOk (x0 : Rcd) (gs : List GSpec) : Prop where
  keys : KeysOk gs
  disj : Disj gs
  frames : ∀ g ∈ gs, g.Frames
  kinds : ∀ g ∈ gs, g.Kinds x0
theorem gsem_obj {B qb rb tb n : Nat} {T : TypeId} {w : World} {x0 : Rcd} {s : ByteArray} {lo : Nat} {key : ByteArray} {g c : Nat} {l : List FVal} {gs : List GSpec} {v : FVal} (E : TEnv B qb rb tb n T w) (h : ObjS w lo key (l.any fun v => v.must) g (len l) c v) (hr : rb < lo) (ht : tb < lo) (hF : FRow w g l) (hc0 : len l ≤ c) (hn : len l ≤ 1000) (hS : GSems B qb rb tb x0 T n s w l gs) (hG : GOk x0 gs) : GSem B qb rb tb x0 T n s w v (gobj s key gs) := by
  obtain ⟨bx, hlo, hb, rfl⟩ := h
  have hg := E.apart hF.ex
  have hl : gs.length = l.length := hS.1
  have hbk : ∀ w', Chg rb tb w w' → w'.heap[bx]? = some (.cells #[.slice (some ⟨g, 0, none⟩) (len l) c] 113 (0, 0)) := fun w' hc => (hc.block bx (lt_of_block hb) (by omega) (by omega)).trans hb
  refine ⟨rfl, ?_, enters_of Tryz.func178 (by kernel_rfl) rfl, enters_of Tryz.func182 (by kernel_rfl) rfl, fun w' x hc hx hk => gobj2_any bx g c l gs x w' (hbk w' hc) (hF.chg hc hg.1 hg.2).flds hn hS hc hx hk, fun w' x a hc hx he hf hk => gobj5_any bx g c key l gs x a w' (hbk w' hc) ?_⟩
  · show (l.any fun v => v.must) = gs.any fun g => g.must
    rw [Bool.eq_iff_iff, List.any_eq_true, List.any_eq_true]
    constructor
    · rintro ⟨y, hy, hm⟩
      obtain ⟨i, hi, rfl⟩ := List.getElem_of_mem hy
      have hi2 : i < gs.length := by omega
      have := (hS.2 i hi).must
      rw [fth_eq l i hi, gth_eq gs i hi2] at this
      exact ⟨gs[i], List.getElem_mem _, by rw [← this]; exact hm⟩
    · rintro ⟨y, hy, hm⟩
      obtain ⟨i, hi, rfl⟩ := List.getElem_of_mem hy
      have hi2 : i < l.length := by omega
      have := (hS.2 i hi2).must
      rw [fth_eq l i hi2, gth_eq gs i hi] at this
      exact ⟨l[i], List.getElem_mem _, by rw [this]; exact hm⟩
  · refine robject_any B qb rb tb g 0 c x0 T n s w w' l gs a x (hF.chg hc hg.1 hg.2).flds hc0 hn hS hc hg E.nq E.le E.ne hG.keys hG.disj hG.frames hG.kinds hk hx he (fun i hi o ho => hf o ?_)
    show o ∈ gs.flatMap fun g => g.offs
    exact List.mem_flatMap.2 ⟨gth gs i, by rw [gth_eq gs i hi]; exact List.getElem_mem _, ho⟩
end Go.Proofs.YtihiaopilnjonaaGreatDoor
namespace Go.Proofs.YtihiaopilnjonaaGreatDoor
open Go.RowKit
set_option linter.unusedSimpArgs false
set_option linter.unusedVariables false
section
variable {B qb rb tb n : Nat} {T : TypeId} {w : World} {x0 : Rcd} {s : ByteArray}
theorem made_num (E : TEnv B qb rb tb n T w) (key : ByteArray) {o : Nat} (ho : o < n) (h0 : kindD (x0 o) = 0) : Calls Tryz.prog 109 #[.string key, .pointer (some ⟨tb, o, none⟩)] w (MadeG (fun w v => GSem B qb rb tb x0 T n s w v (gnum s key o)) w) :=
  (snum_any key tb o w).mono fun e w2 ⟨v, he, hs, hb⟩ => ⟨v.val, he, v, rfl, gsem_num (E.below hb) hs E.rlt E.tlt ho h0, hb⟩
theorem made_flag (E : TEnv B qb rb tb n T w) (key : ByteArray) {o : Nat} (ho : o < n) (h0 : kindD (x0 o) = 1) : Calls Tryz.prog 110 #[.string key, .pointer (some ⟨tb, o, none⟩)] w (MadeG (fun w v => GSem B qb rb tb x0 T n s w v (gflag s key o)) w) :=
  (sflag_any key tb o w).mono fun e w2 ⟨v, he, hs, hb⟩ => ⟨v.val, he, v, rfl, gsem_flag (E.below hb) hs E.rlt E.tlt ho h0, hb⟩
theorem made_dig (E : TEnv B qb rb tb n T w) (key : ByteArray) {o : Nat} (ho : o < n) : Calls Tryz.prog 111 #[.string key, .pointer (some ⟨tb, o, none⟩)] w (MadeG (fun w v => GSem B qb rb tb x0 T n s w v (gdig s key o)) w) :=
  (sdigest_any key tb o w).mono fun e w2 ⟨v, he, hs, hb⟩ => ⟨v.val, he, v, rfl, gsem_dig (E.below hb) hs E.rlt E.tlt ho, hb⟩
set_option maxRecDepth 100000 in
theorem dgs3_any (xb a : Nat) (he : RdEnv B w qb rb s a) (hx : w.heap[xb]? = some (.cells #[.string ⟨#[]⟩] 9 (0, 0))) (hne : xb ≠ rb) : Calls Tryz.prog 213 #[.pointer (some ⟨qb, 0, none⟩), .pointer (some ⟨xb, 0, none⟩)] w (ElIs (rdig s a) (fun y _ c => c = #[.string y]) rb xb 9 s w) := by
  have H := Lib.hid (dgRead_any B qb rb s a w he)
  have HX := Lib.hid hx
  clear he hx
  go_enter Tryz.func213, Tryz.ntmps213
  go_wp2_with fail
  refine H.out.mono ?_
  intro e w1 hh
  cases hr : rdig s a with
  | error f =>
    rw [hr] at hh
    obtain ⟨fb, rfl, hf, hE⟩ := vIs_err hh
    have HF := Lib.hid hf
    have HE := Lib.hid hE
    have HR := Lib.hid hr
    clear hh hf hE hr
    go_wp2
    refine ⟨rfl, ?_⟩
    rw [HR.out]
    exact ⟨Chg.of_ext HE.out, fb, rfl, HF.out⟩
  | ok y =>
    rw [hr] at hh
    obtain ⟨rfl, hrd, hle, hE⟩ := vIs_ok hh
    have hb1 : w1.heap[xb]? = some (.cells #[.string ⟨#[]⟩] 9 (0, 0)) := (hE.block _ (lt_of_block HX.out) (by simpa using hne)).trans HX.out
    have q0 : w1.cell? ⟨xb, 0, none⟩ = some (.string ⟨#[]⟩) := block_cell hb1 0
    have f0 : w1.frozen? ⟨xb, 0, none⟩ = false := block_free hb1 0
    have HB1 := Lib.hid hb1
    have HRD := Lib.hid hrd
    have HE := Lib.hid hE
    have HR := Lib.hid hr
    clear hh hrd hE hr hb1
    go_wp2
    go_end0
    rw [HR.out]
    exact ⟨(Chg.of_ext HE.out).set 0 _, rfl, block_setCell_ne HRD.out (by exact fun e => hne e.symm) _, hle, _, block_setCell HB1.out _, rfl⟩
set_option maxRecDepth 100000 in
theorem cert3_any (xb a : Nat) (he : RdEnv B w qb rb s a) (hx : w.heap[xb]? = some (.cells #[.int .u64 0] 23 (0, 0))) (hne : xb ≠ rb) : Calls Tryz.prog 150 #[.pointer (some ⟨qb, 0, none⟩), .pointer (some ⟨xb, 0, none⟩)] w (ElIs (rnum s a) (fun y _ c => c = #[.int .u64 y]) rb xb 23 s w) := by
  have H := Lib.hid (Num_tk w B qb rb s a he)
  have HX := Lib.hid hx
  have c0 : w.cell? ⟨qb, 0, none⟩ = some (.pointer (some ⟨rb, 0, none⟩)) := block_cell he.q 0
  clear he hx
  go_enter Tryz.func150, Tryz.ntmps150
  go_wp2_with fail
  refine H.out.mono ?_
  intro e w1 hh
  cases hr : tkR 0 s a with
  | error f =>
    rw [hr] at hh
    obtain ⟨fb, rfl, hf, hE, -⟩ := tkIs_err hh
    have HF := Lib.hid hf
    have HE := Lib.hid hE
    have HR : Hid (rnum s a = .error f) := Lib.hid (by unfold rnum; rw [hr])
    clear hh hf hE hr
    go_wp2_with fail
    refine (wholeu_no _ fb w1).mono ?_
    rintro e w2 ⟨rfl, rfl⟩
    go_wp2
    refine ⟨rfl, ?_⟩
    rw [HR.out]
    exact ⟨Chg.of_ext HE.out, fb, rfl, HF.out⟩
  | ok y =>
    rw [hr] at hh
    obtain ⟨rfl, hrd, hE⟩ := tkIs_ok hh
    have hle := (tkR_bd (by decide) hr).1
    have HR : Hid (rnum s a = .ok (y.1, y.2.2)) := Lib.hid (by unfold rnum; rw [hr])
    have hb1 : w1.heap[xb]? = some (.cells #[.int .u64 0] 23 (0, 0)) := (hE.block _ (lt_of_block HX.out) (by simpa using hne)).trans HX.out
    have q0 : w1.cell? ⟨xb, 0, none⟩ = some (.int .u64 0) := block_cell hb1 0
    have f0 : w1.frozen? ⟨xb, 0, none⟩ = false := block_free hb1 0
    have HB1 := Lib.hid hb1
    have HRD := Lib.hid hrd
    have HE := Lib.hid hE
    clear hh hrd hE hr hb1 c0
    go_wp2_with fail
    refine (wholeu_ok _ w1).mono ?_
    rintro e w2 ⟨rfl, rfl⟩
    go_wp2
    go_end0
    rw [HR.out]
    exact ⟨(Chg.of_ext HE.out).set 0 _, rfl, block_setCell_ne HRD.out (by exact fun e => hne e.symm) _, hle, _, block_setCell HB1.out _, rfl⟩
theorem made_digs (E : TEnv B qb rb tb n T w) (key : ByteArray) {o most : Nat} (ho : o < n) (hm : most ≤ 10240) (h0 : x0 o = .strs []) : Calls Tryz.prog 145 #[.string key, .pointer (some ⟨tb, o, none⟩), .int .i64 most] w (MadeG (fun w v => GSem B qb rb tb x0 T n s w v (gdigs s key o most)) w) :=
  (sdigests_any key tb o most w).mono fun e w2 ⟨v, he, hs, hb⟩ => ⟨v.val, he, v, rfl, gsem_manys (E.below hb) hs E.rlt E.tlt ho hm h0 (fun w' xb a' hc hxb hx he2 => dgs3_any xb a' he2 hx (by have := (E.below hb).rlt; omega)), hb⟩
theorem made_nums (E : TEnv B qb rb tb n T w) (key : ByteArray) {o most : Nat} (ho : o < n) (hm : most ≤ 10240) (h0 : x0 o = .nums []) : Calls Tryz.prog 146 #[.string key, .pointer (some ⟨tb, o, none⟩), .int .i64 most, .func (.func 147) #[] #[], .func (.func 148) #[] #[], .func (.func 150) #[] #[]] w (MadeG (fun w v => GSem B qb rb tb x0 T n s w v (gmany s key o most .nums (rnum s))) w) :=
  (smanyu_any key tb o most w).mono fun e w2 ⟨v, he, hs, hb⟩ => ⟨v.val, he, v, rfl, gsem_manyu (E.below hb) hs E.rlt E.tlt ho hm h0 (fun w' xb a' hc hxb hx he2 => cert3_any xb a' he2 hx (by have := (E.below hb).rlt; omega)), hb⟩
theorem made_obj (E : TEnv B qb rb tb n T w) (key : ByteArray) {g c : Nat} {l : List FVal} {gs : List GSpec} (hF : FRow w g l) (hc : len l ≤ c) (hS : GSems B qb rb tb x0 T n s w l gs) (hG : GOk x0 gs) (hn : gs.length ≤ 1000) : Calls Tryz.prog 107 #[.string key, .slice (some ⟨g, 0, none⟩) (len l) c] w (MadeG (fun w v => GSem B qb rb tb x0 T n s w v (gobj s key gs)) w) := by
  have hl : gs.length = l.length := hS.1
  have hn2 : len l ≤ 1000 := by show l.length ≤ 1000; omega
  exact (sobject_any key g c l w hF hn2).mono fun e w2 ⟨v, he, hs, hb⟩ => ⟨v.val, he, v, rfl, gsem_obj (E.below hb) hs E.rlt E.tlt (hF.below hb) hc hn2 (hS.later (Chg.of_below hb)) hG, hb⟩
theorem gsem_lasts (g : GSpec) : Lasts (fun w v => GSem B qb rb tb x0 T n s w v g) := fun w w' v hb h => h.later (Chg.of_below hb)
theorem gsems_lasts (gs : List GSpec) : LastsR (fun w l => GSems B qb rb tb x0 T n s w l gs) := fun w w' l hb h => h.later (Chg.of_below hb)
end
theorem RowG.imp {P Q : World → List FVal → Prop} {u : Value} {w : World} (h : RowG P u w) (hi : ∀ l, P w l → Q w l) : RowG Q u w := by
  obtain ⟨g, c, l, hu, hc, hF, hp⟩ := h
  exact ⟨g, c, l, hu, hc, hF, hi l hp⟩
theorem keysOk_of {gs : List GSpec} {ks : List ByteArray} (h : gs.map (fun g => g.key) = ks) (hn : ks.Nodup) : KeysOk gs := fun i j hi hj e => by
  subst h
  rw [gth_eq gs i hi, gth_eq gs j hj] at e
  exact (List.getElem_inj (i := i) (j := j) (h₀ := by simpa using hi) (h₁ := by simpa using hj) hn).1 (by simpa using e)
theorem disj_of {gs : List GSpec} {L : List (List Nat)} (h : gs.map (fun g => g.offs) = L) (hp : L.Pairwise (fun a b => ∀ o, o ∈ a → o ∉ b)) : Disj gs := fun i j hi hj hne o ho hin => by
  subst h
  rw [gth_eq gs i hi] at ho
  rw [gth_eq gs j hj] at hin
  rcases Nat.lt_or_gt_of_ne hne with hlt | hlt
  · exact List.pairwise_iff_getElem.1 hp i j (by simpa using hi) (by simpa using hj) hlt o (by simpa using ho) (by simpa using hin)
  · exact List.pairwise_iff_getElem.1 hp j i (by simpa using hj) (by simpa using hi) hlt o (by simpa using hin) (by simpa using ho)
structure KPart (x0 : Rcd) (o : Nat) : Prop where
  c0 : kindD (x0 o) = 2
  c1 : kindD (x0 (o + 1)) = 0
  c2 : kindD (x0 (o + 2)) = 0
  c3 : kindD (x0 (o + 3)) = 0
  c4 : kindD (x0 (o + 4)) = 0
structure KSig (x0 : Rcd) (o : Nat) : Prop where
  c0 : kindD (x0 o) = 0
  c1 : x0 (o + 1) = .strs []
  c2 : x0 (o + 2) = .strs []
structure KSlot (x0 : Rcd) (o : Nat) : Prop where
  c0 : kindD (x0 o) = 0
  c1 : kindD (x0 (o + 1)) = 1
  c2 : KSig x0 (o + 2)
theorem PartOk {x0 : Rcd} (s : ByteArray) (o : Nat) (hK : KPart x0 o) : GOk x0 (partGs s o) := by
  refine ⟨keysOk_of (ks := [⟨#[102]⟩, ⟨#[107]⟩, ⟨#[108]⟩, ⟨#[114]⟩, ⟨#[119]⟩]) rfl (by decide), disj_of rfl ?_, fun g hg => ?_, fun g hg => ?_⟩
  · simp only [partGs, sigGs, slotGs, partGs, gnum, gflag, gdig, gdigs, gmany, gobj, List.map_cons, List.map_nil, List.flatMap_cons, List.flatMap_nil, List.pairwise_cons, List.mem_cons, List.mem_append, List.not_mem_nil, or_false, List.Pairwise.nil, and_true, List.append_nil, List.singleton_append, List.cons_append, List.nil_append, forall_eq_or_imp, forall_eq]; (repeat' apply And.intro) <;> first | omega | (intro a h; exact h.elim)
  · simp only [partGs, List.mem_cons, List.not_mem_nil, or_false] at hg; rcases hg with rfl | rfl | rfl | rfl | rfl
    · exact gnum_frames _ _ _
    · exact gnum_frames _ _ _
    · exact gnum_frames _ _ _
    · exact gdig_frames _ _ _
    · exact gnum_frames _ _ _
  · simp only [partGs, List.mem_cons, List.not_mem_nil, or_false] at hg; rcases hg with rfl | rfl | rfl | rfl | rfl
    · exact gnum_kinds _ _ (hK.c2)
    · exact gnum_kinds _ _ (hK.c4)
    · exact gnum_kinds _ _ (hK.c3)
    · exact gdig_kinds _ _ (hK.c0)
    · exact gnum_kinds _ _ (hK.c1)
theorem rofPart_any {B qb rb tb n : Nat} {T : TypeId} {w : World} {x0 : Rcd} {s : ByteArray} (E : TEnv B qb rb tb n T w) (o : Nat) (hn : o + 5 ≤ n) (hK : KPart x0 o) : Calls Tryz.prog 62 #[.pointer (some ⟨tb, o, none⟩)] w (RowIs (fun w l => GSems B qb rb tb x0 T n s w l (partGs s o)) w) := by
  refine (gofPart_any tb o w
    (fun w v => GSem B qb rb tb x0 T n s w v (gnum s ⟨#[102]⟩ (o + 2))) (fun w v => GSem B qb rb tb x0 T n s w v (gnum s ⟨#[107]⟩ (o + 4))) (fun w v => GSem B qb rb tb x0 T n s w v (gnum s ⟨#[108]⟩ (o + 3))) (fun w v => GSem B qb rb tb x0 T n s w v (gdig s ⟨#[114]⟩ (o))) (fun w v => GSem B qb rb tb x0 T n s w v (gnum s ⟨#[119]⟩ (o + 1)))
    (fun w' hb => made_num (E.below hb) ⟨#[102]⟩ (by omega) hK.c2)
    (gsem_lasts _)
    (fun w' hb => made_num (E.below hb) ⟨#[107]⟩ (by omega) hK.c4)
    (gsem_lasts _)
    (fun w' hb => made_num (E.below hb) ⟨#[108]⟩ (by omega) hK.c3)
    (gsem_lasts _)
    (fun w' hb => made_dig (E.below hb) ⟨#[114]⟩ (by omega))
    (gsem_lasts _)
    (fun w' hb => made_num (E.below hb) ⟨#[119]⟩ (by omega) hK.c1)
    (gsem_lasts _)).mono ?_
  rintro e w' ⟨u, he, hu, hb⟩
  refine ⟨u, he, hu.imp fun l h => ?_, hb⟩
  obtain ⟨x0, x1, x2, x3, x4, rfl, p0, p1, p2, p3, p4⟩ := h
  refine ⟨rfl, fun i hi => ?_⟩
  match i, hi with
  | 0, _ => exact p0
  | 1, _ => exact p1
  | 2, _ => exact p2
  | 3, _ => exact p3
  | 4, _ => exact p4
theorem SigOk {x0 : Rcd} (s : ByteArray) (o : Nat) (hK : KSig x0 o) : GOk x0 (sigGs s o) := by
  refine ⟨keysOk_of (ks := [⟨#[105]⟩, ⟨#[112]⟩, ⟨#[118]⟩]) rfl (by decide), disj_of rfl ?_, fun g hg => ?_, fun g hg => ?_⟩
  · simp only [sigGs, sigGs, slotGs, partGs, gnum, gflag, gdig, gdigs, gmany, gobj, List.map_cons, List.map_nil, List.flatMap_cons, List.flatMap_nil, List.pairwise_cons, List.mem_cons, List.mem_append, List.not_mem_nil, or_false, List.Pairwise.nil, and_true, List.append_nil, List.singleton_append, List.cons_append, List.nil_append, forall_eq_or_imp, forall_eq]; (repeat' apply And.intro) <;> first | omega | (intro a h; exact h.elim)
  · simp only [sigGs, List.mem_cons, List.not_mem_nil, or_false] at hg; rcases hg with rfl | rfl | rfl
    · exact gnum_frames _ _ _
    · exact gmany_frames _ _ _ _ _ _
    · exact gmany_frames _ _ _ _ _ _
  · simp only [sigGs, List.mem_cons, List.not_mem_nil, or_false] at hg; rcases hg with rfl | rfl | rfl
    · exact gnum_kinds _ _ (hK.c0)
    · exact gmany_kinds _ _ (fun l => by rw [hK.c2]; rfl)
    · exact gmany_kinds _ _ (fun l => by rw [hK.c1]; rfl)
theorem rofSig_any {B qb rb tb n : Nat} {T : TypeId} {w : World} {x0 : Rcd} {s : ByteArray} (E : TEnv B qb rb tb n T w) (o : Nat) (hn : o + 3 ≤ n) (hK : KSig x0 o) : Calls Tryz.prog 108 #[.pointer (some ⟨tb, o, none⟩)] w (RowIs (fun w l => GSems B qb rb tb x0 T n s w l (sigGs s o)) w) := by
  refine (gofSig_any tb o w
    (fun w v => GSem B qb rb tb x0 T n s w v (gnum s ⟨#[105]⟩ (o))) (fun w v => GSem B qb rb tb x0 T n s w v (gdigs s ⟨#[112]⟩ (o + 2) 16)) (fun w v => GSem B qb rb tb x0 T n s w v (gdigs s ⟨#[118]⟩ (o + 1) 67))
    (fun w' hb => made_num (E.below hb) ⟨#[105]⟩ (by omega) hK.c0)
    (gsem_lasts _)
    (fun w' hb => made_digs (E.below hb) ⟨#[112]⟩ (by omega) (by decide) hK.c2)
    (gsem_lasts _)
    (fun w' hb => made_digs (E.below hb) ⟨#[118]⟩ (by omega) (by decide) hK.c1)
    (gsem_lasts _)).mono ?_
  rintro e w' ⟨u, he, hu, hb⟩
  refine ⟨u, he, hu.imp fun l h => ?_, hb⟩
  obtain ⟨x0, x1, x2, rfl, p0, p1, p2⟩ := h
  refine ⟨rfl, fun i hi => ?_⟩
  match i, hi with
  | 0, _ => exact p0
  | 1, _ => exact p1
  | 2, _ => exact p2
theorem SlotOk {x0 : Rcd} (s : ByteArray) (o : Nat) (hK : KSlot x0 o) : GOk x0 (slotGs s o) := by
  have hS0 := SigOk (x0 := x0) s (o + 2) hK.c2
  refine ⟨keysOk_of (ks := [⟨#[103]⟩, ⟨#[108]⟩, ⟨#[115]⟩]) rfl (by decide), disj_of rfl ?_, fun g hg => ?_, fun g hg => ?_⟩
  · simp only [slotGs, sigGs, slotGs, partGs, gnum, gflag, gdig, gdigs, gmany, gobj, List.map_cons, List.map_nil, List.flatMap_cons, List.flatMap_nil, List.pairwise_cons, List.mem_cons, List.mem_append, List.not_mem_nil, or_false, List.Pairwise.nil, and_true, List.append_nil, List.singleton_append, List.cons_append, List.nil_append, forall_eq_or_imp, forall_eq]; (repeat' apply And.intro) <;> first | omega | (intro a h; exact h.elim)
  · simp only [slotGs, List.mem_cons, List.not_mem_nil, or_false] at hg; rcases hg with rfl | rfl | rfl
    · exact gobj_frames (hS0).frames
    · exact gnum_frames _ _ _
    · exact gflag_frames _ _ _
  · simp only [slotGs, List.mem_cons, List.not_mem_nil, or_false] at hg; rcases hg with rfl | rfl | rfl
    · exact gobj_kinds (hS0).kinds
    · exact gnum_kinds _ _ (hK.c0)
    · exact gflag_kinds _ _ (hK.c1)
theorem rofSlot_any {B qb rb tb n : Nat} {T : TypeId} {w : World} {x0 : Rcd} {s : ByteArray} (E : TEnv B qb rb tb n T w) (o : Nat) (hn : o + 5 ≤ n) (hK : KSlot x0 o) : Calls Tryz.prog 61 #[.pointer (some ⟨tb, o, none⟩)] w (RowIs (fun w l => GSems B qb rb tb x0 T n s w l (slotGs s o)) w) := by
  refine (gofSlot_any tb o w
    (fun w v => GSem B qb rb tb x0 T n s w v (gobj s ⟨#[103]⟩ (sigGs s (o + 2)))) (fun w v => GSem B qb rb tb x0 T n s w v (gnum s ⟨#[108]⟩ (o))) (fun w v => GSem B qb rb tb x0 T n s w v (gflag s ⟨#[115]⟩ (o + 1))) (fun w l => GSems B qb rb tb x0 T n s w l (sigGs s (o + 2)))
    (gsems_lasts _) (fun w' hb => rofSig_any (E.below hb) (o + 2) (by omega) hK.c2)
    (fun w' g c l hb hF hc hS => made_obj (E.below hb) ⟨#[103]⟩ hF hc hS (SigOk s (o + 2) hK.c2) (show (3 : Nat) ≤ 1000 by decide))
    (gsem_lasts _)
    (fun w' hb => made_num (E.below hb) ⟨#[108]⟩ (by omega) hK.c0)
    (gsem_lasts _)
    (fun w' hb => made_flag (E.below hb) ⟨#[115]⟩ (by omega) hK.c1)
    (gsem_lasts _)).mono ?_
  rintro e w' ⟨u, he, hu, hb⟩
  refine ⟨u, he, hu.imp fun l h => ?_, hb⟩
  obtain ⟨x0, x1, x2, rfl, p0, p1, p2⟩ := h
  refine ⟨rfl, fun i hi => ?_⟩
  match i, hi with
  | 0, _ => exact p0
  | 1, _ => exact p1
  | 2, _ => exact p2
theorem RevealOk (s : ByteArray) : GOk rev0 (revGs s) := by
  have hS1 := PartOk (x0 := rev0) s (6) ⟨rfl, rfl, rfl, rfl, rfl⟩
  have hS2 := SlotOk (x0 := rev0) s (1) ⟨rfl, rfl, ⟨rfl, rfl, rfl⟩⟩
  refine ⟨keysOk_of (ks := [⟨#[112]⟩, ⟨#[113]⟩, ⟨#[115]⟩]) rfl (by decide), disj_of rfl ?_, fun g hg => ?_, fun g hg => ?_⟩
  · simp only [revGs, sigGs, slotGs, partGs, gnum, gflag, gdig, gdigs, gmany, gobj, List.map_cons, List.map_nil, List.flatMap_cons, List.flatMap_nil, List.pairwise_cons, List.mem_cons, List.mem_append, List.not_mem_nil, or_false, List.Pairwise.nil, and_true, List.append_nil, List.singleton_append, List.cons_append, List.nil_append, forall_eq_or_imp, forall_eq]; (repeat' apply And.intro) <;> first | omega | (intro a h; exact h.elim)
  · simp only [revGs, List.mem_cons, List.not_mem_nil, or_false] at hg; rcases hg with rfl | rfl | rfl
    · exact gnum_frames _ _ _
    · exact gobj_frames (hS1).frames
    · exact gobj_frames (hS2).frames
  · simp only [revGs, List.mem_cons, List.not_mem_nil, or_false] at hg; rcases hg with rfl | rfl | rfl
    · exact gnum_kinds _ _ (rfl)
    · exact gobj_kinds (hS1).kinds
    · exact gobj_kinds (hS2).kinds
theorem rofReveal_any {B qb rb tb : Nat} {T : TypeId} {w : World} {s : ByteArray} (E : TEnv B qb rb tb 11 T w) : Calls Tryz.prog 155 #[.pointer (some ⟨tb, 0, none⟩)] w (RowIs (fun w l => GSems B qb rb tb rev0 T 11 s w l (revGs s)) w) := by
  refine (gofReveal_any tb 0 w
    (fun w v => GSem B qb rb tb rev0 T 11 s w v (gnum s ⟨#[112]⟩ (0))) (fun w v => GSem B qb rb tb rev0 T 11 s w v (gobj s ⟨#[113]⟩ (partGs s (6)))) (fun w v => GSem B qb rb tb rev0 T 11 s w v (gobj s ⟨#[115]⟩ (slotGs s (1)))) (fun w l => GSems B qb rb tb rev0 T 11 s w l (partGs s (6))) (fun w l => GSems B qb rb tb rev0 T 11 s w l (slotGs s (1)))
    (fun w' hb => made_num (E.below hb) ⟨#[112]⟩ (by omega) rfl)
    (gsem_lasts _)
    (gsems_lasts _) (fun w' hb => rofPart_any (E.below hb) (6) (by omega) ⟨rfl, rfl, rfl, rfl, rfl⟩)
    (fun w' g c l hb hF hc hS => made_obj (E.below hb) ⟨#[113]⟩ hF hc hS (PartOk s (6) ⟨rfl, rfl, rfl, rfl, rfl⟩) (show (5 : Nat) ≤ 1000 by decide))
    (gsem_lasts _)
    (gsems_lasts _) (fun w' hb => rofSlot_any (E.below hb) (1) (by omega) ⟨rfl, rfl, ⟨rfl, rfl, rfl⟩⟩)
    (fun w' g c l hb hF hc hS => made_obj (E.below hb) ⟨#[115]⟩ hF hc hS (SlotOk s (1) ⟨rfl, rfl, ⟨rfl, rfl, rfl⟩⟩) (show (3 : Nat) ≤ 1000 by decide))
    (gsem_lasts _)).mono ?_
  rintro e w' ⟨u, he, hu, hb⟩
  refine ⟨u, he, hu.imp fun l h => ?_, hb⟩
  obtain ⟨x0, x1, x2, rfl, p0, p1, p2⟩ := h
  refine ⟨rfl, fun i hi => ?_⟩
  match i, hi with
  | 0, _ => exact p0
  | 1, _ => exact p1
  | 2, _ => exact p2
theorem CertOk (s : ByteArray) : GOk cert0 (certGs s) := by
  refine ⟨keysOk_of (ks := [⟨#[80]⟩, ⟨#[83]⟩, ⟨#[99]⟩, ⟨#[112]⟩, ⟨#[114]⟩, ⟨#[119]⟩]) rfl (by decide), disj_of rfl ?_, fun g hg => ?_, fun g hg => ?_⟩
  · simp only [certGs, sigGs, slotGs, partGs, gnum, gflag, gdig, gdigs, gmany, gobj, List.map_cons, List.map_nil, List.flatMap_cons, List.flatMap_nil, List.pairwise_cons, List.mem_cons, List.mem_append, List.not_mem_nil, or_false, List.Pairwise.nil, and_true, List.append_nil, List.singleton_append, List.cons_append, List.nil_append, forall_eq_or_imp, forall_eq]; (repeat' apply And.intro) <;> first | omega | (intro a h; exact h.elim)
  · simp only [certGs, List.mem_cons, List.not_mem_nil, or_false] at hg; rcases hg with rfl | rfl | rfl | rfl | rfl | rfl
    · exact gmany_frames _ _ _ _ _ _
    · exact gmany_frames _ _ _ _ _ _
    · exact gdig_frames _ _ _
    · exact gmany_frames _ _ _ _ _ _
    · exact gmany_frames _ _ _ _ _ _
    · exact gnum_frames _ _ _
  · simp only [certGs, List.mem_cons, List.not_mem_nil, or_false] at hg; rcases hg with rfl | rfl | rfl | rfl | rfl | rfl
    · exact gmany_kinds _ _ (fun l => by skip; rfl)
    · exact gmany_kinds _ _ (fun l => by skip; rfl)
    · exact gdig_kinds _ _ (rfl)
    · exact gmany_kinds _ _ (fun l => rfl)
    · exact gmany_kinds _ _ (fun l => rfl)
    · exact gnum_kinds _ _ (rfl)
end Go.Proofs.YtihiaopilnjonaaGreatDoor
namespace Go.Proofs.YtihiaopilnjonaaGreatDoor
open Go.RowKit
set_option linter.unusedSimpArgs false
set_option linter.unusedVariables false
theorem rec_zero {rb tb : Nat} {T : TypeId} {w : World} {x : Rcd} {cs : Array Value} (h : w.heap[tb]? = some (.cells cs T (0, 0))) {n : Nat} (hn : cs.size = n) (hz : ∀ i, i < n → ∃ v, cs[i]? = some v ∧ (match x i with | .num k => v = .int .u64 k | .flag q => v = .bool q | .str t => v = .string t | .strs l => l = [] ∧ v = .slice none 0 0 | .nums l => l = [] ∧ v = .slice none 0 0 | .revs l => l = [] ∧ v = .slice none 0 0)) : RecAt rb tb T n w x := by
  refine ⟨cs, h, hn, fun i hi => ?_⟩
  obtain ⟨v, h1, h2⟩ := hz i hi
  refine ⟨v, h1, ?_⟩
  cases hx : x i with
  | num k => rw [hx] at h2; exact h2
  | flag q => rw [hx] at h2; exact h2
  | str t => rw [hx] at h2; exact h2
  | strs l =>
    rw [hx] at h2; obtain ⟨rfl, rfl⟩ := h2
    exact ⟨none, 0, rfl, fun _ => ⟨rfl, rfl⟩, fun b off e => (by cases e), fun i hi => (by simp [len] at hi), fun b off e => (by cases e)⟩
  | nums l =>
    rw [hx] at h2; obtain ⟨rfl, rfl⟩ := h2
    exact ⟨none, 0, rfl, fun _ => ⟨rfl, rfl⟩, fun b off e => (by cases e), fun i hi => (by simp [len] at hi), fun b off e => (by cases e)⟩
  | revs l =>
    rw [hx] at h2; obtain ⟨rfl, rfl⟩ := h2
    exact ⟨none, 0, rfl, fun _ => ⟨rfl, rfl⟩, fun b off e => (by cases e), [], rfl, fun i hi => (by simp [len] at hi), fun i hi => (by simp [len] at hi)⟩
theorem Kd.str {x0 x : Rcd} (h : Kd x0 x) {o : Nat} (h0 : kindD (x0 o) = 2) : ∃ n, x o = .str n := by
  have := (h o).trans h0
  cases hx : x o <;> rw [hx] at this <;> first | exact ⟨_, rfl⟩ | cases this
theorem objR_kinds {x0 : Rcd} {s : ByteArray} {fs : List GSpec} (hf : ∀ g ∈ fs, g.Kinds x0) {x : Rcd} {a : Nat} {y : Rcd × Nat} (h : objR s fs x a = .ok y) (hk : Kd x0 x) : Kd x0 y.1 := gobj_kinds (s := s) (key := ByteArray.empty) hf x a y h hk
theorem rev_of_rec {rb xb : Nat} {w : World} {x : Rcd} (h : RecAt rb xb 48 11 w x) (hk : Kd rev0 x) : ∃ r : Rev, w.heap[xb]? = some (.cells r.cells.toArray 48 (0, 0)) ∧ RevIs rb xb w r (revD x) := by
  obtain ⟨cs, h1, h2, h3⟩ := h
  obtain ⟨m0, e0⟩ := hk.num (show kindD (rev0 0) = _ from rfl)
  obtain ⟨u0, g0, d0⟩ := h3 0 (by decide)
  rw [e0] at d0
  obtain ⟨m1, e1⟩ := hk.num (show kindD (rev0 1) = _ from rfl)
  obtain ⟨u1, g1, d1⟩ := h3 1 (by decide)
  rw [e1] at d1
  obtain ⟨m2, e2⟩ := hk.flag (show kindD (rev0 2) = _ from rfl)
  obtain ⟨u2, g2, d2⟩ := h3 2 (by decide)
  rw [e2] at d2
  obtain ⟨m3, e3⟩ := hk.num (show kindD (rev0 3) = _ from rfl)
  obtain ⟨u3, g3, d3⟩ := h3 3 (by decide)
  rw [e3] at d3
  obtain ⟨m4, e4⟩ := hk.strs (show kindD (rev0 4) = _ from rfl)
  obtain ⟨u4, g4, d4⟩ := h3 4 (by decide)
  rw [e4] at d4
  obtain ⟨m5, e5⟩ := hk.strs (show kindD (rev0 5) = _ from rfl)
  obtain ⟨u5, g5, d5⟩ := h3 5 (by decide)
  rw [e5] at d5
  obtain ⟨m6, e6⟩ := hk.str (show kindD (rev0 6) = _ from rfl)
  obtain ⟨u6, g6, d6⟩ := h3 6 (by decide)
  rw [e6] at d6
  obtain ⟨m7, e7⟩ := hk.num (show kindD (rev0 7) = _ from rfl)
  obtain ⟨u7, g7, d7⟩ := h3 7 (by decide)
  rw [e7] at d7
  obtain ⟨m8, e8⟩ := hk.num (show kindD (rev0 8) = _ from rfl)
  obtain ⟨u8, g8, d8⟩ := h3 8 (by decide)
  rw [e8] at d8
  obtain ⟨m9, e9⟩ := hk.num (show kindD (rev0 9) = _ from rfl)
  obtain ⟨u9, g9, d9⟩ := h3 9 (by decide)
  rw [e9] at d9
  obtain ⟨m10, e10⟩ := hk.num (show kindD (rev0 10) = _ from rfl)
  obtain ⟨u10, g10, d10⟩ := h3 10 (by decide)
  rw [e10] at d10
  obtain ⟨a4, k4, d4, -, o4, t4⟩ := d4
  obtain ⟨a5, k5, d5, -, o5, t5⟩ := d5
  simp only [HoldsD] at d0 d1 d2 d3 d6 d7 d8 d9 d10
  subst d0 d1 d2 d3 d4 d5 d6 d7 d8 d9 d10
  refine ⟨⟨m0, m1, m2, m3, a4, len m4, k4, a5, len m5, k5, m6, m7, m8, m9, m10⟩, ?_, ?_⟩
  · rw [h1]
    congr 2
    apply Array.ext_getElem?
    intro i
    match i with
    | 0 => exact g0
    | 1 => exact g1
    | 2 => exact g2
    | 3 => exact g3
    | 4 => exact g4
    | 5 => exact g5
    | 6 => exact g6
    | 7 => exact g7
    | 8 => exact g8
    | 9 => exact g9
    | 10 => exact g10
    | i + 11 => rw [Array.getElem?_eq_none (by omega), Array.getElem?_eq_none (by simp [Rev.cells])]
  · refine ⟨?_, ?_, ?_, ?_, ?_, ?_, o4, ?_, ?_, o5, ?_, ?_, ?_, ?_, ?_⟩ <;> simp only [revD, e0, e1, e2, e3, e4, e5, e6, e7, e8, e9, e10, DV.n, DV.q, DV.s, DV.l] <;> assumption
section
variable {B qb rb tb n : Nat} {T : TypeId} {w : World} {x0 : Rcd} {s : ByteArray}
set_option maxRecDepth 100000 in
theorem cert6_any (xb a : Nat) (he : RdEnv B w qb rb s a) (hx : w.heap[xb]? = some (.cells #[.int .u64 0, .int .u64 0, .bool false, .int .u64 0, .slice none 0 0, .slice none 0 0, .string ⟨#[]⟩, .int .u64 0, .int .u64 0, .int .u64 0, .int .u64 0] 48 (0, 0))) (hne : rb < xb) (hnq : qb ≠ xb) (hB : B ≤ xb) : Calls Tryz.prog 157 #[.pointer (some ⟨qb, 0, none⟩), .pointer (some ⟨xb, 0, none⟩)] w (ElIs (rrev s a) (fun d w2 c => ∃ r : Rev, c = r.cells.toArray ∧ RevIs rb xb w2 r d) rb xb 48 s w) := by
  have E : TEnv B qb rb xb 11 48 w := ⟨⟨_, he.r⟩, ⟨_, hx⟩, by omega, hnq, hB, by decide, by decide⟩
  have hrec : RecAt rb xb 48 11 w rev0 := rec_zero hx rfl (fun i hi => by
    match i, hi with
    | 0, _ => exact ⟨_, rfl, rfl⟩
    | 1, _ => exact ⟨_, rfl, rfl⟩
    | 2, _ => exact ⟨_, rfl, rfl⟩
    | 3, _ => exact ⟨_, rfl, rfl⟩
    | 4, _ => exact ⟨_, rfl, rfl, rfl⟩
    | 5, _ => exact ⟨_, rfl, rfl, rfl⟩
    | 6, _ => exact ⟨_, rfl, rfl⟩
    | 7, _ => exact ⟨_, rfl, rfl⟩
    | 8, _ => exact ⟨_, rfl, rfl⟩
    | 9, _ => exact ⟨_, rfl, rfl⟩
    | 10, _ => exact ⟨_, rfl, rfl⟩)
  have H1 := Lib.hid (rofReveal_any (s := s) E)
  have HE := Lib.hid he
  have HEE := Lib.hid E
  have HRC := Lib.hid hrec
  clear he hx E hrec
  go_enter Tryz.func157, Tryz.ntmps157
  go_wp2_with fail
  refine H1.out.mono ?_
  rintro e w1 ⟨u, rfl, ⟨g, c, l, rfl, hc, hF, hS⟩, hb⟩
  have hl : (revGs s).length = l.length := hS.1
  have hl3 : l.length = 3 := hl.symm
  have hg := (HEE.out.below hb).apart hF.ex
  have H2 := Lib.hid (robject_any B qb rb xb g 0 c rev0 48 11 s w1 w1 l (revGs s) a rev0 hF.flds hc (show l.length ≤ 1000 by omega) hS (Chg.refl _ _ _) hg HEE.out.nq HEE.out.le HEE.out.ne (RevealOk s).keys (RevealOk s).disj (RevealOk s).frames (RevealOk s).kinds (fun i => rfl) (HRC.out.below hb) (HE.out.below hb) (fun i hi o ho => rfl))
  have HB := Lib.hid hb
  clear hF hS hb hl hc
  go_wp2_with fail
  refine H2.out.mono ?_
  intro e w2 hh
  cases hr : objR s (revGs s) rev0 a with
  | error f =>
    rw [hr] at hh
    obtain ⟨fb, rfl, hf, hc⟩ := getIs_err hh
    have HF := Lib.hid hf
    have HC := Lib.hid hc
    have HR : Hid (rrev s a = .error f) := Lib.hid (by unfold rrev; rw [hr])
    clear hh hf hc hr
    go_wp2
    refine ⟨rfl, ?_⟩
    rw [HR.out]
    exact ⟨(Chg.of_below HB.out).trans HC.out, fb, rfl, HF.out⟩
  | ok q =>
    rw [hr] at hh
    obtain ⟨rfl, h2, h3, h4, h5⟩ := getIs_ok hh
    have H2 := Lib.hid h2
    have H4 := Lib.hid (rev_of_rec h4 (objR_kinds (RevealOk s).kinds hr (fun i => rfl)))
    have H5 := Lib.hid h5
    have HR : Hid (rrev s a = .ok (revD q.1, q.2)) := Lib.hid (by unfold rrev; rw [hr])
    clear hh h2 h4 h5 hr
    go_wp2
    go_end0
    obtain ⟨r, h6, h7⟩ := H4.out
    rw [HR.out]
    exact ⟨(Chg.of_below HB.out).trans H5.out, rfl, H2.out, h3, _, h6, r, rfl, h7⟩
theorem made_revs (E : TEnv B qb rb tb n T w) (key : ByteArray) {o most : Nat} (ho : o < n) (hm : most ≤ 10240) (h0 : x0 o = .revs []) : Calls Tryz.prog 153 #[.string key, .pointer (some ⟨tb, o, none⟩), .int .i64 most, .func (.func 154) #[] #[], .func (.func 156) #[] #[], .func (.func 157) #[] #[]] w (MadeG (fun w v => GSem B qb rb tb x0 T n s w v (gmany s key o most .revs (rrev s))) w) :=
  (smanyr_any key tb o most w).mono fun e w2 ⟨v, he, hs, hb⟩ => ⟨v.val, he, v, rfl, gsem_manyr (E.below hb) hs E.rlt E.tlt ho hm h0 (fun w' xb a' hc hxb hx he2 => cert6_any xb a' he2 hx (by have := (E.below hb).rlt; omega) (by
    intro e; subst e
    have := he2.q; rw [hx] at this; cases this) (by have := (E.below hb).tlt; have := E.le; omega)), hb⟩
end
theorem rofCert_any {B qb rb tb : Nat} {T : TypeId} {w : World} {s : ByteArray} (E : TEnv B qb rb tb 6 T w) : Calls Tryz.prog 93 #[.pointer (some ⟨tb, 0, none⟩)] w (RowIs (fun w l => GSems B qb rb tb cert0 T 6 s w l (certGs s)) w) := by
  refine (gofCert_any tb 0 w (fun w v => GSem B qb rb tb cert0 T 6 s w v (gdigs s ⟨#[80]⟩ 5 10240)) (fun w v => GSem B qb rb tb cert0 T 6 s w v (gdigs s ⟨#[83]⟩ 4 10240)) (fun w v => GSem B qb rb tb cert0 T 6 s w v (gdig s ⟨#[99]⟩ 0)) (fun w v => GSem B qb rb tb cert0 T 6 s w v (gmany s ⟨#[112]⟩ 3 640 .nums (rnum s))) (fun w v => GSem B qb rb tb cert0 T 6 s w v (gmany s ⟨#[114]⟩ 2 640 .revs (rrev s))) (fun w v => GSem B qb rb tb cert0 T 6 s w v (gnum s ⟨#[119]⟩ 1))
    (fun w' hb => made_digs (E.below hb) ⟨#[80]⟩ (by omega) (by decide) rfl) (gsem_lasts _)
    (fun w' hb => made_digs (E.below hb) ⟨#[83]⟩ (by omega) (by decide) rfl) (gsem_lasts _)
    (fun w' hb => made_dig (E.below hb) ⟨#[99]⟩ (by omega)) (gsem_lasts _)
    (fun w' hb => made_nums (E.below hb) ⟨#[112]⟩ (by omega) (by decide) rfl) (gsem_lasts _)
    (fun w' hb => made_revs (E.below hb) ⟨#[114]⟩ (by omega) (by decide) rfl) (gsem_lasts _)
    (fun w' hb => made_num (E.below hb) ⟨#[119]⟩ (by omega) rfl) (gsem_lasts _)).mono ?_
  rintro e w' ⟨u, he, hu, hb⟩
  refine ⟨u, he, hu.imp fun l h => ?_, hb⟩
  obtain ⟨x0, x1, x2, x3, x4, x5, rfl, p0, p1, p2, p3, p4, p5⟩ := h
  refine ⟨rfl, fun i hi => ?_⟩
  match i, hi with
  | 0, _ => exact p0
  | 1, _ => exact p1
  | 2, _ => exact p2
  | 3, _ => exact p3
  | 4, _ => exact p4
  | 5, _ => exact p5
end Go.Proofs.YtihiaopilnjonaaGreatDoor

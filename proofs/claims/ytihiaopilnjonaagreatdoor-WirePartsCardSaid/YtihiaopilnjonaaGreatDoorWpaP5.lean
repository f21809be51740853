/- Parts of the proof, one behind the other. -/
import Derived.Test.YtihiaopilnjonaaGreatDoorWpaP4
import Derived.ProofKit
import Derived.OpenShut
import Derived.ShutString
import Derived.ChangeOld
import Derived.Deep.Slices
import Derived.Deep.Fields
import Derived.ChangeMaps5
import Derived.WideShapes
import Derived.LaidMore
import Derived.LaidHandle
import Derived.Stop.Joined
import Derived.ChangeVars
import Derived.JoinedOf
import Derived.RowKitTokens
namespace Go.Proofs.YtihiaopilnjonaaGreatDoor
open Go.RowKit
set_option linter.unusedSimpArgs false
set_option linter.unusedVariables false
structure StepOk (x0 : Rcd) (g : GSpec) (f : RStep) : Prop where
  good : ∀ x a, fresh x0 g x → match g.read x a with
    | .error e => (f x (.ok a)).2 = .error e
    | .ok y => if g.empty y.1 = true then (f x (.ok a)).2 = .error (5, 0) else f x (.ok a) = (y.1, .ok y.2)
  bad : ∀ x e, (f x (.error e)).2 = .error e
theorem num_step {x0 : Rcd} (s key : ByteArray) (o : Nat) : StepOk x0 (gnum s key o) (fun x σ => (upd x o (.num (numS s σ).1), (numS s σ).2)) := by
  refine ⟨fun x a hf => ?_, fun x e => rfl⟩
  cases h : tkR 0 s a with
  | error e =>
    have h1 : (gnum s key o).read x a = .error e := by simp only [gnum, rnum, h]
    rw [h1]
    simp only [numS, tkS, h, failS]
  | ok y =>
    have h1 : (gnum s key o).read x a = .ok (upd x o (.num y.1), y.2.2) := by simp only [gnum, rnum, h]
    rw [h1]
    simp only [gnum, upd_at, zeroD, numS, tkS, h, failS]
    by_cases hz : (y.1 == 0) = true
    · rw [if_pos hz, if_pos hz]
    · rw [if_neg hz, if_neg hz]
theorem dig_step {x0 : Rcd} (s key : ByteArray) (o : Nat) : StepOk x0 (gdig s key o) (fun x σ => (upd x o (.str (digS s σ).1), (digS s σ).2)) := by
  refine ⟨fun x a hf => ?_, fun x e => rfl⟩
  cases h : tkR 1 s a with
  | error e =>
    have h1 : (gdig s key o).read x a = .error e := by simp only [gdig, rdig, h]
    rw [h1]
    simp only [digS, tkS, h, failS]
  | ok y =>
    by_cases hz : y.2.1.size = 32
    · have h1 : (gdig s key o).read x a = .ok (upd x o (.str y.2.1), y.2.2) := by simp only [gdig, rdig, h, hz, if_true]
      rw [h1]
      simp only [gdig, digS, tkS, h, failS, hz, decide_true, Bool.not_true, Bool.false_eq_true, if_false]
    · have h1 : (gdig s key o).read x a = .error (5, 0) := by simp only [gdig, rdig, h, hz, if_false]
      rw [h1]
      simp only [digS, tkS, h, failS, hz, decide_false, Bool.not_false, if_true]
def rth (l : List (UInt8 × RStep)) (i : Nat) : UInt8 × RStep := l.getD i (0, fun x σ => (x, σ))
theorem rth_eq (l : List (UInt8 × RStep)) (i : Nat) (h : i < l.length) : rth l i = l[i] := by unfold rth; rw [List.getD_eq_getElem?_getD, List.getElem?_eq_getElem h]; rfl
structure SpecsOk (x0 : Rcd) (all : ByteArray) (specs : List (UInt8 × RStep)) (gs : List GSpec) : Prop where
  len : specs.length = gs.length
  keys : ∀ i, i < gs.length → (gth gs i).key.toList = [(rth specs i).1]
  all : ∀ k : ByteArray, isKey all k all.size = true ↔ ∃ i, i < gs.length ∧ k.toList = [(rth specs i).1]
  rise : ∀ i j, i < j → j < gs.length → (rth specs i).1 < (rth specs j).1
  steps : ∀ i, i < gs.length → StepOk x0 (gth gs i) (rth specs i).2
theorem sw_none : ∀ {l : List (UInt8 × RStep)} {k : ByteArray} {x : Rcd} {σ : Cst}, (∀ i, i < l.length → k.toList ≠ [(rth l i).1]) → sw l k x σ = (x, σ)
  | [], k, x, σ, h => rfl
  | p :: r, k, x, σ, h => by
    have h0 := h 0 (by simp)
    have h1 : (k.toList == [p.1]) = false := by simpa [rth] using h0
    rw [sw, h1]
    exact sw_none fun i hi => h (i + 1) (by simpa using hi)
theorem sw_some : ∀ {l : List (UInt8 × RStep)} {k : ByteArray} {x : Rcd} {σ : Cst} {i : Nat}, i < l.length → k.toList = [(rth l i).1] → (∀ j, j < i → (rth l j).1 ≠ (rth l i).1) → sw l k x σ = (rth l i).2 x σ
  | p :: r, k, x, σ, 0, hi, hk, hn => by
    have h1 : (k.toList == [p.1]) = true := by simpa [rth] using hk
    rw [sw, h1]; rfl
  | p :: r, k, x, σ, i + 1, hi, hk, hn => by
    have h0 := hn 0 (by omega)
    have h1 : (k.toList == [p.1]) = false := by
      rw [hk]
      have : (rth (p :: r) (i + 1)).1 ≠ p.1 := fun e => h0 e.symm
      simpa using this
    rw [sw, h1]
    exact sw_some (i := i) (by simpa using hi) hk (fun j hj => hn (j + 1) (by omega))
def LastIs (specs : List (UInt8 × RStep)) (fr : Nat) (last : ByteArray) : Prop := last.toList = if fr = 0 then [] else [(rth specs (fr - 1)).1]
theorem keyS_err {s all last : ByteArray} {a : Nat} {e : Flt} (h : tkR 2 s a = .error e) : (keyS s all last (.ok a)).1 = ⟨#[]⟩ ∧ (keyS s all last (.ok a)).2 = .error e := by
  unfold keyS
  simp only [tkS, h]
  first | exact ⟨rfl, rfl⟩ | exact ⟨trivial, rfl⟩ | rfl
theorem keyS_ok {s all last : ByteArray} {a : Nat} {z : Int × ByteArray × Nat} (h : tkR 2 s a = .ok z) : (keyS s all last (.ok a)).1 = z.2.1 ∧ (keyS s all last (.ok a)).2 = if (!isKey all z.2.1 all.size || leB z.2.1 last) = true then .error (5, 0) else .ok z.2.2 := by
  unfold keyS
  simp only [tkS, h]
  first | exact ⟨rfl, rfl⟩ | exact ⟨trivial, rfl⟩ | rfl
theorem bl_one (a b : UInt8) : Op.bytesLess [a] [b] = decide (a < b) := by simp [Op.bytesLess]
theorem leB_one {k last : ByteArray} {a b : UInt8} (h1 : k.toList = [a]) (h2 : last.toList = [b]) : leB k last = decide (a ≤ b) := by
  unfold leB
  rw [h1, h2, bl_one]
  by_cases h : a < b
  · simp [h, UInt8.le_of_lt h]
  · by_cases e : a = b
    · subst e; simp
    · have : ¬ a ≤ b := fun h' => by rcases UInt8.lt_or_eq_of_le h' with h'' | h'' <;> contradiction
      simp [h, e, this]
theorem leB_nil {k last : ByteArray} {a : UInt8} (h1 : k.toList = [a]) (h2 : last.toList = []) : leB k last = false := by
  unfold leB; rw [h1, h2]; rfl
section
variable {x0 : Rcd} {s all : ByteArray} {specs : List (UInt8 × RStep)} {gs : List GSpec}
theorem SpecsOk.inj (h : SpecsOk x0 all specs gs) {i j : Nat} (hi : i < gs.length) (hj : j < gs.length) (e : (rth specs i).1 = (rth specs j).1) : i = j := by
  rcases Nat.lt_trichotomy i j with h1 | h1 | h1
  · have := h.rise i j h1 hj; rw [e] at this; exact absurd this (UInt8.lt_irrefl _)
  · exact h1
  · have := h.rise j i h1 hi; rw [e] at this; exact absurd this (UInt8.lt_irrefl _)
theorem keyIdx_at (h : SpecsOk x0 all specs gs) (hk : KeysOk gs) {fr i : Nat} {k : ByteArray} (hi : i < gs.length) (hfr : fr ≤ i) (e : k.toList = [(rth specs i).1]) : keyIdx gs fr k = some (i - fr) := by
  have hi' : fr + (i - fr) = i := by omega
  refine keyIdx_some (by omega) (by rw [hi', h.keys i hi, e]; simp) fun j hj => ?_
  rw [h.keys (fr + j) (by omega), e]
  have : (rth specs (fr + j)).1 ≠ (rth specs i).1 := fun e2 => by have := h.inj (by omega) hi e2; omega
  simpa using this
theorem keyIdx_not (h : SpecsOk x0 all specs gs) {fr : Nat} {k : ByteArray} (hn : ∀ i, fr ≤ i → i < gs.length → k.toList ≠ [(rth specs i).1]) : keyIdx gs fr k = none :=
  keyIdx_none fun i hi => by
    rw [h.keys (fr + i) (by omega)]
    have := hn (fr + i) (by omega) (by omega)
    simpa using fun e => this e.symm
theorem loop_same (h : SpecsOk x0 all specs gs) (hk : KeysOk gs) (hd : Disj gs) (hf : ∀ g ∈ gs, g.Frames) : ∀ (n fr : Nat) (last : ByteArray) (x : Rcd) (seen : List Nat) (a : Nat), fr ≤ gs.length → LastIs specs fr last → (∀ i, fr ≤ i → i < gs.length → fresh x0 (gth gs i) x) →
    match objLoop s gs n fr x seen a with
    | .error e => (rLoop s all specs n last x (.ok a)).2 = .error e
    | .ok y => rLoop s all specs n last x (.ok a) = (y.1, .ok y.2.2)
  | 0, fr, last, x, seen, a, hfr, hl, hfs => rfl
  | n + 1, fr, last, x, seen, a, hfr, hl, hfs => by
    have hlen := h.len
    rw [rLoop]
    cases hz : tkR 2 s a with
    | error e =>
      obtain ⟨e1, e2⟩ := keyS_err (all := all) (last := last) hz
      have e3 : objLoop s gs (n + 1) fr x seen a = .error e := by rw [objLoop, hz]
      have e4 : ∀ σ, sw specs (⟨#[]⟩ : ByteArray) x σ = (x, σ) := fun σ => sw_none fun i hi hh => by simp [ByteArray.toList_eq] at hh
      rw [e3, e1, e2, e4]
      show (rLoop s all specs n ⟨#[]⟩ x (.error e)).2 = .error e
      rw [rLoop_bad]
    | ok z =>
      obtain ⟨e1, e2⟩ := keyS_ok (all := all) (last := last) hz
      rw [e1, e2]
      by_cases hex : ∃ i, i < gs.length ∧ z.2.1.toList = [(rth specs i).1]
      · obtain ⟨i, hi, hki⟩ := hex
        have hia : isKey all z.2.1 all.size = true := (h.all z.2.1).2 ⟨i, hi, hki⟩
        have hsw : ∀ σ, sw specs z.2.1 x σ = (rth specs i).2 x σ := fun σ => sw_some (by omega) hki (fun j hj e => by have := h.inj (by omega) hi e; omega)
        have hst := h.steps i hi
        by_cases hle : fr ≤ i
        · have hlb : leB z.2.1 last = false := by
            unfold LastIs at hl
            by_cases h0 : fr = 0
            · rw [if_pos h0] at hl; exact leB_nil hki hl
            · rw [if_neg h0] at hl
              rw [leB_one hki hl]
              have := h.rise (fr - 1) i (by omega) hi
              rw [decide_eq_false_iff_not]
              exact fun h' => absurd (UInt8.lt_of_lt_of_le this h') (UInt8.lt_irrefl _)
          have hki2 := keyIdx_at h hk hi hle hki
          have hfi : fr + (i - fr) = i := by omega
          rw [hia, hlb]
          simp only [Bool.not_true, Bool.or_self, Bool.false_eq_true, if_false]
          rw [hsw]
          have hg := hst.good x z.2.2 (hfs i hle hi)
          cases hr : (gth gs i).read x z.2.2 with
          | error e =>
            rw [hr] at hg
            have e3 : objLoop s gs (n + 1) fr x seen a = .error e := objLoop_err hz hki2 (by rw [hfi]; exact hr)
            rw [e3]
            show (rLoop s all specs n z.2.1 ((rth specs i).2 x (.ok z.2.2)).1 ((rth specs i).2 x (.ok z.2.2)).2).2 = .error e
            have hg' : ((rth specs i).2 x (.ok z.2.2)).2 = .error e := hg
            rw [hg', rLoop_bad]
          | ok y =>
            rw [hr] at hg
            by_cases hem : (gth gs i).empty y.1 = true
            · have e3 : objLoop s gs (n + 1) fr x seen a = .error (5, 0) := objLoop_empty hz hki2 (by rw [hfi]; exact hr) (by rw [hfi]; exact hem)
              rw [e3]
              have hg' : ((rth specs i).2 x (.ok z.2.2)).2 = .error (5, 0) := by simpa [hem] using hg
              show (rLoop s all specs n z.2.1 ((rth specs i).2 x (.ok z.2.2)).1 ((rth specs i).2 x (.ok z.2.2)).2).2 = .error (5, 0)
              rw [hg', rLoop_bad]
            · have hem' : (gth gs i).empty y.1 = false := by simpa using hem
              have hg' : (rth specs i).2 x (.ok z.2.2) = (y.1, .ok y.2) := by simpa [hem'] using hg
              have e3 : objLoop s gs (n + 1) fr x seen a = objLoop s gs n (i + 1) y.1 (i :: seen) y.2 := by
                have := objLoop_next (seen := seen) (g := n) hz hki2 (by rw [hfi]; exact hr) (by rw [hfi]; exact hem')
                rw [hfi] at this; exact this
              rw [e3, hg']
              refine loop_same h hk hd hf n (i + 1) z.2.1 y.1 (i :: seen) y.2 (by omega) ?_ fun j hj1 hj2 o ho => ?_
              · unfold LastIs; rw [if_neg (by omega), hki]; rfl
              · have hfr2 := hf (gth gs i) (by rw [gth_eq gs i hi]; exact List.getElem_mem _) x z.2.2 y hr o (fun hin => hd j i hj2 hi (by omega) o ho hin)
                rw [hfr2]
                exact hfs j (by omega) hj2 o ho
        · have hlb : leB z.2.1 last = true := by
            unfold LastIs at hl
            rw [if_neg (by omega)] at hl
            rw [leB_one hki hl, decide_eq_true_iff]
            by_cases e : i = fr - 1
            · rw [← e]; exact UInt8.le_refl _
            · exact UInt8.le_of_lt (h.rise i (fr - 1) (by omega) (by omega))
          have hki2 : keyIdx gs fr z.2.1 = none := keyIdx_not h fun j hj1 hj2 e => by
            rw [hki] at e
            have := h.inj hi hj2 (by simpa using e)
            omega
          have e3 : objLoop s gs (n + 1) fr x seen a = .error (5, 0) := objLoop_no hz hki2
          rw [e3, hlb]
          simp only [Bool.or_true, if_true]
          rw [hsw]
          show (rLoop s all specs n z.2.1 ((rth specs i).2 x (.error (5, 0))).1 ((rth specs i).2 x (.error (5, 0))).2).2 = .error (5, 0)
          rw [hst.bad, rLoop_bad]
      · have hia : isKey all z.2.1 all.size = false := by
          cases hh : isKey all z.2.1 all.size with
          | false => rfl
          | true => exact absurd ((h.all z.2.1).1 hh) hex
        have hsw : ∀ σ, sw specs z.2.1 x σ = (x, σ) := fun σ => sw_none fun i hi e => hex ⟨i, by omega, e⟩
        have hki2 : keyIdx gs fr z.2.1 = none := keyIdx_not h fun j hj1 hj2 e => hex ⟨j, hj2, e⟩
        have e3 : objLoop s gs (n + 1) fr x seen a = .error (5, 0) := objLoop_no hz hki2
        rw [e3, hia]
        simp only [Bool.not_false, Bool.true_or, if_true]
        rw [hsw]
        show (rLoop s all specs n z.2.1 x (.error (5, 0))).2 = .error (5, 0)
        rw [rLoop_bad]
end
end Go.Proofs.YtihiaopilnjonaaGreatDoor
namespace Go.Proofs.YtihiaopilnjonaaGreatDoor
open Go.RowKit
set_option linter.unusedSimpArgs false
set_option linter.unusedVariables false
def numStep (s : ByteArray) (o : Nat) : RStep := fun x σ => (upd x o (.num (numS s σ).1), (numS s σ).2)
def digStep (s : ByteArray) (o : Nat) : RStep := fun x σ => (upd x o (.str (digS s σ).1), (digS s σ).2)
def partQs (s : ByteArray) : List (UInt8 × RStep) := [(102, numStep s 2), (107, numStep s 4), (108, numStep s 3), (114, digStep s 0), (119, numStep s 1)]
abbrev partMiss (x : Rcd) : Bool := (x 0).s.toList.isEmpty
def partS (s : ByteArray) (σ : Cst) : Rcd × Cst := ((objS s ⟨#[102, 107, 108, 114, 119]⟩ (partQs s) part0 σ).1, failS (partMiss (objS s ⟨#[102, 107, 108, 114, 119]⟩ (partQs s) part0 σ).1) 5 (objS s ⟨#[102, 107, 108, 114, 119]⟩ (partQs s) part0 σ).2)
set_option maxRecDepth 100000 in
set_option maxHeartbeats 8000000 in
theorem cpart_any (cb rb : Nat) (s : ByteArray) (σ : Cst) (w : World) (h : CurIs w cb rb s σ) :
    Calls Tryz.prog 69 #[.pointer (some ⟨cb, 0, none⟩)] w (fun e w' => e = .returned (.agg (cellsPart (partS s σ).1)) ∧ Kd part0 (partS s σ).1 ∧ CurIs w' cb rb s (partS s σ).2 ∧ Chg rb cb w w') := by
  have hcs := h.clt
  have hrs := h.rlt
  have h1 := fun (w' : World) (hb : Below w.heap.size w w') => cpairs_any cb rb s σ w' (h.below hb)
  have hbd := pairsS_bd (s := s) (σ := σ)
  unfold partS objS
  generalize pairsS s σ = z at h1 hbd ⊢
  obtain ⟨k0, σ1⟩ := z
  obtain ⟨N, rfl⟩ : ∃ k : Nat, k0 = k := ⟨k0.toNat, by have := hbd.1; simp only at this ⊢; omega⟩
  have hN : N ≤ 10240 := by have := hbd.2; simp only at this; omega
  have H := Lib.hid h1
  clear h1 h hbd
  simp only [Int.toNat_natCast]
  go_enter Tryz.func69, Tryz.ntmps69
  go_upto_region 2 with fail
  obtain ⟨b0, hb0⟩ : ∃ b0, w.heap.size = b0 := ⟨_, rfl⟩
  obtain ⟨V, hV⟩ : ∃ V, (w.alloc (.cells #[.string ⟨#[]⟩, .int .u64 0, .int .u64 0, .int .u64 0, .int .u64 0] 46)).alloc (.cells #[.string ⟨#[]⟩, .int .u64 0, .int .u64 0, .int .u64 0, .int .u64 0] 46) = V := ⟨_, rfl⟩
  have HV : Hid (Below w.heap.size w V) := Lib.hid (by rw [← hV]; exact balloc (balloc (Below.refl _ _) _) _)
  have V0 : Hid (V.heap[b0]? = some (.cells #[.string ⟨#[]⟩, .int .u64 0, .int .u64 0, .int .u64 0, .int .u64 0] 46 (0, 0))) := Lib.hid (by rw [← hV, ← hb0]; exact block_alloc (heap_alloc_new _ _) _)
  have V1 : Hid (V.heap[b0 + 1]? = some (.cells #[.string ⟨#[]⟩, .int .u64 0, .int .u64 0, .int .u64 0, .int .u64 0] 46 (0, 0))) := Lib.hid (by rw [← hV]; exact alloc_new_at _ (by simp [hb0]))
  have REC : Hid (RecAt rb (b0 + 1) 46 5 V part0) := Lib.hid (rec_zero V1.out rfl (fun i hi => by
    match i, hi with
    | 0, _ => exact ⟨_, rfl, rfl⟩
    | 1, _ => exact ⟨_, rfl, rfl⟩
    | 2, _ => exact ⟨_, rfl, rfl⟩
    | 3, _ => exact ⟨_, rfl, rfl⟩
    | 4, _ => exact ⟨_, rfl, rfl⟩))
  have HB0 := Lib.hid hb0
  have hcb : cb < b0 := by omega
  have hrb : rb < b0 := by omega
  try rw [hV]
  try simp only [hb0]
  clear hV hb0
  go_wp2_with fail
  refine (H.out V HV.out).mono ?_
  rintro e w1 ⟨rfl, hc, hg⟩
  have HC1 := Lib.hid hc
  have HG1 : Hid (Chg rb cb w w1) := Lib.hid ((Chg.of_below HV.out).trans hg)
  have RES1 : Hid (w1.heap[b0]? = some (.cells #[.string ⟨#[]⟩, .int .u64 0, .int .u64 0, .int .u64 0, .int .u64 0] 46 (0, 0))) := Lib.hid ((hg.block _ (lt_of_block V0.out) (by omega) (by omega)).trans V0.out)
  have REC1 : Hid (RecAt rb (b0 + 1) 46 5 w1 part0) := Lib.hid (REC.out.cur hg (by omega) (by omega))
  clear hc hg H V0 V1 REC
  go_wp2
  go_loopg [5, 6] N (fun gg lv i wr => ∃ (m : Nat) (τ : Cst) (x : Rcd) (last : ByteArray), gg + m = N ∧ i = .int .u64 m ∧ lv = .string last ∧ Hid (rLoop s ⟨#[102, 107, 108, 114, 119]⟩ (partQs s) N ⟨#[]⟩ part0 σ1 = rLoop s ⟨#[102, 107, 108, 114, 119]⟩ (partQs s) gg last x τ) ∧ Hid (CurIs wr cb rb s τ) ∧ Hid (Chg rb cb w wr) ∧ Hid (RecAt rb (b0 + 1) 46 5 wr x) ∧ Hid (Kd part0 x) ∧ Hid (wr.heap[b0]? = some (.cells #[.string ⟨#[]⟩, .int .u64 0, .int .u64 0, .int .u64 0, .int .u64 0] 46 (0, 0))))
  case atStart => exact ⟨0, σ1, part0, ⟨#[]⟩, rfl, rfl, rfl, rfl, HC1.out, HG1.out, REC1.out, fun i => rfl, RES1.out⟩
  case round =>
    clear HC1 HG1 RES1 REC1
    obtain ⟨m, τ, x, last, hm, rfl, rfl, HD, HC, HG, REC, HK, RES⟩ := hrel
    by_cases hlt : m < N
    · obtain ⟨g', rfl⟩ : ∃ g', gk = g' + 1 := ⟨gk - 1, by omega⟩
      have i1 : (m : Int) < N := by omega
      have HB := Lib.hid (bad_any cb rb s τ _ HC.out)
      go_wp2_with fail
      refine HB.out.mono ?_
      rintro e w3 ⟨rfl, rfl⟩
      cases τ with
      | error f =>
        simp only [isBad]
        have HE : Hid (rLoop s ⟨#[102, 107, 108, 114, 119]⟩ (partQs s) N ⟨#[]⟩ part0 σ1 = (x, .error f)) := Lib.hid (by rw [HD.out, rLoop_bad])
        clear HB HD
        obtain ⟨_, hth, -⟩ := part_of_rec REC.out HK.out
        have m0 : w3.cell? ⟨b0 + 1, 0, none⟩ = some (.string (x 0).s) := block_cell hth 0
        have HF := Lib.hid (fail_any cb rb s (.error f) (partMiss x) 5 w3 HC.out (by decide))
        go_wp2_with fail
        refine HF.out.mono ?_
        rintro e w5 ⟨rfl, hc, hg⟩
        have HC5 := Lib.hid hc
        have HG5 := Lib.hid (HG.out.trans hg)
        have RES5 : Hid (w5.heap[b0]? = some (.cells #[.string ⟨#[]⟩, .int .u64 0, .int .u64 0, .int .u64 0, .int .u64 0] 46 (0, 0))) := Lib.hid ((hg.block _ (lt_of_block RES.out) (by omega) (by omega)).trans RES.out)
        obtain ⟨_, hth, -⟩ := part_of_rec (REC.out.cur hg (by omega) (by omega)) HK.out
        have k0 : w5.cell? ⟨b0 + 1, 0, none⟩ = some (.string (x 0).s) := block_cell hth 0
        have k1 : w5.cell? ⟨b0 + 1, 1, none⟩ = some (.int .u64 (x 1).n) := block_cell hth 1
        have k2 : w5.cell? ⟨b0 + 1, 2, none⟩ = some (.int .u64 (x 2).n) := block_cell hth 2
        have k3 : w5.cell? ⟨b0 + 1, 3, none⟩ = some (.int .u64 (x 3).n) := block_cell hth 3
        have k4 : w5.cell? ⟨b0 + 1, 4, none⟩ = some (.int .u64 (x 4).n) := block_cell hth 4
        have g0 : ∀ o, w5.cell? ⟨b0, o, none⟩ = _ := block_cell RES5.out
        have g1 : ∀ o, w5.frozen? ⟨b0, o, none⟩ = false := block_free RES5.out
        have g2 : b0 < w5.heap.size := lt_of_block RES5.out
        clear hc hg hth m0
        go_wp2
        have hb := (block_setCell (block_setCell (block_setCell (block_setCell (block_setCell RES5.out (o := 0) (.string (x 0).s)) (o := 1) (.int .u64 (x 1).n)) (o := 2) (.int .u64 (x 2).n)) (o := 3) (.int .u64 (x 3).n)) (o := 4) (.int .u64 (x 4).n))
        have d : ∀ o, _ = _ := block_cell hb
        refine bodyPost_ret (v := .agg (cellsPart x)) ?_ rfl ?_
        · simp [results, Tryz.results69, go_sem, d]
        · rw [HE.out]
          exact ⟨rfl, HK.out, (CurIs.setOff (CurIs.setOff (CurIs.setOff (CurIs.setOff (CurIs.setOff HC5.out hcb hrb _) hcb hrb _) hcb hrb _) hcb hrb _) hcb hrb _), (Chg.setNew (Chg.setNew (Chg.setNew (Chg.setNew (Chg.setNew HG5.out (show w.heap.size ≤ b0 by have := HB0.out; omega) _) (show w.heap.size ≤ b0 by have := HB0.out; omega) _) (show w.heap.size ≤ b0 by have := HB0.out; omega) _) (show w.heap.size ≤ b0 by have := HB0.out; omega) _) (show w.heap.size ≤ b0 by have := HB0.out; omega) _)⟩
      | ok a =>
        simp only [isBad]
        have HKY := Lib.hid (ckey_any cb rb s ⟨#[102, 107, 108, 114, 119]⟩ last (.ok a) w3 HC.out (by decide))
        have HE : Hid (rLoop s ⟨#[102, 107, 108, 114, 119]⟩ (partQs s) N ⟨#[]⟩ part0 σ1 = rLoop s ⟨#[102, 107, 108, 114, 119]⟩ (partQs s) g' (keyS s ⟨#[102, 107, 108, 114, 119]⟩ last (.ok a)).1 (sw (partQs s) (keyS s ⟨#[102, 107, 108, 114, 119]⟩ last (.ok a)).1 x (keyS s ⟨#[102, 107, 108, 114, 119]⟩ last (.ok a)).2).1 (sw (partQs s) (keyS s ⟨#[102, 107, 108, 114, 119]⟩ last (.ok a)).1 x (keyS s ⟨#[102, 107, 108, 114, 119]⟩ last (.ok a)).2).2) := Lib.hid HD.out
        clear HB HD
        go_wp2_with fail
        refine HKY.out.mono ?_
        rintro e w4 ⟨rfl, hc, hg⟩
        have HC4 := Lib.hid hc
        have HG4 : Hid (Chg rb cb w w4) := Lib.hid (HG.out.trans hg)
        have REC4 := Lib.hid (REC.out.cur hg (by omega) (by omega))
        have RES4 : Hid (w4.heap[b0]? = some (.cells #[.string ⟨#[]⟩, .int .u64 0, .int .u64 0, .int .u64 0, .int .u64 0] 46 (0, 0))) := Lib.hid ((hg.block _ (lt_of_block RES.out) (by omega) (by omega)).trans RES.out)
        clear hc hg HKY HC HG REC RES
        obtain ⟨key, hkey⟩ : ∃ key, (keyS s ⟨#[102, 107, 108, 114, 119]⟩ last (.ok a)).1 = key := ⟨_, rfl⟩
        obtain ⟨τ1, hτ1⟩ : ∃ τ1, (keyS s ⟨#[102, 107, 108, 114, 119]⟩ last (.ok a)).2 = τ1 := ⟨_, rfl⟩
        have HE : Hid (rLoop s ⟨#[102, 107, 108, 114, 119]⟩ (partQs s) N ⟨#[]⟩ part0 σ1 = rLoop s ⟨#[102, 107, 108, 114, 119]⟩ (partQs s) g' key (sw (partQs s) key x τ1).1 (sw (partQs s) key x τ1).2) := Lib.hid (by have := HE.out; rw [hkey, hτ1] at this; exact this)
        have HC4 : Hid (CurIs w4 cb rb s τ1) := Lib.hid (by rw [← hτ1]; exact HC4.out)
        rw [hkey]
        clear hkey hτ1
        cases hq0 : (key.toList == [102]) with
        | true =>
          have es : sw (partQs s) key x τ1 = (upd x 2 (.num (numS s τ1).1), (numS s τ1).2) := by unfold partQs; simp only [sw, hq0, if_true, Bool.false_eq_true, if_false]; rfl
          have HE2 : Hid (rLoop s ⟨#[102, 107, 108, 114, 119]⟩ (partQs s) N ⟨#[]⟩ part0 σ1 = rLoop s ⟨#[102, 107, 108, 114, 119]⟩ (partQs s) g' key (upd x 2 (.num (numS s τ1).1)) (numS s τ1).2) := Lib.hid (by rw [HE.out, es])
          have HNM := Lib.hid (cnum_any cb rb s τ1 w4 HC4.out)
          clear es HE
          go_wp2_with fail
          refine HNM.out.mono ?_
          rintro e w5 ⟨rfl, hc, hg⟩
          have HC5 := Lib.hid hc
          have HG5 := Lib.hid (HG4.out.trans hg)
          have hrec := REC4.out.cur hg (by omega) (by omega)
          have REC5 := Lib.hid hrec
          have RES5 : Hid (w5.heap[b0]? = some (.cells #[.string ⟨#[]⟩, .int .u64 0, .int .u64 0, .int .u64 0, .int .u64 0] 46 (0, 0))) := Lib.hid ((hg.block _ (lt_of_block RES4.out) (by omega) (by omega)).trans RES4.out)
          obtain ⟨u, hu, -⟩ := hrec.get (show 2 < 5 by decide)
          have hfz := hrec.free 2
          clear hc hg hrec
          go_wp2
          go_roundg g'
          case rel => exact ⟨m + 1, _, _, key, by omega, by go_num, rfl, HE2.out, HC5.out.setOff (by omega) (by omega) _, HG5.out.setNew (show w.heap.size ≤ b0 + 1 by have := HB0.out; omega) _, REC5.out.set (show 2 < 5 by decide) rfl, HK.out.upd rfl, Lib.hid (block_setCell_ne RES5.out (show b0 ≠ b0 + 1 by omega) _)⟩
          case measure => omega
        | false =>
          cases hq1 : (key.toList == [107]) with
          | true =>
            have es : sw (partQs s) key x τ1 = (upd x 4 (.num (numS s τ1).1), (numS s τ1).2) := by unfold partQs; simp only [sw, hq0, hq1, if_true, Bool.false_eq_true, if_false]; rfl
            have HE2 : Hid (rLoop s ⟨#[102, 107, 108, 114, 119]⟩ (partQs s) N ⟨#[]⟩ part0 σ1 = rLoop s ⟨#[102, 107, 108, 114, 119]⟩ (partQs s) g' key (upd x 4 (.num (numS s τ1).1)) (numS s τ1).2) := Lib.hid (by rw [HE.out, es])
            have HNM := Lib.hid (cnum_any cb rb s τ1 w4 HC4.out)
            clear es HE
            go_wp2_with fail
            refine HNM.out.mono ?_
            rintro e w5 ⟨rfl, hc, hg⟩
            have HC5 := Lib.hid hc
            have HG5 := Lib.hid (HG4.out.trans hg)
            have hrec := REC4.out.cur hg (by omega) (by omega)
            have REC5 := Lib.hid hrec
            have RES5 : Hid (w5.heap[b0]? = some (.cells #[.string ⟨#[]⟩, .int .u64 0, .int .u64 0, .int .u64 0, .int .u64 0] 46 (0, 0))) := Lib.hid ((hg.block _ (lt_of_block RES4.out) (by omega) (by omega)).trans RES4.out)
            obtain ⟨u, hu, -⟩ := hrec.get (show 4 < 5 by decide)
            have hfz := hrec.free 4
            clear hc hg hrec
            go_wp2
            go_roundg g'
            case rel => exact ⟨m + 1, _, _, key, by omega, by go_num, rfl, HE2.out, HC5.out.setOff (by omega) (by omega) _, HG5.out.setNew (show w.heap.size ≤ b0 + 1 by have := HB0.out; omega) _, REC5.out.set (show 4 < 5 by decide) rfl, HK.out.upd rfl, Lib.hid (block_setCell_ne RES5.out (show b0 ≠ b0 + 1 by omega) _)⟩
            case measure => omega
          | false =>
            cases hq2 : (key.toList == [108]) with
            | true =>
              have es : sw (partQs s) key x τ1 = (upd x 3 (.num (numS s τ1).1), (numS s τ1).2) := by unfold partQs; simp only [sw, hq0, hq1, hq2, if_true, Bool.false_eq_true, if_false]; rfl
              have HE2 : Hid (rLoop s ⟨#[102, 107, 108, 114, 119]⟩ (partQs s) N ⟨#[]⟩ part0 σ1 = rLoop s ⟨#[102, 107, 108, 114, 119]⟩ (partQs s) g' key (upd x 3 (.num (numS s τ1).1)) (numS s τ1).2) := Lib.hid (by rw [HE.out, es])
              have HNM := Lib.hid (cnum_any cb rb s τ1 w4 HC4.out)
              clear es HE
              go_wp2_with fail
              refine HNM.out.mono ?_
              rintro e w5 ⟨rfl, hc, hg⟩
              have HC5 := Lib.hid hc
              have HG5 := Lib.hid (HG4.out.trans hg)
              have hrec := REC4.out.cur hg (by omega) (by omega)
              have REC5 := Lib.hid hrec
              have RES5 : Hid (w5.heap[b0]? = some (.cells #[.string ⟨#[]⟩, .int .u64 0, .int .u64 0, .int .u64 0, .int .u64 0] 46 (0, 0))) := Lib.hid ((hg.block _ (lt_of_block RES4.out) (by omega) (by omega)).trans RES4.out)
              obtain ⟨u, hu, -⟩ := hrec.get (show 3 < 5 by decide)
              have hfz := hrec.free 3
              clear hc hg hrec
              go_wp2
              go_roundg g'
              case rel => exact ⟨m + 1, _, _, key, by omega, by go_num, rfl, HE2.out, HC5.out.setOff (by omega) (by omega) _, HG5.out.setNew (show w.heap.size ≤ b0 + 1 by have := HB0.out; omega) _, REC5.out.set (show 3 < 5 by decide) rfl, HK.out.upd rfl, Lib.hid (block_setCell_ne RES5.out (show b0 ≠ b0 + 1 by omega) _)⟩
              case measure => omega
            | false =>
              cases hq3 : (key.toList == [114]) with
              | true =>
                have es : sw (partQs s) key x τ1 = (upd x 0 (.str (digS s τ1).1), (digS s τ1).2) := by unfold partQs; simp only [sw, hq0, hq1, hq2, hq3, if_true, Bool.false_eq_true, if_false]; rfl
                have HE2 : Hid (rLoop s ⟨#[102, 107, 108, 114, 119]⟩ (partQs s) N ⟨#[]⟩ part0 σ1 = rLoop s ⟨#[102, 107, 108, 114, 119]⟩ (partQs s) g' key (upd x 0 (.str (digS s τ1).1)) (digS s τ1).2) := Lib.hid (by rw [HE.out, es])
                have HNM := Lib.hid (cdig_any cb rb s τ1 w4 HC4.out)
                clear es HE
                go_wp2_with fail
                refine HNM.out.mono ?_
                rintro e w5 ⟨rfl, hc, hg⟩
                have HC5 := Lib.hid hc
                have HG5 := Lib.hid (HG4.out.trans hg)
                have hrec := REC4.out.cur hg (by omega) (by omega)
                have REC5 := Lib.hid hrec
                have RES5 : Hid (w5.heap[b0]? = some (.cells #[.string ⟨#[]⟩, .int .u64 0, .int .u64 0, .int .u64 0, .int .u64 0] 46 (0, 0))) := Lib.hid ((hg.block _ (lt_of_block RES4.out) (by omega) (by omega)).trans RES4.out)
                obtain ⟨u, hu, -⟩ := hrec.get (show 0 < 5 by decide)
                have hfz := hrec.free 0
                clear hc hg hrec
                go_wp2
                go_roundg g'
                case rel => exact ⟨m + 1, _, _, key, by omega, by go_num, rfl, HE2.out, HC5.out.setOff (by omega) (by omega) _, HG5.out.setNew (show w.heap.size ≤ b0 + 1 by have := HB0.out; omega) _, REC5.out.set (show 0 < 5 by decide) rfl, HK.out.upd rfl, Lib.hid (block_setCell_ne RES5.out (show b0 ≠ b0 + 1 by omega) _)⟩
                case measure => omega
              | false =>
                cases hq4 : (key.toList == [119]) with
                | true =>
                  have es : sw (partQs s) key x τ1 = (upd x 1 (.num (numS s τ1).1), (numS s τ1).2) := by unfold partQs; simp only [sw, hq0, hq1, hq2, hq3, hq4, if_true, Bool.false_eq_true, if_false]; rfl
                  have HE2 : Hid (rLoop s ⟨#[102, 107, 108, 114, 119]⟩ (partQs s) N ⟨#[]⟩ part0 σ1 = rLoop s ⟨#[102, 107, 108, 114, 119]⟩ (partQs s) g' key (upd x 1 (.num (numS s τ1).1)) (numS s τ1).2) := Lib.hid (by rw [HE.out, es])
                  have HNM := Lib.hid (cnum_any cb rb s τ1 w4 HC4.out)
                  clear es HE
                  go_wp2_with fail
                  refine HNM.out.mono ?_
                  rintro e w5 ⟨rfl, hc, hg⟩
                  have HC5 := Lib.hid hc
                  have HG5 := Lib.hid (HG4.out.trans hg)
                  have hrec := REC4.out.cur hg (by omega) (by omega)
                  have REC5 := Lib.hid hrec
                  have RES5 : Hid (w5.heap[b0]? = some (.cells #[.string ⟨#[]⟩, .int .u64 0, .int .u64 0, .int .u64 0, .int .u64 0] 46 (0, 0))) := Lib.hid ((hg.block _ (lt_of_block RES4.out) (by omega) (by omega)).trans RES4.out)
                  obtain ⟨u, hu, -⟩ := hrec.get (show 1 < 5 by decide)
                  have hfz := hrec.free 1
                  clear hc hg hrec
                  go_wp2
                  go_roundg g'
                  case rel => exact ⟨m + 1, _, _, key, by omega, by go_num, rfl, HE2.out, HC5.out.setOff (by omega) (by omega) _, HG5.out.setNew (show w.heap.size ≤ b0 + 1 by have := HB0.out; omega) _, REC5.out.set (show 1 < 5 by decide) rfl, HK.out.upd rfl, Lib.hid (block_setCell_ne RES5.out (show b0 ≠ b0 + 1 by omega) _)⟩
                  case measure => omega
                | false =>
                  have es : sw (partQs s) key x τ1 = (x, τ1) := by unfold partQs; simp only [sw, hq0, hq1, hq2, hq3, hq4, Bool.false_eq_true, if_false]
                  have HE2 : Hid (rLoop s ⟨#[102, 107, 108, 114, 119]⟩ (partQs s) N ⟨#[]⟩ part0 σ1 = rLoop s ⟨#[102, 107, 108, 114, 119]⟩ (partQs s) g' key x τ1) := Lib.hid (by rw [HE.out, es])
                  clear es HE
                  go_wp2
                  go_roundg g'
                  case rel => exact ⟨m + 1, _, _, key, by omega, by go_num, rfl, HE2.out, HC4.out, HG4.out, REC4.out, HK.out, RES4.out⟩
                  case measure => omega
    · obtain rfl : m = N := by omega
      have i1 : ¬ ((m : Nat) : Int) < m := by omega
      obtain rfl : gk = 0 := by omega
      obtain ⟨w3, hw3⟩ : ∃ w3, w3 = wr := ⟨_, rfl⟩
      subst hw3
      have HE : Hid (rLoop s ⟨#[102, 107, 108, 114, 119]⟩ (partQs s) m ⟨#[]⟩ part0 σ1 = (x, τ)) := Lib.hid HD.out
      clear HD
      obtain ⟨_, hth, -⟩ := part_of_rec REC.out HK.out
      have m0 : w3.cell? ⟨b0 + 1, 0, none⟩ = some (.string (x 0).s) := block_cell hth 0
      have HF := Lib.hid (fail_any cb rb s τ (partMiss x) 5 w3 HC.out (by decide))
      go_wp2_with fail
      refine HF.out.mono ?_
      rintro e w5 ⟨rfl, hc, hg⟩
      have HC5 := Lib.hid hc
      have HG5 := Lib.hid (HG.out.trans hg)
      have RES5 : Hid (w5.heap[b0]? = some (.cells #[.string ⟨#[]⟩, .int .u64 0, .int .u64 0, .int .u64 0, .int .u64 0] 46 (0, 0))) := Lib.hid ((hg.block _ (lt_of_block RES.out) (by omega) (by omega)).trans RES.out)
      obtain ⟨_, hth, -⟩ := part_of_rec (REC.out.cur hg (by omega) (by omega)) HK.out
      have k0 : w5.cell? ⟨b0 + 1, 0, none⟩ = some (.string (x 0).s) := block_cell hth 0
      have k1 : w5.cell? ⟨b0 + 1, 1, none⟩ = some (.int .u64 (x 1).n) := block_cell hth 1
      have k2 : w5.cell? ⟨b0 + 1, 2, none⟩ = some (.int .u64 (x 2).n) := block_cell hth 2
      have k3 : w5.cell? ⟨b0 + 1, 3, none⟩ = some (.int .u64 (x 3).n) := block_cell hth 3
      have k4 : w5.cell? ⟨b0 + 1, 4, none⟩ = some (.int .u64 (x 4).n) := block_cell hth 4
      have g0 : ∀ o, w5.cell? ⟨b0, o, none⟩ = _ := block_cell RES5.out
      have g1 : ∀ o, w5.frozen? ⟨b0, o, none⟩ = false := block_free RES5.out
      have g2 : b0 < w5.heap.size := lt_of_block RES5.out
      clear hc hg hth m0
      go_wp2
      have hb := (block_setCell (block_setCell (block_setCell (block_setCell (block_setCell RES5.out (o := 0) (.string (x 0).s)) (o := 1) (.int .u64 (x 1).n)) (o := 2) (.int .u64 (x 2).n)) (o := 3) (.int .u64 (x 3).n)) (o := 4) (.int .u64 (x 4).n))
      have d : ∀ o, _ = _ := block_cell hb
      refine bodyPost_ret (v := .agg (cellsPart x)) ?_ rfl ?_
      · simp [results, Tryz.results69, go_sem, d]
      · rw [HE.out]
        exact ⟨rfl, HK.out, (CurIs.setOff (CurIs.setOff (CurIs.setOff (CurIs.setOff (CurIs.setOff HC5.out hcb hrb _) hcb hrb _) hcb hrb _) hcb hrb _) hcb hrb _), (Chg.setNew (Chg.setNew (Chg.setNew (Chg.setNew (Chg.setNew HG5.out (show w.heap.size ≤ b0 by have := HB0.out; omega) _) (show w.heap.size ≤ b0 by have := HB0.out; omega) _) (show w.heap.size ≤ b0 by have := HB0.out; omega) _) (show w.heap.size ≤ b0 by have := HB0.out; omega) _) (show w.heap.size ≤ b0 by have := HB0.out; omega) _)⟩
end Go.Proofs.YtihiaopilnjonaaGreatDoor
namespace Go.Proofs.YtihiaopilnjonaaGreatDoor
open Go.RowKit
set_option linter.unusedSimpArgs false
set_option linter.unusedVariables false
theorem begin_any (s : ByteArray) (w : World) (hs : s.size ≤ 140737488355328) : Calls Tryz.prog 68 #[.string s] w fun e w' => ∃ cb rb, e = .returned (.pointer (some ⟨cb, 0, none⟩)) ∧ CurIs w' cb rb s (.ok 0) ∧ w.heap.size ≤ rb ∧ w.heap.size ≤ cb ∧ Below w.heap.size w w' := by
  go_enter Tryz.func68, Tryz.ntmps68
  go_wp2_with fail
  refine (refNew_any w s 10240).mono ?_
  rintro e w1 ⟨rfl, hw1⟩
  have hm : max (10240 : Int) 0 = 10240 := by decide
  rw [hm] at hw1
  have R1 : Hid (RefB w1 w.heap.size s 0 10240) := Lib.hid (by rw [hw1]; exact heap_alloc_new _ _)
  have B1 : Hid (Below w.heap.size w w1) := Lib.hid (by rw [hw1]; exact balloc (Below.refl _ _) _)
  have hs1 : w1.heap.size = w.heap.size + 1 := by rw [hw1]; simp
  clear hw1
  go_wp2
  go_ret
  exact ⟨w.heap.size + 1, w.heap.size, rfl, ⟨alloc_new_at _ hs1, by omega, hs, block_alloc R1.out _, Nat.zero_le _⟩, Nat.le_refl _, by omega, balloc B1.out _⟩
def endS (s : ByteArray) : Cst → Cst
  | .ok a => if a < s.size then .error (5, a) else .ok a
  | .error f => .error f
set_option maxRecDepth 100000 in
set_option maxHeartbeats 4000000 in
theorem cend_any (cb rb : Nat) (s : ByteArray) (σ : Cst) (w : World) (h : CurIs w cb rb s σ) :
    Calls Tryz.prog 70 #[.pointer (some ⟨cb, 0, none⟩)] w fun e w' => e = .returned (.agg #[.int .i64 (endS s σ).flt.1, .int .i64 (endS s σ).flt.2]) ∧ CurIs w' cb rb s (endS s σ) ∧ Chg rb cb w w' := by
  have H := Lib.hid h
  have HB := Lib.hid (fun (w' : World) (hb : Below w.heap.size w w') => bad_any cb rb s σ w' (h.below hb))
  have hcs := h.clt
  have hrs := h.rlt
  clear h
  cases σ with
  | error f =>
    simp only [isBad] at HB
    go_enter Tryz.func70, Tryz.ntmps70
    go_upto_region 1 with fail
    obtain ⟨W, hW⟩ : ∃ W, w.alloc (.cells #[.int .i64 0, .int .i64 0] 63) = W := ⟨_, rfl⟩
    have WB : Hid (Below w.heap.size w W) := Lib.hid (by rw [← hW]; exact balloc (Below.refl _ _) _)
    have W0 : Hid (W.heap[w.heap.size]? = some (.cells #[.int .i64 0, .int .i64 0] 63 (0, 0))) := Lib.hid (by rw [← hW]; exact heap_alloc_new _ _)
    have HB : Hid (∀ w', Below W.heap.size W w' → Calls Tryz.prog 127 #[.pointer (some ⟨cb, 0, none⟩)] w' fun e w'' => e = .returned (.bool true) ∧ w'' = w') := Lib.hid (fun w' hb => HB.out w' (bnext WB.out hb))
    rw [hW]
    clear hW
    refine wp_region_all 1000 (none) (phis [fun u _ => u = (.pointer (some ⟨cb, 0, none⟩)), fun u _ => u = (.bool true), fun u _ => u = (.bool false), fun u _ => u = (.bool false), fun u _ => u = undef, fun u _ => u = undef, fun u _ => u = undef, fun u _ => u = undef, fun u _ => u = undef, fun u _ => u = undef, fun u _ => u = undef, fun u _ => u = undef, fun u _ => u = undef, fun u _ => u = undef, fun u _ => u = undef, fun u _ => u = undef, fun u _ => u = undef, fun u _ => u = undef, fun u _ => u = undef, fun u _ => u = undef, fun u _ => u = (.bool false)]) rfl (by kernel_rfl) (mono_of ⟨mono_eq, mono_eq, mono_eq, mono_eq, mono_eq, mono_eq, mono_eq, mono_eq, mono_eq, mono_eq, mono_eq, mono_eq, mono_eq, mono_eq, mono_eq, mono_eq, mono_eq, mono_eq, mono_eq, mono_eq, mono_eq, trivial⟩) (steps_of 21 ⟨?s0, ?s1, ?s2, ?s3, ?s4, ?s5, ?s6, ?s7, ?s8, ?s9, ?s10, ?s11, ?s12, ?s13, ?s14, ?s15, ?s16, ?s17, ?s18, ?s19, ?s20, trivial⟩) ?_
    case s0 =>
      refine step_val (v := (.pointer (some ⟨cb, 0, none⟩))) (fun av wv hE hS hO hD => ?_) (fun _ => rfl)
      have h0 : av.eval (.tmp 0) = (.pointer (some ⟨cb, 0, none⟩)) := hO.2.2 0 rfl
      have f0 := (ev_form av 0).symm.trans h0
      refine ⟨rfl, ?_⟩
      simp [go_sem, f0]
    case s1 =>
      refine step_wp (fun av wv hE hS hO hD => ?_)
      have d3 : av.eval (.tmp 3) = (.pointer (some ⟨cb, 0, none⟩)) := hD.1 rfl _ rfl
      have f3 := (ev_form av 3).symm.trans d3
      refine ⟨rfl, ?_⟩
      refine wp_of_call (v := .bool true) (by simp [go_sem, f3]) ((HB.out wv (of_drew hE)).mono (fun e w2 ⟨h1, h2⟩ => ⟨h1, by rw [h2]; exact Below.refl _ _⟩)) (fun w2 hb => ⟨_, rfl, es_of_ext hb, rfl⟩)
    case s2 =>
      refine step_val (v := (.bool false)) (fun av wv hE hS hO hD => ?_) (fun _ => rfl)
      have d4 : av.eval (.tmp 4) = (.bool true) := hD.1 rfl _ rfl
      have f4 := (ev_form av 4).symm.trans d4
      refine ⟨rfl, ?_⟩
      simp [go_sem, f4]
    case s3 =>
      refine step_val (v := (.bool false)) (fun av wv hE hS hO hD => ?_) (fun _ => rfl)
      have d5 : av.eval (.tmp 5) = (.bool false) := hD.1 rfl _ rfl
      have f5 := (ev_form av 5).symm.trans d5
      refine ⟨rfl, ?_⟩
      simp [go_sem, f5]
    case s4 =>
      refine step_skip (fun av wv hE hS hO hD => ?_) (fun _ => rfl)
      have h0 : av.eval (.tmp 0) = (.pointer (some ⟨cb, 0, none⟩)) := hO.2.2 0 rfl
      have f0 := (ev_form av 0).symm.trans h0
      have d6 : av.eval (.tmp 6) = (.bool false) := hD.1 rfl _ rfl
      have f6 := (ev_form av 6).symm.trans d6
      exact (wanted_of (d := 6) (b := false) (want := true) rfl rfl rfl d6)
    case s5 =>
      refine step_skip (fun av wv hE hS hO hD => ?_) (fun _ => rfl)
      have d7 : av.eval (.tmp 7) = (undef) := hD.1 rfl _ rfl
      have f7 := (ev_form av 7).symm.trans d7
      have d6 : av.eval (.tmp 6) = (.bool false) := hD.2.1 rfl _ rfl
      have f6 := (ev_form av 6).symm.trans d6
      exact (wanted_of (d := 6) (b := false) (want := true) rfl rfl rfl d6)
    case s6 =>
      refine step_skip (fun av wv hE hS hO hD => ?_) (fun _ => rfl)
      have d8 : av.eval (.tmp 8) = (undef) := hD.1 rfl _ rfl
      have f8 := (ev_form av 8).symm.trans d8
      have d6 : av.eval (.tmp 6) = (.bool false) := hD.2.1 rfl _ rfl
      have f6 := (ev_form av 6).symm.trans d6
      exact (wanted_of (d := 6) (b := false) (want := true) rfl rfl rfl d6)
    case s7 =>
      refine step_skip (fun av wv hE hS hO hD => ?_) (fun _ => rfl)
      have d9 : av.eval (.tmp 9) = (undef) := hD.1 rfl _ rfl
      have f9 := (ev_form av 9).symm.trans d9
      have d6 : av.eval (.tmp 6) = (.bool false) := hD.2.1 rfl _ rfl
      have f6 := (ev_form av 6).symm.trans d6
      exact (wanted_of (d := 6) (b := false) (want := true) rfl rfl rfl d6)
    case s8 =>
      refine step_skip (fun av wv hE hS hO hD => ?_) (fun _ => rfl)
      have d10 : av.eval (.tmp 10) = (undef) := hD.1 rfl _ rfl
      have f10 := (ev_form av 10).symm.trans d10
      have d6 : av.eval (.tmp 6) = (.bool false) := hD.2.1 rfl _ rfl
      have f6 := (ev_form av 6).symm.trans d6
      exact (wanted_of (d := 6) (b := false) (want := true) rfl rfl rfl d6)
    case s9 =>
      refine step_skip (fun av wv hE hS hO hD => ?_) (fun _ => rfl)
      have d11 : av.eval (.tmp 11) = (undef) := hD.1 rfl _ rfl
      have f11 := (ev_form av 11).symm.trans d11
      have d6 : av.eval (.tmp 6) = (.bool false) := hD.2.1 rfl _ rfl
      have f6 := (ev_form av 6).symm.trans d6
      exact (wanted_of (d := 6) (b := false) (want := true) rfl rfl rfl d6)
    case s10 =>
      refine step_skip (fun av wv hE hS hO hD => ?_) (fun _ => rfl)
      have d12 : av.eval (.tmp 12) = (undef) := hD.1 rfl _ rfl
      have f12 := (ev_form av 12).symm.trans d12
      have d6 : av.eval (.tmp 6) = (.bool false) := hD.2.1 rfl _ rfl
      have f6 := (ev_form av 6).symm.trans d6
      exact (wanted_of (d := 6) (b := false) (want := true) rfl rfl rfl d6)
    case s11 =>
      refine step_skip (fun av wv hE hS hO hD => ?_) (fun _ => rfl)
      have h0 : av.eval (.tmp 0) = (.pointer (some ⟨cb, 0, none⟩)) := hO.2.2 0 rfl
      have f0 := (ev_form av 0).symm.trans h0
      have d6 : av.eval (.tmp 6) = (.bool false) := hD.1 rfl _ rfl
      have f6 := (ev_form av 6).symm.trans d6
      exact (wanted_of (d := 6) (b := false) (want := true) rfl rfl rfl d6)
    case s12 =>
      refine step_skip (fun av wv hE hS hO hD => ?_) (fun _ => rfl)
      have d14 : av.eval (.tmp 14) = (undef) := hD.1 rfl _ rfl
      have f14 := (ev_form av 14).symm.trans d14
      have d6 : av.eval (.tmp 6) = (.bool false) := hD.2.1 rfl _ rfl
      have f6 := (ev_form av 6).symm.trans d6
      exact (wanted_of (d := 6) (b := false) (want := true) rfl rfl rfl d6)
    case s13 =>
      refine step_skip (fun av wv hE hS hO hD => ?_) (fun _ => rfl)
      have d15 : av.eval (.tmp 15) = (undef) := hD.1 rfl _ rfl
      have f15 := (ev_form av 15).symm.trans d15
      have d6 : av.eval (.tmp 6) = (.bool false) := hD.2.1 rfl _ rfl
      have f6 := (ev_form av 6).symm.trans d6
      exact (wanted_of (d := 6) (b := false) (want := true) rfl rfl rfl d6)
    case s14 =>
      refine step_skip (fun av wv hE hS hO hD => ?_) (fun _ => rfl)
      have d16 : av.eval (.tmp 16) = (undef) := hD.1 rfl _ rfl
      have f16 := (ev_form av 16).symm.trans d16
      have d6 : av.eval (.tmp 6) = (.bool false) := hD.2.1 rfl _ rfl
      have f6 := (ev_form av 6).symm.trans d6
      exact (wanted_of (d := 6) (b := false) (want := true) rfl rfl rfl d6)
    case s15 =>
      refine step_skip (fun av wv hE hS hO hD => ?_) (fun _ => rfl)
      have d17 : av.eval (.tmp 17) = (undef) := hD.1 rfl _ rfl
      have f17 := (ev_form av 17).symm.trans d17
      have d6 : av.eval (.tmp 6) = (.bool false) := hD.2.1 rfl _ rfl
      have f6 := (ev_form av 6).symm.trans d6
      exact (wanted_of (d := 6) (b := false) (want := true) rfl rfl rfl d6)
    case s16 =>
      refine step_skip (fun av wv hE hS hO hD => ?_) (fun _ => rfl)
      have d18 : av.eval (.tmp 18) = (undef) := hD.1 rfl _ rfl
      have f18 := (ev_form av 18).symm.trans d18
      have d6 : av.eval (.tmp 6) = (.bool false) := hD.2.1 rfl _ rfl
      have f6 := (ev_form av 6).symm.trans d6
      exact (wanted_of (d := 6) (b := false) (want := true) rfl rfl rfl d6)
    case s17 =>
      refine step_skip (fun av wv hE hS hO hD => ?_) (fun _ => rfl)
      have d19 : av.eval (.tmp 19) = (undef) := hD.1 rfl _ rfl
      have f19 := (ev_form av 19).symm.trans d19
      have d6 : av.eval (.tmp 6) = (.bool false) := hD.2.1 rfl _ rfl
      have f6 := (ev_form av 6).symm.trans d6
      exact (wanted_of (d := 6) (b := false) (want := true) rfl rfl rfl d6)
    case s18 =>
      refine step_skip (fun av wv hE hS hO hD => ?_) (fun _ => rfl)
      have d20 : av.eval (.tmp 20) = (undef) := hD.1 rfl _ rfl
      have f20 := (ev_form av 20).symm.trans d20
      have d6 : av.eval (.tmp 6) = (.bool false) := hD.2.1 rfl _ rfl
      have f6 := (ev_form av 6).symm.trans d6
      exact (wanted_of (d := 6) (b := false) (want := true) rfl rfl rfl d6)
    case s19 =>
      refine step_skip (fun av wv hE hS hO hD => ?_) (fun _ => rfl)
      have d13 : av.eval (.tmp 13) = (undef) := hD.1 rfl _ rfl
      have f13 := (ev_form av 13).symm.trans d13
      have d21 : av.eval (.tmp 21) = (undef) := hD.2.1 rfl _ rfl
      have f21 := (ev_form av 21).symm.trans d21
      have d6 : av.eval (.tmp 6) = (.bool false) := hD.2.2.1 rfl _ rfl
      have f6 := (ev_form av 6).symm.trans d6
      exact (wanted_of (d := 6) (b := false) (want := true) rfl rfl rfl d6)
    case s20 =>
      refine step_val (v := (.bool false)) (fun av wv hE hS hO hD => ?_) (fun _ => rfl)
      have d6 : av.eval (.tmp 6) = (.bool false) := hD.1 rfl _ rfl
      have f6 := (ev_form av 6).symm.trans d6
      have d22 : av.eval (.tmp 22) = (undef) := hD.2.1 rfl _ rfl
      have f22 := (ev_form av 22).symm.trans d22
      refine ⟨rfl, ?_⟩
      simp [go_sem, f6, f22]
    intro a' w' hE hO hall
    have hA := act_of_outer (ds := [3, 4, 5, 6, 7, 8, 9, 10, 11, 12, 13, 14, 15, 16, 17, 18, 19, 20, 21, 22, 23]) rfl hO (by kernel_rfl)
    have e3 : (fun u _ => u = (.pointer (some ⟨cb, 0, none⟩))) (a'.eval (.tmp 3)) w' := hall.1 _ rfl
    have e4 : (fun u _ => u = (.bool true)) (a'.eval (.tmp 4)) w' := hall.2.1 _ rfl
    have e5 : (fun u _ => u = (.bool false)) (a'.eval (.tmp 5)) w' := hall.2.2.1 _ rfl
    have e6 : (fun u _ => u = (.bool false)) (a'.eval (.tmp 6)) w' := hall.2.2.2.1 _ rfl
    have e7 : (fun u _ => u = undef) (a'.eval (.tmp 7)) w' := hall.2.2.2.2.1 _ rfl
    have e8 : (fun u _ => u = undef) (a'.eval (.tmp 8)) w' := hall.2.2.2.2.2.1 _ rfl
    have e9 : (fun u _ => u = undef) (a'.eval (.tmp 9)) w' := hall.2.2.2.2.2.2.1 _ rfl
    have e10 : (fun u _ => u = undef) (a'.eval (.tmp 10)) w' := hall.2.2.2.2.2.2.2.1 _ rfl
    have e11 : (fun u _ => u = undef) (a'.eval (.tmp 11)) w' := hall.2.2.2.2.2.2.2.2.1 _ rfl
    have e12 : (fun u _ => u = undef) (a'.eval (.tmp 12)) w' := hall.2.2.2.2.2.2.2.2.2.1 _ rfl
    have e13 : (fun u _ => u = undef) (a'.eval (.tmp 13)) w' := hall.2.2.2.2.2.2.2.2.2.2.1 _ rfl
    have e14 : (fun u _ => u = undef) (a'.eval (.tmp 14)) w' := hall.2.2.2.2.2.2.2.2.2.2.2.1 _ rfl
    have e15 : (fun u _ => u = undef) (a'.eval (.tmp 15)) w' := hall.2.2.2.2.2.2.2.2.2.2.2.2.1 _ rfl
    have e16 : (fun u _ => u = undef) (a'.eval (.tmp 16)) w' := hall.2.2.2.2.2.2.2.2.2.2.2.2.2.1 _ rfl
    have e17 : (fun u _ => u = undef) (a'.eval (.tmp 17)) w' := hall.2.2.2.2.2.2.2.2.2.2.2.2.2.2.1 _ rfl
    have e18 : (fun u _ => u = undef) (a'.eval (.tmp 18)) w' := hall.2.2.2.2.2.2.2.2.2.2.2.2.2.2.2.1 _ rfl
    have e19 : (fun u _ => u = undef) (a'.eval (.tmp 19)) w' := hall.2.2.2.2.2.2.2.2.2.2.2.2.2.2.2.2.1 _ rfl
    have e20 : (fun u _ => u = undef) (a'.eval (.tmp 20)) w' := hall.2.2.2.2.2.2.2.2.2.2.2.2.2.2.2.2.2.1 _ rfl
    have e21 : (fun u _ => u = undef) (a'.eval (.tmp 21)) w' := hall.2.2.2.2.2.2.2.2.2.2.2.2.2.2.2.2.2.2.1 _ rfl
    have e22 : (fun u _ => u = undef) (a'.eval (.tmp 22)) w' := hall.2.2.2.2.2.2.2.2.2.2.2.2.2.2.2.2.2.2.2.1 _ rfl
    have e23 : (fun u _ => u = (.bool false)) (a'.eval (.tmp 23)) w' := hall.2.2.2.2.2.2.2.2.2.2.2.2.2.2.2.2.2.2.2.2.1 _ rfl
    simp only [List.foldl_cons, List.foldl_nil, Act.put, List.setIfInBounds_toArray, List.set_cons_succ, List.set_cons_zero, e3, e4, e5, e6, e7, e8, e9, e10, e11, e12, e13, e14, e15, e16, e17, e18, e19, e20, e21, e22, e23] at hA
    clear hO hall e3 e4 e5 e6 e7 e8 e9 e10 e11 e12 e13 e14 e15 e16 e17 e18 e19 e20 e21 e22 e23
    subst hA
    have WW : Hid (Below W.heap.size W w') := Lib.hid (of_drew hE)
    have HW2 : Hid (CurIs w' cb rb s (.error f)) := Lib.hid ((H.out.below WB.out).below WW.out)
    have W2 : Hid (w'.heap[w.heap.size]? = some (.cells #[.int .i64 0, .int .i64 0] 63 (0, 0))) := Lib.hid ((WW.out.block _ (lt_of_block W0.out)).trans W0.out)
    have c1 : w'.cell? ⟨cb, 1, none⟩ = some (.int .i64 f.1) := block_cell HW2.out.c 1
    have c2 : w'.cell? ⟨cb, 2, none⟩ = some (.int .i64 f.2) := block_cell HW2.out.c 2
    have g0 : ∀ o, w'.cell? ⟨w.heap.size, o, none⟩ = _ := block_cell W2.out
    have g1 : ∀ o, w'.frozen? ⟨w.heap.size, o, none⟩ = false := block_free W2.out
    have g2 : w.heap.size < w'.heap.size := lt_of_block W2.out
    clear hE
    go_wp2
    have hb := block_setCell (block_setCell W2.out (o := 0) (.int .i64 f.1)) (o := 1) (.int .i64 f.2)
    have d : ∀ o, _ = _ := block_cell hb
    refine bodyPost_ret (v := .agg #[.int .i64 f.1, .int .i64 f.2]) ?_ rfl ?_
    · simp [results, Tryz.results70, go_sem, d]
    · exact ⟨rfl, (HW2.out.setOff hcs hrs _).setOff hcs hrs _, ((Chg.of_below (bnext WB.out WW.out)).setNew (Nat.le_refl _) _).setNew (Nat.le_refl _) _⟩
  | ok a =>
    simp only [isBad] at HB
    go_enter Tryz.func70, Tryz.ntmps70
    go_upto_region 1 with fail
    obtain ⟨W, hW⟩ : ∃ W, w.alloc (.cells #[.int .i64 0, .int .i64 0] 63) = W := ⟨_, rfl⟩
    have WB : Hid (Below w.heap.size w W) := Lib.hid (by rw [← hW]; exact balloc (Below.refl _ _) _)
    have W0 : Hid (W.heap[w.heap.size]? = some (.cells #[.int .i64 0, .int .i64 0] 63 (0, 0))) := Lib.hid (by rw [← hW]; exact heap_alloc_new _ _)
    have HB : Hid (∀ w', Below W.heap.size W w' → Calls Tryz.prog 127 #[.pointer (some ⟨cb, 0, none⟩)] w' fun e w'' => e = .returned (.bool false) ∧ w'' = w') := Lib.hid (fun w' hb => HB.out w' (bnext WB.out hb))
    rw [hW]
    clear hW
    have HW := Lib.hid (H.out.below WB.out)
    have c0 : W.cell? ⟨cb, 0, none⟩ = some (.pointer (some ⟨rb, 0, none⟩)) := block_cell HW.out.c 0
    have k0 : W.cell? ⟨rb, 1, none⟩ = some (.int .i64 a) := block_cell HW.out.st.1 1
    have k1 : W.cell? ⟨rb, 0, none⟩ = some (.string s) := block_cell HW.out.st.1 0
    have i1 : ((a : Int) < s.size) = ((a : Int) < s.size) := rfl
    refine wp_region_all 1000 (none) (phis [fun u _ => u = (.pointer (some ⟨cb, 0, none⟩)), fun u _ => u = (.bool false), fun u _ => u = (.bool true), fun u _ => u = (.bool true), fun u _ => u = (.pointer (some ⟨cb, 0, none⟩)), fun u _ => u = (.pointer (some ⟨cb, 0, none⟩)), fun u _ => u = (.pointer (some ⟨cb, 0, none⟩)), fun u _ => u = (.pointer (some ⟨rb, 0, none⟩)), fun u _ => u = (.pointer (some ⟨rb, 0, none⟩)), fun u _ => u = (.pointer (some ⟨rb, 1, none⟩)), fun u _ => u = (.int .i64 a), fun u _ => u = (.pointer (some ⟨cb, 0, none⟩)), fun u _ => u = (.pointer (some ⟨cb, 0, none⟩)), fun u _ => u = (.pointer (some ⟨cb, 0, none⟩)), fun u _ => u = (.pointer (some ⟨rb, 0, none⟩)), fun u _ => u = (.pointer (some ⟨rb, 0, none⟩)), fun u _ => u = (.pointer (some ⟨rb, 0, none⟩)), fun u _ => u = (.string s), fun u _ => u = (.int .i64 s.size), fun u _ => u = (.bool (decide ((a : Int) < s.size))), fun u _ => u = (.bool (decide ((a : Int) < s.size)))]) rfl (by kernel_rfl) (mono_of ⟨mono_eq, mono_eq, mono_eq, mono_eq, mono_eq, mono_eq, mono_eq, mono_eq, mono_eq, mono_eq, mono_eq, mono_eq, mono_eq, mono_eq, mono_eq, mono_eq, mono_eq, mono_eq, mono_eq, mono_eq, mono_eq, trivial⟩) (steps_of 21 ⟨?s0, ?s1, ?s2, ?s3, ?s4, ?s5, ?s6, ?s7, ?s8, ?s9, ?s10, ?s11, ?s12, ?s13, ?s14, ?s15, ?s16, ?s17, ?s18, ?s19, ?s20, trivial⟩) ?_
    case s0 =>
      refine step_val (v := (.pointer (some ⟨cb, 0, none⟩))) (fun av wv hE hS hO hD => ?_) (fun _ => rfl)
      have h0 : av.eval (.tmp 0) = (.pointer (some ⟨cb, 0, none⟩)) := hO.2.2 0 rfl
      have f0 := (ev_form av 0).symm.trans h0
      refine ⟨rfl, ?_⟩
      simp [go_sem, f0, i1]
    case s1 =>
      refine step_wp (fun av wv hE hS hO hD => ?_)
      have d3 : av.eval (.tmp 3) = (.pointer (some ⟨cb, 0, none⟩)) := hD.1 rfl _ rfl
      have f3 := (ev_form av 3).symm.trans d3
      refine ⟨rfl, ?_⟩
      refine wp_of_call (v := .bool false) (by simp [go_sem, f3]) ((HB.out wv (of_drew hE)).mono (fun e w2 ⟨h1, h2⟩ => ⟨h1, by rw [h2]; exact Below.refl _ _⟩)) (fun w2 hb => ⟨_, rfl, es_of_ext hb, rfl⟩)
    case s2 =>
      refine step_val (v := (.bool true)) (fun av wv hE hS hO hD => ?_) (fun _ => rfl)
      have d4 : av.eval (.tmp 4) = (.bool false) := hD.1 rfl _ rfl
      have f4 := (ev_form av 4).symm.trans d4
      refine ⟨rfl, ?_⟩
      simp [go_sem, f4, i1]
    case s3 =>
      refine step_val (v := (.bool true)) (fun av wv hE hS hO hD => ?_) (fun _ => rfl)
      have d5 : av.eval (.tmp 5) = (.bool true) := hD.1 rfl _ rfl
      have f5 := (ev_form av 5).symm.trans d5
      refine ⟨rfl, ?_⟩
      simp [go_sem, f5, i1]
    case s4 =>
      refine step_val (v := (.pointer (some ⟨cb, 0, none⟩))) (fun av wv hE hS hO hD => ?_) (fun _ => rfl)
      have h0 : av.eval (.tmp 0) = (.pointer (some ⟨cb, 0, none⟩)) := hO.2.2 0 rfl
      have f0 := (ev_form av 0).symm.trans h0
      have d6 : av.eval (.tmp 6) = (.bool true) := hD.1 rfl _ rfl
      have f6 := (ev_form av 6).symm.trans d6
      refine ⟨(wanted_of (d := 6) (b := true) (want := true) rfl rfl rfl d6), ?_⟩
      simp [go_sem, f0, f6, i1]
    case s5 =>
      refine step_val (v := (.pointer (some ⟨cb, 0, none⟩))) (fun av wv hE hS hO hD => ?_) (fun _ => rfl)
      have d7 : av.eval (.tmp 7) = (.pointer (some ⟨cb, 0, none⟩)) := hD.1 rfl _ rfl
      have f7 := (ev_form av 7).symm.trans d7
      have d6 : av.eval (.tmp 6) = (.bool true) := hD.2.1 rfl _ rfl
      have f6 := (ev_form av 6).symm.trans d6
      refine ⟨(wanted_of (d := 6) (b := true) (want := true) rfl rfl rfl d6), ?_⟩
      simp [go_sem, f7, f6, i1]
    case s6 =>
      refine step_val (v := (.pointer (some ⟨cb, 0, none⟩))) (fun av wv hE hS hO hD => ?_) (fun _ => rfl)
      have d8 : av.eval (.tmp 8) = (.pointer (some ⟨cb, 0, none⟩)) := hD.1 rfl _ rfl
      have f8 := (ev_form av 8).symm.trans d8
      have d6 : av.eval (.tmp 6) = (.bool true) := hD.2.1 rfl _ rfl
      have f6 := (ev_form av 6).symm.trans d6
      refine ⟨(wanted_of (d := 6) (b := true) (want := true) rfl rfl rfl d6), ?_⟩
      simp [go_sem, f8, f6, i1]
    case s7 =>
      refine step_val (v := (.pointer (some ⟨rb, 0, none⟩))) (fun av wv hE hS hO hD => ?_) (fun _ => rfl)
      have d9 : av.eval (.tmp 9) = (.pointer (some ⟨cb, 0, none⟩)) := hD.1 rfl _ rfl
      have f9 := (ev_form av 9).symm.trans d9
      have d6 : av.eval (.tmp 6) = (.bool true) := hD.2.1 rfl _ rfl
      have f6 := (ev_form av 6).symm.trans d6
      have c0 := extB_cell hE (by simp) c0
      have k0 := extB_cell hE (by simp) k0
      have k1 := extB_cell hE (by simp) k1
      refine ⟨(wanted_of (d := 6) (b := true) (want := true) rfl rfl rfl d6), ?_⟩
      simp [go_sem, f9, f6, c0, k0, k1, i1]
    case s8 =>
      refine step_val (v := (.pointer (some ⟨rb, 0, none⟩))) (fun av wv hE hS hO hD => ?_) (fun _ => rfl)
      have d10 : av.eval (.tmp 10) = (.pointer (some ⟨rb, 0, none⟩)) := hD.1 rfl _ rfl
      have f10 := (ev_form av 10).symm.trans d10
      have d6 : av.eval (.tmp 6) = (.bool true) := hD.2.1 rfl _ rfl
      have f6 := (ev_form av 6).symm.trans d6
      refine ⟨(wanted_of (d := 6) (b := true) (want := true) rfl rfl rfl d6), ?_⟩
      simp [go_sem, f10, f6, i1]
    case s9 =>
      refine step_val (v := (.pointer (some ⟨rb, 1, none⟩))) (fun av wv hE hS hO hD => ?_) (fun _ => rfl)
      have d11 : av.eval (.tmp 11) = (.pointer (some ⟨rb, 0, none⟩)) := hD.1 rfl _ rfl
      have f11 := (ev_form av 11).symm.trans d11
      have d6 : av.eval (.tmp 6) = (.bool true) := hD.2.1 rfl _ rfl
      have f6 := (ev_form av 6).symm.trans d6
      refine ⟨(wanted_of (d := 6) (b := true) (want := true) rfl rfl rfl d6), ?_⟩
      simp [go_sem, f11, f6, i1]
    case s10 =>
      refine step_val (v := (.int .i64 a)) (fun av wv hE hS hO hD => ?_) (fun _ => rfl)
      have d12 : av.eval (.tmp 12) = (.pointer (some ⟨rb, 1, none⟩)) := hD.1 rfl _ rfl
      have f12 := (ev_form av 12).symm.trans d12
      have d6 : av.eval (.tmp 6) = (.bool true) := hD.2.1 rfl _ rfl
      have f6 := (ev_form av 6).symm.trans d6
      have c0 := extB_cell hE (by simp) c0
      have k0 := extB_cell hE (by simp) k0
      have k1 := extB_cell hE (by simp) k1
      refine ⟨(wanted_of (d := 6) (b := true) (want := true) rfl rfl rfl d6), ?_⟩
      simp [go_sem, f12, f6, c0, k0, k1, i1]
    case s11 =>
      refine step_val (v := (.pointer (some ⟨cb, 0, none⟩))) (fun av wv hE hS hO hD => ?_) (fun _ => rfl)
      have h0 : av.eval (.tmp 0) = (.pointer (some ⟨cb, 0, none⟩)) := hO.2.2 0 rfl
      have f0 := (ev_form av 0).symm.trans h0
      have d6 : av.eval (.tmp 6) = (.bool true) := hD.1 rfl _ rfl
      have f6 := (ev_form av 6).symm.trans d6
      refine ⟨(wanted_of (d := 6) (b := true) (want := true) rfl rfl rfl d6), ?_⟩
      simp [go_sem, f0, f6, i1]
    case s12 =>
      refine step_val (v := (.pointer (some ⟨cb, 0, none⟩))) (fun av wv hE hS hO hD => ?_) (fun _ => rfl)
      have d14 : av.eval (.tmp 14) = (.pointer (some ⟨cb, 0, none⟩)) := hD.1 rfl _ rfl
      have f14 := (ev_form av 14).symm.trans d14
      have d6 : av.eval (.tmp 6) = (.bool true) := hD.2.1 rfl _ rfl
      have f6 := (ev_form av 6).symm.trans d6
      refine ⟨(wanted_of (d := 6) (b := true) (want := true) rfl rfl rfl d6), ?_⟩
      simp [go_sem, f14, f6, i1]
    case s13 =>
      refine step_val (v := (.pointer (some ⟨cb, 0, none⟩))) (fun av wv hE hS hO hD => ?_) (fun _ => rfl)
      have d15 : av.eval (.tmp 15) = (.pointer (some ⟨cb, 0, none⟩)) := hD.1 rfl _ rfl
      have f15 := (ev_form av 15).symm.trans d15
      have d6 : av.eval (.tmp 6) = (.bool true) := hD.2.1 rfl _ rfl
      have f6 := (ev_form av 6).symm.trans d6
      refine ⟨(wanted_of (d := 6) (b := true) (want := true) rfl rfl rfl d6), ?_⟩
      simp [go_sem, f15, f6, i1]
    case s14 =>
      refine step_val (v := (.pointer (some ⟨rb, 0, none⟩))) (fun av wv hE hS hO hD => ?_) (fun _ => rfl)
      have d16 : av.eval (.tmp 16) = (.pointer (some ⟨cb, 0, none⟩)) := hD.1 rfl _ rfl
      have f16 := (ev_form av 16).symm.trans d16
      have d6 : av.eval (.tmp 6) = (.bool true) := hD.2.1 rfl _ rfl
      have f6 := (ev_form av 6).symm.trans d6
      have c0 := extB_cell hE (by simp) c0
      have k0 := extB_cell hE (by simp) k0
      have k1 := extB_cell hE (by simp) k1
      refine ⟨(wanted_of (d := 6) (b := true) (want := true) rfl rfl rfl d6), ?_⟩
      simp [go_sem, f16, f6, c0, k0, k1, i1]
    case s15 =>
      refine step_val (v := (.pointer (some ⟨rb, 0, none⟩))) (fun av wv hE hS hO hD => ?_) (fun _ => rfl)
      have d17 : av.eval (.tmp 17) = (.pointer (some ⟨rb, 0, none⟩)) := hD.1 rfl _ rfl
      have f17 := (ev_form av 17).symm.trans d17
      have d6 : av.eval (.tmp 6) = (.bool true) := hD.2.1 rfl _ rfl
      have f6 := (ev_form av 6).symm.trans d6
      refine ⟨(wanted_of (d := 6) (b := true) (want := true) rfl rfl rfl d6), ?_⟩
      simp [go_sem, f17, f6, i1]
    case s16 =>
      refine step_val (v := (.pointer (some ⟨rb, 0, none⟩))) (fun av wv hE hS hO hD => ?_) (fun _ => rfl)
      have d18 : av.eval (.tmp 18) = (.pointer (some ⟨rb, 0, none⟩)) := hD.1 rfl _ rfl
      have f18 := (ev_form av 18).symm.trans d18
      have d6 : av.eval (.tmp 6) = (.bool true) := hD.2.1 rfl _ rfl
      have f6 := (ev_form av 6).symm.trans d6
      refine ⟨(wanted_of (d := 6) (b := true) (want := true) rfl rfl rfl d6), ?_⟩
      simp [go_sem, f18, f6, i1]
    case s17 =>
      refine step_val (v := (.string s)) (fun av wv hE hS hO hD => ?_) (fun _ => rfl)
      have d19 : av.eval (.tmp 19) = (.pointer (some ⟨rb, 0, none⟩)) := hD.1 rfl _ rfl
      have f19 := (ev_form av 19).symm.trans d19
      have d6 : av.eval (.tmp 6) = (.bool true) := hD.2.1 rfl _ rfl
      have f6 := (ev_form av 6).symm.trans d6
      have c0 := extB_cell hE (by simp) c0
      have k0 := extB_cell hE (by simp) k0
      have k1 := extB_cell hE (by simp) k1
      refine ⟨(wanted_of (d := 6) (b := true) (want := true) rfl rfl rfl d6), ?_⟩
      simp [go_sem, f19, f6, c0, k0, k1, i1]
    case s18 =>
      refine step_val (v := (.int .i64 s.size)) (fun av wv hE hS hO hD => ?_) (fun _ => rfl)
      have d20 : av.eval (.tmp 20) = (.string s) := hD.1 rfl _ rfl
      have f20 := (ev_form av 20).symm.trans d20
      have d6 : av.eval (.tmp 6) = (.bool true) := hD.2.1 rfl _ rfl
      have f6 := (ev_form av 6).symm.trans d6
      refine ⟨(wanted_of (d := 6) (b := true) (want := true) rfl rfl rfl d6), ?_⟩
      simp [go_sem, f20, f6, i1]
    case s19 =>
      refine step_val (v := (.bool (decide ((a : Int) < s.size)))) (fun av wv hE hS hO hD => ?_) (fun _ => rfl)
      have d13 : av.eval (.tmp 13) = (.int .i64 a) := hD.1 rfl _ rfl
      have f13 := (ev_form av 13).symm.trans d13
      have d21 : av.eval (.tmp 21) = (.int .i64 s.size) := hD.2.1 rfl _ rfl
      have f21 := (ev_form av 21).symm.trans d21
      have d6 : av.eval (.tmp 6) = (.bool true) := hD.2.2.1 rfl _ rfl
      have f6 := (ev_form av 6).symm.trans d6
      refine ⟨(wanted_of (d := 6) (b := true) (want := true) rfl rfl rfl d6), ?_⟩
      simp [go_sem, f13, f21, f6, i1]
    case s20 =>
      refine step_val (v := (.bool (decide ((a : Int) < s.size)))) (fun av wv hE hS hO hD => ?_) (fun _ => rfl)
      have d6 : av.eval (.tmp 6) = (.bool true) := hD.1 rfl _ rfl
      have f6 := (ev_form av 6).symm.trans d6
      have d22 : av.eval (.tmp 22) = (.bool (decide ((a : Int) < s.size))) := hD.2.1 rfl _ rfl
      have f22 := (ev_form av 22).symm.trans d22
      refine ⟨rfl, ?_⟩
      simp [go_sem, f6, f22, i1]
    intro a' w' hE hO hall
    have hA := act_of_outer (ds := [3, 4, 5, 6, 7, 8, 9, 10, 11, 12, 13, 14, 15, 16, 17, 18, 19, 20, 21, 22, 23]) rfl hO (by kernel_rfl)
    have e3 : (fun u _ => u = (.pointer (some ⟨cb, 0, none⟩))) (a'.eval (.tmp 3)) w' := hall.1 _ rfl
    have e4 : (fun u _ => u = (.bool false)) (a'.eval (.tmp 4)) w' := hall.2.1 _ rfl
    have e5 : (fun u _ => u = (.bool true)) (a'.eval (.tmp 5)) w' := hall.2.2.1 _ rfl
    have e6 : (fun u _ => u = (.bool true)) (a'.eval (.tmp 6)) w' := hall.2.2.2.1 _ rfl
    have e7 : (fun u _ => u = (.pointer (some ⟨cb, 0, none⟩))) (a'.eval (.tmp 7)) w' := hall.2.2.2.2.1 _ rfl
    have e8 : (fun u _ => u = (.pointer (some ⟨cb, 0, none⟩))) (a'.eval (.tmp 8)) w' := hall.2.2.2.2.2.1 _ rfl
    have e9 : (fun u _ => u = (.pointer (some ⟨cb, 0, none⟩))) (a'.eval (.tmp 9)) w' := hall.2.2.2.2.2.2.1 _ rfl
    have e10 : (fun u _ => u = (.pointer (some ⟨rb, 0, none⟩))) (a'.eval (.tmp 10)) w' := hall.2.2.2.2.2.2.2.1 _ rfl
    have e11 : (fun u _ => u = (.pointer (some ⟨rb, 0, none⟩))) (a'.eval (.tmp 11)) w' := hall.2.2.2.2.2.2.2.2.1 _ rfl
    have e12 : (fun u _ => u = (.pointer (some ⟨rb, 1, none⟩))) (a'.eval (.tmp 12)) w' := hall.2.2.2.2.2.2.2.2.2.1 _ rfl
    have e13 : (fun u _ => u = (.int .i64 a)) (a'.eval (.tmp 13)) w' := hall.2.2.2.2.2.2.2.2.2.2.1 _ rfl
    have e14 : (fun u _ => u = (.pointer (some ⟨cb, 0, none⟩))) (a'.eval (.tmp 14)) w' := hall.2.2.2.2.2.2.2.2.2.2.2.1 _ rfl
    have e15 : (fun u _ => u = (.pointer (some ⟨cb, 0, none⟩))) (a'.eval (.tmp 15)) w' := hall.2.2.2.2.2.2.2.2.2.2.2.2.1 _ rfl
    have e16 : (fun u _ => u = (.pointer (some ⟨cb, 0, none⟩))) (a'.eval (.tmp 16)) w' := hall.2.2.2.2.2.2.2.2.2.2.2.2.2.1 _ rfl
    have e17 : (fun u _ => u = (.pointer (some ⟨rb, 0, none⟩))) (a'.eval (.tmp 17)) w' := hall.2.2.2.2.2.2.2.2.2.2.2.2.2.2.1 _ rfl
    have e18 : (fun u _ => u = (.pointer (some ⟨rb, 0, none⟩))) (a'.eval (.tmp 18)) w' := hall.2.2.2.2.2.2.2.2.2.2.2.2.2.2.2.1 _ rfl
    have e19 : (fun u _ => u = (.pointer (some ⟨rb, 0, none⟩))) (a'.eval (.tmp 19)) w' := hall.2.2.2.2.2.2.2.2.2.2.2.2.2.2.2.2.1 _ rfl
    have e20 : (fun u _ => u = (.string s)) (a'.eval (.tmp 20)) w' := hall.2.2.2.2.2.2.2.2.2.2.2.2.2.2.2.2.2.1 _ rfl
    have e21 : (fun u _ => u = (.int .i64 s.size)) (a'.eval (.tmp 21)) w' := hall.2.2.2.2.2.2.2.2.2.2.2.2.2.2.2.2.2.2.1 _ rfl
    have e22 : (fun u _ => u = (.bool (decide ((a : Int) < s.size)))) (a'.eval (.tmp 22)) w' := hall.2.2.2.2.2.2.2.2.2.2.2.2.2.2.2.2.2.2.2.1 _ rfl
    have e23 : (fun u _ => u = (.bool (decide ((a : Int) < s.size)))) (a'.eval (.tmp 23)) w' := hall.2.2.2.2.2.2.2.2.2.2.2.2.2.2.2.2.2.2.2.2.1 _ rfl
    simp only [List.foldl_cons, List.foldl_nil, Act.put, List.setIfInBounds_toArray, List.set_cons_succ, List.set_cons_zero, e3, e4, e5, e6, e7, e8, e9, e10, e11, e12, e13, e14, e15, e16, e17, e18, e19, e20, e21, e22, e23] at hA
    clear hO hall e3 e4 e5 e6 e7 e8 e9 e10 e11 e12 e13 e14 e15 e16 e17 e18 e19 e20 e21 e22 e23
    subst hA
    have WW : Hid (Below W.heap.size W w') := Lib.hid (of_drew hE)
    have HW2 : Hid (CurIs w' cb rb s (.ok a)) := Lib.hid ((H.out.below WB.out).below WW.out)
    have W2 : Hid (w'.heap[w.heap.size]? = some (.cells #[.int .i64 0, .int .i64 0] 63 (0, 0))) := Lib.hid ((WW.out.block _ (lt_of_block W0.out)).trans W0.out)
    by_cases hlt : a < s.size
    · have q1 : decide ((a : Int) < s.size) = true := decide_eq_true (by omega)
      have HS : Hid (endS s (.ok a) = .error (5, a)) := Lib.hid (by unfold endS; exact if_pos hlt)
      have g0 : ∀ o, w'.cell? ⟨w.heap.size, o, none⟩ = _ := block_cell W2.out
      have g1 : ∀ o, w'.frozen? ⟨w.heap.size, o, none⟩ = false := block_free W2.out
      have g2 : w.heap.size < w'.heap.size := lt_of_block W2.out
      have j0 : ∀ o, w'.cell? ⟨cb, o, none⟩ = _ := block_cell HW2.out.c
      have j1 : ∀ o, w'.frozen? ⟨cb, o, none⟩ = false := block_free HW2.out.c
      have j2 : cb < w'.heap.size := HW2.out.clt
      have j3 : ∀ o, w'.cell? ⟨rb, o, none⟩ = _ := block_cell HW2.out.st.1
      have hne := HW2.out.ne
      have hcw : cb ≠ w.heap.size := by omega
      clear hE hlt i1 c0 k0 k1
      rw [q1]
      go_wp2
      have hb := block_setCell (block_setCell (block_setCell_ne (block_setCell_ne W2.out (show w.heap.size ≠ (⟨cb, 1, none⟩ : Addr).block from fun e => hcw e.symm) (.int .i64 5)) (show w.heap.size ≠ (⟨cb, 2, none⟩ : Addr).block from fun e => hcw e.symm) (.int .i64 a)) (o := 0) (.int .i64 5)) (o := 1) (.int .i64 a)
      have d : ∀ o, _ = _ := block_cell hb
      refine bodyPost_ret (v := .agg #[.int .i64 5, .int .i64 a]) ?_ rfl ?_
      · simp [results, Tryz.results70, go_sem, d]
      · rw [HS.out]
        exact ⟨rfl, ((HW2.out.set (5, a) (show (5 : Int) ≠ 0 by decide)).setOff hcs hrs _).setOff hcs hrs _, (((((Chg.of_below (bnext WB.out WW.out)).set 1 _).set 2 _).setNew (Nat.le_refl _) _).setNew (Nat.le_refl _) _)⟩
    · have q1 : decide ((a : Int) < s.size) = false := decide_eq_false (by omega)
      have HS : Hid (endS s (.ok a) = .ok a) := Lib.hid (by unfold endS; exact if_neg hlt)
      have g0 : ∀ o, w'.cell? ⟨w.heap.size, o, none⟩ = _ := block_cell W2.out
      have g1 : ∀ o, w'.frozen? ⟨w.heap.size, o, none⟩ = false := block_free W2.out
      have g2 : w.heap.size < w'.heap.size := lt_of_block W2.out
      have c1 : w'.cell? ⟨cb, 1, none⟩ = some (.int .i64 0) := block_cell HW2.out.c 1
      have c2 : w'.cell? ⟨cb, 2, none⟩ = some (.int .i64 0) := block_cell HW2.out.c 2
      clear hE hlt i1 c0 k0 k1
      rw [q1]
      go_wp2
      have hb := block_setCell (block_setCell W2.out (o := 0) (.int .i64 0)) (o := 1) (.int .i64 0)
      have d : ∀ o, _ = _ := block_cell hb
      refine bodyPost_ret (v := .agg #[.int .i64 0, .int .i64 0]) ?_ rfl ?_
      · simp [results, Tryz.results70, go_sem, d]
      · rw [HS.out]
        exact ⟨rfl, (HW2.out.setOff hcs hrs _).setOff hcs hrs _, ((Chg.of_below (bnext WB.out WW.out)).setNew (Nat.le_refl _) _).setNew (Nat.le_refl _) _⟩
end Go.Proofs.YtihiaopilnjonaaGreatDoor
namespace Go.Proofs.YtihiaopilnjonaaGreatDoor
open Go.RowKit
set_option linter.unusedSimpArgs false
set_option linter.unusedVariables false
theorem Chg.low {rb cb : Nat} {w w1 w' : World} (h : Below w.heap.size w w1) (hc : Chg rb cb w1 w') (h1 : w.heap.size ≤ rb) (h2 : w.heap.size ≤ cb) : Below w.heap.size w w' :=
  ⟨hc.os.trans h.os, hc.tape.trans h.tape, hc.output.trans h.output, Nat.le_trans h.size hc.size, fun i hi => (hc.block i (Nat.lt_of_lt_of_le hi h.size) (by omega) (by omega)).trans (h.block i hi)⟩
def rdPartS (s : ByteArray) : Except Flt Rcd := match endS s (partS s (.ok 0)).2 with | .error f => .error f | .ok _ => .ok (partS s (.ok 0)).1
def RrPart (s : ByteArray) (w : World) (e : Ending) (w' : World) : Prop := (match rdPartS s with | .error f => f.1 ≠ 0 ∧ e = .returned (.tuple #[zeroPart, .agg #[.int .i64 f.1, .int .i64 f.2]]) | .ok x => Kd part0 x ∧ e = .returned (.tuple #[.agg (cellsPart x), .agg #[.int .i64 0, .int .i64 0]])) ∧ Below w.heap.size w w'
set_option maxRecDepth 100000 in
set_option maxHeartbeats 8000000 in
theorem rrePart_any (s : ByteArray) (w : World) (hs : s.size ≤ 140737488355328) : Calls Tryz.prog 30 #[.string s] w (RrPart s w) := by
  go_enter Tryz.func30, Tryz.ntmps30
  go_upto_region 1 with fail
  obtain ⟨b0, hb0⟩ : ∃ b0, w.heap.size = b0 := ⟨_, rfl⟩
  obtain ⟨V, hV⟩ : ∃ V, (w.alloc (.cells #[.string ⟨#[]⟩, .int .u64 0, .int .u64 0, .int .u64 0, .int .u64 0] 46)).alloc (.cells #[.int .i64 0, .int .i64 0] 63) = V := ⟨_, rfl⟩
  have VB : Hid (Below w.heap.size w V) := Lib.hid (by rw [← hV]; exact balloc (balloc (Below.refl _ _) _) _)
  have V0 : Hid (V.heap[b0]? = some (.cells #[.string ⟨#[]⟩, .int .u64 0, .int .u64 0, .int .u64 0, .int .u64 0] 46 (0, 0))) := Lib.hid (by rw [← hV, ← hb0]; exact block_alloc (heap_alloc_new _ _) _)
  have V1 : Hid (V.heap[b0 + 1]? = some (.cells #[.int .i64 0, .int .i64 0] 63 (0, 0))) := Lib.hid (by rw [← hV]; exact alloc_new_at _ (by simp [hb0]))
  have hvs : V.heap.size = b0 + 1 + 1 := by rw [← hV]; simp [hb0]
  have HB0 := Lib.hid hb0
  try rw [hV]
  try simp only [hb0]
  clear hV hb0
  go_wp2_with fail
  refine (begin_any s V hs).mono ?_
  rintro e w1 ⟨cb, rb, rfl, hc, h1, h2, hb⟩
  have HC1 := Lib.hid hc
  have B1 := Lib.hid hb
  have hr1 : b0 + 1 < rb := by omega
  have hc1 : b0 + 1 < cb := by omega
  have HRV : Hid (V.heap.size ≤ rb ∧ V.heap.size ≤ cb) := Lib.hid ⟨h1, h2⟩
  clear hc hb h1 h2 hvs
  go_wp2_with fail
  refine (cpart_any cb rb s (.ok 0) w1 HC1.out).mono ?_
  rintro e w2 ⟨rfl, hk, hc, hg⟩
  have HC2 := Lib.hid hc
  have HK := Lib.hid hk
  have B2 : Hid (Below V.heap.size V w2) := Lib.hid (Chg.low B1.out hg HRV.out.1 HRV.out.2)
  clear hc hg hk HC1 B1
  obtain ⟨z, hz⟩ : ∃ z, partS s (.ok 0) = z := ⟨_, rfl⟩
  have HC2 : Hid (CurIs w2 cb rb s z.2) := Lib.hid (by rw [← hz]; exact HC2.out)
  have HK : Hid (Kd part0 z.1) := Lib.hid (by rw [← hz]; exact HK.out)
  rw [hz]
  have HZ := Lib.hid hz
  clear hz
  obtain ⟨x, τ⟩ := z
  go_upto_region 3 with fail
  obtain ⟨b5, hb5⟩ : ∃ b5, w2.heap.size = b5 := ⟨_, rfl⟩
  obtain ⟨U, hU⟩ : ∃ U, w2.alloc (.cells #[.string (x 0).s, .int .u64 (x 1).n, .int .u64 (x 2).n, .int .u64 (x 3).n, .int .u64 (x 4).n] 46) = U := ⟨_, rfl⟩
  have UB : Hid (Below w2.heap.size w2 U) := Lib.hid (by rw [← hU]; exact balloc (Below.refl _ _) _)
  have U5 : Hid (U.heap[b5]? = some (.cells #[.string (x 0).s, .int .u64 (x 1).n, .int .u64 (x 2).n, .int .u64 (x 3).n, .int .u64 (x 4).n] 46 (0, 0))) := Lib.hid (by rw [← hU, ← hb5]; exact heap_alloc_new _ _)
  have hcl2 : cb < b5 ∧ rb < b5 := by rw [← hb5]; exact ⟨HC2.out.clt, HC2.out.rlt⟩
  try rw [hU]
  try simp only [hb5]
  clear hU hb5
  go_wp2_with fail
  refine (cend_any cb rb s τ U (HC2.out.below UB.out)).mono ?_
  rintro e w3 ⟨rfl, hc, hg⟩
  have HC3 := Lib.hid hc
  have B3 : Hid (Below V.heap.size V w3) := Lib.hid (Chg.low (bnext B2.out UB.out) hg HRV.out.1 HRV.out.2)
  have W5 : Hid (w3.heap[b5]? = some (.cells #[.string (x 0).s, .int .u64 (x 1).n, .int .u64 (x 2).n, .int .u64 (x 3).n, .int .u64 (x 4).n] 46 (0, 0))) := Lib.hid ((hg.block _ (lt_of_block U5.out) (by omega) (by omega)).trans U5.out)
  clear hc hg
  obtain ⟨σ2, hσ⟩ : ∃ σ2, endS s τ = σ2 := ⟨_, rfl⟩
  have HC3 : Hid (CurIs w3 cb rb s σ2) := Lib.hid (by rw [← hσ]; exact HC3.out)
  rw [hσ]
  have HS := Lib.hid hσ
  clear hσ
  obtain ⟨f, hf⟩ : ∃ f, σ2.flt = f := ⟨_, rfl⟩
  rw [hf]
  go_upto_region 4 with fail
  obtain ⟨b6, hb6⟩ : ∃ b6, w3.heap.size = b6 := ⟨_, rfl⟩
  obtain ⟨W, hW⟩ : ∃ W, w3.alloc (.cells #[.int .i64 f.1, .int .i64 f.2] 63) = W := ⟨_, rfl⟩
  have WB : Hid (Below w3.heap.size w3 W) := Lib.hid (by rw [← hW]; exact balloc (Below.refl _ _) _)
  have W6 : Hid (W.heap[b6]? = some (.cells #[.int .i64 f.1, .int .i64 f.2] 63 (0, 0))) := Lib.hid (by rw [← hW, ← hb6]; exact heap_alloc_new _ _)
  have BVW : Hid (Below V.heap.size V W) := Lib.hid (bnext B3.out WB.out)
  have BW : Hid (Below w.heap.size w W) := Lib.hid (bnext VB.out BVW.out)
  have WB0 : Hid (W.heap[b0]? = some (.cells #[.string ⟨#[]⟩, .int .u64 0, .int .u64 0, .int .u64 0, .int .u64 0] 46 (0, 0))) := Lib.hid ((BVW.out.block _ (lt_of_block V0.out)).trans V0.out)
  have WB1 : Hid (W.heap[b0 + 1]? = some (.cells #[.int .i64 0, .int .i64 0] 63 (0, 0))) := Lib.hid ((BVW.out.block _ (lt_of_block V1.out)).trans V1.out)
  have WB5 : Hid (W.heap[b5]? = some (.cells #[.string (x 0).s, .int .u64 (x 1).n, .int .u64 (x 2).n, .int .u64 (x 3).n, .int .u64 (x 4).n] 46 (0, 0))) := Lib.hid ((WB.out.block _ (lt_of_block W5.out)).trans W5.out)
  have j0 : W.cell? ⟨b6, 0, none⟩ = some (.int .i64 f.1) := block_cell W6.out 0
  have j1 : W.cell? ⟨b6, 1, none⟩ = some (.int .i64 f.2) := block_cell W6.out 1
  have hn5 : some b5 ≠ some b0 := by simp; omega
  have hn6 : some b6 ≠ some b0 := by have := lt_of_block W5.out; simp; omega
  try rw [hW]
  try simp only [hb6]
  clear hW hb6
  cases σ2 with
  | error g =>
    obtain rfl : g = f := hf
    have hg0 : (g.1 != 0) = true := by simpa using HC3.out.flt0
    have HG0 : Hid (g.1 ≠ 0) := Lib.hid HC3.out.flt0
    have HR : Hid (rdPartS s = .error g) := Lib.hid (by unfold rdPartS; rw [HZ.out]; show (match endS s τ with | .error f => Except.error f | .ok _ => .ok x) = _; rw [HS.out])
    go_upto_region 5 with fail
    refine wp_region_tail 3 2 ((some b0)) (phis [fun u _ => u = (.agg #[.string ⟨#[]⟩, .int .u64 0, .int .u64 0, .int .u64 0, .int .u64 0]), fun u _ => u = (.agg #[.int .i64 g.1, .int .i64 g.2]), fun _ w' => w'.heap[b0]? = some (.cells #[.string ⟨#[]⟩, .int .u64 0, .int .u64 0, .int .u64 0, .int .u64 0] 46 (0, 0))]) rfl (by kernel_rfl) (by kernel_rfl) (mono_of ⟨mono_eq, mono_eq, ?m2, trivial⟩) (steps_of 3 ⟨?s0, ?s1, ?s2, trivial⟩) ?_
    case m2 =>
      exact ⟨fun u w1 w2 h hb => ext_block h hb, fun hn => absurd rfl hn⟩
    case s0 =>
      refine step_val (v := (.agg #[.string ⟨#[]⟩, .int .u64 0, .int .u64 0, .int .u64 0, .int .u64 0])) (fun av wv hE hS hO hD => ?_) (fun _ => rfl)
      refine ⟨rfl, ?_⟩
      simp [go_sem]
    case s1 =>
      refine step_val (v := (.agg #[.int .i64 g.1, .int .i64 g.2])) (fun av wv hE hS hO hD => ?_) (fun _ => rfl)
      have h6 : av.eval (.tmp 6) = (.pointer (some ⟨b6, 0, none⟩)) := hO.2.2 6 rfl
      have f6 := (ev_form av 6).symm.trans h6
      have j0 := extB_cell hE hn6 j0
      have j1 := extB_cell hE hn6 j1
      refine ⟨rfl, ?_⟩
      simp [go_sem, f6, j0, j1]
    case s2 =>
      refine step_wp (fun av wv hE hS hO hD => ?_)
      have h2 : av.eval (.tmp 2) = (.pointer (some ⟨b0, 0, none⟩)) := hO.2.2 2 rfl
      have f2 := (ev_form av 2).symm.trans h2
      have d16 : av.eval (.tmp 16) = (.agg #[.string ⟨#[]⟩, .int .u64 0, .int .u64 0, .int .u64 0, .int .u64 0]) := hD.1 rfl _ rfl
      have f16 := (ev_form av 16).symm.trans d16
      refine ⟨rfl, ?_⟩
      have hq : wv.heap[b0]? = some (.cells #[.string ⟨#[]⟩, .int .u64 0, .int .u64 0, .int .u64 0, .int .u64 0] 46 (0, 0)) := ext_block (w := W.drew) (hS rfl) WB0.out
      have q0 : wv.cell? ⟨b0, 0, none⟩ = some (.string ⟨#[]⟩) := block_cell hq 0
      have q1 : wv.cell? ⟨b0, 1, none⟩ = some (.int .u64 0) := block_cell hq 1
      have q2 : wv.cell? ⟨b0, 2, none⟩ = some (.int .u64 0) := block_cell hq 2
      have q3 : wv.cell? ⟨b0, 3, none⟩ = some (.int .u64 0) := block_cell hq 3
      have q4 : wv.cell? ⟨b0, 4, none⟩ = some (.int .u64 0) := block_cell hq 4
      have hz : ∀ o, wv.frozen? ⟨b0, o, none⟩ = false := block_free hq
      have l0 : b0 < wv.heap.size := lt_of_block hq
      have h2 : av.eval (.tmp 2) = (.pointer (some ⟨b0, 0, none⟩)) := hO.2.2 2 rfl
      have f2 := (ev_form av 2).symm.trans h2
      unfold Oper.wp
      simp [go_sem, f2, f16, hz, l0, q0, q1, q2, q3, q4]
      exact ⟨es_sp (extB_setIn (extB_setIn (extB_setIn (extB_setIn (extB_setIn (ExtB_refl _ _) 0 _) 1 _) 2 _) 3 _) 4 _), undef, (block_setCell (block_setCell (block_setCell (block_setCell (block_setCell hq (o := 0) _) (o := 1) _) (o := 2) _) (o := 3) _) (o := 4) _)⟩
    intro a' w' hE hO hall
    have hA := act_of_outer (ds := [16, 17]) rfl hO (by kernel_rfl)
    have e16 : (fun u _ => u = (.agg #[.string ⟨#[]⟩, .int .u64 0, .int .u64 0, .int .u64 0, .int .u64 0])) (a'.eval (.tmp 16)) w' := hall.1 _ rfl
    have e17 : (fun u _ => u = (.agg #[.int .i64 g.1, .int .i64 g.2])) (a'.eval (.tmp 17)) w' := hall.2.1 _ rfl
    have z2 : (fun _ w' => w'.heap[b0]? = some (.cells #[.string ⟨#[]⟩, .int .u64 0, .int .u64 0, .int .u64 0, .int .u64 0] 46 (0, 0))) undef w' := hall.2.2.1 _ rfl
    simp only [List.foldl_cons, List.foldl_nil, Act.put, List.setIfInBounds_toArray, List.set_cons_succ, List.set_cons_zero, e16, e17] at hA
    clear hO hall e16 e17
    subst hA
    have HX : Hid (ExtB (some b0) W w') := Lib.hid (of_drewE hE)
    have Z2 := Lib.hid z2
    have Q1 : Hid (w'.heap[b0 + 1]? = some (.cells #[.int .i64 0, .int .i64 0] 63 (0, 0))) := Lib.hid (extB_block HX.out (by simp) WB1.out)
    have g0 : ∀ o, w'.cell? ⟨b0 + 1, o, none⟩ = _ := block_cell Q1.out
    have g1 : ∀ o, w'.frozen? ⟨b0 + 1, o, none⟩ = false := block_free Q1.out
    have g2 : b0 + 1 < w'.heap.size := lt_of_block Q1.out
    have HBX : Hid (Below w.heap.size w w') := Lib.hid (grownBy_below BW.out HX.out (fun k hk => by have := HB0.out; obtain rfl : b0 = k := Option.some.inj hk; omega))
    clear hE z2
    go_wp2
    have hb := block_setCell (block_setCell Q1.out (o := 0) (.int .i64 g.1)) (o := 1) (.int .i64 g.2)
    have hb2 := block_setCell_ne (block_setCell_ne Z2.out (show b0 ≠ (⟨b0 + 1, 0, none⟩ : Addr).block by show b0 ≠ b0 + 1; omega) (.int .i64 g.1)) (show b0 ≠ (⟨b0 + 1, 1, none⟩ : Addr).block by show b0 ≠ b0 + 1; omega) (.int .i64 g.2)
    have d : ∀ o, _ = _ := block_cell hb
    have d2 : ∀ o, _ = _ := block_cell hb2
    refine bodyPost_ret (v := .tuple #[.agg #[.string ⟨#[]⟩, .int .u64 0, .int .u64 0, .int .u64 0, .int .u64 0], .agg #[.int .i64 g.1, .int .i64 g.2]]) ?_ rfl ?_
    · simp [results, Tryz.results30, go_sem, d, d2]
    · refine ⟨?_, (HBX.out.setCell (show w.heap.size ≤ b0 + 1 by have := HB0.out; omega) _).setCell (show w.heap.size ≤ b0 + 1 by have := HB0.out; omega) _⟩
      rw [HR.out]
      exact ⟨HG0.out, rfl⟩
  | ok a =>
    obtain rfl : (0, 0) = f := hf
    have k0 : W.cell? ⟨b5, 0, none⟩ = some (.string (x 0).s) := block_cell WB5.out 0
    have k1 : W.cell? ⟨b5, 1, none⟩ = some (.int .u64 (x 1).n) := block_cell WB5.out 1
    have k2 : W.cell? ⟨b5, 2, none⟩ = some (.int .u64 (x 2).n) := block_cell WB5.out 2
    have k3 : W.cell? ⟨b5, 3, none⟩ = some (.int .u64 (x 3).n) := block_cell WB5.out 3
    have k4 : W.cell? ⟨b5, 4, none⟩ = some (.int .u64 (x 4).n) := block_cell WB5.out 4
    have f : Flt := (0, 0)
    have HR : Hid (rdPartS s = .ok x) := Lib.hid (by unfold rdPartS; rw [HZ.out]; show (match endS s τ with | .error f => Except.error f | .ok _ => .ok x) = _; rw [HS.out])
    go_upto_region 6 with fail
    refine wp_region_tail 3 2 ((some b0)) (phis [fun u _ => u = (.agg #[.string (x 0).s, .int .u64 (x 1).n, .int .u64 (x 2).n, .int .u64 (x 3).n, .int .u64 (x 4).n]), fun u _ => u = (.agg #[.int .i64 0, .int .i64 0]), fun _ w' => w'.heap[b0]? = some (.cells #[.string (x 0).s, .int .u64 (x 1).n, .int .u64 (x 2).n, .int .u64 (x 3).n, .int .u64 (x 4).n] 46 (0, 0))]) rfl (by kernel_rfl) (by kernel_rfl) (mono_of ⟨mono_eq, mono_eq, ?m2, trivial⟩) (steps_of 3 ⟨?s0, ?s1, ?s2, trivial⟩) ?_
    case m2 =>
      exact ⟨fun u w1 w2 h hb => ext_block h hb, fun hn => absurd rfl hn⟩
    case s0 =>
      refine step_val (v := (.agg #[.string (x 0).s, .int .u64 (x 1).n, .int .u64 (x 2).n, .int .u64 (x 3).n, .int .u64 (x 4).n])) (fun av wv hE hS hO hD => ?_) (fun _ => rfl)
      have h5 : av.eval (.tmp 5) = (.pointer (some ⟨b5, 0, none⟩)) := hO.2.2 5 rfl
      have f5 := (ev_form av 5).symm.trans h5
      have k0 := extB_cell hE hn5 k0
      have k1 := extB_cell hE hn5 k1
      have k2 := extB_cell hE hn5 k2
      have k3 := extB_cell hE hn5 k3
      have k4 := extB_cell hE hn5 k4
      have j0 := extB_cell hE hn6 j0
      have j1 := extB_cell hE hn6 j1
      refine ⟨rfl, ?_⟩
      simp [go_sem, f5, k0, k1, k2, k3, k4, j0, j1]
    case s1 =>
      refine step_val (v := (.agg #[.int .i64 0, .int .i64 0])) (fun av wv hE hS hO hD => ?_) (fun _ => rfl)
      have h6 : av.eval (.tmp 6) = (.pointer (some ⟨b6, 0, none⟩)) := hO.2.2 6 rfl
      have f6 := (ev_form av 6).symm.trans h6
      have k0 := extB_cell hE hn5 k0
      have k1 := extB_cell hE hn5 k1
      have k2 := extB_cell hE hn5 k2
      have k3 := extB_cell hE hn5 k3
      have k4 := extB_cell hE hn5 k4
      have j0 := extB_cell hE hn6 j0
      have j1 := extB_cell hE hn6 j1
      refine ⟨rfl, ?_⟩
      simp [go_sem, f6, k0, k1, k2, k3, k4, j0, j1]
    case s2 =>
      refine step_wp (fun av wv hE hS hO hD => ?_)
      have h2 : av.eval (.tmp 2) = (.pointer (some ⟨b0, 0, none⟩)) := hO.2.2 2 rfl
      have f2 := (ev_form av 2).symm.trans h2
      have d18 : av.eval (.tmp 18) = (.agg #[.string (x 0).s, .int .u64 (x 1).n, .int .u64 (x 2).n, .int .u64 (x 3).n, .int .u64 (x 4).n]) := hD.1 rfl _ rfl
      have f18 := (ev_form av 18).symm.trans d18
      refine ⟨rfl, ?_⟩
      have hq : wv.heap[b0]? = some (.cells #[.string ⟨#[]⟩, .int .u64 0, .int .u64 0, .int .u64 0, .int .u64 0] 46 (0, 0)) := ext_block (w := W.drew) (hS rfl) WB0.out
      have q0 : wv.cell? ⟨b0, 0, none⟩ = some (.string ⟨#[]⟩) := block_cell hq 0
      have q1 : wv.cell? ⟨b0, 1, none⟩ = some (.int .u64 0) := block_cell hq 1
      have q2 : wv.cell? ⟨b0, 2, none⟩ = some (.int .u64 0) := block_cell hq 2
      have q3 : wv.cell? ⟨b0, 3, none⟩ = some (.int .u64 0) := block_cell hq 3
      have q4 : wv.cell? ⟨b0, 4, none⟩ = some (.int .u64 0) := block_cell hq 4
      have hz : ∀ o, wv.frozen? ⟨b0, o, none⟩ = false := block_free hq
      have l0 : b0 < wv.heap.size := lt_of_block hq
      have h2 : av.eval (.tmp 2) = (.pointer (some ⟨b0, 0, none⟩)) := hO.2.2 2 rfl
      have f2 := (ev_form av 2).symm.trans h2
      unfold Oper.wp
      simp [go_sem, f2, f18, hz, l0, q0, q1, q2, q3, q4]
      exact ⟨es_sp (extB_setIn (extB_setIn (extB_setIn (extB_setIn (extB_setIn (ExtB_refl _ _) 0 _) 1 _) 2 _) 3 _) 4 _), undef, (block_setCell (block_setCell (block_setCell (block_setCell (block_setCell hq (o := 0) _) (o := 1) _) (o := 2) _) (o := 3) _) (o := 4) _)⟩
    intro a' w' hE hO hall
    have hA := act_of_outer (ds := [18, 19]) rfl hO (by kernel_rfl)
    have e18 : (fun u _ => u = (.agg #[.string (x 0).s, .int .u64 (x 1).n, .int .u64 (x 2).n, .int .u64 (x 3).n, .int .u64 (x 4).n])) (a'.eval (.tmp 18)) w' := hall.1 _ rfl
    have e19 : (fun u _ => u = (.agg #[.int .i64 0, .int .i64 0])) (a'.eval (.tmp 19)) w' := hall.2.1 _ rfl
    have z2 : (fun _ w' => w'.heap[b0]? = some (.cells #[.string (x 0).s, .int .u64 (x 1).n, .int .u64 (x 2).n, .int .u64 (x 3).n, .int .u64 (x 4).n] 46 (0, 0))) undef w' := hall.2.2.1 _ rfl
    simp only [List.foldl_cons, List.foldl_nil, Act.put, List.setIfInBounds_toArray, List.set_cons_succ, List.set_cons_zero, e18, e19] at hA
    clear hO hall e18 e19
    subst hA
    have HX : Hid (ExtB (some b0) W w') := Lib.hid (of_drewE hE)
    have Z2 := Lib.hid z2
    have Q1 : Hid (w'.heap[b0 + 1]? = some (.cells #[.int .i64 0, .int .i64 0] 63 (0, 0))) := Lib.hid (extB_block HX.out (by simp) WB1.out)
    have g0 : ∀ o, w'.cell? ⟨b0 + 1, o, none⟩ = _ := block_cell Q1.out
    have g1 : ∀ o, w'.frozen? ⟨b0 + 1, o, none⟩ = false := block_free Q1.out
    have g2 : b0 + 1 < w'.heap.size := lt_of_block Q1.out
    have HBX : Hid (Below w.heap.size w w') := Lib.hid (grownBy_below BW.out HX.out (fun k hk => by have := HB0.out; obtain rfl : b0 = k := Option.some.inj hk; omega))
    clear hE z2
    go_wp2
    have hb := block_setCell (block_setCell Q1.out (o := 0) (.int .i64 0)) (o := 1) (.int .i64 0)
    have hb2 := block_setCell_ne (block_setCell_ne Z2.out (show b0 ≠ (⟨b0 + 1, 0, none⟩ : Addr).block by show b0 ≠ b0 + 1; omega) (.int .i64 0)) (show b0 ≠ (⟨b0 + 1, 1, none⟩ : Addr).block by show b0 ≠ b0 + 1; omega) (.int .i64 0)
    have d : ∀ o, _ = _ := block_cell hb
    have d2 : ∀ o, _ = _ := block_cell hb2
    refine bodyPost_ret (v := .tuple #[.agg #[.string (x 0).s, .int .u64 (x 1).n, .int .u64 (x 2).n, .int .u64 (x 3).n, .int .u64 (x 4).n], .agg #[.int .i64 0, .int .i64 0]]) ?_ rfl ?_
    · simp [results, Tryz.results30, go_sem, d, d2]
    · refine ⟨?_, (HBX.out.setCell (show w.heap.size ≤ b0 + 1 by have := HB0.out; omega) _).setCell (show w.heap.size ≤ b0 + 1 by have := HB0.out; omega) _⟩
      rw [HR.out]
      exact ⟨HK.out, rfl⟩
end Go.Proofs.YtihiaopilnjonaaGreatDoor
namespace Go.Proofs.YtihiaopilnjonaaGreatDoor
open Go.RowKit
set_option linter.unusedSimpArgs false
set_option linter.unusedVariables false
theorem gdig_read {s key : ByteArray} {o : Nat} {x : Rcd} {a : Nat} {y : Rcd × Nat} (h : (gdig s key o).read x a = .ok y) : (y.1 o).s.size = 32 := by
  simp only [gdig] at h
  split at h
  · cases h
  · next z hz =>
    cases h
    unfold rdig at hz
    split at hz
    · cases hz
    · split at hz
      · next h32 => cases hz; show (upd x o (.str _) o).s.size = 32; rw [upd_at]; exact h32
      · cases hz
def Must (o i : Nat) (x : Rcd) (seen : List Nat) : Prop := (i ∈ seen → (x o).s.size = 32) ∧ (i ∉ seen → (x o).s.size = 0)
theorem must_loop {s key : ByteArray} {gs : List GSpec} (hd : Disj gs) (hf : ∀ g ∈ gs, g.Frames) {i o : Nat} (hi : i < gs.length) (hg : gth gs i = gdig s key o) : ∀ (n fr : Nat) (x : Rcd) (seen : List Nat) (a : Nat) (y : Rcd × List Nat × Nat), objLoop s gs n fr x seen a = .ok y → Must o i x seen → Must o i y.1 y.2.1
  | 0, fr, x, seen, a, y, h, hm => by simp only [objLoop] at h; cases h; exact hm
  | n + 1, fr, x, seen, a, y, h, hm => by
    simp only [objLoop] at h
    split at h
    · cases h
    · split at h
      · cases h
      · next j hj =>
        have hl := keyIdx_lt hj
        split at h
        · cases h
        · next z hz =>
          split at h
          · cases h
          · refine must_loop hd hf hi hg n _ _ _ _ y h ?_
            by_cases e : fr + j = i
            · rw [e, hg] at hz
              have h32 := gdig_read hz
              exact ⟨fun _ => h32, fun hn => absurd (by rw [e]; exact List.mem_cons_self ..) hn⟩
            · have ho : o ∉ (gth gs (fr + j)).offs := hd i (fr + j) hi hl (fun e2 => e e2.symm) o (by rw [hg]; simp [gdig])
              have hx := hf (gth gs (fr + j)) (by rw [gth_eq gs _ hl]; exact List.getElem_mem _) x _ z hz o ho
              have hmem : i ∈ (fr + j) :: seen ↔ i ∈ seen := by
                rw [List.mem_cons]
                exact ⟨fun h => h.resolve_left (fun e2 => e e2.symm), .inr⟩
              unfold Must
              rw [hx, hmem]
              exact hm
theorem empty_iff (t : ByteArray) : t.toList.isEmpty = decide (t.size = 0) := by
  by_cases h : t.size = 0
  · rw [decide_eq_true h]; exact empty_of h
  · rw [decide_eq_false h]; exact full_of h
theorem must_empty {o i : Nat} {x : Rcd} {seen : List Nat} (h : Must o i x seen) : (x o).s.toList.isEmpty = !seen.contains i := by
  rw [empty_iff]
  by_cases hm : i ∈ seen
  · have h1 := h.1 hm
    simp [hm, h1]
  · have h1 := h.2 hm
    simp [hm, h1]
def thingS (s all : ByteArray) (specs : List (UInt8 × RStep)) (miss : Rcd → Bool) (x0 : Rcd) (σ : Cst) : Rcd × Cst := ((objS s all specs x0 σ).1, failS (miss (objS s all specs x0 σ).1) 5 (objS s all specs x0 σ).2)
theorem thing_same {x0 : Rcd} {s all : ByteArray} {specs : List (UInt8 × RStep)} {gs : List GSpec} {miss : Rcd → Bool} (h : SpecsOk x0 all specs gs) (hG : GOk x0 gs) (hm : ∀ n a y, objLoop s gs n 0 x0 [] a = .ok y → missing gs y.2.1 = miss y.1) (a : Nat) :
    match objR s gs x0 a with
    | .error e => (thingS s all specs miss x0 (.ok a)).2 = .error e
    | .ok y => thingS s all specs miss x0 (.ok a) = (y.1, .ok y.2) := by
  unfold thingS objS pairsS
  cases hz : tkR 4 s a with
  | error e =>
    rw [objR_err4 hz]
    simp only [tkS, hz]
    rw [rLoop_bad]; rfl
  | ok z =>
    simp only [tkS, hz]
    have hl := loop_same h hG.keys hG.disj hG.frames z.1.toNat 0 ⟨#[]⟩ x0 [] z.2.2 (Nat.zero_le _) (by unfold LastIs; rw [if_pos rfl, ByteArray.toList_eq]) (fun i _ _ o _ => rfl) (s := s)
    cases hL : objLoop s gs z.1.toNat 0 x0 [] z.2.2 with
    | error e =>
      rw [hL] at hl
      rw [objR_errL hz hL]
      show failS _ 5 (rLoop s all specs z.1.toNat ⟨#[]⟩ x0 (.ok z.2.2)).2 = .error e
      have hl' : (rLoop s all specs z.1.toNat ⟨#[]⟩ x0 (.ok z.2.2)).2 = .error e := hl
      rw [hl']; rfl
    | ok y =>
      rw [hL] at hl
      have hl' : rLoop s all specs z.1.toNat ⟨#[]⟩ x0 (.ok z.2.2) = (y.1, .ok y.2.2) := hl
      rw [hl']
      have hmm := hm _ _ _ hL
      cases hmi : missing gs y.2.1 with
      | true =>
        rw [objR_miss hz hL hmi]
        show failS (miss y.1) 5 (.ok y.2.2) = .error (5, 0)
        rw [← hmm, hmi]; rfl
      | false =>
        rw [objR_ok hz hL hmi]
        show (y.1, failS (miss y.1) 5 (.ok y.2.2)) = (y.1, .ok y.2.2)
        rw [← hmm, hmi]; rfl
theorem all_same {x0 : Rcd} {s : ByteArray} {gs : List GSpec} {F : Cst → Rcd × Cst} (h : match objR s gs x0 0 with | .error e => (F (.ok 0)).2 = .error e | .ok y => F (.ok 0) = (y.1, .ok y.2)) :
    (match endS s (F (.ok 0)).2 with | .error f => Except.error f | .ok _ => .ok (F (.ok 0)).1) = readR s gs x0 := by
  unfold readR
  cases hr : objR s gs x0 0 with
  | error e =>
    rw [hr] at h
    have h' : (F (.ok 0)).2 = .error e := h
    rw [h']; rfl
  | ok y =>
    rw [hr] at h
    have h' : F (.ok 0) = (y.1, .ok y.2) := h
    rw [h']
    show (match endS s (.ok y.2) with | .error f => Except.error f | .ok _ => .ok y.1) = if y.2 < s.size then .error (5, y.2) else .ok y.1
    unfold endS
    by_cases hlt : y.2 < s.size
    · simp only [hlt, if_true]
    · simp only [hlt, if_false]
theorem mem_of_any {all k : ByteArray} (L : List UInt8) (h : all.data.toList = L) : isKey all k all.size = true ↔ ∃ c, c ∈ L ∧ k.toList = [c] := by
  subst h
  unfold isKey
  rw [List.any_eq_true]
  have key : ∀ i, (hi : i < all.size) → (all.extract i (i + 1)).toList = [all.data.toList[i]'(by rw [ba_len]; exact hi)] := fun i hi => by
    rw [ByteArray.toList_eq, ByteArray.data_extract, Array.toList_extract, List.extract_eq_take_drop]
    have : i < all.data.toList.length := by rw [ba_len]; exact hi
    rw [Nat.add_sub_cancel_left, List.drop_eq_getElem_cons this]
    rfl
  constructor
  · rintro ⟨i, hi, h⟩
    have hi' : i < all.size := by simpa using hi
    refine ⟨all.data.toList[i]'(by rw [ba_len]; exact hi'), List.getElem_mem _, ?_⟩
    rw [key i hi'] at h
    exact (by simpa using h : _ = k.toList).symm
  · rintro ⟨c, hc, h⟩
    obtain ⟨i, hi, rfl⟩ := List.getElem_of_mem hc
    have hi' : i < all.size := by rw [ba_len] at hi; exact hi
    exact ⟨i, by simpa using hi', by rw [key i hi', h]; simp⟩
end Go.Proofs.YtihiaopilnjonaaGreatDoor
namespace Go.Proofs.YtihiaopilnjonaaGreatDoor
open Go.RowKit
set_option linter.unusedSimpArgs false
set_option linter.unusedVariables false
theorem specsOk_of {x0 : Rcd} {all : ByteArray} {specs : List (UInt8 × RStep)} {gs : List GSpec} (L : List UInt8) (h1 : specs.map (fun p => p.1) = L) (h2 : gs.map (fun g => g.key) = L.map (fun c => (⟨#[c]⟩ : ByteArray))) (h3 : all.data.toList = L) (h4 : L.Pairwise (· < ·)) (h5 : ∀ i, i < gs.length → StepOk x0 (gth gs i) (rth specs i).2) : SpecsOk x0 all specs gs := by
  have l1 : specs.length = L.length := by rw [← h1]; simp
  have l2 : gs.length = L.length := by have := congrArg List.length h2; simpa using this
  have e1 : ∀ i (hi : i < L.length), (rth specs i).1 = L[i] := fun i hi => by
    rw [rth_eq specs i (by omega)]
    have : (specs.map (fun p => p.1))[i]'(by simp; omega) = L[i] := by simp only [h1]
    simpa using this
  refine ⟨by omega, fun i hi => ?_, fun k => ?_, fun i j hij hj => ?_, h5⟩
  · rw [gth_eq gs i hi, e1 i (by omega)]
    have : (gs.map (fun g => g.key))[i]'(by simp; omega) = (L.map (fun c => (⟨#[c]⟩ : ByteArray)))[i]'(by simp; omega) := by simp only [h2]
    have h9 : gs[i].key = ⟨#[L[i]'(by omega)]⟩ := by simpa using this
    rw [h9, ByteArray.toList_eq]
  · rw [mem_of_any L h3]
    constructor
    · rintro ⟨c, hc, hk⟩
      obtain ⟨i, hi, rfl⟩ := List.getElem_of_mem hc
      exact ⟨i, by omega, by rw [hk, e1 i hi]⟩
    · rintro ⟨i, hi, hk⟩
      exact ⟨L[i]'(by omega), List.getElem_mem _, by rw [hk, e1 i (by omega)]⟩
  · rw [e1 i (by omega), e1 j (by omega)]
    exact List.pairwise_iff_getElem.1 h4 i j (by omega) (by omega) hij
theorem part_specs (s : ByteArray) : SpecsOk part0 ⟨#[102, 107, 108, 114, 119]⟩ (partQs s) (partGs s 0) := by
  refine specsOk_of [102, 107, 108, 114, 119] rfl rfl rfl (by decide) fun i hi => ?_
  match i, hi with
  | 0, _ => exact num_step _ _ _
  | 1, _ => exact num_step _ _ _
  | 2, _ => exact num_step _ _ _
  | 3, _ => exact dig_step _ _ _
  | 4, _ => exact num_step _ _ _
  | i + 5, hi => exact absurd hi (by simp [partGs]; try omega)
theorem part_miss (s : ByteArray) (n a : Nat) (y : Rcd × List Nat × Nat) (h : objLoop s (partGs s 0) n 0 part0 [] a = .ok y) : missing (partGs s 0) y.2.1 = partMiss y.1 := by
  have G := PartOk (x0 := part0) s 0 ⟨rfl, rfl, rfl, rfl, rfl⟩
  have m0 : Must 0 3 y.1 y.2.1 := must_loop (i := 3) (o := 0) G.disj G.frames (show (3 : Nat) < 5 by decide) rfl n 0 part0 [] a y h ⟨fun h => (by cases h), fun _ => rfl⟩
  have q0 := must_empty m0
  unfold missing
  show ((List.range 5).any fun i => (gth (partGs s 0) i).must && !y.2.1.contains i) = _
  rw [show List.range 5 = [0, 1, 2, 3, 4] from rfl]
  simp only [List.any_cons, List.any_nil, Bool.or_false]
  rw [show (gth (partGs s 0) 0).must = false from rfl]
  rw [show (gth (partGs s 0) 1).must = false from rfl]
  rw [show (gth (partGs s 0) 2).must = false from rfl]
  rw [show (gth (partGs s 0) 3).must = true from rfl]
  rw [show (gth (partGs s 0) 4).must = false from rfl]
  simp only [Bool.false_and, Bool.true_and, Bool.false_or, Bool.or_false]
  show _ = ((y.1 0).s.toList.isEmpty)
  rw [q0]
theorem rdPart_same (s : ByteArray) : rdPartS s = readR s (partGs s 0) part0 := all_same (F := partS s) (thing_same (miss := partMiss) (part_specs s) (PartOk (x0 := part0) s 0 ⟨rfl, rfl, rfl, rfl, rfl⟩) (part_miss s) 0)
end Go.Proofs.YtihiaopilnjonaaGreatDoor
namespace Go.Proofs.YtihiaopilnjonaaGreatDoor
open Go.RowKit
set_option linter.unusedSimpArgs false
set_option linter.unusedVariables false
def pick3 (a b c : ByteArray) : Nat → ByteArray
  | 0 => a
  | 1 => b
  | _ => c
theorem pick3_at (a b c : ByteArray) (m : Nat) (h : m < 3) : (#[Value.string a, .string b, .string c] : Array Value)[m]? = some (.string (pick3 a b c m)) := by
  match m, h with
  | 0, _ => rfl
  | 1, _ => rfl
  | 2, _ => rfl
theorem pick3_size {a b c : ByteArray} {n : Nat} (ha : a.size ≤ n) (hb : b.size ≤ n) (hc : c.size ≤ n) (m : Nat) : (pick3 a b c m).size ≤ n := by
  match m with
  | 0 => exact ha
  | 1 => exact hb
  | _ + 2 => exact hc
theorem part_size (root : ByteArray) (weight first life keys : Int) (h : allMay (partSpecs root weight first life keys) = true) : (layP (partSpecs root weight first life keys)).size ≤ 1000 := by
  rw [may_part] at h
  have hr : root.size = 32 := of_decide_eq_true h
  rw [part_same root weight first life keys (by omega)]
  have e : partPs root weight first life keys = ((((([] : BPs) ++ [(⟨#[102]⟩, numR first)]) ++ [(⟨#[107]⟩, numR keys)]) ++ [(⟨#[108]⟩, numR life)]) ++ [(⟨#[114]⟩, binP root)]) ++ [(⟨#[119]⟩, numR weight)] := rfl
  have h0 := rlayP_len (partPs root weight first life keys)
  rw [e] at h0 ⊢
  have h1 := catK_le (((([] ++ [(⟨#[102]⟩, numR first)]) ++ [(⟨#[107]⟩, numR keys)]) ++ [(⟨#[108]⟩, numR life)]) ++ [(⟨#[114]⟩, binP root)]) ⟨#[119]⟩ (numR weight)
  have h2 := catK_le ((([] ++ [(⟨#[102]⟩, numR first)]) ++ [(⟨#[107]⟩, numR keys)]) ++ [(⟨#[108]⟩, numR life)]) ⟨#[114]⟩ (binP root)
  have h3 := catK_le (([] ++ [(⟨#[102]⟩, numR first)]) ++ [(⟨#[107]⟩, numR keys)]) ⟨#[108]⟩ (numR life)
  have h4 := catK_le ([] ++ [(⟨#[102]⟩, numR first)]) ⟨#[107]⟩ (numR keys)
  have h5 := catK_le [] ⟨#[102]⟩ (numR first)
  have h6 : (catK []).size = 0 := rfl
  have n1 := numR_len first
  have n2 := numR_len keys
  have n3 := numR_len life
  have n4 := numR_len weight
  have n5 := binP_len root
  have k1 : (⟨#[102]⟩ : ByteArray).size = 1 := rfl
  have k2 : (⟨#[107]⟩ : ByteArray).size = 1 := rfl
  have k3 : (⟨#[108]⟩ : ByteArray).size = 1 := rfl
  have k4 : (⟨#[114]⟩ : ByteArray).size = 1 := rfl
  have k5 : (⟨#[119]⟩ : ByteArray).size = 1 := rfl
  omega
theorem rrePart_no (s : ByteArray) (f : Flt) (w : World) (hs : s.size ≤ 140737488355328) (hr : readR s (partGs s 0) part0 = .error f) :
    Calls Tryz.prog 30 #[.string s] w fun e w' => f.1 ≠ 0 ∧ e = .returned (.tuple #[zeroPart, .agg #[.int .i64 f.1, .int .i64 f.2]]) ∧ Below w.heap.size w w' := by
  refine (rrePart_any s w hs).mono ?_
  rintro e w' ⟨hh, hb⟩
  rw [rdPart_same, hr] at hh
  exact ⟨hh.1, hh.2, hb⟩
theorem rrePart_ok (s : ByteArray) (x : Rcd) (w : World) (hs : s.size ≤ 140737488355328) (hr : readR s (partGs s 0) part0 = .ok x) :
    Calls Tryz.prog 30 #[.string s] w fun e w' => e = .returned (.tuple #[.agg (cellsPart x), .agg #[.int .i64 0, .int .i64 0]]) ∧ Below w.heap.size w w' := by
  refine (rrePart_any s w hs).mono ?_
  rintro e w' ⟨hh, hb⟩
  rw [rdPart_same, hr] at hh
  exact ⟨hh.2, hb⟩
theorem readPart_ok (B : Nat) (s : ByteArray) (x : Rcd) (w : World) (h : TE7 B w) (hs : s.size ≤ 9223372036854775807) (hr : readR s (partGs s 0) part0 = .ok x) :
    Calls Tryz.prog 29 #[.string s] w fun e w' => e = .returned (.tuple #[.agg (cellsPart x), .nilIface]) ∧ Below w.heap.size w w' := by
  refine (reaPart_any B s w h.t h.e h.s h.g hs).mono ?_
  rintro e w' ⟨hb, hh⟩
  rw [hr] at hh
  exact ⟨hh.2.2, hb⟩
def TextOf (fs : List FSpec) : ByteArray := if allMay fs then layP fs else ⟨#[]⟩
def CodeOf (fs : List FSpec) : Int := if allMay fs then 0 else 2
theorem LaidIs.both {fs : List FSpec} {w w' : World} {e : Ending} (h : LaidIs fs w e w') : e = .returned (.tuple #[.string (TextOf fs), .int .i64 (CodeOf fs)]) ∧ Below w.heap.size w w' := by
  obtain ⟨h1, h2⟩ := h
  refine ⟨h1.trans ?_, h2⟩
  unfold TextOf CodeOf
  cases allMay fs <;> rfl
set_option maxRecDepth 100000 in
set_option maxHeartbeats 4000000 in
theorem parts7_law (B : Nat) (root : ByteArray) (weight first life keys : Int) (s : ByteArray) (ta ty ts : Int) (w : World) (h : TE7 B w) (hr : root.size ≤ 9223372036854775807) (hw : U64i weight) (hf : U64i first) (hl : U64i life) (hk : U64i keys) (hs : s.size ≤ 9223372036854775807) (ha : 0 ≤ ta ∧ ta ≤ 65535) (hy : 0 ≤ ty ∧ ty ≤ 255) :
    Calls Tryz.prog 5 #[.agg #[.string root, .int .u64 weight, .int .u64 first, .int .u64 life, .int .u64 keys], .string s, .agg #[.int .u16 ta, .int .u8 ty, .int .i64 ts]] w fun e w' => e = .returned (.bool true) ∧ Below w.heap.size w w' := by
  have HE := Lib.hid h
  have HSZ := Lib.hid (part_size root weight first life keys)
  obtain ⟨fs, hfs⟩ : ∃ fs, partSpecs root weight first life keys = fs := ⟨_, rfl⟩
  have HWP := Lib.hid (fun w' (h : TE7 B w') => wpart2_any B root weight first life keys w' h.p hr hw hf hl hk (fun h => Nat.le_trans (part_size root weight first life keys h) (by decide)))
  have HRP := Lib.hid (fun w' => rpart_any root weight first life keys w' hr hw hf hl hk)
  rw [hfs] at HSZ HWP HRP
  clear h hfs
  go_enter Tryz.func5, Tryz.ntmps5
  go_upto_region 1 with fail
  obtain ⟨pb, hpb⟩ : ∃ pb, w.heap.size = pb := ⟨_, rfl⟩
  obtain ⟨tb, htb⟩ : ∃ tb, pb + 1 = tb := ⟨_, rfl⟩
  obtain ⟨V, hV⟩ : ∃ V, (w.alloc (.cells #[.string root, .int .u64 weight, .int .u64 first, .int .u64 life, .int .u64 keys] 46)).alloc (.cells #[.int .u16 ta, .int .u8 ty, .int .i64 ts] 55) = V := ⟨_, rfl⟩
  have HB : Hid (Below w.heap.size w V) := Lib.hid (by rw [← hV]; exact balloc (balloc (Below.refl _ _) _) _)
  have HP : Hid (V.heap[pb]? = some (.cells #[.string root, .int .u64 weight, .int .u64 first, .int .u64 life, .int .u64 keys] 46 (0, 0))) := Lib.hid (by rw [← hV, ← hpb]; exact block_alloc (heap_alloc_new _ _) _)
  have HT : Hid (V.heap[tb]? = some (.cells #[.int .u16 ta, .int .u8 ty, .int .i64 ts] 55 (0, 0))) := Lib.hid (by rw [← hV, ← htb, ← hpb]; exact alloc_new_at _ (by simp))
  have HE := Lib.hid (HE.out.below HB.out)
  simp only [hV, hpb, htb]
  have cP : ∀ o, V.cell? ⟨pb, o, none⟩ = _ := block_cell HP.out
  clear hV htb hpb
  go_wp2_with fail
  refine (HWP.out V HE.out).mono ?_
  rintro e w1 hh
  obtain ⟨rfl, hb⟩ := hh.both
  have HB := Lib.hid (bnext HB.out hb)
  have HE := Lib.hid (HE.out.below hb)
  have HP := Lib.hid ((hb.block _ (lt_of_block HP.out)).trans HP.out)
  have HT := Lib.hid ((hb.block _ (lt_of_block HT.out)).trans HT.out)
  clear cP hh hb
  have cP : ∀ o, w1.cell? ⟨pb, o, none⟩ = _ := block_cell HP.out
  go_wp2_with fail
  refine (HRP.out w1).mono ?_
  rintro e w2 hh
  obtain ⟨rfl, hb⟩ := hh.both
  have HB := Lib.hid (bnext HB.out hb)
  have HE := Lib.hid (HE.out.below hb)
  have HT := Lib.hid ((hb.block _ (lt_of_block HT.out)).trans HT.out)
  clear cP hh hb HP
  have HBZ : Hid ((TextOf fs).size ≤ 140737488355328) := Lib.hid (by
    unfold TextOf
    cases hm : allMay fs with
    | true => exact Nat.le_trans (HSZ.out hm) (by decide)
    | false => exact (show (0 : Nat) ≤ 140737488355328 by decide))
  generalize TextOf fs = b at HBZ
  generalize CodeOf fs = c
  obtain ⟨k, hk⟩ : ∃ k, min s.size 300 = k := ⟨_, rfl⟩
  have mn : min (s.size : Int) 300 = (k : Int) := by rw [← hk]; omega
  have sl : k ≤ s.size := by rw [← hk]; exact Nat.min_le_left _ _
  have HK : Hid (k ≤ 300) := Lib.hid (by rw [← hk]; exact Nat.min_le_right _ _)
  obtain ⟨v0, hv0⟩ : ∃ v, s.extract 0 k = v := ⟨_, rfl⟩
  have HV0 : Hid (v0.size ≤ 300) := Lib.hid (by rw [← hv0, ByteArray.size_extract]; have := HK.out; omega)
  have HTN := Lib.hid (fun w' => turned_any b ta ty ts w' ha hy HBZ.out)
  clear hk
  go_upto_region 5 with fail
  obtain ⟨W, hW⟩ : ∃ W, w2 = W := ⟨_, rfl⟩
  rw [hW] at HB HE HT ⊢
  clear hW
  have y0 : W.cell? ⟨tb, 0, none⟩ = some (.int .u16 ta) := block_cell HT.out 0
  have y1 : W.cell? ⟨tb, 1, none⟩ = some (.int .u8 ty) := block_cell HT.out 1
  have y2 : W.cell? ⟨tb, 2, none⟩ = some (.int .i64 ts) := block_cell HT.out 2
  refine wp_region_tail 11 1000 (none) (phis [fun u _ => u = (.string s), fun u _ => u = (.string s), fun u _ => u = (.int .i64 s.size), fun u _ => u = (.int .i64 k), fun u _ => u = (.string v0), fun u _ => u = (.string b), fun u _ => u = (.string b), fun u _ => u = (.agg #[.int .u16 ta, .int .u8 ty, .int .i64 ts]), fun u _ => ∃ t : ByteArray, u = .string t ∧ t.size ≤ 140737488355328, fun u _ => ∃ t : ByteArray, u = .agg #[.string v0, .string b, .string t] ∧ t.size ≤ 140737488355328, fun u w' => ∃ c, u = .pointer (some ⟨c, 0, none⟩) ∧ W.heap.size ≤ c ∧ w'.heap[c]? = some (.cells #[.string ⟨#[]⟩, .string ⟨#[]⟩, .string ⟨#[]⟩] 57 (0, 0))]) rfl (by kernel_rfl) (by kernel_rfl) (mono_of ⟨mono_eq, mono_eq, mono_eq, mono_eq, mono_eq, mono_eq, mono_eq, mono_eq, mono_eq, mono_eq, ?m10, trivial⟩) (steps_of 11 ⟨?s0, ?s1, ?s2, ?s3, ?s4, ?s5, ?s6, ?s7, ?s8, ?s9, ?s10, trivial⟩) ?_
  case m10 =>
    exact ⟨fun u w1 w2 h ⟨c, h1, h2, h3⟩ => ⟨c, h1, h2, ext_block h h3⟩, fun _ u w1 w2 h ⟨c, h1, h2, h3⟩ => ⟨c, h1, h2, extB_block h (by simp) h3⟩⟩
  case s0 =>
    refine step_val (v := (.string s)) (fun av wv hE hS hO hD => ?_) (fun _ => rfl)
    have h1 : av.eval (.tmp 1) = (.string s) := hO.2.2 1 rfl
    have f1 := (ev_form av 1).symm.trans h1
    refine ⟨rfl, ?_⟩
    simp [go_sem, f1, mn, sl, hv0]
  case s1 =>
    refine step_val (v := (.string s)) (fun av wv hE hS hO hD => ?_) (fun _ => rfl)
    have h1 : av.eval (.tmp 1) = (.string s) := hO.2.2 1 rfl
    have f1 := (ev_form av 1).symm.trans h1
    refine ⟨rfl, ?_⟩
    simp [go_sem, f1, mn, sl, hv0]
  case s2 =>
    refine step_val (v := (.int .i64 s.size)) (fun av wv hE hS hO hD => ?_) (fun _ => rfl)
    have d36 : av.eval (.tmp 36) = (.string s) := hD.1 rfl _ rfl
    have f36 := (ev_form av 36).symm.trans d36
    refine ⟨rfl, ?_⟩
    simp [go_sem, f36, mn, sl, hv0]
  case s3 =>
    refine step_val (v := (.int .i64 k)) (fun av wv hE hS hO hD => ?_) (fun _ => rfl)
    have d37 : av.eval (.tmp 37) = (.int .i64 s.size) := hD.1 rfl _ rfl
    have f37 := (ev_form av 37).symm.trans d37
    refine ⟨rfl, ?_⟩
    simp [go_sem, f37, mn, sl, hv0]
  case s4 =>
    refine step_val (v := (.string v0)) (fun av wv hE hS hO hD => ?_) (fun _ => rfl)
    have d35 : av.eval (.tmp 35) = (.string s) := hD.1 rfl _ rfl
    have f35 := (ev_form av 35).symm.trans d35
    have d38 : av.eval (.tmp 38) = (.int .i64 k) := hD.2.1 rfl _ rfl
    have f38 := (ev_form av 38).symm.trans d38
    refine ⟨rfl, ?_⟩
    simp [go_sem, f35, f38, mn, sl, hv0]
  case s5 =>
    refine step_val (v := (.string b)) (fun av wv hE hS hO hD => ?_) (fun _ => rfl)
    have h9 : av.eval (.tmp 9) = (.string b) := hO.2.2 9 rfl
    have f9 := (ev_form av 9).symm.trans h9
    refine ⟨rfl, ?_⟩
    simp [go_sem, f9, mn, sl, hv0]
  case s6 =>
    refine step_val (v := (.string b)) (fun av wv hE hS hO hD => ?_) (fun _ => rfl)
    have h9 : av.eval (.tmp 9) = (.string b) := hO.2.2 9 rfl
    have f9 := (ev_form av 9).symm.trans h9
    refine ⟨rfl, ?_⟩
    simp [go_sem, f9, mn, sl, hv0]
  case s7 =>
    refine step_val (v := (.agg #[.int .u16 ta, .int .u8 ty, .int .i64 ts])) (fun av wv hE hS hO hD => ?_) (fun _ => rfl)
    have h5 : av.eval (.tmp 5) = (.pointer (some ⟨tb, 0, none⟩)) := hO.2.2 5 rfl
    have f5 := (ev_form av 5).symm.trans h5
    have y0 := extB_cell hE (by simp) y0
    have y1 := extB_cell hE (by simp) y1
    have y2 := extB_cell hE (by simp) y2
    refine ⟨rfl, ?_⟩
    simp [go_sem, f5, y0, y1, y2, mn, sl, hv0]
  case s8 =>
    refine step_wp (fun av wv hE hS hO hD => ?_)
    have d41 : av.eval (.tmp 41) = (.string b) := hD.1 rfl _ rfl
    have f41 := (ev_form av 41).symm.trans d41
    have d42 : av.eval (.tmp 42) = (.agg #[.int .u16 ta, .int .u8 ty, .int .i64 ts]) := hD.2.1 rfl _ rfl
    have f42 := (ev_form av 42).symm.trans d42
    refine ⟨rfl, ?_⟩
    exact wp_of_callR (f := 28) (args := #[.string b, .agg #[.int .u16 ta, .int .u8 ty, .int .i64 ts]]) (R := fun u w2 => (∃ t : ByteArray, u = .string t ∧ t.size ≤ 140737488355328) ∧ Below wv.heap.size wv w2) (by simp [go_sem, f41, f42]) ((HTN.out wv).mono (fun e w2 ⟨t, h1, h2, h3⟩ => ⟨_, h1, ⟨t, rfl, Nat.le_trans h2 HBZ.out⟩, h3⟩)) (fun u w2 ⟨h1, h2⟩ => ⟨u, rfl, es_of_ext h2, h1⟩)
  case s9 =>
    refine step_wp (fun av wv hE hS hO hD => ?_)
    have d39 : av.eval (.tmp 39) = (.string v0) := hD.1 rfl _ rfl
    have f39 := (ev_form av 39).symm.trans d39
    have d40 : av.eval (.tmp 40) = (.string b) := hD.2.1 rfl _ rfl
    have f40 := (ev_form av 40).symm.trans d40
    have d43 : (fun u _ => ∃ t : ByteArray, u = .string t ∧ t.size ≤ 140737488355328) (av.eval (.tmp 43)) wv := hD.2.2.1 rfl _ rfl
    refine ⟨rfl, ?_⟩
    obtain ⟨t, ht, hz⟩ := d43
    have f43 := (ev_form av 43).symm.trans ht
    exact wp_of_run (v := .agg #[.string v0, .string b, .string t]) (by simp [go_sem, f39, f40, f43]) ⟨_, rfl, es_of_ext (Ext_refl _), t, rfl, hz⟩
  case s10 =>
    refine step_wp (fun av wv hE hS hO hD => ?_)
    refine ⟨rfl, ?_⟩
    exact wp_of_run (v := .pointer (some ⟨wv.heap.size, 0, none⟩)) (w' := wv.alloc (.cells #[.string ⟨#[]⟩, .string ⟨#[]⟩, .string ⟨#[]⟩] 57)) (by simp [go_sem]) ⟨_, rfl, es_of_ext (balloc (Ext_refl _) _), wv.heap.size, rfl, (by have := hE.size; simpa using this), heap_alloc_new _ _⟩
  intro a' w' hE hO hall
  have hA := act_of_outer (ds := [35, 36, 37, 38, 39, 40, 41, 42, 43, 44, 11]) rfl hO (by kernel_rfl)
  have e35 : (fun u _ => u = (.string s)) (a'.eval (.tmp 35)) w' := hall.1 _ rfl
  have e36 : (fun u _ => u = (.string s)) (a'.eval (.tmp 36)) w' := hall.2.1 _ rfl
  have e37 : (fun u _ => u = (.int .i64 s.size)) (a'.eval (.tmp 37)) w' := hall.2.2.1 _ rfl
  have e38 : (fun u _ => u = (.int .i64 k)) (a'.eval (.tmp 38)) w' := hall.2.2.2.1 _ rfl
  have e39 : (fun u _ => u = (.string v0)) (a'.eval (.tmp 39)) w' := hall.2.2.2.2.1 _ rfl
  have e40 : (fun u _ => u = (.string b)) (a'.eval (.tmp 40)) w' := hall.2.2.2.2.2.1 _ rfl
  have e41 : (fun u _ => u = (.string b)) (a'.eval (.tmp 41)) w' := hall.2.2.2.2.2.2.1 _ rfl
  have e42 : (fun u _ => u = (.agg #[.int .u16 ta, .int .u8 ty, .int .i64 ts])) (a'.eval (.tmp 42)) w' := hall.2.2.2.2.2.2.2.1 _ rfl
  have e43 : (fun u _ => ∃ t : ByteArray, u = .string t ∧ t.size ≤ 140737488355328) (a'.eval (.tmp 43)) w' := hall.2.2.2.2.2.2.2.2.1 _ rfl
  have e44 : (fun u _ => ∃ t : ByteArray, u = .agg #[.string v0, .string b, .string t] ∧ t.size ≤ 140737488355328) (a'.eval (.tmp 44)) w' := hall.2.2.2.2.2.2.2.2.2.1 _ rfl
  have e11 : (fun u w' => ∃ c, u = .pointer (some ⟨c, 0, none⟩) ∧ W.heap.size ≤ c ∧ w'.heap[c]? = some (.cells #[.string ⟨#[]⟩, .string ⟨#[]⟩, .string ⟨#[]⟩] 57 (0, 0))) (a'.eval (.tmp 11)) w' := hall.2.2.2.2.2.2.2.2.2.2.1 _ rfl
  obtain ⟨v43, hv43⟩ : ∃ v, a'.eval (.tmp 43) = v := ⟨_, rfl⟩
  rw [hv43] at e43
  obtain ⟨v44, hv44⟩ : ∃ v, a'.eval (.tmp 44) = v := ⟨_, rfl⟩
  rw [hv44] at e44
  obtain ⟨v11, hv11⟩ : ∃ v, a'.eval (.tmp 11) = v := ⟨_, rfl⟩
  rw [hv11] at e11
  simp only [List.foldl_cons, List.foldl_nil, Act.put, List.setIfInBounds_toArray, List.set_cons_succ, List.set_cons_zero, e35, e36, e37, e38, e39, e40, e41, e42, hv43, hv44, hv11] at hA
  clear hO hall e35 e36 e37 e38 e39 e40 e41 e42 hv43 hv44 hv11
  subst hA
  clear y0 y1 y2 mn sl hv0 e43
  obtain ⟨cb, rfl, hcW, hcb⟩ := e11
  obtain ⟨t, rfl, htz⟩ := e44
  have HC := Lib.hid hcb
  have HTZ := Lib.hid htz
  have HCW := Lib.hid hcW
  have HX := Lib.hid (of_drew hE)
  clear hcb htz hE HTN hcW
  have q0 : w'.frozen? ⟨cb, 0, none⟩ = false := block_free HC.out 0
  have q1 : w'.frozen? ⟨cb, 1, none⟩ = false := block_free HC.out 1
  have q2 : w'.frozen? ⟨cb, 2, none⟩ = false := block_free HC.out 2
  have r0 : w'.cell? ⟨cb, 0, none⟩ = some (.string ⟨#[]⟩) := block_cell HC.out 0
  have r1 : w'.cell? ⟨cb, 1, none⟩ = some (.string ⟨#[]⟩) := block_cell HC.out 1
  have r2 : w'.cell? ⟨cb, 2, none⟩ = some (.string ⟨#[]⟩) := block_cell HC.out 2
  go_upto_region 7 with fail
  obtain ⟨W2, hW2⟩ : ∃ W2, ((w'.setCell ⟨cb, 0, none⟩ (.string v0)).setCell ⟨cb, 1, none⟩ (.string b)).setCell ⟨cb, 2, none⟩ (.string t) = W2 := ⟨_, rfl⟩
  rw [hW2]
  have HL : Hid (W2.heap[cb]? = some (.cells #[.string v0, .string b, .string t] 57 (0, 0))) := Lib.hid (by rw [← hW2]; exact block_setCell (block_setCell (block_setCell HC.out _) _) _)
  have hE2 : Below W.heap.size W W2 := by rw [← hW2]; exact bset (bset (bset HX.out HCW.out _) HCW.out _) HCW.out _
  have HE := Lib.hid (HE.out.below hE2)
  have HB := Lib.hid (bnext HB.out hE2)
  clear hW2 hE2 q0 q1 q2 r0 r1 r2 HX HT HC HCW
  have HZ : Hid (∀ m, (pick3 v0 b t m).size ≤ 140737488355328) := Lib.hid (fun m => pick3_size (Nat.le_trans HV0.out (by decide)) HBZ.out HTZ.out m)
  go_loopg [12] 3 (fun g i wr => ∃ m : Nat, g + m = 3 ∧ i = .int .i64 m ∧ Hid (Below W2.heap.size W2 wr))
  case atStart => exact ⟨0, rfl, rfl, Below.refl _ _⟩
  case round =>
    obtain ⟨m, hg, rfl, HW⟩ := hrel
    by_cases hlt : m < 3
    · have c0 : wr.cell? ⟨cb, m, none⟩ = some (.string (pick3 v0 b t m)) := (block_cell ((HW.out.block cb (lt_of_block HL.out)).trans HL.out) m).trans (pick3_at v0 b t m hlt)
      have i1 : decide (m < 3) = true := by simp; exact hlt
      have i2 : (m : Int) < 3 := by omega
      have hv := HZ.out m
      have HEr := Lib.hid (HE.out.below HW.out)
      have HL2 := Lib.hid (fun w' (h : Below wr.heap.size wr w') => (block_cell ((h.block cb (Nat.lt_of_lt_of_le (lt_of_block HL.out) HW.out.size)).trans ((HW.out.block cb (lt_of_block HL.out)).trans HL.out)) m).trans (pick3_at v0 b t m hlt))
      generalize pick3 v0 b t m = v at c0 hv HL2
      have HV := Lib.hid hv
      clear hv
      cases hr : readR v (partGs v 0) part0 with
      | error f =>
        have HR := Lib.hid hr
        clear hr
        go_wp2_with fail
        refine (readPart_no B v f.1 f.2 wr HEr.out (Nat.le_trans HV.out (by decide)) HR.out).mono ?_
        rintro e w8 ⟨fb, rfl, hf, hb⟩
        have HF := Lib.hid hf
        have HB8 := Lib.hid hb
        clear hb c0 hf
        go_upto_region 10 with fail
        obtain ⟨pa, hpa⟩ : ∃ pa, w8.heap.size = pa := ⟨_, rfl⟩
        obtain ⟨W9, hW9⟩ : ∃ W9, w8.alloc (.cells #[.string ⟨#[]⟩, .int .u64 0, .int .u64 0, .int .u64 0, .int .u64 0] 46) = W9 := ⟨_, rfl⟩
        have hb9 : Below w8.heap.size w8 W9 := by rw [← hW9]; exact balloc (Below.refl _ _) _
        have HP9 : Hid (W9.heap[pa]? = some (.cells #[.string ⟨#[]⟩, .int .u64 0, .int .u64 0, .int .u64 0, .int .u64 0] 46 (0, 0))) := Lib.hid (by rw [← hW9, ← hpa]; exact heap_alloc_new _ _)
        have HB9 : Hid (Below wr.heap.size wr W9) := Lib.hid (bnext HB8.out hb9)
        have c0 := HL2.out W9 HB9.out
        have cP : ∀ o, W9.cell? ⟨pa, o, none⟩ = _ := block_cell HP9.out
        have H89 := Lib.hid hb9
        simp only [hW9, hpa]
        clear hW9 hpa hb9
        go_wp2_with fail
        refine (rrePart_no v f W9 HV.out HR.out).mono ?_
        rintro e w10 ⟨hne, rfl, hb⟩
        have HNE := Lib.hid hne
        clear hne
        have HP10 := Lib.hid ((hb.block _ (lt_of_block HP9.out)).trans HP9.out)
        have HB10 := Lib.hid (bnext HB9.out hb)
        have H10 := Lib.hid (bnext H89.out hb)
        clear hb c0 cP
        go_upto_region 11 with fail
        obtain ⟨qb, hqb⟩ : ∃ qb, w10.heap.size = qb := ⟨_, rfl⟩
        obtain ⟨gb, hgb⟩ : ∃ gb, qb + 1 = gb := ⟨_, rfl⟩
        obtain ⟨X, hX⟩ : ∃ X, (w10.alloc (.cells #[.string ⟨#[]⟩, .int .u64 0, .int .u64 0, .int .u64 0, .int .u64 0] 46)).alloc (.cells #[.int .i64 f.1, .int .i64 f.2] 63) = X := ⟨_, rfl⟩
        have hbx : Below w10.heap.size w10 X := by rw [← hX]; exact balloc (balloc (Below.refl _ _) _) _
        have HQ : Hid (X.heap[qb]? = some (.cells #[.string ⟨#[]⟩, .int .u64 0, .int .u64 0, .int .u64 0, .int .u64 0] 46 (0, 0))) := Lib.hid (by rw [← hX, ← hqb]; exact block_alloc (heap_alloc_new _ _) _)
        have HG : Hid (X.heap[gb]? = some (.cells #[.int .i64 f.1, .int .i64 f.2] 63 (0, 0))) := Lib.hid (by rw [← hX, ← hgb, ← hqb]; exact alloc_new_at _ (by simp))
        have HPX := Lib.hid ((hbx.block _ (lt_of_block HP10.out)).trans HP10.out)
        have HBX := Lib.hid (bnext HB10.out hbx)
        have HX8 := Lib.hid (bnext H10.out hbx)
        have cP : ∀ o, X.cell? ⟨pa, o, none⟩ = _ := block_cell HPX.out
        have cQ : ∀ o, X.cell? ⟨qb, o, none⟩ = _ := block_cell HQ.out
        have cG : ∀ o, X.cell? ⟨gb, o, none⟩ = _ := block_cell HG.out
        simp only [hX, hqb, hgb]
        clear hX hbx hqb hgb
        go_wp2_with fail
        have hex := (HEr.out.below HBX.out)
        refine (told_fault fb f.1 f.2 X hex.e (HF.out.below HX8.out) HNE.out (Nat.lt_of_lt_of_le hex.g hex.s)).mono ?_
        rintro e w11 ⟨rfl, hb⟩
        have HBN := Lib.hid (bnext HW.out (bnext HBX.out hb))
        clear hb hex
        go_wp2
        go_roundg (2 - m)
        case rel => exact ⟨m + 1, by omega, by go_num, HBN⟩
        case measure => omega
      | ok x =>
        have HR := Lib.hid hr
        clear hr
        go_wp2_with fail
        refine (readPart_ok B v x wr HEr.out (Nat.le_trans HV.out (by decide)) HR.out).mono ?_
        rintro e w8 ⟨rfl, hb⟩
        have HRR := Lib.hid (fun w' => rrePart_ok v x w' HV.out HR.out)
        unfold cellsPart at HRR ⊢
        generalize (x 0).s = x0 at HRR ⊢
        generalize (x 1).n = x1 at HRR ⊢
        generalize (x 2).n = x2 at HRR ⊢
        generalize (x 3).n = x3 at HRR ⊢
        generalize (x 4).n = x4 at HRR ⊢
        have HB8 := Lib.hid hb
        clear hb c0
        go_upto_region 10 with fail
        obtain ⟨pa, hpa⟩ : ∃ pa, w8.heap.size = pa := ⟨_, rfl⟩
        obtain ⟨W9, hW9⟩ : ∃ W9, w8.alloc (.cells #[.string x0, .int .u64 x1, .int .u64 x2, .int .u64 x3, .int .u64 x4] 46) = W9 := ⟨_, rfl⟩
        have hb9 : Below w8.heap.size w8 W9 := by rw [← hW9]; exact balloc (Below.refl _ _) _
        have HP9 : Hid (W9.heap[pa]? = some (.cells #[.string x0, .int .u64 x1, .int .u64 x2, .int .u64 x3, .int .u64 x4] 46 (0, 0))) := Lib.hid (by rw [← hW9, ← hpa]; exact heap_alloc_new _ _)
        have HB9 : Hid (Below wr.heap.size wr W9) := Lib.hid (bnext HB8.out hb9)
        have c0 := HL2.out W9 HB9.out
        have cP : ∀ o, W9.cell? ⟨pa, o, none⟩ = _ := block_cell HP9.out
        have H89 := Lib.hid hb9
        simp only [hW9, hpa]
        clear hW9 hpa hb9
        go_wp2_with fail
        refine (HRR.out W9).mono ?_
        rintro e w10 ⟨rfl, hb⟩
        have HP10 := Lib.hid ((hb.block _ (lt_of_block HP9.out)).trans HP9.out)
        have HB10 := Lib.hid (bnext HB9.out hb)
        have H10 := Lib.hid (bnext H89.out hb)
        clear hb c0 cP
        go_upto_region 11 with fail
        obtain ⟨qb, hqb⟩ : ∃ qb, w10.heap.size = qb := ⟨_, rfl⟩
        obtain ⟨gb, hgb⟩ : ∃ gb, qb + 1 = gb := ⟨_, rfl⟩
        obtain ⟨X, hX⟩ : ∃ X, (w10.alloc (.cells #[.string x0, .int .u64 x1, .int .u64 x2, .int .u64 x3, .int .u64 x4] 46)).alloc (.cells #[.int .i64 0, .int .i64 0] 63) = X := ⟨_, rfl⟩
        have hbx : Below w10.heap.size w10 X := by rw [← hX]; exact balloc (balloc (Below.refl _ _) _) _
        have HQ : Hid (X.heap[qb]? = some (.cells #[.string x0, .int .u64 x1, .int .u64 x2, .int .u64 x3, .int .u64 x4] 46 (0, 0))) := Lib.hid (by rw [← hX, ← hqb]; exact block_alloc (heap_alloc_new _ _) _)
        have HG : Hid (X.heap[gb]? = some (.cells #[.int .i64 0, .int .i64 0] 63 (0, 0))) := Lib.hid (by rw [← hX, ← hgb, ← hqb]; exact alloc_new_at _ (by simp))
        have HPX := Lib.hid ((hbx.block _ (lt_of_block HP10.out)).trans HP10.out)
        have HBX := Lib.hid (bnext HB10.out hbx)
        have HX8 := Lib.hid (bnext H10.out hbx)
        have cP : ∀ o, X.cell? ⟨pa, o, none⟩ = _ := block_cell HPX.out
        have cQ : ∀ o, X.cell? ⟨qb, o, none⟩ = _ := block_cell HQ.out
        have cG : ∀ o, X.cell? ⟨gb, o, none⟩ = _ := block_cell HG.out
        simp only [hX, hqb, hgb]
        clear hX hbx hqb hgb
        go_wp2_with fail
        refine (told_none X).mono ?_
        rintro e w11 ⟨rfl, hb⟩
        have HBN := Lib.hid (bnext HW.out (bnext HBX.out hb))
        clear hb
        go_wp2
        go_roundg (2 - m)
        case rel => exact ⟨m + 1, by omega, by go_num, HBN⟩
        case measure => omega
    · obtain rfl : m = 3 := by omega
      go_wp2_with fail
      refine (works7_any B wr (HE.out.below HW.out)).mono ?_
      rintro e w9 ⟨rfl, hb⟩
      have HB := Lib.hid (bnext HB.out (bnext HW.out hb))
      clear hb
      go_wp2
      go_ret
      exact ⟨rfl, HB.out⟩
end Go.Proofs.YtihiaopilnjonaaGreatDoor
namespace Go.Proofs.YtihiaopilnjonaaGreatDoor
open Go.RowKit Go.ChangeShapes Go.WideShapes Go.ChangeAt Go.Deep
section
variable {H : Type} {enc : TypeId × Value → H} {P : Program} {w : World}
theorem below_trodAll (hl : laidOutB P = true) {W W' : World} (hb : Below W.heap.size W W') : ∀ {ts : List TypeId} {vs : List Value} {ds : List (DataW H)} {ps : List MemPlace},
    (∀ t ∈ ts, P.readableRec t = true ∧ t < P.types.size) → DataW.TrodAll enc P W 0 (fun _ => true) true ts vs ds ps → DataW.TrodAll enc P W' 0 (fun b => decide (b < W.heap.size)) true ts vs ds ps
  | [], vs, ds, ps, _, h => by
    obtain ⟨rfl, rfl, rfl⟩ := trodAll_nil h
    exact trodAll_mk0
  | t :: ts, vs, ds, ps, ht, h => by
    obtain ⟨v, vs', d, ds', p, q, rfl, rfl, rfl, h0, r0⟩ := trodAll_cons h
    have lt0 : ∀ x ∈ p, x.block < W.heap.size := by obtain ⟨m, hm⟩ := h0; exact DataW.trod_lt m _ _ _ hm
    exact trodAll_cons_mk (Below.trod hl (ht t (List.mem_cons_self ..)).1 (ht t (List.mem_cons_self ..)).2 h0 hb lt0) (below_trodAll hl hb (fun t' h' => ht t' (List.mem_cons_of_mem _ h')) r0)
theorem cell_read {n : Nat} {e : TypeId} {k : IntKind} {v : Value} {y : DataW H × List MemPlace} (he : P.underlying e = some (.int k)) (h : DataW.trod enc P w 0 (fun _ => true) true n e [v] = some y) : ∃ x, v = .int k x ∧ (Lit.int k x).wf = true := by
  obtain ⟨x, hx, _, hw⟩ := DataW.trod_int he h
  exact ⟨x, by simpa using hx, hw⟩
end
end Go.Proofs.YtihiaopilnjonaaGreatDoor
namespace Go.Proofs.YtihiaopilnjonaaGreatDoor
open Go.RowKit Go.ChangeShapes Go.WideShapes Go.ChangeAt
theorem own : ownKnob Tryz.prog.godebug = none := by kernel_rfl
theorem laidOut : laidOutB Tryz.prog = true := by kernel_rfl
end Go.Proofs.YtihiaopilnjonaaGreatDoor
namespace Go.Proofs.YtihiaopilnjonaaGreatDoor
open Go.RowKit Go.ChangeShapes Go.WideShapes Go.ChangeAt Go.ChangeMaps
section
variable {P : Program} {H : Type} {enc : TypeId × Value → H} {w : World}
theorem open_str {t : TypeId} (ht : P.underlying t = some .string) {v : Value} {d : DataW H} {p : List MemPlace} {r : Reach} {base : Nat} (hv : Value.okWide P w r base t v) (h : DataW.Trod enc P w 0 (fun _ => true) true t v d p) :
    ∃ s : ByteArray, v = .string s ∧ d = .lit (.string s.data.toList) ∧ p = [] ∧ s.size ≤ 9223372036854775807 := by
  obtain ⟨s, rfl, h1, h2, h3⟩ := open_string ht hv h
  exact ⟨s, rfl, h1, h2, by unfold maxLen at h3; exact h3⟩
end
end Go.Proofs.YtihiaopilnjonaaGreatDoor
namespace Go.Proofs.YtihiaopilnjonaaGreatDoor
open Go.RowKit Go.ChangeShapes Go.WideShapes Go.ChangeAt
set_option linter.unusedSimpArgs false
set_option linter.unusedVariables false
section
variable {P : Program} {H : Type} {enc : TypeId × Value → H} {w : World}
theorem str_readw {n : Nat} {e : TypeId} {v : Value} {y : DataW H × List MemPlace} (he : P.underlying e = some .string) (h : DataW.trod enc P w 0 (fun _ => true) true n e [v] = some y) : ∃ s : ByteArray, v = .string s ∧ s.size ≤ maxLen := by
  obtain ⟨s, hx, _, hw⟩ := DataW.trod_string he h
  exact ⟨s, by simpa using hx, hw⟩
theorem wfi_u64 {n : Int} (h : (Lit.int .u64 n).wf = true) : U64i n := by simp [Lit.wf, IntKind.min, IntKind.max, IntKind.signed, IntKind.bits] at h; unfold U64i; omega
theorem wfi_u16 {n : Int} (h : (Lit.int .u16 n).wf = true) : 0 ≤ n ∧ n ≤ 65535 := by simp [Lit.wf, IntKind.min, IntKind.max, IntKind.signed, IntKind.bits] at h; omega
theorem wfi_u8 {n : Int} (h : (Lit.int .u8 n).wf = true) : 0 ≤ n ∧ n ≤ 255 := by simp [Lit.wf, IntKind.min, IntKind.max, IntKind.signed, IntKind.bits] at h; omega
end
set_option maxRecDepth 100000 in
theorem open_part {H : Type} {enc : TypeId × Value → H} {w : World} {v : Value} {d : DataW H} {p : List MemPlace} {r : Reach} {base : Nat} (hv : Value.okWide Tryz.prog w r base 46 v) (h : DataW.Trod enc Tryz.prog w 0 (fun _ => true) true 46 v d p) :
    ∃ root weight first life keys, v = .agg #[.string root, .int .u64 weight, .int .u64 first, .int .u64 life, .int .u64 keys] ∧ root.size ≤ maxLen ∧ U64i weight ∧ U64i first ∧ U64i life ∧ U64i keys := by
  obtain ⟨cs', rfl, hsz⟩ := okWide_struct Tryz.underlying46 hv
  have hsz' : cs'.size = 5 := hsz.trans (by kernel_rfl)
  obtain ⟨l⟩ := cs'
  match l, hsz' with
  | [v0, v1, v2, v3, v4], _ =>
    obtain ⟨fuel, hf⟩ := h
    obtain ⟨xs, m, _, _, _, hxl, hx⟩ := DataW.trod_struct Tryz.underlying46 hf
    have hxl' : xs.length = 5 := hxl
    simp only [Value.cells] at hx
    have h0 : DataW.trod enc Tryz.prog w 0 (fun _ => true) true m 9 (([v0, v1, v2, v3, v4].drop 0).take (Tryz.prog.cellsOf 9)) = xs[0]? := hx 0 _ rfl
    rw [show Tryz.prog.cellsOf 9 = 1 by kernel_rfl] at h0
    have h1 : DataW.trod enc Tryz.prog w 0 (fun _ => true) true m 23 (([v0, v1, v2, v3, v4].drop 1).take (Tryz.prog.cellsOf 23)) = xs[1]? := hx 1 _ rfl
    rw [show Tryz.prog.cellsOf 23 = 1 by kernel_rfl] at h1
    have h2 : DataW.trod enc Tryz.prog w 0 (fun _ => true) true m 23 (([v0, v1, v2, v3, v4].drop 2).take (Tryz.prog.cellsOf 23)) = xs[2]? := hx 2 _ rfl
    rw [show Tryz.prog.cellsOf 23 = 1 by kernel_rfl] at h2
    have h3 : DataW.trod enc Tryz.prog w 0 (fun _ => true) true m 23 (([v0, v1, v2, v3, v4].drop 3).take (Tryz.prog.cellsOf 23)) = xs[3]? := hx 3 _ rfl
    rw [show Tryz.prog.cellsOf 23 = 1 by kernel_rfl] at h3
    have h4 : DataW.trod enc Tryz.prog w 0 (fun _ => true) true m 23 (([v0, v1, v2, v3, v4].drop 4).take (Tryz.prog.cellsOf 23)) = xs[4]? := hx 4 _ rfl
    rw [show Tryz.prog.cellsOf 23 = 1 by kernel_rfl] at h4
    obtain ⟨x0, rfl, w0⟩ := str_readw Tryz.underlying9 (h0.trans (List.getElem?_eq_getElem (show 0 < xs.length by omega)))
    obtain ⟨x1, rfl, w1⟩ := cell_read Tryz.underlying23 (h1.trans (List.getElem?_eq_getElem (show 1 < xs.length by omega)))
    obtain ⟨x2, rfl, w2⟩ := cell_read Tryz.underlying23 (h2.trans (List.getElem?_eq_getElem (show 2 < xs.length by omega)))
    obtain ⟨x3, rfl, w3⟩ := cell_read Tryz.underlying23 (h3.trans (List.getElem?_eq_getElem (show 3 < xs.length by omega)))
    obtain ⟨x4, rfl, w4⟩ := cell_read Tryz.underlying23 (h4.trans (List.getElem?_eq_getElem (show 4 < xs.length by omega)))
    exact ⟨x0, x1, x2, x3, x4, rfl, w0, wfi_u64 w1, wfi_u64 w2, wfi_u64 w3, wfi_u64 w4⟩
set_option maxRecDepth 100000 in
theorem open_turn {H : Type} {enc : TypeId × Value → H} {w : World} {v : Value} {d : DataW H} {p : List MemPlace} {r : Reach} {base : Nat} (hv : Value.okWide Tryz.prog w r base 55 v) (h : DataW.Trod enc Tryz.prog w 0 (fun _ => true) true 55 v d p) :
    ∃ a y t : Int, v = .agg #[.int .u16 a, .int .u8 y, .int .i64 t] ∧ (0 ≤ a ∧ a ≤ 65535) ∧ (0 ≤ y ∧ y ≤ 255) := by
  obtain ⟨cs', rfl, hsz⟩ := okWide_struct Tryz.underlying55 hv
  have hsz' : cs'.size = 3 := hsz.trans (by kernel_rfl)
  obtain ⟨l⟩ := cs'
  match l, hsz' with
  | [v0, v1, v2], _ =>
    obtain ⟨fuel, hf⟩ := h
    obtain ⟨xs, m, _, _, _, hxl, hx⟩ := DataW.trod_struct Tryz.underlying55 hf
    have hxl' : xs.length = 3 := hxl
    simp only [Value.cells] at hx
    have h0 : DataW.trod enc Tryz.prog w 0 (fun _ => true) true m 53 (([v0, v1, v2].drop 0).take (Tryz.prog.cellsOf 53)) = xs[0]? := hx 0 _ rfl
    rw [show Tryz.prog.cellsOf 53 = 1 by kernel_rfl] at h0
    have h1 : DataW.trod enc Tryz.prog w 0 (fun _ => true) true m 5 (([v0, v1, v2].drop 1).take (Tryz.prog.cellsOf 5)) = xs[1]? := hx 1 _ rfl
    rw [show Tryz.prog.cellsOf 5 = 1 by kernel_rfl] at h1
    have h2 : DataW.trod enc Tryz.prog w 0 (fun _ => true) true m 3 (([v0, v1, v2].drop 2).take (Tryz.prog.cellsOf 3)) = xs[2]? := hx 2 _ rfl
    rw [show Tryz.prog.cellsOf 3 = 1 by kernel_rfl] at h2
    obtain ⟨x0, rfl, w0⟩ := cell_read Tryz.underlying53 (h0.trans (List.getElem?_eq_getElem (show 0 < xs.length by omega)))
    obtain ⟨x1, rfl, w1⟩ := cell_read Tryz.underlying5 (h1.trans (List.getElem?_eq_getElem (show 1 < xs.length by omega)))
    obtain ⟨x2, rfl, w2⟩ := cell_read Tryz.underlying3 (h2.trans (List.getElem?_eq_getElem (show 2 < xs.length by omega)))
    exact ⟨x0, x1, x2, rfl, wfi_u16 w0, wfi_u8 w1⟩
end Go.Proofs.YtihiaopilnjonaaGreatDoor
namespace Go.Proofs.YtihiaopilnjonaaGreatDoor
open Go.RowKit Go.ChangeShapes Go.WideShapes Go.ChangeAt
def rowD (r : URow) : DataW Unit := .agg [.lit (.int .u8 r.lo), .lit (.int .u8 r.hi), .lit (.int .i64 r.size), .lit (.int .u64 r.least)]
set_option maxRecDepth 100000 in
theorem laid_row {w : World} {fuel : Nat} {cs' : List Value} {r : URow} {q : List MemPlace} (hl : cs'.length = 4) (h : DataW.trod (fun _ => ()) Tryz.prog w 0 (fun _ => true) false fuel 338 cs' = some (rowD r, q)) : cs' = r.cells := by
  match cs', hl with
  | [v0, v1, v2, v3], _ =>
    obtain ⟨xs, m, _, e, _, hxl, hx⟩ := DataW.trod_struct Tryz.underlying338 h
    have cu : Tryz.prog.cellsOf 5 = 1 := by kernel_rfl
    have ci : Tryz.prog.cellsOf 3 = 1 := by kernel_rfl
    have cq : Tryz.prog.cellsOf 23 = 1 := by kernel_rfl
    have hxl' : xs.length = 4 := hxl
    have h0 : DataW.trod (fun _ => ()) Tryz.prog w 0 (fun _ => true) false m 5 (([v0, v1, v2, v3].drop 0).take (Tryz.prog.cellsOf 5)) = xs[0]? := hx 0 _ rfl
    have h1 : DataW.trod (fun _ => ()) Tryz.prog w 0 (fun _ => true) false m 5 (([v0, v1, v2, v3].drop 1).take (Tryz.prog.cellsOf 5)) = xs[1]? := hx 1 _ rfl
    have h2 : DataW.trod (fun _ => ()) Tryz.prog w 0 (fun _ => true) false m 3 (([v0, v1, v2, v3].drop 2).take (Tryz.prog.cellsOf 3)) = xs[2]? := hx 2 _ rfl
    have h3 : DataW.trod (fun _ => ()) Tryz.prog w 0 (fun _ => true) false m 23 (([v0, v1, v2, v3].drop 3).take (Tryz.prog.cellsOf 23)) = xs[3]? := hx 3 _ rfl
    rw [cu] at h0 h1
    rw [ci] at h2
    rw [cq] at h3
    match xs, hxl' with
    | [x0, x1, x2, x3], _ =>
      obtain ⟨n0, e0, y0, _⟩ := DataW.trod_int Tryz.underlying5 (show DataW.trod (fun _ => ()) Tryz.prog w 0 (fun _ => true) false m 5 [v0] = some x0 from h0)
      obtain ⟨n1, e1, y1, _⟩ := DataW.trod_int Tryz.underlying5 (show DataW.trod (fun _ => ()) Tryz.prog w 0 (fun _ => true) false m 5 [v1] = some x1 from h1)
      obtain ⟨n2, e2, y2, _⟩ := DataW.trod_int Tryz.underlying3 (show DataW.trod (fun _ => ()) Tryz.prog w 0 (fun _ => true) false m 3 [v2] = some x2 from h2)
      obtain ⟨n3, e3, y3, _⟩ := DataW.trod_int Tryz.underlying23 (show DataW.trod (fun _ => ()) Tryz.prog w 0 (fun _ => true) false m 23 [v3] = some x3 from h3)
      subst y0 y1 y2 y3
      simp [rowD] at e e0 e1 e2 e3
      obtain ⟨⟨a0, a1, a2, a3⟩, _⟩ := e
      subst e0 e1 e2 e3
      unfold URow.cells
      rw [a0, a1, a2, a3]
set_option maxRecDepth 100000 in
theorem laid_rows {w : World} {fuel : Nat} {cs : List Value} {l : List URow} {p : List MemPlace} (h : DataW.trod (fun _ => ()) Tryz.prog w 0 (fun _ => true) false fuel 313 cs = some (.slice (l.map rowD) [], p)) (hl : 0 < len l) :
    ∃ tb tq rc, cs = [.slice (some ⟨tb, tq, none⟩) (len l) rc] ∧ URows w (some ⟨tb, tq, none⟩) l := by
  have hC : Tryz.prog.cellsOf 338 = 4 := by kernel_rfl
  rcases Go.Deep.open_slice Tryz.underlying313 h with ⟨_, hx⟩ | ⟨a, n, c, m, q, D, Pl, hcs, _, hln, hm, hmm, hx, hi⟩
  · simp at hx
  · simp only [Prod.mk.injEq, DataW.slice.injEq] at hx
    obtain ⟨⟨hD, _⟩, _⟩ := hx
    have hn : len l = n := by have := congrArg List.length hD; simpa [len] using this
    have hnm : n ≤ m := by rw [hmm]; simp; exact hln
    have each : ∀ i, i < len l → ∃ b off, a = ⟨b, off, none⟩ ∧ URowAt w b (off + i * 4) (unth l i) := fun i hil => by
      obtain ⟨cs', hc, htr⟩ := hi i (by omega)
      rw [hC] at hc
      obtain ⟨_, hcl, hat⟩ := World.cells?_some hc
      have hDi : D i = rowD (unth l i) := by
        have h1 : (l.map rowD)[i]? = ((List.range n).map D)[i]? := by rw [hD]
        have hil' : i < l.length := hil
        rw [List.getElem?_map, List.getElem?_map, List.getElem?_eq_getElem hil', List.getElem?_range (by omega)] at h1
        rw [unth_eq l i hil]
        exact (Option.some.inj h1).symm
      rw [hDi] at htr
      have hcs' := laid_row hcl htr
      obtain ⟨b, off, spot⟩ := a
      have hat0 := hat 0 (by decide)
      rw [hcs'] at hat
      have hspot : spot = none := by
        obtain ⟨cs0, hc0, htr0⟩ := hi 0 (by omega)
        rw [hC] at hc0
        obtain ⟨_, hcl0, hat0⟩ := World.cells?_some hc0
        have h1 := hat0 0 (by decide)
        have h2 : cs0[0]? = some (cs0[0]'(by omega)) := List.getElem?_eq_getElem (by omega)
        rw [h2] at h1
        simpa [Addr.add] using World.cell?_spot h1
      subst hspot
      have key : ∀ j, j < 4 → w.cell? ⟨b, off + i * 4 + j, none⟩ = (unth l i).cells[j]? := fun j hj => by
        have h1 := hat j hj
        rw [Go.Deep.add_add] at h1
        have e : (⟨b, off, none⟩ : Addr).add (i * 4 + j) = ⟨b, off + i * 4 + j, none⟩ := by
          unfold Addr.add; split
          · rename_i h0; simp <;> omega
          · simp [Nat.add_assoc]
        rw [e] at h1; exact h1
      exact ⟨b, off, rfl, key 0 (by decide), key 1 (by decide), key 2 (by decide), key 3 (by decide)⟩
    obtain ⟨b, off, rfl, _⟩ := each 0 hl
    refine ⟨b, off, c, by rw [hn]; exact hcs, fun i hil => ?_⟩
    obtain ⟨b', off', e, hR⟩ := each i hil
    cases e
    exact ⟨b, off, rfl, hR⟩
theorem tab_of {W : World} {nm : String} {g : Nat} {l : List URow} {cs : Array Value} {fuel : Nat} {p : List MemPlace} (hl : 0 < len l) (hg : Tryz.prog.globalNamed nm = some g) (hv : W.var? Tryz.prog nm = some cs)
    (h : DataW.trod (fun _ => ()) Tryz.prog W 0 (fun _ => true) false fuel 313 cs.toList = some (.slice (l.map rowD) [], p)) : TabAt W.heap.size W g l := by
  obtain ⟨tb, tq, rc, hcs, hr⟩ := laid_rows h hl
  have hc : W.cell? ⟨g, 0, none⟩ = some (.slice (some ⟨tb, tq, none⟩) (len l) rc) := by
    have := World.var?_cell hg hv 0
    rw [Array.eq_one_of_toList hcs] at this
    simpa using this
  obtain ⟨b', off', e, hR⟩ := hr 0 hl
  cases e
  exact ⟨tb, tq, rc, lt_of_cell hc, lt_of_cell hR.c0, Nat.le_refl _, hc, hr⟩
theorem oneRow : ((List.range Tryz.prog.types.size).filter fun t => Tryz.prog.rowNamed t [101, 114, 114, 111, 114]) = [59] := by kernel_rfl
end Go.Proofs.YtihiaopilnjonaaGreatDoor
namespace Go.Proofs.YtihiaopilnjonaaGreatDoor
open Go.RowKit Go.ChangeShapes Go.WideShapes Go.ChangeAt
def rowD5 (r : PRow) : DataW Unit := .agg [.lit (.int .u64 r.below), .lit (.int .u8 r.first), .lit (.int .i64 r.size)]
set_option maxRecDepth 100000 in
theorem laid_prow {w : World} {fuel : Nat} {cs' : List Value} {r : PRow} {q : List MemPlace} (hl : cs'.length = 3) (h : DataW.trod (fun _ => ()) Tryz.prog w 0 (fun _ => true) false fuel 332 cs' = some (rowD5 r, q)) : cs' = r.cells := by
  match cs', hl with
  | [v0, v1, v2], _ =>
    obtain ⟨xs, m, _, e, _, hxl, hx⟩ := DataW.trod_struct Tryz.underlying332 h
    have cu : Tryz.prog.cellsOf 5 = 1 := by kernel_rfl
    have ci : Tryz.prog.cellsOf 3 = 1 := by kernel_rfl
    have cq : Tryz.prog.cellsOf 23 = 1 := by kernel_rfl
    have hxl' : xs.length = 3 := hxl
    have h0 : DataW.trod (fun _ => ()) Tryz.prog w 0 (fun _ => true) false m 23 (([v0, v1, v2].drop 0).take (Tryz.prog.cellsOf 23)) = xs[0]? := hx 0 _ rfl
    have h1 : DataW.trod (fun _ => ()) Tryz.prog w 0 (fun _ => true) false m 5 (([v0, v1, v2].drop 1).take (Tryz.prog.cellsOf 5)) = xs[1]? := hx 1 _ rfl
    have h2 : DataW.trod (fun _ => ()) Tryz.prog w 0 (fun _ => true) false m 3 (([v0, v1, v2].drop 2).take (Tryz.prog.cellsOf 3)) = xs[2]? := hx 2 _ rfl
    rw [cq] at h0
    rw [cu] at h1
    rw [ci] at h2
    match xs, hxl' with
    | [x0, x1, x2], _ =>
      obtain ⟨n0, e0, y0, _⟩ := DataW.trod_int Tryz.underlying23 (show DataW.trod (fun _ => ()) Tryz.prog w 0 (fun _ => true) false m 23 [v0] = some x0 from h0)
      obtain ⟨n1, e1, y1, _⟩ := DataW.trod_int Tryz.underlying5 (show DataW.trod (fun _ => ()) Tryz.prog w 0 (fun _ => true) false m 5 [v1] = some x1 from h1)
      obtain ⟨n2, e2, y2, _⟩ := DataW.trod_int Tryz.underlying3 (show DataW.trod (fun _ => ()) Tryz.prog w 0 (fun _ => true) false m 3 [v2] = some x2 from h2)
      subst y0 y1 y2
      simp [rowD5] at e e0 e1 e2
      obtain ⟨⟨a0, a1, a2⟩, _⟩ := e
      subst e0 e1 e2
      unfold PRow.cells
      rw [a0, a1, a2]
set_option maxRecDepth 100000 in
theorem laid_prows {w : World} {fuel : Nat} {cs : List Value} {l : List PRow} {p : List MemPlace} (h : DataW.trod (fun _ => ()) Tryz.prog w 0 (fun _ => true) false fuel 334 cs = some (.slice (l.map rowD5) [], p)) (hl : 0 < len l) :
    ∃ tb tq rc, cs = [.slice (some ⟨tb, tq, none⟩) (len l) rc] ∧ PRows w (some ⟨tb, tq, none⟩) l := by
  have hC : Tryz.prog.cellsOf 332 = 3 := by kernel_rfl
  rcases Go.Deep.open_slice Tryz.underlying334 h with ⟨_, hx⟩ | ⟨a, n, c, m, q, D, Pl, hcs, _, hln, hm, hmm, hx, hi⟩
  · simp at hx
  · simp only [Prod.mk.injEq, DataW.slice.injEq] at hx
    obtain ⟨⟨hD, _⟩, _⟩ := hx
    have hn : len l = n := by have := congrArg List.length hD; simpa [len] using this
    have hnm : n ≤ m := by rw [hmm]; simp; exact hln
    have each : ∀ i, i < len l → ∃ b off, a = ⟨b, off, none⟩ ∧ PRowAt w b (off + i * 3) (prth l i) := fun i hil => by
      obtain ⟨cs', hc, htr⟩ := hi i (by omega)
      rw [hC] at hc
      obtain ⟨_, hcl, hat⟩ := World.cells?_some hc
      have hDi : D i = rowD5 (prth l i) := by
        have h1 : (l.map rowD5)[i]? = ((List.range n).map D)[i]? := by rw [hD]
        have hil' : i < l.length := hil
        rw [List.getElem?_map, List.getElem?_map, List.getElem?_eq_getElem hil', List.getElem?_range (by omega)] at h1
        rw [prth_eq l i hil]
        exact (Option.some.inj h1).symm
      rw [hDi] at htr
      have hcs' := laid_prow hcl htr
      obtain ⟨b, off, spot⟩ := a
      have hat0 := hat 0 (by decide)
      rw [hcs'] at hat
      have hspot : spot = none := by
        obtain ⟨cs0, hc0, htr0⟩ := hi 0 (by omega)
        rw [hC] at hc0
        obtain ⟨_, hcl0, hat0⟩ := World.cells?_some hc0
        have h1 := hat0 0 (by decide)
        have h2 : cs0[0]? = some (cs0[0]'(by omega)) := List.getElem?_eq_getElem (by omega)
        rw [h2] at h1
        simpa [Addr.add] using World.cell?_spot h1
      subst hspot
      have key : ∀ j, j < 3 → w.cell? ⟨b, off + i * 3 + j, none⟩ = (prth l i).cells[j]? := fun j hj => by
        have h1 := hat j hj
        rw [Go.Deep.add_add] at h1
        have e : (⟨b, off, none⟩ : Addr).add (i * 3 + j) = ⟨b, off + i * 3 + j, none⟩ := by
          unfold Addr.add; split
          · rename_i h0; simp <;> omega
          · simp [Nat.add_assoc]
        rw [e] at h1; exact h1
      exact ⟨b, off, rfl, key 0 (by decide), key 1 (by decide), key 2 (by decide)⟩
    obtain ⟨b, off, rfl, _⟩ := each 0 hl
    refine ⟨b, off, c, by rw [hn]; exact hcs, fun i hil => ?_⟩
    obtain ⟨b', off', e, hR⟩ := each i hil
    cases e
    exact ⟨b, off, rfl, hR⟩
def tabD5 : DataW Unit := .agg ([0, 1, 2, 3, 4].map fun k => .slice ((rowsP k).map rowD5) [])
set_option maxRecDepth 100000 in
theorem ptab_of {W : World} {g : Nat} {cs : Array Value} {fuel : Nat} {p : List MemPlace} (hgg : g = 4) (hg : Tryz.prog.globalNamed "sextant/pack.rows" = some g) (hv : W.var? Tryz.prog "sextant/pack.rows" = some cs)
    (h : DataW.trod (fun _ => ()) Tryz.prog W 0 (fun _ => true) false fuel 335 cs.toList = some (tabD5, p)) : PTab W.heap.size W := by
  obtain ⟨xs, m, _, e, hcl, hxl, hx⟩ := DataW.trod_array Tryz.underlying335 h
  have hC : Tryz.prog.cellsOf 334 = 1 := by kernel_rfl
  have hC5 : Tryz.prog.cellsOf 335 = 5 := by kernel_rfl
  rw [hC5] at hcl
  rw [hC] at hx
  have hd : tabD5 = .agg (xs.map (·.1)) := congrArg Prod.fst e
  unfold tabD5 at hd
  have hd2 : ([0, 1, 2, 3, 4].map fun k => (DataW.slice ((rowsP k).map rowD5) [] : DataW Unit)) = xs.map (·.1) := by injection hd
  subst hgg
  have key : ∀ k, k < 5 → ∃ tb tq rc, cs[k]? = some (.slice (some ⟨tb, tq, none⟩) (len (rowsP k)) rc) ∧ PRows W (some ⟨tb, tq, none⟩) (rowsP k) := fun k hk => by
    have hxk : k < xs.length := by omega
    have h1 := hx k hk
    rw [List.getElem?_eq_getElem hxk] at h1
    have h2 : (xs[k]'hxk).1 = .slice ((rowsP k).map rowD5) [] := by
      have h3 : (xs.map (·.1))[k]? = some (xs[k]'hxk).1 := by rw [List.getElem?_map, List.getElem?_eq_getElem hxk]; rfl
      rw [← hd2, List.getElem?_map] at h3
      have h4 : [0, 1, 2, 3, 4][k]? = some k := by
        have : k = 0 ∨ k = 1 ∨ k = 2 ∨ k = 3 ∨ k = 4 := by omega
        rcases this with rfl | rfl | rfl | rfl | rfl <;> rfl
      rw [h4] at h3
      exact (Option.some.inj h3).symm
    have h5 : DataW.trod (fun _ => ()) Tryz.prog W 0 (fun _ => true) false m 334 ((cs.toList.drop (k * 1)).take 1) = some (.slice ((rowsP k).map rowD5) [], (xs[k]'hxk).2) := by rw [h1, ← h2]
    obtain ⟨tb, tq, rc, hcs, hr⟩ := laid_prows h5 (rowsP_pos k)
    refine ⟨tb, tq, rc, ?_, hr⟩
    have h6 : ((cs.toList.drop (k * 1)).take 1)[0]? = some (.slice (some ⟨tb, tq, none⟩) (len (rowsP k)) rc) := by rw [hcs]; rfl
    rw [List.getElem?_take, if_pos (by decide), List.getElem?_drop] at h6
    simpa using h6
  have hlt : 4 < W.heap.size := by
    obtain ⟨tb, tq, rc, h1, h2⟩ := key 0 (by decide)
    have := World.var?_cell hg hv 0
    exact lt_of_cell (this.trans h1)
  refine ⟨hlt, Nat.le_refl _, fun k hk => ?_⟩
  obtain ⟨tb, tq, rc, h1, h2⟩ := key k hk
  refine ⟨tb, tq, rc, ?_, (World.var?_cell hg hv k).trans h1, h2⟩
  obtain ⟨b, off, e, hR⟩ := h2 0 (rowsP_pos k)
  cases e
  exact lt_of_cell hR.c0
end Go.Proofs.YtihiaopilnjonaaGreatDoor
namespace Go.Proofs.YtihiaopilnjonaaGreatDoor
open Go.RowKit Go.ChangeShapes Go.WideShapes Go.ChangeAt
set_option maxRecDepth 100000 in
theorem of_laidW {W : World} (h : laidMetH Tryz.prog Rows.wirePartsRow.laid W) : TE7 W.heap.size W := by
  have h' : laidMet Tryz.prog (Rows.wirePartsRow.laid.filter fun x => x.2.handleName?.isNone) W ∧ handlesMet Tryz.prog (Rows.wirePartsRow.laid.filter fun x => x.2.handleName?.isSome) W := h
  obtain ⟨⟨ps, ⟨gp, tp, csp, fp, pp, qp, hgp, htp, hvp, hdp, ⟨g0, t0, cs0, f0, p0, q0, hg0, ht0, hv0, hd0, ⟨g1, t1, cs1, f1, p1, q1, hg1, ht1, hv1, hd1, ⟨g2, t2, cs2, f2, p2, q2, hg2, ht2, hv2, hd2, ⟨g3, t3, cs3, f3, p3, q3, hg3, ht3, hv3, hd3, ⟨g4, t4, cs4, f4, p4, q4, hg4, ht4, hv4, hd4, _⟩, _⟩, _⟩, _⟩, _⟩, _⟩, _, _⟩, hH⟩ := h'
  obtain rfl : 4 = gp := Option.some.inj ((show _ = some 4 by kernel_rfl).symm.trans hgp)
  obtain rfl : 335 = tp := Option.some.inj ((show _ = some 335 by kernel_rfl).symm.trans htp)
  obtain rfl : 1 = g0 := Option.some.inj ((show _ = some 1 by kernel_rfl).symm.trans hg0)
  obtain rfl : 313 = t0 := Option.some.inj ((show _ = some 313 by kernel_rfl).symm.trans ht0)
  obtain rfl : 5 = g1 := Option.some.inj ((show _ = some 5 by kernel_rfl).symm.trans hg1)
  obtain rfl : 313 = t1 := Option.some.inj ((show _ = some 313 by kernel_rfl).symm.trans ht1)
  obtain rfl : 3 = g2 := Option.some.inj ((show _ = some 3 by kernel_rfl).symm.trans hg2)
  obtain rfl : 313 = t2 := Option.some.inj ((show _ = some 313 by kernel_rfl).symm.trans ht2)
  obtain rfl : 6 = g3 := Option.some.inj ((show _ = some 6 by kernel_rfl).symm.trans hg3)
  obtain rfl : 313 = t3 := Option.some.inj ((show _ = some 313 by kernel_rfl).symm.trans ht3)
  obtain rfl : 2 = g4 := Option.some.inj ((show _ = some 2 by kernel_rfl).symm.trans hg4)
  obtain rfl : 313 = t4 := Option.some.inj ((show _ = some 313 by kernel_rfl).symm.trans ht4)
  have hET : ErrType W := by
    obtain ⟨name, u, ty, e1, e2, e3, e4, e5⟩ := hH Rows.wirePartsRow.laid[1] (List.mem_singleton.2 rfl)
    have en : name = [101, 114, 114, 111, 114] := (Option.some.inj e1).symm
    subst en
    obtain rfl : 284 = u := Option.some.inj ((show _ = some 284 by kernel_rfl).symm.trans e2)
    have hm : ty ∈ (List.range Tryz.prog.types.size).filter fun t => Tryz.prog.rowNamed t [101, 114, 114, 111, 114] := List.mem_filter.2 ⟨List.mem_range.2 e3, e4⟩
    rw [oneRow] at hm
    obtain rfl := List.mem_singleton.1 hm
    have hg : Tryz.prog.globalNamed Rows.wirePartsRow.laid[1].1 = some 0 := (by kernel_rfl)
    exact World.var?_cell hg e5 0
  exact ⟨ptab_of rfl hgp hvp hdp, ⟨tab_of (by decide) hg0 hv0 hd0, tab_of (by decide) hg3 hv3 hd3, tab_of (by decide) hg1 hv1 hd1, tab_of (by decide) hg2 hv2 hd2, tab_of (by decide) hg4 hv4 hd4⟩, hET, Nat.le_refl _, lt_of_cell hET⟩
end Go.Proofs.YtihiaopilnjonaaGreatDoor

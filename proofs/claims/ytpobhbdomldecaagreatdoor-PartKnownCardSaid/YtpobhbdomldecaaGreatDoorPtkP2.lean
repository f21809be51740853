/- Parts of the proof, one behind the other. -/
import Derived.Test.YtpobhbdomldecaaGreatDoorPtkP1
import Derived.Lib.Strings
import Derived.Laws.BytesArg
import Derived.Laws.EntriesVeiled
import Derived.BigQuiet
import Derived.Laws.AppendOwnNone
import Derived.Carry
import Derived.Great.Walk
import Derived.Laws.AppendOwn
import Derived.Laws.MakeOwn
import Derived.IntWalk
import Derived.WalkMore
import Derived.Lib.ConvBytes
import Derived.Defers
import Derived.Recover
import Derived.LaidEql
import Derived.Stop.Asserts
import Derived.RowKitTokens
import Derived.Lib.AppendStr
namespace Go.Proofs.YtpobhbdomldecaaGreatDoor
open Go.RowKit
set_option linter.unusedSimpArgs false
set_option linter.unusedVariables false
theorem byV_eq (b : UInt8) : byV b = bV b := by
  unfold byV
  rw [← wI_bW]
theorem hshC_n (v : St8) (r : List UInt8) (n : Int) (h : r.length = 64) : (hshC v r n)[72]? = some (.int .u64 n) := by
  unfold hshC
  rw [List.getElem?_toArray, List.getElem?_append_right (by simp [stL, h])]
  simp [stL, h]
theorem hshC_setN (v : St8) (r : List UInt8) (n m : Int) (h : r.length = 64) : (hshC v r n).setIfInBounds 72 (.int .u64 m) = hshC v r m := by
  unfold hshC
  rw [List.setIfInBounds_toArray]
  congr 1
  rw [List.set_append_right _ _ (by simp [stL, h])]
  simp [stL, h]
theorem hshC_size (v : St8) (r : List UInt8) (n : Int) (h : r.length = 64) : (hshC v r n).size = 73 := by
  unfold hshC
  simp [stL, h]
theorem hshC_copy (v : St8) (r : List UInt8) (n : Int) (p k : Nat) (K : List UInt8) (hK : K.length = k) (hp : p + k ≤ 64) (h : r.length = 64) :
    ((hshC v r n).toList.take (8 + p) ++ K.map byV ++ (hshC v r n).toList.drop (8 + p + k)).toArray = hshC v (putR r p K) n := by
  have hw : ((stL v).map wV).length = 8 := rfl
  have e : (hshC v r n).toList = (stL v).map wV ++ (r.map bV ++ [Value.int .u64 n]) := by unfold hshC; simp
  have e1 : (hshC v r n).toList.take (8 + p) = (stL v).map wV ++ (r.take p).map bV := by
    rw [e, List.take_append, hw, List.take_of_length_le (by rw [hw]; omega), show 8 + p - 8 = p by omega, List.take_append_of_le_length (by rw [List.length_map]; omega), List.map_take]
  have e2 : (hshC v r n).toList.drop (8 + p + k) = (r.drop (p + k)).map bV ++ [Value.int .u64 n] := by
    rw [e, List.drop_append, hw, List.drop_eq_nil_of_le (by rw [hw]; omega), List.nil_append, show 8 + p + k - 8 = p + k by omega, List.drop_append_of_le_length (by rw [List.length_map]; omega), List.map_drop]
  have e3 : K.map byV = K.map bV := List.map_congr_left fun b _ => byV_eq b
  rw [e1, e2, e3]
  unfold hshC putR
  rw [hK]
  simp only [List.map_append, List.append_assoc]
def HshIs (b : Nat) (L : List UInt8) (w : World) : Prop := ∃ v r, HoldsT v r L ∧ w.heap[b]? = some (.cells (hshC v r (len L : Nat)) 250 (0, 0))
theorem HshIs.keep {b : Nat} {L : List UInt8} {w w' : World} (h : HshIs b L w) (hb : Below w.heap.size w w') : HshIs b L w' := by
  obtain ⟨v, r, h1, h2⟩ := h
  exact ⟨v, r, h1, (hb.block _ (lt_of_block h2)).trans h2⟩
theorem HshIs.lt {b : Nat} {L : List UInt8} {w : World} (h : HshIs b L w) : b < w.heap.size := by
  obtain ⟨v, r, h1, h2⟩ := h
  exact lt_of_block h2
theorem below_row (w : World) (g : Nat) (cs : Array Value) : ExtB (some g) w (w.setRow g cs) :=
  ⟨rfl, rfl, rfl, by simp [World.setRow], fun k hk hn => setRow_other w g k cs (fun e => hn (by rw [e]))⟩
theorem wpList_copy_hsh {w : World} {ops : Array Oper} {rest : List Oper} {o : Oper} {a : Act} {Q : Exit → Act → World → Prop} (hgd : o.guard = none) (d s : Operand)
    (ho : o.op = .call { callee := .builtin .copy, args := #[d, s], argTypes := #[41, 9] }) (hb p dCap : Nat) (X : ByteArray) (v : St8) (r : List UInt8) (n : Int) (hd : a.eval d = .slice (some ⟨hb, 8 + p, none⟩) (64 - p) dCap) (hs : a.eval s = .string X)
    (hg : w.heap[hb]? = some (.cells (hshC v r n) 250 (0, 0))) (hr : r.length = 64) (hp : p < 64) (k : Nat) (hk : min X.size (64 - p) = k)
    (h : ∀ U : World, Hid (U.heap[hb]? = some (.cells (hshC v (putR r p (X.data.toList.take k)) n) 250 (0, 0))) → Hid (ExtB (some hb) w U) → U.cell? ⟨hb, 72, none⟩ = some (.int .u64 n) → U.frozen? ⟨hb, 72, none⟩ = false → hb < U.heap.size → wpList Tryz.prog ops Q rest (a.put o.dst (.int .i64 (k : Nat))) U) : wpList Tryz.prog ops Q (o :: rest) a w := by
  have hkl : (X.data.toList.take k).length = k := by
    rw [List.length_take, Array.length_toList]
    have : X.data.size = X.size := rfl
    rw [this]
    omega
  have hkp : p + k ≤ 64 := by omega
  refine wpList_copy_str hgd d s 41 9 ho 5 Tryz.underlying41 (by kernel_rfl) hb (8 + p) (64 - p) dCap X hd hs (hshC v r n) _ hg k hk (by rw [hshC_size _ _ _ hr]; omega) ?_
  rw [hshC_copy v r n p k _ hkl hkp hr]
  have hb2 : (w.setRow hb (hshC v (putR r p (X.data.toList.take k)) n)).heap[hb]? = some (.cells (hshC v (putR r p (X.data.toList.take k)) n) 250 (0, 0)) := setRow_heap w hb _ _ _ _ hg
  exact h _ (Lib.hid hb2) (Lib.hid (below_row _ _ _)) (by rw [block_cell hb2, hshC_n _ _ _ (by rw [putR_len _ _ _ (by rw [hkl, hr]; exact hkp)]; exact hr)]) (block_free hb2 72) (lt_of_block hb2)
theorem HshIs.intro {b : Nat} {L : List UInt8} {w : World} {v : St8} {r : List UInt8} (h : HoldsT v r L) {n : Int} (hn : n = (len L : Nat)) (hc : w.heap[b]? = some (.cells (hshC v r n) 250 (0, 0))) : HshIs b L w := ⟨v, r, h, by rw [← hn]; exact hc⟩
set_option maxRecDepth 100000 in
set_option maxHeartbeats 4000000 in
theorem write_any (hb : Nat) (L : List UInt8) (s : ByteArray) (w : World) (h : HshIs hb L w) (hl : len L + s.size ≤ 4611686018427387904) :
    Calls Tryz.prog 159 #[.pointer (some ⟨hb, 0, none⟩), .string s] w fun e w' => e = .returned (.tuple #[]) ∧ ExtB (some hb) w w' ∧ HshIs hb (L ++ s.data.toList) w' := by
  have H := Lib.hid h
  have HL := Lib.hid hl
  clear h hl
  go_enter Tryz.func159, Tryz.ntmps159
  go_wp2
  go_loopg [1, 4, 5] s.size (fun g x _ _ wr => ∃ (X : ByteArray) (D : List UInt8), x = .string X ∧ X.size = g ∧ Hid (s.data.toList = D ++ X.data.toList) ∧ Hid (HshIs hb (L ++ D) wr) ∧ Hid (ExtB (some hb) w wr))
  case atStart => exact ⟨s, [], rfl, rfl, Lib.hid rfl, Lib.hid (by rw [List.append_nil]; exact H.out), Lib.hid (ExtB_refl _ _)⟩
  case round =>
    obtain ⟨X, D, rfl, hX, HS, HH, HE⟩ := hrel
    by_cases hx : X.size = 0
    · have i1 : ¬ (0 : Int) < (X.size : Int) := by omega
      have HD : Hid (s.data.toList = D) := Lib.hid (by rw [HS.out, show X.data.toList = [] from List.eq_nil_of_length_eq_zero (by rw [Array.length_toList]; exact hx), List.append_nil])
      clear hX hx
      go_wp2
      go_end0
      exact ⟨rfl, HE.out, by rw [HD.out]; exact HH.out⟩
    · have i1 : (0 : Int) < (X.size : Int) := by omega
      obtain ⟨v, r, hT, hc⟩ := HH.out
      have HT := Lib.hid hT
      obtain ⟨n, hn⟩ : ∃ n, len (L ++ D) = n := ⟨_, rfl⟩
      have HN := Lib.hid hn
      rw [hn] at hc
      have HNB : Hid (n + X.size ≤ 4611686018427387904) := Lib.hid (by
        have h1 := HL.out
        have h2 : s.size = D.length + X.size := by
          have := congrArg List.length HS.out
          rw [List.length_append, Array.length_toList, Array.length_toList] at this
          exact this
        rw [← hn, len_eq, List.length_append]
        rw [len_eq] at h1
        omega)
      have HX0 := Lib.hid hx
      have HXG := Lib.hid hX
      obtain ⟨W, hW⟩ : ∃ W, wr = W := ⟨_, rfl⟩
      rw [hW] at hc HH HE ⊢
      have HC := Lib.hid hc
      have c72 : W.cell? ⟨hb, 72, none⟩ = some (.int .u64 n) := by rw [block_cell hc, hshC_n _ _ _ hT.rest]
      clear hW hn hX hc hx hT
      go_upto_region 3 with fail
      obtain ⟨p, hp⟩ : ∃ p : Nat, n % 64 = p := ⟨_, rfl⟩
      have hp6 : p < 64 := by omega
      rw [show ((n : Int) % 64) = ((p : Nat) : Int) by omega]
      obtain ⟨k, hk⟩ : ∃ k : Nat, min X.size (64 - p) = k := ⟨_, rfl⟩
      have HP := Lib.hid hp
      have HK := Lib.hid hk
      have p1 : ¬ (64 : Int) ≤ (p : Int) := by omega
      have p2 : ¬ (64 : Int) < (p : Int) := by omega
      have p3 : ¬ 64 = p := by omega
      have k1 : ¬ (X.size : Int) < (k : Int) := by omega
      clear hp hk c72
      go_upto_region 4 with (refine wpList_copy_hsh (o := ⟨some 22, _, _, _, _, _⟩) ?_ (.tmp 20) (.tmp 21) ?_ hb p (64 - p) X v r n ?_ ?_ HC.out HT.out.rest hp6 k HK.out ?_; rfl; rfl; rotate_left 2; intro U HU HEU cU fU lU)
      rotate_left 1
      · rfl
      · rfl
      have hnb := HNB.out
      have hx0 := HX0.out
      have hkk := HK.out
      have wk : IntKind.u64.wrap (k : Int) = (k : Int) := IntWalk.u64_in _ (by omega)
      have wn : IntKind.u64.wrap ((n : Int) + (k : Int)) = (n : Int) + (k : Int) := IntWalk.u64_in _ (by omega)
      clear hnb hx0 hkk
      go_upto_region 6 with fail
      obtain ⟨m, hm⟩ : ∃ m : Nat, n + k = m := ⟨_, rfl⟩
      rw [show (n : Int) + (k : Int) = ((m : Nat) : Int) by omega]
      obtain ⟨V, hV⟩ : ∃ V, U.setCell ⟨hb, 72, none⟩ (.int .u64 (m : Nat)) = V := ⟨_, rfl⟩
      rw [hV]
      obtain ⟨r2, hr2⟩ : ∃ r2, putR r p (X.data.toList.take k) = r2 := ⟨_, rfl⟩
      rw [hr2] at HU
      have hkl : (X.data.toList.take k).length = k := by
        rw [List.length_take, Array.length_toList]
        have h1 : X.data.size = X.size := rfl
        have h2 := HK.out
        rw [h1]
        omega
      have hr2l : r2.length = 64 := by
        rw [← hr2, putR_len _ _ _ (by have := HT.out.rest; have := HK.out; omega)]
        exact HT.out.rest
      have HVB : Hid (V.heap[hb]? = some (.cells (hshC v r2 (m : Nat)) 250 (0, 0))) := Lib.hid (by
        rw [← hV]
        have := block_setCell HU.out (o := 72) (.int .u64 (m : Nat))
        rw [hshC_setN _ _ _ _ hr2l] at this
        exact this)
      have HVE : Hid (ExtB (some hb) w V) := Lib.hid (by rw [← hV]; exact extB_setI2 (ExtB_trans _ _ _ _ HE.out HEU.out) _ _)
      have c72 : V.cell? ⟨hb, 72, none⟩ = some (.int .u64 (m : Nat)) := by rw [block_cell HVB.out, hshC_n _ _ _ hr2l]
      have lV : hb < V.heap.size := lt_of_block HVB.out
      have HKL := Lib.hid hkl
      have HM := Lib.hid hm
      have HR2 := Lib.hid hr2
      have HRL := Lib.hid hr2l
      have hk0 : 0 < k := by have := HX0.out; have := HK.out; omega
      have HK0 := Lib.hid hk0
      have HD2 : Hid (len (L ++ (D ++ X.data.toList.take k)) = m ∧ s.data.toList = (D ++ X.data.toList.take k) ++ (X.extract k X.size).data.toList ∧ (X.extract k X.size).size = X.size - k) := Lib.hid (by
        have hkx : k ≤ X.size := by have := HK.out; omega
        refine ⟨?_, ?_, by rw [ByteArray.size_extract]; omega⟩
        · rw [len_eq, ← List.append_assoc, List.length_append, hkl]
          have := HN.out
          rw [len_eq] at this
          omega
        · rw [HS.out, Lib.extract_data, List.append_assoc]
          congr 1
          have h9 : (X.data.toList.drop k).take (X.size - k) = X.data.toList.drop k := List.take_of_length_le (by rw [List.length_drop, Array.length_toList]; exact Nat.le_refl _)
          rw [h9, List.take_append_drop])
      clear wk wn hV hr2 hkl hr2l hm cU fU lU k1 p1 p2 p3 hk0
      by_cases hq : m % 64 = 0
      · have q1 : ((m : Nat) : Int) % 64 = 0 := by omega
        have HQ := Lib.hid hq
        clear hq
        go_upto_region 7 with fail
        have HIN := Lib.hid (fun (wv : World) (hb9 : Below V.heap.size V wv) => in_any hb v r2 (m : Nat) wv HRL.out ((hb9.block _ lV).trans HVB.out))
        refine wp_region_all 7 (some hb) (phis [fun u _ => u = (.pointer (some ⟨hb, 0, none⟩)), fun u _ => u = (.pointer (some ⟨hb, 0, none⟩)), fun u _ => u = (.pointer (some ⟨hb, 0, none⟩)), fun u _ => u = (.pointer (some ⟨hb, 0, none⟩)), fun u _ => u = (.pointer (some ⟨hb, 0, none⟩)), fun u _ => u = (.pointer (some ⟨hb, 8, none⟩)), fun u _ => u = (.slice (some ⟨hb, 8, none⟩) 64 64), fun u w' => u = .tuple #[] ∧ w'.heap[hb]? = some (.cells (hshC (pressW v r2) r2 (m : Nat)) 250 (0, 0))]) rfl (by kernel_rfl) (mono_of ⟨mono_eq, mono_eq, mono_eq, mono_eq, mono_eq, mono_eq, mono_eq, ?m7, trivial⟩) (steps_of 8 ⟨?s0, ?s1, ?s2, ?s3, ?s4, ?s5, ?s6, ?s7, trivial⟩) ?_
        case m7 =>
          exact ⟨fun u w1 w2 h ⟨h1, h2⟩ => ⟨h1, (h.block _ (lt_of_block h2)).trans h2⟩, fun hn => absurd rfl hn⟩
        case s0 =>
          refine step_val (v := (.pointer (some ⟨hb, 0, none⟩))) (fun av wv hE hS hO hD => ?_) (fun _ => rfl)
          have h0 : av.eval (.tmp 0) = (.pointer (some ⟨hb, 0, none⟩)) := hO.2.2 0 rfl
          have f0 := (ev_form av 0).symm.trans h0
          refine ⟨rfl, ?_⟩
          simp [go_sem, f0]
        case s1 =>
          refine step_val (v := (.pointer (some ⟨hb, 0, none⟩))) (fun av wv hE hS hO hD => ?_) (fun _ => rfl)
          have d41 : av.eval (.tmp 41) = (.pointer (some ⟨hb, 0, none⟩)) := hD.1 rfl _ rfl
          have f41 := (ev_form av 41).symm.trans d41
          refine ⟨rfl, ?_⟩
          simp [go_sem, f41]
        case s2 =>
          refine step_val (v := (.pointer (some ⟨hb, 0, none⟩))) (fun av wv hE hS hO hD => ?_) (fun _ => rfl)
          have d42 : av.eval (.tmp 42) = (.pointer (some ⟨hb, 0, none⟩)) := hD.1 rfl _ rfl
          have f42 := (ev_form av 42).symm.trans d42
          refine ⟨rfl, ?_⟩
          simp [go_sem, f42]
        case s3 =>
          refine step_val (v := (.pointer (some ⟨hb, 0, none⟩))) (fun av wv hE hS hO hD => ?_) (fun _ => rfl)
          have h0 : av.eval (.tmp 0) = (.pointer (some ⟨hb, 0, none⟩)) := hO.2.2 0 rfl
          have f0 := (ev_form av 0).symm.trans h0
          refine ⟨rfl, ?_⟩
          simp [go_sem, f0]
        case s4 =>
          refine step_val (v := (.pointer (some ⟨hb, 0, none⟩))) (fun av wv hE hS hO hD => ?_) (fun _ => rfl)
          have d44 : av.eval (.tmp 44) = (.pointer (some ⟨hb, 0, none⟩)) := hD.1 rfl _ rfl
          have f44 := (ev_form av 44).symm.trans d44
          refine ⟨rfl, ?_⟩
          simp [go_sem, f44]
        case s5 =>
          refine step_val (v := (.pointer (some ⟨hb, 8, none⟩))) (fun av wv hE hS hO hD => ?_) (fun _ => rfl)
          have d45 : av.eval (.tmp 45) = (.pointer (some ⟨hb, 0, none⟩)) := hD.1 rfl _ rfl
          have f45 := (ev_form av 45).symm.trans d45
          refine ⟨rfl, ?_⟩
          simp [go_sem, f45]
        case s6 =>
          refine step_val (v := (.slice (some ⟨hb, 8, none⟩) 64 64)) (fun av wv hE hS hO hD => ?_) (fun _ => rfl)
          have d46 : av.eval (.tmp 46) = (.pointer (some ⟨hb, 8, none⟩)) := hD.1 rfl _ rfl
          have f46 := (ev_form av 46).symm.trans d46
          refine ⟨rfl, ?_⟩
          simp [go_sem, f46]
        case s7 =>
          refine step_wp (fun av wv hE hS hO hD => ?_)
          have d43 : av.eval (.tmp 43) = (.pointer (some ⟨hb, 0, none⟩)) := hD.1 rfl _ rfl
          have f43 := (ev_form av 43).symm.trans d43
          have d47 : av.eval (.tmp 47) = (.slice (some ⟨hb, 8, none⟩) 64 64) := hD.2.1 rfl _ rfl
          have f47 := (ev_form av 47).symm.trans d47
          refine ⟨rfl, ?_⟩
          refine wp_of_callV (R := fun u w2 => u = .tuple #[] ∧ ExtB (some hb) wv w2 ∧ w2.heap[hb]? = some (.cells (hshC (pressW v r2) r2 (m : Nat)) 250 (0, 0))) (f := 220) (args := #[.pointer (some ⟨hb, 0, none⟩), .slice (some ⟨hb, 8, none⟩) 64 64]) (by simp [go_sem, f43, f47]) ((HIN.out wv (bnext (bdrew (Below.refl _ _)) (hS rfl))).mono (fun e w2 ⟨h1, h2, h3⟩ => ⟨_, h1, rfl, h2, h3⟩)) (fun u w2 ⟨h1, h2, h3⟩ => ⟨_, rfl, es_sp h2, h1, h3⟩)
        intro a' w' hE hO hall
        have hA := act_of_outer (ds := [41, 42, 43, 44, 45, 46, 47, 48]) rfl hO (by kernel_rfl)
        have e41 : (fun u _ => u = (.pointer (some ⟨hb, 0, none⟩))) (a'.eval (.tmp 41)) w' := hall.1 _ rfl
        have e42 : (fun u _ => u = (.pointer (some ⟨hb, 0, none⟩))) (a'.eval (.tmp 42)) w' := hall.2.1 _ rfl
        have e43 : (fun u _ => u = (.pointer (some ⟨hb, 0, none⟩))) (a'.eval (.tmp 43)) w' := hall.2.2.1 _ rfl
        have e44 : (fun u _ => u = (.pointer (some ⟨hb, 0, none⟩))) (a'.eval (.tmp 44)) w' := hall.2.2.2.1 _ rfl
        have e45 : (fun u _ => u = (.pointer (some ⟨hb, 0, none⟩))) (a'.eval (.tmp 45)) w' := hall.2.2.2.2.1 _ rfl
        have e46 : (fun u _ => u = (.pointer (some ⟨hb, 8, none⟩))) (a'.eval (.tmp 46)) w' := hall.2.2.2.2.2.1 _ rfl
        have e47 : (fun u _ => u = (.slice (some ⟨hb, 8, none⟩) 64 64)) (a'.eval (.tmp 47)) w' := hall.2.2.2.2.2.2.1 _ rfl
        have e48 : (fun u w' => u = .tuple #[] ∧ w'.heap[hb]? = some (.cells (hshC (pressW v r2) r2 (m : Nat)) 250 (0, 0))) (a'.eval (.tmp 48)) w' := hall.2.2.2.2.2.2.2.1 _ rfl
        obtain ⟨v48, hv48⟩ : ∃ v, a'.eval (.tmp 48) = v := ⟨_, rfl⟩
        rw [hv48] at e48
        simp only [List.foldl_cons, List.foldl_nil, Act.put, List.setIfInBounds_toArray, List.set_cons_succ, List.set_cons_zero, e41, e42, e43, e44, e45, e46, e47, hv48] at hA
        clear hO hall e41 e42 e43 e44 e45 e46 e47 hv48
        subst hA
        obtain ⟨_, h48⟩ := e48
        have HB9 := Lib.hid h48
        have HE9 : Hid (ExtB (some hb) w w') := Lib.hid (ExtB_trans _ _ _ _ HVE.out (ExtB_trans _ _ _ _ (extB_of_below (bdrew (Below.refl _ _))) hE))
        have HT2 : Hid (HoldsT (pressW v r2) r2 (L ++ (D ++ X.data.toList.take k))) := Lib.hid (by
          have hn := HN.out
          have hp := HP.out
          rw [len_eq] at hn
          have h1 := HT.out.full (k := X.data.toList.take k) (by rw [hn, hp, HKL.out]; have := HK.out; omega) (by rw [HKL.out]; exact HK0.out) (by rw [hn, HKL.out, HM.out]; exact HQ.out)
          rw [hn, hp, HR2.out, List.append_assoc] at h1
          exact h1)
        clear h48 hE
        go_wp2
        go_roundg (X.size - k)
        case rel => exact ⟨X.extract k X.size, D ++ X.data.toList.take k, rfl, HD2.out.2.2, Lib.hid HD2.out.2.1, Lib.hid (HshIs.intro HT2.out (by rw [HD2.out.1]) HB9.out), HE9⟩
        case measure => have := HX0.out; have := HK0.out; have := HXG.out; omega
      · have q1 : ¬ ((m : Nat) : Int) % 64 = 0 := by omega
        have HQ := Lib.hid hq
        have HT2 : Hid (HoldsT v r2 (L ++ (D ++ X.data.toList.take k))) := Lib.hid (by
          have hn := HN.out
          have hp := HP.out
          rw [len_eq] at hn
          have h1 := HT.out.more (k := X.data.toList.take k) (by rw [hn, hp, HKL.out]; have := HK.out; omega) (by rw [HKL.out]; exact HK0.out) (by rw [hn, HKL.out, HM.out]; exact HQ.out)
          rw [hn, hp, HR2.out, List.append_assoc] at h1
          exact h1)
        clear hq
        go_wp2
        go_roundg (X.size - k)
        case rel => exact ⟨X.extract k X.size, D ++ X.data.toList.take k, rfl, HD2.out.2.2, Lib.hid HD2.out.2.1, Lib.hid (HshIs.intro HT2.out (by rw [HD2.out.1]) HVB.out), HVE⟩
        case measure => have := HX0.out; have := HK0.out; have := HXG.out; omega
end Go.Proofs.YtpobhbdomldecaaGreatDoor
namespace Go.Proofs.YtpobhbdomldecaaGreatDoor
open Go.RowKit
set_option linter.unusedSimpArgs false
set_option linter.unusedVariables false
theorem nums_str (L : List UInt8) : strOfNums (L.map fun b => (b.toNat : Int)) = ⟨L.toArray⟩ := by
  have h : (strOfNums (L.map fun b => (b.toNat : Int))).data.toList = L := by
    rw [strOfNums_data, List.map_map]
    conv => rhs; rw [← List.map_id L]
    refine List.map_congr_left fun x _ => ?_
    simp
  exact ByteArray.ext (Array.ext' (by rw [h]))
theorem conv_block (w : World) (g off cap n : Nat) (L : List UInt8) (hn : L.length = n) (hc : ∀ i, i < n → w.cell? ⟨g, off + i, none⟩ = some (byV (L.getD i 0))) :
    (convert 41 9 (.slice (some ⟨g, off, none⟩) n cap)).run Tryz.prog w = .ok (.string ⟨L.toArray⟩) w := by
  have h := run_convert_bytes_arg (P := Tryz.prog) (w := w) 41 5 Tryz.underlying41 Tryz.underlying5 g off n cap (L.map fun b => (b.toNat : Int)) (by rw [List.length_map, hn]) (fun i hi => by
    rw [hc i hi]
    have hi2 : i < L.length := by omega
    unfold byV
    rw [List.getD_eq_getElem?_getD, List.getElem?_eq_getElem hi2, List.getD_eq_getElem?_getD, List.getElem?_map, List.getElem?_eq_getElem hi2]; rfl) 9 Tryz.underlying9
  rw [nums_str] at h
  exact h
theorem conv_new (w : World) (t : TypeId) (cap n : Nat) (L : List UInt8) (hn : L.length = n) : (convert 41 9 (.slice (some ⟨w.heap.size, 0, none⟩) n cap)).run Tryz.prog (w.alloc (.cells (L.map byV).toArray t)) = .ok (.string ⟨L.toArray⟩) (w.alloc (.cells (L.map byV).toArray t)) := by
  refine conv_block _ _ _ _ _ L hn fun i hi => ?_
  have hb : (w.alloc (.cells (L.map byV).toArray t)).heap[w.heap.size]? = some (.cells (L.map byV).toArray t (0, 0)) := alloc_new_at _ rfl
  have hi2 : i < L.length := by omega
  rw [block_cell hb, Nat.zero_add, List.getElem?_toArray, List.getElem?_map, List.getElem?_eq_getElem hi2, List.getD_eq_getElem?_getD, List.getElem?_eq_getElem hi2]
  rfl
theorem conv_own {w : World} {base n : Nat} {v : Value} {L : List UInt8} (h : w.ownsRow base 5 1 v n (L.map byV)) (hn : L.length = n) (h0 : 0 < n) : (convert 41 9 v).run Tryz.prog w = .ok (.string ⟨L.toArray⟩) w := by
  rcases h.2 with ⟨rfl, h1⟩ | ⟨g, cap, cur, rfl, _, _, _, _, _, _⟩
  · omega
  · refine conv_block _ _ _ _ _ L hn fun i hi => ?_
    have h2 := h.cellAt i (by omega)
    have hi2 : i < L.length := by omega
    rw [Nat.zero_add, h2, List.getElem?_map, List.getElem?_eq_getElem hi2, List.getD_eq_getElem?_getD, List.getElem?_eq_getElem hi2]
    rfl
end Go.Proofs.YtpobhbdomldecaaGreatDoor
namespace Go.Proofs.YtpobhbdomldecaaGreatDoor
open Go.RowKit
set_option linter.unusedSimpArgs false
set_option linter.unusedVariables false
def filB (K : List UInt8) (k m : Nat) : List UInt8 := K.take m ++ List.replicate (k - m) 0
def filC (K : List UInt8) (k m : Nat) : Array Value := ((filB K k m).map byV).toArray
theorem filC_at (K : List UInt8) (k m : Nat) (h : m < k) (hk : K.length = k) : (filC K k m)[m]? = some (byV 0) := by
  unfold filC filB
  rw [List.getElem?_toArray, List.getElem?_map, List.getElem?_append_right (by rw [List.length_take]; omega), List.length_take, show m - min m K.length = 0 by omega]
  rw [show k - m = (k - m - 1) + 1 by omega, List.replicate_succ]
  rfl
theorem filC_set (K : List UInt8) (k m : Nat) (h : m < k) (hk : K.length = k) : (filC K k m).setIfInBounds m (byV (K.getD m 0)) = filC K k (m + 1) := by
  unfold filC filB
  rw [List.setIfInBounds_toArray, ← List.map_set]
  congr 2
  rw [List.set_append_right _ _ (by rw [List.length_take]; omega), List.length_take, show m - min m K.length = 0 by omega]
  rw [show k - m = (k - (m + 1)) + 1 by omega, List.replicate_succ, List.set_cons_zero, List.take_succ_eq_append_getElem (by omega), List.append_assoc]
  congr 1
  rw [List.getD_eq_getElem?_getD, List.getElem?_eq_getElem (by omega)]
  rfl
theorem filC_all (K : List UInt8) (k : Nat) (hk : K.length = k) : filC K k k = (K.map byV).toArray := by
  unfold filC filB
  rw [Nat.sub_self, List.replicate_zero, List.append_nil, ← hk, List.take_length]
theorem num8_byte (N m : Nat) (h : m < 8) : Value.int .u8 ((N : Int) / 2 ^ (8 * (7 - m)) % 256) = byV ((num8 N).getD m 0) := by
  have h1 : (num8 N).getD m 0 = UInt8.ofNat (N / 256 ^ (7 - m)) := by
    rw [List.getD_eq_getElem?_getD, num8_get N m h]; rfl
  rw [h1]
  unfold byV
  congr 1
  rw [UInt8.toNat_ofNat', show (2 : Int) ^ (8 * (7 - m)) = ((256 ^ (7 - m) : Nat) : Int) by rw [Int.pow_mul]; simp]
  simp
theorem byV_block {w : World} {b : Nat} {L : List UInt8} {t : TypeId} {fr : Nat × Nat} (h : w.heap[b]? = some (.cells (L.map byV).toArray t fr)) (i : Nat) (hi : i < L.length) : w.cell? ⟨b, 0 + i, none⟩ = some (byV (L.getD i 0)) := by
  rw [block_cell h, Nat.zero_add, List.getElem?_toArray, List.getElem?_map, List.getElem?_eq_getElem hi, List.getD_eq_getElem?_getD, List.getElem?_eq_getElem hi]
  rfl
theorem word4_vals (x : W32) : [Value.int .u8 (wI x / 16777216 % 256), .int .u8 (wI x / 65536 % 256), .int .u8 (wI x / 256 % 256), .int .u8 (wI x % 256)] = (word4 x).map byV := by
  unfold word4 byV wI
  simp [UInt8.toNat_ofNat']
theorem outW_snoc (v : St8) (t : Nat) (h : t < 8) : (((stL v).take (t + 1)).map word4).flatten = (((stL v).take t).map word4).flatten ++ word4 (wth (stL v) t) := by
  rw [List.take_succ_eq_append_getElem h, List.map_append, List.flatten_append, wth_eq _ _ h]
  simp
theorem outW_eq (v : St8) : ((stL v).map word4).flatten = outW v := by
  unfold stL outW
  simp
end Go.Proofs.YtpobhbdomldecaaGreatDoor
namespace Go.Proofs.YtpobhbdomldecaaGreatDoor
open Go.RowKit
set_option linter.unusedSimpArgs false
set_option linter.unusedVariables false
def zero8 : List W32 := List.replicate 8 0
set_option maxRecDepth 100000 in
set_option maxHeartbeats 4000000 in
theorem first_any (w : World) : Calls Tryz.prog 219 #[] w fun e w' => e = .returned (.agg (wsC (stL st0))) ∧ Below w.heap.size w w' := by
  go_enter Tryz.func219, Tryz.ntmps219
  go_upto_region 1 with fail
  obtain ⟨b, hb⟩ : ∃ b, w.heap.size = b := ⟨_, rfl⟩
  show Code.wp _ _ _ _ (w.alloc (.cells (wsC zero8) 246))
  obtain ⟨V, hV⟩ : ∃ V, w.alloc (.cells (wsC zero8) 246) = V := ⟨_, rfl⟩
  have HV : Hid (V.heap[b]? = some (.cells (wsC zero8) 246 (0, 0))) := Lib.hid (by rw [← hV, ← hb]; exact heap_alloc_new _ _)
  have HS : Hid (Below w.heap.size w V) := Lib.hid (by rw [← hV]; exact balloc (Below.refl _ _) _)
  have HBW : Hid (w.heap.size ≤ b) := Lib.hid (Nat.le_of_eq hb)
  rw [hV, hb]
  clear hV hb
  apply wp_region_lit
  refine wpList_build rfl 246 _ rfl (by as_aux_lemma => kernel_rfl) ?_
  refine wpList_store_row rfl 246 _ _ rfl b (wsC (stL st0)) rfl (by as_aux_lemma => kernel_rfl) 246 (wsC zero8) HV.out (by as_aux_lemma => kernel_rfl) (by as_aux_lemma => kernel_rfl) (by as_aux_lemma => kernel_rfl) ?_
  apply wpList_nil
  obtain ⟨U, hU⟩ : ∃ U, V.setRow b (wsC (stL st0)) = U := ⟨_, rfl⟩
  have HU : Hid (U.heap[b]? = some (.cells (wsC (stL st0)) 246 (0, 0))) := Lib.hid (by rw [← hU]; exact setRow_heap V b _ _ _ _ HV.out)
  have HUB : Hid (Below w.heap.size w U) := Lib.hid (by
    rw [← hU]
    exact ⟨HS.out.os, HS.out.tape, HS.out.output, by rw [setRow_size]; exact HS.out.size, fun i hi => by rw [setRow_other _ _ _ _ (show i ≠ b by have := HBW.out; omega)]; exact HS.out.block i hi⟩)
  rw [hU]
  rename_i Q' K hK
  refine hK _ _ ?_
  apply wp_ret
  refine bodyPost_ret (v := .agg (wsC (stL st0))) ?_ rfl ?_
  · exact results_cell_row rfl _ _ b 246 (wsC (stL st0)) (0, 0) _ rfl HU.out rfl rfl (by as_aux_lemma => kernel_rfl)
  · exact ⟨rfl, HUB.out⟩
def zero64 : List UInt8 := List.replicate 64 0
set_option maxRecDepth 100000 in
theorem built_hsh : Tryz.prog.built 250 [(0, .agg (wsC (stL st0)))] = some (hshC st0 zero64 ((0 : Nat) : Int)) := by kernel_rfl
def NewIsH (w : World) (e : Ending) (w' : World) : Prop := ∃ b, e = .returned (.pointer (some ⟨b, 0, none⟩)) ∧ w.heap.size ≤ b ∧ HshIs b [] w' ∧ Below w.heap.size w w'
theorem zero64_len : zero64.length = 64 := by unfold zero64; rw [List.length_replicate]
set_option maxRecDepth 100000 in
set_option maxHeartbeats 4000000 in
theorem hnew_any (w : World) : Calls Tryz.prog 158 #[] w (NewIsH w) := by
  have HB := Lib.hid built_hsh
  have HF := Lib.hid first_any
  go_enter Tryz.func158, Tryz.ntmps158
  go_upto_region 1 with fail
  go_wp2_with fail
  refine (HF.out _).mono ?_
  rintro e w2 ⟨rfl, hb2⟩
  have HB2 := Lib.hid hb2
  clear hb2
  have hA : wsC (stL st0) = #[.int .u32 1779033703, .int .u32 3144134277, .int .u32 1013904242, .int .u32 2773480762, .int .u32 1359893119, .int .u32 2600822924, .int .u32 528734635, .int .u32 1541459225] := by kernel_rfl
  rw [hA]
  clear hA
  go_wp2
  go_ret
  refine ⟨w2.heap.size, rfl, HB2.out.size, ⟨st0, zero64, HoldsT.start _ zero64_len, (heap_alloc_new _ _).trans ?_⟩, balloc HB2.out _⟩
  kernel_rfl
theorem info_b8 : (Tryz.prog.info? 5).map (fun i => (i.zero, i.size, i.bytes)) = some (some (.int .u8 0), 1, 1) := by kernel_rfl
theorem index_8 (v : St8) (t : Nat) (h : t < 8) (w : World) : (Instr.index 246 (.agg (wsC (stL v))) (.int .i64 (t : Int))).run Tryz.prog w = .ok (.int .u32 (wI (wth (stL v) t))) w := by
  have hk : (wsC (stL v))[t]? = some (wV (wth (stL v) t)) := wsC_at (stL v) t h
  have hs : (wsC (stL v)).size = 8 := rfl
  generalize wsC (stL v) = KC at hk hs
  have b : ¬ (8 : Int) ≤ (t : Int) := by omega
  have b2 : ¬ (t : Int) < 0 := by omega
  unfold Instr.index
  simp [go_sem, hk, hs, b, b2]
  intro h9
  omega
theorem HshIs.count {b : Nat} {L : List UInt8} {w : World} (h : HshIs b L w) {n : Nat} (hn : len L = n) : w.cell? ⟨b, 72, none⟩ = some (.int .u64 (n : Nat)) := by
  obtain ⟨v, r, h1, h2⟩ := h
  rw [block_cell h2, hshC_n _ _ _ h1.rest, hn]
theorem below_own {B : Nat} {row : Nat} {w V w2 : World} (h1 : Below B w V) (hr : B ≤ row) (hB : B ≤ V.heap.size) (h2 : ExtB (some row) V w2) : Below B w w2 :=
  ⟨h2.os.trans h1.os, h2.tape.trans h1.tape, h2.output.trans h1.output, Nat.le_trans h1.size h2.size, fun i hi => (h2.block i (by omega) (by simp; omega)).trans (h1.block i hi)⟩
theorem hshC_one (v : St8) (r : List UInt8) (n : Int) : (hshC v r n).all (·.oneCell') = true := by
  unfold hshC
  rw [Array.all_eq_true]
  intro i hi
  have : ∀ x ∈ (stL v).map wV ++ r.map bV ++ [Value.int .u64 n], x.oneCell' = true := by
    intro x hx
    simp only [List.mem_append, List.mem_map, List.mem_singleton] at hx
    rcases hx with (⟨a, _, rfl⟩ | ⟨a, _, rfl⟩) | rfl <;> rfl
  exact this _ (by simp)
set_option maxRecDepth 100000 in
set_option maxHeartbeats 4000000 in
theorem hsum_any (hb : Nat) (L : List UInt8) (w : World) (h : HshIs hb L w) (hl : len L ≤ 1152921504606846976) :
    Calls Tryz.prog 160 #[.pointer (some ⟨hb, 0, none⟩)] w fun e w' => e = .returned (.string ⟨(shaL L).toArray⟩) ∧ Below w.heap.size w w' := by
  obtain ⟨v, r, hT, hc⟩ := h
  obtain ⟨n, hn⟩ : ∃ n, len L = n := ⟨_, rfl⟩
  rw [hn] at hc hl
  obtain ⟨Cc, hCc⟩ : ∃ Cc, hshC v r (n : Nat) = Cc := ⟨_, rfl⟩
  have HCC := Lib.hid hCc
  have HSZ : Hid (Cc.size = 73) := Lib.hid (by rw [← hCc, hshC_size _ _ _ hT.rest])
  have HON : Hid (Cc.all (·.oneCell') = true) := Lib.hid (by rw [← hCc]; exact hshC_one _ _ _)
  rw [hCc] at hc
  have HC := Lib.hid hc
  have HT := Lib.hid hT
  have HN := Lib.hid hn
  have HL := Lib.hid hl
  have HI : Hid ((Tryz.prog.info? 250).map (·.size) = some Cc.size) := Lib.hid (by rw [HSZ.out]; kernel_rfl)
  clear hc hT hn hl hCc
  go_enter Tryz.func160, Tryz.ntmps160
  go_upto_region 3 with fail
  go_upto_region 4 with (first | (refine wpList_load_row (o := ⟨some 14, _, _, _, _, _⟩) ?_ 250 (.tmp 13) ?_ hb ?_ 250 Cc (0, 0) _ HC.out Tryz.underlying250 ?_ HI.out ?_; rfl; rfl; rfl; rfl; skip) | (refine wpList_store_row ?_ 250 (.tmp 3) (.tmp 14) ?_ w.heap.size Cc ?_ ?_ 250 _ (heap_alloc_new _ _) HI.out ?_ HON.out ?_; rfl; rfl; rfl; rfl; (rw [HSZ.out]; kernel_rfl); skip))
  obtain ⟨cb, hcb⟩ : ∃ cb, w.heap.size = cb := ⟨_, rfl⟩
  rw [hcb]
  obtain ⟨V, hV⟩ : ∃ V, (w.alloc (.cells Tryz.zeroCells250 250)).setRow cb Cc = V := ⟨_, rfl⟩
  rw [hV]
  have HVB : Hid (V.heap[cb]? = some (.cells (hshC v r (n : Nat)) 250 (0, 0))) := Lib.hid (by rw [HCC.out, ← hV, ← hcb]; exact setRow_heap _ _ _ _ _ _ (heap_alloc_new _ _))
  have HVW : Hid (Below w.heap.size w V) := Lib.hid (by
    rw [← hV]
    have h1 : Below w.heap.size w (w.alloc (.cells Tryz.zeroCells250 250)) := balloc (Below.refl _ _) _
    exact ⟨h1.os, h1.tape, h1.output, by rw [setRow_size]; exact h1.size, fun i hi => by rw [setRow_other _ _ _ _ (show i ≠ cb by omega)]; exact h1.block i hi⟩)
  have HCB : Hid (w.heap.size ≤ cb) := Lib.hid (Nat.le_of_eq hcb)
  have HH : Hid (HshIs cb L V) := Lib.hid (HshIs.intro HT.out (by rw [HN.out]) HVB.out)
  have c72 : V.cell? ⟨cb, 72, none⟩ = some (.int .u64 n) := by rw [block_cell HVB.out, hshC_n _ _ _ HT.out.rest]
  have w8 : IntKind.u64.wrap ((n : Int) * 8) = (n : Int) * 8 := IntWalk.u64_in _ (by have := HL.out; omega)
  clear hV hcb HVB HC HI HON HSZ HCC
  go_upto_region 5 with fail
  clear c72 w8
  have cv : (convert 41 9 (.slice (some ⟨V.heap.size, 0, none⟩) 1 1)).run Tryz.prog (V.alloc (.cells #[.int .u8 128] 5)) = .ok (.string ⟨#[128]⟩) (V.alloc (.cells #[.int .u8 128] 5)) := conv_new V 5 1 1 [128] rfl
  go_wp2_with fail
  have HV1 := Lib.hid (write_any cb L ⟨#[128]⟩ (V.alloc (.cells #[.int .u8 128] 5)) (HH.out.keep (balloc (Below.refl _ _) _)) (by have h1 := HL.out; have h2 := HN.out; rw [h2]; show n + 1 ≤ _; omega))
  refine HV1.out.mono ?_
  rintro e w2 ⟨rfl, hE, hH⟩
  have HH := Lib.hid hH
  have HVW : Hid (Below w.heap.size w w2) := Lib.hid (below_own HVW.out HCB.out HVW.out.size (ExtB_trans _ _ _ _ (extB_alloc _ _ _) hE))
  have HH : Hid (HshIs cb (L ++ [128] ++ List.replicate 0 0) w2) := Lib.hid (by rw [List.replicate_zero, List.append_nil]; exact HH.out)
  clear hE hH HV1 cv
  go_upto_region 6 with fail
  go_loopg [21] (zerosW n) (fun g _ wr => ∃ m : Nat, g + m = zerosW n ∧ Hid (HshIs cb (L ++ [128] ++ List.replicate m 0) wr) ∧ Hid (Below w.heap.size w wr))
  case atStart => exact ⟨0, rfl, HH, HVW⟩
  case round =>
    clear HH HVW
    obtain ⟨m, hm, HH, HVW⟩ := hrel
    have hz := zerosW_le n
    have HLEN : Hid (len (L ++ [128] ++ List.replicate m 0) = n + 1 + m) := Lib.hid (by
      have := HN.out
      rw [len_eq] at this
      rw [len_eq, List.length_append, List.length_append, List.length_replicate, this]
      rfl)
    have c72 := HH.out.count HLEN.out
    obtain ⟨q, hq⟩ : ∃ q, n + 1 + m = q := ⟨_, rfl⟩
    rw [hq] at c72 HLEN
    have HQ : Hid (q ≤ n + 64) := Lib.hid (by omega)
    by_cases hlt : m < zerosW n
    · have q1 : ¬ ((q : Nat) : Int) % 64 = 56 := by have := zerosW_not n m hlt; omega
      clear hq
      go_wp2_with fail
      have HV1 := Lib.hid (write_any cb _ ⟨#[0]⟩ wr HH.out (by rw [HLEN.out]; have h1 := HL.out; have h2 := HQ.out; show _ + 1 ≤ _; omega))
      refine HV1.out.mono ?_
      rintro e w2 ⟨rfl, hE, hH⟩
      have HV2 : Hid (Below w.heap.size w w2) := Lib.hid (below_own HVW.out HCB.out HVW.out.size hE)
      have HH2 : Hid (HshIs cb (L ++ [128] ++ List.replicate (m + 1) 0) w2) := Lib.hid (by
        have e9 : L ++ [128] ++ List.replicate (m + 1) 0 = L ++ [128] ++ List.replicate m 0 ++ [0] := by rw [List.replicate_succ', List.append_assoc (L ++ [128])]
        rw [e9]
        exact hH)
      clear hE hH HV1
      go_wp2
      go_roundg (zerosW n - (m + 1))
      case rel => exact ⟨m + 1, by omega, HH2, HV2⟩
      case measure => omega
    · obtain rfl : m = zerosW n := by omega
      have q1 : ((q : Nat) : Int) % 64 = 56 := by have := zerosW_end n; omega
      clear hq hz hlt hm
      go_upto_region 9 with fail
      obtain ⟨N, hN⟩ : ∃ N : Nat, n * 8 = N := ⟨_, rfl⟩
      rw [show (n : Int) * 8 = ((N : Nat) : Int) by omega]
      have HN8 := Lib.hid hN
      obtain ⟨L1, hL1⟩ : ∃ L1, L ++ [128] ++ List.replicate (zerosW n) 0 = L1 := ⟨_, rfl⟩
      rw [hL1] at HH HLEN
      have HL1 := Lib.hid hL1
      obtain ⟨lb, hlb⟩ : ∃ lb, wr.heap.size = lb := ⟨_, rfl⟩
      obtain ⟨U, hU⟩ : ∃ U, wr.alloc (.cells (filC (num8 N) 8 0) 68) = U := ⟨_, rfl⟩
      have HUB : Hid (U.heap[lb]? = some (.cells (filC (num8 N) 8 0) 68 (0, 0))) := Lib.hid (by rw [← hU]; exact alloc_new_at _ hlb)
      have HUH : Hid (HshIs cb L1 U) := Lib.hid (by rw [← hU]; exact HH.out.keep (balloc (Below.refl _ _) _))
      have HUW : Hid (Below w.heap.size w U) := Lib.hid (by rw [← hU]; exact balloc HVW.out _)
      have HLB : Hid (w.heap.size ≤ lb ∧ cb < lb) := Lib.hid ⟨by rw [← hlb]; exact HVW.out.size, by rw [← hlb]; exact HH.out.lt⟩
      rw [hlb]
      change Code.wp _ _ _ _ (wr.alloc (.cells (filC (num8 N) 8 0) 68))
      rw [hU]
      clear hU hlb hL1 hN c72 q1 HH HVW
      go_wp2
      go_loopg [26, 6] 8 (fun g i _ wr => ∃ m : Nat, g + m = 8 ∧ i = .int .i64 m ∧ Hid (wr.heap[lb]? = some (.cells (filC (num8 N) 8 m) 68 (0, 0))) ∧ Hid (HshIs cb L1 wr) ∧ Hid (Below w.heap.size w wr))
      case atStart => exact ⟨0, rfl, rfl, HUB, HUH, HUW⟩
      case round =>
        clear HUB HUH HUW
        obtain ⟨m, hm, rfl, HUB, HUH, HUW⟩ := hrel
        by_cases hlt : m < 8
        · have i1 : (m : Int) < 8 := by omega
          have i2 : IntKind.i64.wrap (7 - (m : Int)) = 7 - (m : Int) := IntWalk.i64_in _ (by omega)
          have i3 : IntKind.i64.wrap (8 * (7 - (m : Int))) = 8 * (7 - (m : Int)) := IntWalk.i64_in _ (by omega)
          have i4 : ¬ 8 * (7 - (m : Int)) < 0 := by omega
          have i5 : ¬ (8 : Int) ≤ (m : Int) := by omega
          obtain ⟨W, hW⟩ : ∃ W, wr = W := ⟨_, rfl⟩
          rw [hW] at HUB HUH HUW ⊢
          have c0 : W.cell? ⟨lb, m, none⟩ = some (byV 0) := by rw [block_cell HUB.out, filC_at _ _ _ hlt (num8_len N)]
          have c1 : W.frozen? ⟨lb, m, none⟩ = false := block_free HUB.out m
          have c2 : lb < W.heap.size := lt_of_block HUB.out
          clear hW
          go_upto_region 13 with fail
          rw [num8_byte N m hlt]
          clear c0 c1 c2 i2 i3 i4 i5
          have HU2 : Hid ((W.setCell ⟨lb, m, none⟩ (byV ((num8 N).getD m 0))).heap[lb]? = some (.cells (filC (num8 N) 8 (m + 1)) 68 (0, 0))) := Lib.hid (by
            have := block_setCell HUB.out (o := m) (byV ((num8 N).getD m 0))
            rw [filC_set _ _ _ hlt (num8_len N)] at this
            exact this)
          have HU3 : Hid (HshIs cb L1 (W.setCell ⟨lb, m, none⟩ (byV ((num8 N).getD m 0)))) := Lib.hid (by
            obtain ⟨v9, r9, h1, h2⟩ := HUH.out
            exact ⟨v9, r9, h1, block_setCell_ne h2 (show cb ≠ lb by have := HLB.out.2; omega) _⟩)
          have HU4 : Hid (Below w.heap.size w (W.setCell ⟨lb, m, none⟩ (byV ((num8 N).getD m 0)))) := Lib.hid (bset HUW.out HLB.out.1 _)
          go_wp2
          go_roundg (8 - (m + 1))
          case rel => exact ⟨m + 1, by omega, by go_num, HU2, HU3, HU4⟩
          case measure => omega
        · obtain rfl : m = 8 := by omega
          have i1 : ¬ ((8 : Nat) : Int) < 8 := by decide
          have HUB := Lib.hid (by have h := HUB.out; rw [filC_all _ _ (num8_len N)] at h; exact h)
          have cv : (convert 41 9 (.slice (some ⟨lb, 0, none⟩) 8 8)).run Tryz.prog wr = .ok (.string ⟨(num8 N).toArray⟩) wr := conv_block wr lb 0 8 8 (num8 N) (num8_len N) (fun i hi => byV_block HUB.out i (by rw [num8_len]; exact hi))
          go_wp2_with fail
          have HV1 := Lib.hid (write_any cb L1 ⟨(num8 N).toArray⟩ wr HUH.out (by rw [HLEN.out]; have h1 := HL.out; have h2 := HQ.out; show _ + (num8 N).length ≤ _; rw [num8_len]; omega))
          refine HV1.out.mono ?_
          rintro e w3 ⟨rfl, hE, hH⟩
          have HW3 : Hid (Below w.heap.size w w3) := Lib.hid (below_own HUW.out HCB.out HUW.out.size hE)
          have HH3 : Hid (HshIs cb (padW L) w3) := Lib.hid (by
            have h1 := HN.out
            rw [len_eq] at h1
            have h2 : padW L = L1 ++ num8 N := by
              rw [padW_parts, ← HL1.out, h1, ← HN8.out, Nat.mod_eq_of_lt (by have := HL.out; omega), Nat.mul_comm]
            rw [h2]
            exact hH)
          clear hE hH HV1 cv HUB HUH HUW i1
          obtain ⟨z, r9, hz, hzb⟩ := HH3.out
          have HZ := Lib.hid hz
          have x0 : w3.cell? ⟨cb, 0, none⟩ = some (.int .u32 (wI z.a)) := by rw [block_cell hzb, hshC_word _ _ _ 0 (by decide)]; rfl
          have x1 : w3.cell? ⟨cb, 1, none⟩ = some (.int .u32 (wI z.b)) := by rw [block_cell hzb, hshC_word _ _ _ 1 (by decide)]; rfl
          have x2 : w3.cell? ⟨cb, 2, none⟩ = some (.int .u32 (wI z.c)) := by rw [block_cell hzb, hshC_word _ _ _ 2 (by decide)]; rfl
          have x3 : w3.cell? ⟨cb, 3, none⟩ = some (.int .u32 (wI z.d)) := by rw [block_cell hzb, hshC_word _ _ _ 3 (by decide)]; rfl
          have x4 : w3.cell? ⟨cb, 4, none⟩ = some (.int .u32 (wI z.e)) := by rw [block_cell hzb, hshC_word _ _ _ 4 (by decide)]; rfl
          have x5 : w3.cell? ⟨cb, 5, none⟩ = some (.int .u32 (wI z.f)) := by rw [block_cell hzb, hshC_word _ _ _ 5 (by decide)]; rfl
          have x6 : w3.cell? ⟨cb, 6, none⟩ = some (.int .u32 (wI z.g)) := by rw [block_cell hzb, hshC_word _ _ _ 6 (by decide)]; rfl
          have x7 : w3.cell? ⟨cb, 7, none⟩ = some (.int .u32 (wI z.h)) := by rw [block_cell hzb, hshC_word _ _ _ 7 (by decide)]; rfl
          clear hz hzb
          go_upto_region 17 with fail
          rw [show (#[.int .u32 (wI z.a), .int .u32 (wI z.b), .int .u32 (wI z.c), .int .u32 (wI z.d), .int .u32 (wI z.e), .int .u32 (wI z.f), .int .u32 (wI z.g), .int .u32 (wI z.h)] : Array Value) = wsC (stL z) from rfl]
          obtain ⟨ZC, hZC⟩ : ∃ ZC, wsC (stL z) = ZC := ⟨_, rfl⟩
          rw [hZC]
          have HZC := Lib.hid hZC
          clear hZC x0 x1 x2 x3 x4 x5 x6 x7
          obtain ⟨i0, hi, hz0, hz1, hz2⟩ := info_parts info_b8
          have HZ0 := Lib.hid hz0
          clear hz0
          go_loopg [43, 7, 9] 8 (fun g i o _ wr => ∃ m : Nat, g + m = 8 ∧ i = .int .i64 m ∧ Hid (wr.ownsRow w.heap.size 5 1 o (4 * m) ((((stL z).take m).map word4).flatten.map byV)) ∧ Hid (Below w.heap.size w wr))
          case atStart => exact ⟨0, rfl, rfl, Lib.hid (World.ownsRow_nil _ _ _ _), HW3⟩
          case round =>
            clear HW3 HH3
            obtain ⟨m, hm, rfl, HO, HW3⟩ := hrel
            by_cases hlt : m < 8
            · have i1 : (m : Int) < 8 := by omega
              obtain ⟨X, hX⟩ : ∃ X, wth (stL z) m = X := ⟨_, rfl⟩
              have hk : ∀ w', (Instr.index 246 (.agg ZC) (.int .i64 (m : Int))).run Tryz.prog w' = .ok (.int .u32 (wI X)) w' := fun w' => by rw [← HZC.out, index_8 z m hlt, hX]
              have HX := Lib.hid hX
              obtain ⟨W, hW⟩ : ∃ W, wr = W := ⟨_, rfl⟩
              rw [hW] at HO HW3 ⊢
              clear hX hW
              go_upto_region 19 with fail
              have hmm : 4 * m ≤ 32 := by omega
              go_upto_region 20 with (at_builtin; refine wpList_append_own _ rfl _ _ 41 rfl w.heap.size 5 i0 (.int .u8 0) 1 1 Tryz.underlying41 hi HZ0.out hz1 hz2 rfl (by decide) _ _ _ rfl (HO.out.alloc _) ⟨W.heap.size, 0, none⟩ 4 4 [.int .u8 (wI X / 16777216 % 256), .int .u8 (wI X / 65536 % 256), .int .u8 (wI X / 256 % 256), .int .u8 (wI X % 256)] rfl rfl (World.news_of_block (heap_alloc_new _ _)) (by intro u hu; simp at hu; rcases hu with rfl | rfl | rfl | rfl <;> rfl) (by unfold maxLen; omega) (by omega) (by have := HW3.out.size; simp; omega) ?_; intro v2 w4 hown2 hgrow2 _)
              have HO2 : Hid (w4.ownsRow w.heap.size 5 1 v2 (4 * (m + 1)) ((((stL z).take (m + 1)).map word4).flatten.map byV)) := Lib.hid (by
                rw [outW_snoc z m hlt, HX.out, List.map_append, ← word4_vals]
                exact hown2)
              have HW4 : Hid (Below w.heap.size w w4) := Lib.hid (grownBy_below (balloc HW3.out _) hgrow2 (fun k hk' => (HO.out.lt k hk').1))
              clear hown2 hgrow2 hk
              go_wp2
              go_roundg (8 - (m + 1))
              case rel => exact ⟨m + 1, by omega, by go_num, HO2, HW4⟩
              case measure => omega
            · obtain rfl : m = 8 := by omega
              have i1 : ¬ ((8 : Nat) : Int) < 8 := by decide
              have HO2 : Hid (wr.ownsRow w.heap.size 5 1 u7 32 ((shaL L).map byV)) := Lib.hid (by
                have h1 := HO.out
                rw [show (stL z).take 8 = stL z from rfl, outW_eq, HZ.out.sum] at h1
                exact h1)
              have cv := conv_own HO2.out (shaL_len L) (by decide)
              go_wp2
              go_ret
              exact ⟨rfl, HW3.out⟩
set_option maxRecDepth 100000 in
set_option maxHeartbeats 4000000 in
theorem sha_any (s : ByteArray) (w : World) (hl : s.size ≤ 1152921504606846976) : Calls Tryz.prog 97 #[.string s] w fun e w' => e = .returned (.string (shaP s)) ∧ Below w.heap.size w w' := by
  have HL := Lib.hid hl
  clear hl
  go_enter Tryz.func97, Tryz.ntmps97
  go_wp2_with fail
  refine (hnew_any _).mono ?_
  rintro e w1 ⟨b, rfl, hb0, hh, hw1⟩
  have HH := Lib.hid hh
  have HW1 := Lib.hid hw1
  have HB0 := Lib.hid hb0
  clear hh hw1 hb0
  go_wp2_with fail
  refine (write_any b [] s w1 HH.out (by have := HL.out; show 0 + s.size ≤ _; omega)).mono ?_
  rintro e w2 ⟨rfl, hE, hH⟩
  have HW2 : Hid (Below w.heap.size w w2) := Lib.hid (below_own HW1.out HB0.out HW1.out.size hE)
  have HH2 := Lib.hid hH
  clear hE hH
  go_wp2_with fail
  refine (hsum_any b s.data.toList w2 HH2.out (by rw [len_eq, Array.length_toList]; exact HL.out)).mono ?_
  rintro e w3 ⟨rfl, hE⟩
  have HW3 : Hid (Below w.heap.size w w3) := Lib.hid (bnext HW2.out hE)
  clear hE
  go_wp2
  go_ret
  exact ⟨rfl, HW3.out⟩
end Go.Proofs.YtpobhbdomldecaaGreatDoor
namespace Go.Proofs.YtpobhbdomldecaaGreatDoor
open Go.RowKit
set_option linter.unusedSimpArgs false
set_option linter.unusedVariables false
def num8S (n : Nat) : ByteArray := ⟨(num8 n).toArray⟩
theorem num8S_size (n : Nat) : (num8S n).size = 8 := by
  show (num8 n).toArray.size = 8
  rw [List.size_toArray, num8_len]
set_option maxRecDepth 100000 in
set_option maxHeartbeats 4000000 in
theorem dnum_any (N : Nat) (w : World) (hN : N < 18446744073709551616) : Calls Tryz.prog 157 #[.int .u64 (N : Nat)] w fun e w' => e = .returned (.string (num8S N)) ∧ Below w.heap.size w w' := by
  have HNN := Lib.hid hN
  clear hN
  go_enter Tryz.func157, Tryz.ntmps157
  go_upto_region 2 with fail
  obtain ⟨lb, hlb⟩ : ∃ lb, w.heap.size = lb := ⟨_, rfl⟩
  obtain ⟨U, hU⟩ : ∃ U, w.alloc (.cells (filC (num8 N) 8 0) 68) = U := ⟨_, rfl⟩
  have HUB : Hid (U.heap[lb]? = some (.cells (filC (num8 N) 8 0) 68 (0, 0))) := Lib.hid (by rw [← hU]; exact alloc_new_at _ hlb)
  have HUW : Hid (Below w.heap.size w U) := Lib.hid (by rw [← hU]; exact balloc (Below.refl _ _) _)
  have HLB : Hid (w.heap.size ≤ lb) := Lib.hid (Nat.le_of_eq hlb)
  rw [hlb]
  change Code.wp _ _ _ _ (w.alloc (.cells (filC (num8 N) 8 0) 68))
  rw [hU]
  clear hU hlb
  go_wp2
  go_loopg [5, 4] 8 (fun g i _ wr => ∃ m : Nat, g + m = 8 ∧ i = .int .i64 m ∧ Hid (wr.heap[lb]? = some (.cells (filC (num8 N) 8 m) 68 (0, 0))) ∧ Hid (Below w.heap.size w wr))
  case atStart => exact ⟨0, rfl, rfl, HUB, HUW⟩
  case round =>
    clear HUB HUW
    obtain ⟨m, hm, rfl, HUB, HUW⟩ := hrel
    by_cases hlt : m < 8
    · have i1 : (m : Int) < 8 := by omega
      have i2 : IntKind.i64.wrap (7 - (m : Int)) = 7 - (m : Int) := IntWalk.i64_in _ (by omega)
      have i3 : IntKind.i64.wrap (8 * (7 - (m : Int))) = 8 * (7 - (m : Int)) := IntWalk.i64_in _ (by omega)
      have i4 : ¬ 8 * (7 - (m : Int)) < 0 := by omega
      have i5 : ¬ (8 : Int) ≤ (m : Int) := by omega
      obtain ⟨W, hW⟩ : ∃ W, wr = W := ⟨_, rfl⟩
      rw [hW] at HUB HUW ⊢
      have c0 : W.cell? ⟨lb, m, none⟩ = some (byV 0) := by rw [block_cell HUB.out, filC_at _ _ _ hlt (num8_len N)]
      have c1 : W.frozen? ⟨lb, m, none⟩ = false := block_free HUB.out m
      have c2 : lb < W.heap.size := lt_of_block HUB.out
      clear hW
      go_upto_region 6 with fail
      rw [num8_byte N m hlt]
      clear c0 c1 c2 i2 i3 i4 i5
      have HU2 : Hid ((W.setCell ⟨lb, m, none⟩ (byV ((num8 N).getD m 0))).heap[lb]? = some (.cells (filC (num8 N) 8 (m + 1)) 68 (0, 0))) := Lib.hid (by
        have := block_setCell HUB.out (o := m) (byV ((num8 N).getD m 0))
        rw [filC_set _ _ _ hlt (num8_len N)] at this
        exact this)
      have HU4 : Hid (Below w.heap.size w (W.setCell ⟨lb, m, none⟩ (byV ((num8 N).getD m 0)))) := Lib.hid (bset HUW.out HLB.out _)
      go_wp2
      go_roundg (8 - (m + 1))
      case rel => exact ⟨m + 1, by omega, by go_num, HU2, HU4⟩
      case measure => omega
    · obtain rfl : m = 8 := by omega
      have i1 : ¬ ((8 : Nat) : Int) < 8 := by decide
      have HUB := Lib.hid (by have h := HUB.out; rw [filC_all _ _ (num8_len N)] at h; exact h)
      have cv : (convert 41 9 (.slice (some ⟨lb, 0, none⟩) 8 8)).run Tryz.prog wr = .ok (.string (num8S N)) wr := conv_block wr lb 0 8 8 (num8 N) (num8_len N) (fun i hi => byV_block HUB.out i (by rw [num8_len]; exact hi))
      go_wp2
      go_ret
      exact ⟨rfl, HUW.out⟩
end Go.Proofs.YtpobhbdomldecaaGreatDoor
namespace Go.Proofs.YtpobhbdomldecaaGreatDoor
open Go.RowKit
set_option linter.unusedSimpArgs false
set_option linter.unusedVariables false
theorem bld_size : (Tryz.prog.info? 172).map (·.size) = some 2 := by kernel_rfl
theorem bld_lies : liesAt Tryz.prog Tryz.prog.depth 172 (2 / Tryz.prog.cellsOf 172) 0 172 1 = true := by kernel_rfl
theorem bld_b8 : (Tryz.prog.info? 5).map (fun i => (i.zero, i.size, i.bytes)) = some (some (.int .u8 0), 1, 1) := by kernel_rfl
set_option maxHeartbeats 1000000 in
set_option maxRecDepth 100000 in
theorem bcheck_used (b : Nat) (w : World) (h0 : w.cell? ⟨b, 0, none⟩ = some (.pointer (some ⟨b, 0, none⟩))) :
    Calls Tryz.prog 193 #[.pointer (some ⟨b, 0, none⟩)] w fun e w' => e = .returned (.tuple #[]) ∧ w' = w := by
  obtain ⟨j, hj, _⟩ := Option.map_eq_some_iff.1 bld_size
  go_enter Tryz.func193, Tryz.ntmps193
  go_wp2
  rw [Lib.run_neq_ptr_same w _ Tryz.underlying170 hj]
  go_wp2
  go_end0
  exact ⟨rfl, rfl⟩
set_option maxHeartbeats 1000000 in
set_option maxRecDepth 100000 in
theorem bcheck_fresh (b : Nat) (w : World) (h0 : w.cell? ⟨b, 0, none⟩ = some (.pointer none)) (hsh : w.shape? b = some (172, 2)) (hfz : w.frozen? ⟨b, 0, none⟩ = false) :
    Calls Tryz.prog 193 #[.pointer (some ⟨b, 0, none⟩)] w fun e w' => e = .returned (.tuple #[]) ∧ w' = w.setCell ⟨b, 0, none⟩ (.pointer (some ⟨b, 0, none⟩)) := by
  obtain ⟨j, hj, hjs⟩ := Option.map_eq_some_iff.1 bld_size
  go_enter Tryz.func193, Tryz.ntmps193
  go_wp2
  rw [Lib.run_to_unsafe w ⟨b, 0, none⟩ Tryz.underlying170 Tryz.underlying297 hj (by rw [hjs]; decide) hsh (Nat.zero_lt_succ 1)]
  simp only [Result.andThen]
  rw [Oper.upon_value]
  go_wp2
  rw [run_callFunc_extern Tryz.func259 (by kernel_rfl) (by kernel_rfl) (by kernel_rfl) (e := Extern.AbiNoEscape.same) (by kernel_rfl)]
  rw [Lib.run_noEscape]
  simp only [Result.andThen]
  rw [Oper.upon_value]
  go_wp2
  rw [Lib.run_from_unsafe w ⟨b, 0, none⟩ Tryz.underlying297 Tryz.underlying170 hj hsh bld_lies]
  simp only [Result.andThen]
  rw [Oper.upon_value]
  go_wp2
  go_end0
  exact ⟨rfl, rfl⟩
theorem bcheck_any (B b : Nat) (bs : List Value) (w : World) (h : Lib.IsBuilder 172 5 B b bs w) :
    Calls Tryz.prog 193 #[.pointer (some ⟨b, 0, none⟩)] w fun e w' => e = .returned (.tuple #[]) ∧ (Lib.BuilderAt 172 5 B b (.pointer (some ⟨b, 0, none⟩)) bs w' ∧ Below B w w') := by
  rcases h with h | h
  · refine (bcheck_fresh b w h.cell0 h.shape h.frozen0).mono ?_
    rintro e w' ⟨rfl, rfl⟩
    exact ⟨rfl, h.used _, (Below.refl B w).setCell (p := ⟨b, 0, none⟩) h.1 _⟩
  · refine (bcheck_used b w h.cell0).mono ?_
    rintro e w' ⟨rfl, rfl⟩
    exact ⟨rfl, h, Below.refl B _⟩
set_option maxHeartbeats 2000000 in
set_option maxRecDepth 100000 in
theorem bbyte_any (B b : Nat) (bs : List Value) (c : Int) (w : World) (h : Lib.IsBuilder 172 5 B b bs w) (hlen : bs.length + 1 ≤ 140737488355328) (hBw : B ≤ w.heap.size) :
    Calls Tryz.prog 155 #[.pointer (some ⟨b, 0, none⟩), .int .u8 c] w fun e w' => e = .returned .nilIface ∧ (Lib.BuilderAt 172 5 B b (.pointer (some ⟨b, 0, none⟩)) (bs ++ [.int .u8 c]) w' ∧ Below B w w') := by
  obtain ⟨i0, hi, hz0, hz1, hz2⟩ := info_parts bld_b8
  go_enter Tryz.func155, Tryz.ntmps155
  go_wp2_with fail
  refine (bcheck_any B b bs _ h).mono ?_
  rintro e w1 ⟨rfl, h1, hb1⟩
  obtain ⟨hB, v, hbk, hown, hne⟩ := h1
  have c0 : w1.cell? ⟨b, 0, none⟩ = some (.pointer (some ⟨b, 0, none⟩)) := by rw [Lib.cell_of_heap hbk]; rfl
  have c1 : w1.cell? ⟨b, 1, none⟩ = some v := by rw [Lib.cell_of_heap hbk]; rfl
  go_wp2_with (at_builtin; refine wpList_append_own _ rfl _ _ 41 rfl B 5 i0 (.int .u8 0) 1 1 Tryz.underlying41 hi hz0 hz1 hz2 rfl (by decide) _ _ _ rfl (hown.alloc _) ⟨w1.heap.size, 0, none⟩ 1 1 [.int .u8 c] rfl rfl ?c1 ?c2 ?c3 ?c4 ?c5 ?_)
  case c1 =>
    intro j u hj
    match j, hj with
    | 0, hj => simp at hj; subst hj; simp [Addr.add]
  case c2 => intro u hu; simp at hu; subst hu; rfl
  case c3 => unfold maxLen; omega
  case c4 => omega
  case c5 => have := hb1.size; simp; omega
  intro v' w2 hown' hgrow _
  have hlt : b < w1.heap.size := lt_of_block hbk
  have hb2 : w2.heap[b]? = some (.cells #[.pointer (some ⟨b, 0, none⟩), v] 172 (0, 0)) := by
    rw [hgrow.block b (by simp; omega) (fun e => hne e.symm), Lib.alloc_old w1 _ b hlt]
    exact hbk
  have d0 : w2.cell? ⟨b, 0, none⟩ = some (.pointer (some ⟨b, 0, none⟩)) := by rw [Lib.cell_of_heap hb2]; rfl
  have d1 : w2.cell? ⟨b, 1, none⟩ = some v := by rw [Lib.cell_of_heap hb2]; rfl
  have f1 : w2.frozen? ⟨b, 1, none⟩ = false := Lib.frozen_of_heap hb2 1
  obtain ⟨g, cap, rfl⟩ : ∃ g cap, v' = .slice (some ⟨g, 0, none⟩) (bs.length + 1) cap := by
    rcases hown'.2 with ⟨_, h0⟩ | ⟨g, cap, cur, hv, _⟩
    · omega
    · exact ⟨g, cap, hv⟩
  go_wp2
  go_ret
  refine ⟨rfl, ?_, ?_⟩
  · exact Lib.BuilderAt.put (T := 172) (e := 5) hB hb2 (bs' := bs ++ [.int .u8 c]) (by simpa using hown') (by decide)
  · exact ((hb1.alloc (by have := hb1.size; omega) _).grown hgrow (by have := hb1.size; simp; omega) (fun k hk => (hown.lt k hk).1)).setCell (p := ⟨b, 1, none⟩) hB _
set_option maxHeartbeats 2000000 in
set_option maxRecDepth 100000 in
theorem bstr_any (B b : Nat) (bs : List Value) (s : ByteArray) (w : World) (h : Lib.IsBuilder 172 5 B b bs w) (hlen : bs.length + s.size ≤ 140737488355328) (hBw : B ≤ w.heap.size) :
    Calls Tryz.prog 144 #[.pointer (some ⟨b, 0, none⟩), .string s] w fun e w' => e = .returned (.tuple #[.int .i64 s.size, .nilIface]) ∧ (Lib.BuilderAt 172 5 B b (.pointer (some ⟨b, 0, none⟩)) (bs ++ Lib.strCells s) w' ∧ Below B w w') := by
  obtain ⟨i0, hi, hz0, hz1, hz2⟩ := info_parts bld_b8
  go_enter Tryz.func144, Tryz.ntmps144
  go_wp2_with fail
  refine (bcheck_any B b bs _ h).mono ?_
  rintro e w1 ⟨rfl, h1, hb1⟩
  obtain ⟨hB, v, hbk, hown, hne⟩ := h1
  have c0 : w1.cell? ⟨b, 0, none⟩ = some (.pointer (some ⟨b, 0, none⟩)) := by rw [Lib.cell_of_heap hbk]; rfl
  have c1 : w1.cell? ⟨b, 1, none⟩ = some v := by rw [Lib.cell_of_heap hbk]; rfl
  go_wp2_with (at_builtin; refine Lib.wpList_append_own_string _ rfl _ _ 41 9 rfl B 5 i0 Tryz.underlying41 Tryz.underlying9 hi hz0 hz1 hz2 _ _ _ rfl hown s rfl ?c3 ?c4 ?c5 ?_)
  case c3 => unfold maxLen; omega
  case c4 => omega
  case c5 => have := hb1.size; omega
  intro v' w2 hown' hgrow _
  have hlt : b < w1.heap.size := lt_of_block hbk
  have hb2 : w2.heap[b]? = some (.cells #[.pointer (some ⟨b, 0, none⟩), v] 172 (0, 0)) := by
    rw [hgrow.block b hlt (fun e => hne e.symm)]
    exact hbk
  have d0 : w2.cell? ⟨b, 0, none⟩ = some (.pointer (some ⟨b, 0, none⟩)) := by rw [Lib.cell_of_heap hb2]; rfl
  have d1 : w2.cell? ⟨b, 1, none⟩ = some v := by rw [Lib.cell_of_heap hb2]; rfl
  have f1 : w2.frozen? ⟨b, 1, none⟩ = false := Lib.frozen_of_heap hb2 1
  obtain ⟨ao, n', cap, rfl⟩ : ∃ ao n' cap, v' = .slice ao n' cap := by
    rcases hown'.2 with ⟨hv, _⟩ | ⟨g, cap, cur, hv, _⟩
    · exact ⟨_, _, _, hv⟩
    · exact ⟨_, _, _, hv⟩
  go_wp2
  go_ret2
  refine ⟨rfl, ?_, ?_⟩
  · exact Lib.BuilderAt.put (T := 172) (e := 5) hB hb2 (bs' := bs ++ Lib.strCells s) (by simpa [Lib.strCells_length] using hown') (by decide)
  · exact (hb1.grown hgrow (by have := hb1.size; omega) (fun k hk => (hown.lt k hk).1)).setCell (p := ⟨b, 1, none⟩) hB _
end Go.Proofs.YtpobhbdomldecaaGreatDoor
namespace Go.Proofs.YtpobhbdomldecaaGreatDoor
open Go.RowKit
set_option linter.unusedSimpArgs false
set_option linter.unusedVariables false
abbrev BlAt (B b : Nat) (L : List UInt8) (w : World) : Prop := Lib.BuilderAt 172 5 B b (.pointer (some ⟨b, 0, none⟩)) (Lib.byteCells L) w
theorem bc_app (L M : List UInt8) : Lib.byteCells (L ++ M) = Lib.byteCells L ++ Lib.byteCells M := by unfold Lib.byteCells; rw [List.map_append]
theorem bc_len (L : List UInt8) : (Lib.byteCells L).length = L.length := by unfold Lib.byteCells; rw [List.length_map]
def LayIs (B b : Nat) (L : List UInt8) (w : World) (e : Ending) (w' : World) : Prop := e = .returned (.tuple #[]) ∧ BlAt B b L w' ∧ Below B w w'
set_option maxRecDepth 100000 in
set_option maxHeartbeats 4000000 in
theorem lay_part (B b : Nat) (L : List UInt8) (p : ByteArray) (w : World) (h : BlAt B b L w) (hl : L.length + (8 + p.size) ≤ 140737488355328) (hB : B ≤ w.heap.size) :
    Calls Tryz.prog 156 #[.string p, .pointer (some ⟨b, 0, none⟩)] w (LayIs B b (L ++ partL p) w) := by
  have H := Lib.hid h
  have HL := Lib.hid hl
  have HB := Lib.hid hB
  clear h hl hB
  have i1 : IntKind.u64.wrap ((p.size : Nat) : Int) = ((p.size : Nat) : Int) := IntWalk.u64_in _ (by have := HL.out; omega)
  go_enter Tryz.func156, Tryz.ntmps156
  go_wp2_with fail
  refine (dnum_any p.size w (by have := HL.out; omega)).mono ?_
  rintro e w1 ⟨rfl, hb1⟩
  have HB1 := Lib.hid hb1
  have H1 : Hid (BlAt B b L w1) := Lib.hid (by
    obtain ⟨h1, v, h2, h3, h4⟩ := H.out
    exact ⟨h1, v, (hb1.block _ (lt_of_block h2)).trans h2, own_below h3 hb1, h4⟩)
  clear hb1
  go_wp2_with fail
  refine (bstr_any B b _ (num8S p.size) w1 (Or.inr H1.out) (by rw [bc_len, num8S_size]; have := HL.out; omega) (Nat.le_trans HB.out HB1.out.size)).mono ?_
  rintro e w2 ⟨rfl, h2, hb2⟩
  have H2 : Hid (BlAt B b (L ++ num8 p.size) w2) := Lib.hid (by show Lib.BuilderAt _ _ _ _ _ (Lib.byteCells _) _; rw [bc_app]; exact h2)
  have HB2 : Hid (Below B w w2) := Lib.hid ((HB1.out.mono HB.out).trans hb2)
  have HBS : Hid (B ≤ w2.heap.size) := Lib.hid (Nat.le_trans HB.out HB2.out.size)
  clear h2 hb2
  go_wp2_with fail
  refine (bstr_any B b _ p w2 (Or.inr H2.out) (by rw [bc_len, List.length_append, num8_len]; have := HL.out; omega) HBS.out).mono ?_
  rintro e w3 ⟨rfl, h3, hb3⟩
  have H3 : Hid (BlAt B b (L ++ partL p) w3) := Lib.hid (by show Lib.BuilderAt _ _ _ _ _ (Lib.byteCells _) _; unfold partL; rw [← List.append_assoc, bc_app]; exact h3)
  have HB3 : Hid (Below B w w3) := Lib.hid (HB2.out.trans hb3)
  clear h3 hb3
  go_wp2
  go_end0
  exact ⟨rfl, H3.out, HB3.out⟩
theorem fullT {t : ByteArray} (h : t.size ≠ 0) : t.toList.isEmpty = false := by
  rw [ByteArray.toList_eq]; cases t with | mk d => simp_all [ByteArray.size]
theorem headL_cells (tag : ByteArray) (h : tag.size ≤ 16) : Lib.byteCells (headL tag) = [.int .u8 ((tag.size : Nat) : Int)] ++ Lib.strCells tag := by
  unfold headL Lib.strCells Lib.byteCells
  rw [List.map_cons]
  congr 1
  rw [UInt8.toNat_ofNat', Nat.mod_eq_of_lt (by omega)]
set_option maxRecDepth 100000 in
set_option maxHeartbeats 4000000 in
theorem frame_any (tag : ByteArray) (parts : List ByteArray) (a : Option Addr) (cap : Nat) (w : World) (h1 : 1 ≤ tag.size) (h2 : tag.size ≤ 16) (hp : Txts w a parts) (hs : (partsL parts).length ≤ 140737488355300) :
    Calls Tryz.prog 96 #[.string tag, .slice a (len parts) cap] w fun e w' => e = .returned (.string (frameS tag parts)) ∧ Below w.heap.size w w' := by
  have HP := Lib.hid hp
  have HS := Lib.hid hs
  have HT2 := Lib.hid h2
  have HT1 := Lib.hid h1
  have HPL : Hid (len parts ≤ 140737488355300) := Lib.hid (by have := partsL_ge parts; rw [len_eq]; omega)
  have t1 : tag.toList.isEmpty = false := fullT (by omega)
  have t2 : ¬ (16 : Int) < (tag.size : Int) := by omega
  have t3 : IntKind.u8.wrap ((tag.size : Nat) : Int) = ((tag.size : Nat) : Int) := IntWalk.u8_in _ (by omega)
  clear hp hs h1 h2
  go_enter Tryz.func96, Tryz.ntmps96
  go_upto_region 4 with fail
  obtain ⟨b, hb⟩ : ∃ b, w.heap.size = b := ⟨_, rfl⟩
  rw [hb]
  obtain ⟨V, hV⟩ : ∃ V, w.alloc (.cells #[.pointer none, .slice none 0 0] 172) = V := ⟨_, rfl⟩
  rw [hV]
  have HBW : Hid (w.heap.size ≤ b) := Lib.hid (Nat.le_of_eq hb)
  have HI : Hid (Lib.IsBuilder 172 5 b b [] V) := Lib.hid (Or.inl ⟨Nat.le_refl _, _, by rw [← hV]; exact alloc_new_at _ hb, World.ownsRow_nil _ _ _ _, by simp [Value.ownBlock]⟩)
  have HVW : Hid (Below w.heap.size w V) := Lib.hid (by rw [← hV]; exact balloc (Below.refl _ _) _)
  have HVS : Hid (b ≤ V.heap.size) := Lib.hid (by rw [← hb]; exact HVW.out.size)
  clear hV hb
  go_wp2_with fail
  refine (bbyte_any b b [] _ V HI.out (by decide) HVS.out).mono ?_
  rintro e w1 ⟨rfl, hb1, hB1⟩
  have H1 := Lib.hid hb1
  have HS1 : Hid (b ≤ w1.heap.size) := Lib.hid (Nat.le_trans HVS.out hB1.size)
  have HW1 : Hid (Below w.heap.size w w1) := Lib.hid (HVW.out.trans (hB1.mono HBW.out))
  clear hb1 hB1 t1 t2 t3
  go_wp2_with fail
  refine (bstr_any b b _ tag w1 (Or.inr H1.out) (by have := HT2.out; show 1 + tag.size ≤ _; omega) HS1.out).mono ?_
  rintro e w2 ⟨rfl, hb2, hB2⟩
  have H2 : Hid (BlAt b b (headL tag ++ partsL (parts.take 0)) w2) := Lib.hid (by
    show Lib.BuilderAt _ _ _ _ _ (Lib.byteCells _) _
    rw [List.take_zero, show partsL [] = [] from rfl, List.append_nil, headL_cells tag HT2.out]
    exact hb2)
  have HS2 : Hid (b ≤ w2.heap.size) := Lib.hid (Nat.le_trans HS1.out hB2.size)
  have HW2 : Hid (Below w.heap.size w w2) := Lib.hid (HW1.out.trans (hB2.mono HBW.out))
  clear hb2 hB2
  go_wp2
  go_loopg [25, 8] (len parts) (fun g i _ wr => ∃ m : Nat, g + m = len parts ∧ i = .int .i64 m ∧ Hid (BlAt b b (headL tag ++ partsL (parts.take m)) wr) ∧ Hid (b ≤ wr.heap.size) ∧ Hid (Below w.heap.size w wr))
  case atStart => exact ⟨0, rfl, rfl, H2, HS2, HW2⟩
  case round =>
    clear H2 HS2 HW2
    obtain ⟨m, hm, rfl, H2, HS2, HW2⟩ := hrel
    have HPB := HPL.out
    by_cases hlt : m < len parts
    · have i1 : (m : Int) < (len parts : Nat) := by omega
      obtain ⟨pb, po, rfl, hpc⟩ := (HP.out.below HW2.out) m hlt
      obtain ⟨x, hx⟩ : ∃ x, tth parts m = x := ⟨_, rfl⟩
      rw [hx] at hpc
      have HX := Lib.hid hx
      clear hx
      go_wp2_with fail
      refine (lay_part b b _ x wr H2.out (by
        have h1 := HS.out
        have h2 := partsL_le parts (m + 1)
        have h3 := HT2.out
        rw [partsL_snoc _ _ hlt, List.length_append, HX.out, partL_len] at h2
        rw [List.length_append, headL_len]
        omega) HS2.out).mono ?_
      rintro e w3 ⟨rfl, h3, hb3⟩
      have H3 : Hid (BlAt b b (headL tag ++ partsL (parts.take (m + 1))) w3) := Lib.hid (by rw [partsL_snoc _ _ hlt, HX.out, ← List.append_assoc]; exact h3)
      have HS3 : Hid (b ≤ w3.heap.size) := Lib.hid (Nat.le_trans HS2.out hb3.size)
      have HW3 : Hid (Below w.heap.size w w3) := Lib.hid (HW2.out.trans (hb3.mono HBW.out))
      clear h3 hb3 hpc
      go_wp2
      go_roundg (len parts - (m + 1))
      case rel => exact ⟨m + 1, by omega, by go_num, H3, HS3, HW3⟩
      case measure => omega
    · obtain rfl : m = len parts := by omega
      have i1 : ¬ ((len parts : Nat) : Int) < (len parts : Nat) := by omega
      have H4 : Hid (BlAt b b (framL tag parts) wr) := Lib.hid (by have h := H2.out; rw [take_len] at h; exact h)
      clear H2 hm hlt
      go_wp2_with fail
      refine (Tryz.Builder_String_any b b _ wr (Or.inr H4.out) HS2.out).mono ?_
      rintro e w4 ⟨rfl, hB4⟩
      have HW4 : Hid (Below w.heap.size w w4) := Lib.hid (HW2.out.trans (hB4.mono HBW.out))
      clear hB4
      go_wp2
      go_ret
      exact ⟨rfl, HW4.out⟩
set_option maxRecDepth 100000 in
set_option maxHeartbeats 4000000 in
theorem hash_any (tag : ByteArray) (parts : List ByteArray) (a : Option Addr) (cap : Nat) (w : World) (h1 : 1 ≤ tag.size) (h2 : tag.size ≤ 16) (hp : Txts w a parts) (hs : (partsL parts).length ≤ 140737488355300) :
    Calls Tryz.prog 45 #[.string tag, .slice a (len parts) cap] w fun e w' => e = .returned (.string (hashP tag parts)) ∧ Below w.heap.size w w' := by
  have HF := Lib.hid (frame_any tag parts a cap w h1 h2 hp hs)
  have HS : Hid (1 ≤ (frameS tag parts).size ∧ (frameS tag parts).size ≤ 140737488355328) := Lib.hid (by rw [frameS_size]; omega)
  clear h1 h2 hp hs
  go_enter Tryz.func45, Tryz.ntmps45
  go_wp2_with fail
  refine HF.out.mono ?_
  rintro e w1 ⟨rfl, hb1⟩
  have HB1 := Lib.hid hb1
  have t1 : (frameS tag parts).toList.isEmpty = false := fullT (by have := HS.out; omega)
  clear hb1
  go_wp2_with fail
  refine (sha_any (frameS tag parts) w1 (by have := HS.out; omega)).mono ?_
  rintro e w2 ⟨rfl, hb2⟩
  have HB2 : Hid (Below w.heap.size w w2) := Lib.hid (bnext HB1.out hb2)
  clear hb2
  go_wp2
  go_ret
  exact ⟨rfl, HB2.out⟩
end Go.Proofs.YtpobhbdomldecaaGreatDoor
namespace Go.Proofs.YtpobhbdomldecaaGreatDoor
open Go.RowKit
set_option linter.unusedSimpArgs false
set_option linter.unusedVariables false
def NodeAt (b : Nat) (d : ByteArray) (k0 k1 : Option Addr) (w : World) : Prop := w.heap[b]? = some (.cells #[.string d, .pointer k0, .pointer k1] 118 (0, 0))
theorem NodeAt.below {b : Nat} {d : ByteArray} {k0 k1 : Option Addr} {w w' : World} (h : NodeAt b d k0 k1 w) (hb : Below w.heap.size w w') : NodeAt b d k0 k1 w' := (hb.block _ (lt_of_block h)).trans h
theorem NodeAt.digest {b : Nat} {d : ByteArray} {k0 k1 : Option Addr} {w : World} (h : NodeAt b d k0 k1 w) : w.cell? ⟨b, 0, none⟩ = some (.string d) := by rw [block_cell h]; rfl
def LeafIs (d : ByteArray) (w : World) (e : Ending) (w' : World) : Prop := ∃ b, e = .returned (.pointer (some ⟨b, 0, none⟩)) ∧ w.heap.size ≤ b ∧ NodeAt b d none none w' ∧ Below w.heap.size w w'
theorem txts_cells {w : World} {g : Nat} {cs : Array Value} {t : TypeId} {fr : Nat × Nat} (h : w.heap[g]? = some (.cells cs t fr)) (l : List ByteArray) (hl : ∀ i, i < len l → cs[i]? = some (.string (tth l i))) : Txts w (some ⟨g, 0, none⟩) l := fun i hi => ⟨g, 0, rfl, by rw [block_cell h, Nat.zero_add]; exact hl i hi⟩
set_option maxRecDepth 100000 in
set_option maxHeartbeats 4000000 in
theorem leaf_node (s : ByteArray) (w : World) (hs : s.size ≤ 140737488355200) : Calls Tryz.prog 94 #[.string s] w (LeafIs (hashP leafT [s]) w) := by
  have HS := Lib.hid hs
  clear hs
  go_enter Tryz.func94, Tryz.ntmps94
  go_wp2_with fail
  have hw1 : Txts (w.alloc (.cells #[.string s] 9)) (some ⟨w.heap.size, 0, none⟩) [s] := txts_cells (heap_alloc_new _ _) [s] (fun i hi => by
    have : i = 0 := by have : i < 1 := hi; omega
    subst this; rfl)
  refine (hash_any leafT [s] (some ⟨w.heap.size, 0, none⟩) 1 _ (by decide) (by decide) hw1 (by have := HS.out; show ((partL s) ++ []).length ≤ _; rw [List.append_nil, partL_len]; omega)).mono ?_
  rintro e w2 ⟨rfl, hb2⟩
  have HB2 : Hid (Below w.heap.size w w2) := Lib.hid (bnext (balloc (Below.refl _ _) _) hb2)
  clear hb2 hw1
  obtain ⟨H, hH⟩ : ∃ H, hashP leafT [s] = H := ⟨_, rfl⟩
  rw [hH]
  go_wp2
  go_ret
  exact ⟨w2.heap.size, rfl, HB2.out.size, by rw [hH]; exact heap_alloc_new _ _, balloc HB2.out _⟩
def OverIs (d : ByteArray) (b0 b1 : Nat) (w : World) (e : Ending) (w' : World) : Prop := ∃ b, e = .returned (.pointer (some ⟨b, 0, none⟩)) ∧ w.heap.size ≤ b ∧ NodeAt b d (some ⟨b0, 0, none⟩) (some ⟨b1, 0, none⟩) w' ∧ Below w.heap.size w w'
set_option maxRecDepth 100000 in
set_option maxHeartbeats 4000000 in
theorem over_any (b0 b1 : Nat) (d0 d1 : ByteArray) (w : World) (h0 : w.cell? ⟨b0, 0, none⟩ = some (.string d0)) (h1 : w.cell? ⟨b1, 0, none⟩ = some (.string d1)) (hs : d0.size ≤ 70000000000000 ∧ d1.size ≤ 70000000000000) :
    Calls Tryz.prog 92 #[.pointer (some ⟨b0, 0, none⟩), .pointer (some ⟨b1, 0, none⟩)] w (OverIs (hashP nodeT [d0, d1]) b0 b1 w) := by
  obtain ⟨H, hH⟩ : ∃ H, hashP nodeT [d0, d1] = H := ⟨_, rfl⟩
  rw [hH]
  have HH : Hid (∀ (g : Nat) (wv : World), wv.heap[g]? = some (.cells #[.string d0, .string d1] 9 (0, 0)) → Calls Tryz.prog 45 #[.string ⟨#[110, 111, 100, 101]⟩, .slice (some ⟨g, 0, none⟩) 2 2] wv fun e w' => e = .returned (.string H) ∧ Below wv.heap.size wv w') := Lib.hid (fun g wv hg => by
    rw [← hH]
    refine hash_any nodeT [d0, d1] (some ⟨g, 0, none⟩) 2 wv (by decide) (by decide) (txts_cells hg [d0, d1] (fun i hi => by
      have : i = 0 ∨ i = 1 := by have : i < 2 := hi; omega
      rcases this with rfl | rfl <;> rfl)) ?_
    show ((partL d0) ++ ((partL d1) ++ [])).length ≤ _
    rw [List.append_nil, List.length_append, partL_len, partL_len]
    omega)
  have c0 := h0
  have c1 := h1
  clear hH h0 h1 hs
  go_enter Tryz.func92, Tryz.ntmps92
  go_upto_region 1 with fail
  refine wp_region_tail 15 1000 (none) (phis [fun u _ => u = (.pointer (some ⟨b0, 0, none⟩)), fun u _ => u = (.pointer (some ⟨b0, 0, none⟩)), fun u _ => u = (.pointer (some ⟨b0, 0, none⟩)), fun u _ => u = (.string d0), fun u _ => u = (.pointer (some ⟨b1, 0, none⟩)), fun u _ => u = (.pointer (some ⟨b1, 0, none⟩)), fun u _ => u = (.pointer (some ⟨b1, 0, none⟩)), fun u _ => u = (.string d1), fun u w' => ∃ g, u = .slice (some ⟨g, 0, none⟩) 2 2 ∧ w'.heap[g]? = some (.cells #[.string d0, .string d1] 9 (0, 0)), fun u _ => u = (.string H), fun u _ => u = (.pointer (some ⟨b0, 0, none⟩)), fun u _ => u = (.pointer (some ⟨b1, 0, none⟩)), fun u _ => u = (.agg #[.pointer (some ⟨b0, 0, none⟩), .pointer (some ⟨b1, 0, none⟩)]), fun u _ => u = (.agg #[.string H, .pointer (some ⟨b0, 0, none⟩), .pointer (some ⟨b1, 0, none⟩)]), fun u w' => ∃ g, u = .pointer (some ⟨g, 0, none⟩) ∧ w.heap.size ≤ g ∧ NodeAt g H (some ⟨b0, 0, none⟩) (some ⟨b1, 0, none⟩) w']) rfl (by kernel_rfl) (by kernel_rfl) (mono_of ⟨mono_eq, mono_eq, mono_eq, mono_eq, mono_eq, mono_eq, mono_eq, mono_eq, ?m8, mono_eq, mono_eq, mono_eq, mono_eq, mono_eq, ?m14, trivial⟩) (steps_of 15 ⟨?s0, ?s1, ?s2, ?s3, ?s4, ?s5, ?s6, ?s7, ?s8, ?s9, ?s10, ?s11, ?s12, ?s13, ?s14, trivial⟩) ?_
  case m8 =>
    exact ⟨fun u w1 w' h ⟨b, h1, hb⟩ => ⟨b, h1, ext_block h hb⟩, fun _ u w1 w' h ⟨b, h1, hb⟩ => ⟨b, h1, extB_block h (by simp) hb⟩⟩
  case m14 =>
    exact ⟨fun u w1 w' h ⟨b, h1, h2, hb⟩ => ⟨b, h1, h2, ext_block h hb⟩, fun _ u w1 w' h ⟨b, h1, h2, hb⟩ => ⟨b, h1, h2, extB_block h (by simp) hb⟩⟩
  case s0 =>
    refine step_val (v := (.pointer (some ⟨b0, 0, none⟩))) (fun av wv hE hS hO hD => ?_) (fun _ => rfl)
    have h0 : av.eval (.tmp 0) = (.pointer (some ⟨b0, 0, none⟩)) := hO.2.2 0 rfl
    have f0 := (ev_form av 0).symm.trans h0
    refine ⟨rfl, ?_⟩
    simp [go_sem, f0]
  case s1 =>
    refine step_val (v := (.pointer (some ⟨b0, 0, none⟩))) (fun av wv hE hS hO hD => ?_) (fun _ => rfl)
    have d5 : av.eval (.tmp 5) = (.pointer (some ⟨b0, 0, none⟩)) := hD.1 rfl _ rfl
    have f5 := (ev_form av 5).symm.trans d5
    refine ⟨rfl, ?_⟩
    simp [go_sem, f5]
  case s2 =>
    refine step_val (v := (.pointer (some ⟨b0, 0, none⟩))) (fun av wv hE hS hO hD => ?_) (fun _ => rfl)
    have d6 : av.eval (.tmp 6) = (.pointer (some ⟨b0, 0, none⟩)) := hD.1 rfl _ rfl
    have f6 := (ev_form av 6).symm.trans d6
    refine ⟨rfl, ?_⟩
    simp [go_sem, f6]
  case s3 =>
    refine step_val (v := (.string d0)) (fun av wv hE hS hO hD => ?_) (fun _ => rfl)
    have d7 : av.eval (.tmp 7) = (.pointer (some ⟨b0, 0, none⟩)) := hD.1 rfl _ rfl
    have f7 := (ev_form av 7).symm.trans d7
    have c0 := extB_cell hE (by simp) c0
    have c1 := extB_cell hE (by simp) c1
    refine ⟨rfl, ?_⟩
    simp [go_sem, f7, c0, c1]
  case s4 =>
    refine step_val (v := (.pointer (some ⟨b1, 0, none⟩))) (fun av wv hE hS hO hD => ?_) (fun _ => rfl)
    have h1 : av.eval (.tmp 1) = (.pointer (some ⟨b1, 0, none⟩)) := hO.2.2 1 rfl
    have f1 := (ev_form av 1).symm.trans h1
    refine ⟨rfl, ?_⟩
    simp [go_sem, f1]
  case s5 =>
    refine step_val (v := (.pointer (some ⟨b1, 0, none⟩))) (fun av wv hE hS hO hD => ?_) (fun _ => rfl)
    have d9 : av.eval (.tmp 9) = (.pointer (some ⟨b1, 0, none⟩)) := hD.1 rfl _ rfl
    have f9 := (ev_form av 9).symm.trans d9
    refine ⟨rfl, ?_⟩
    simp [go_sem, f9]
  case s6 =>
    refine step_val (v := (.pointer (some ⟨b1, 0, none⟩))) (fun av wv hE hS hO hD => ?_) (fun _ => rfl)
    have d10 : av.eval (.tmp 10) = (.pointer (some ⟨b1, 0, none⟩)) := hD.1 rfl _ rfl
    have f10 := (ev_form av 10).symm.trans d10
    refine ⟨rfl, ?_⟩
    simp [go_sem, f10]
  case s7 =>
    refine step_val (v := (.string d1)) (fun av wv hE hS hO hD => ?_) (fun _ => rfl)
    have d11 : av.eval (.tmp 11) = (.pointer (some ⟨b1, 0, none⟩)) := hD.1 rfl _ rfl
    have f11 := (ev_form av 11).symm.trans d11
    have c0 := extB_cell hE (by simp) c0
    have c1 := extB_cell hE (by simp) c1
    refine ⟨rfl, ?_⟩
    simp [go_sem, f11, c0, c1]
  case s8 =>
    refine step_wp (fun av wv hE hS hO hD => ?_)
    have d8 : av.eval (.tmp 8) = (.string d0) := hD.1 rfl _ rfl
    have f8 := (ev_form av 8).symm.trans d8
    have d12 : av.eval (.tmp 12) = (.string d1) := hD.2.1 rfl _ rfl
    have f12 := (ev_form av 12).symm.trans d12
    refine ⟨rfl, ?_⟩
    refine wp_of_run (v := .slice (some ⟨wv.heap.size, 0, none⟩) 2 2) (w' := wv.alloc (.cells #[.string d0, .string d1] 9)) (by simp [go_sem, f8, f12]) ⟨_, rfl, es_of_ext (balloc (Ext_refl _) _), wv.heap.size, rfl, heap_alloc_new _ _⟩
  case s9 =>
    refine step_wp (fun av wv hE hS hO hD => ?_)
    have d13 : (fun u w' => ∃ g, u = .slice (some ⟨g, 0, none⟩) 2 2 ∧ w'.heap[g]? = some (.cells #[.string d0, .string d1] 9 (0, 0))) (av.eval (.tmp 13)) wv := hD.1 rfl _ rfl
    refine ⟨rfl, ?_⟩
    obtain ⟨g, h13, hg⟩ := d13
    have f13 := (ev_form av 13).symm.trans h13
    refine wp_of_call (v := .string H) (by simp [go_sem, f13]) (HH.out g wv hg) (fun w2 hb => ⟨_, rfl, es_of_ext hb, rfl⟩)
  case s10 =>
    refine step_val (v := (.pointer (some ⟨b0, 0, none⟩))) (fun av wv hE hS hO hD => ?_) (fun _ => rfl)
    have h0 : av.eval (.tmp 0) = (.pointer (some ⟨b0, 0, none⟩)) := hO.2.2 0 rfl
    have f0 := (ev_form av 0).symm.trans h0
    refine ⟨rfl, ?_⟩
    simp [go_sem, f0]
  case s11 =>
    refine step_val (v := (.pointer (some ⟨b1, 0, none⟩))) (fun av wv hE hS hO hD => ?_) (fun _ => rfl)
    have h1 : av.eval (.tmp 1) = (.pointer (some ⟨b1, 0, none⟩)) := hO.2.2 1 rfl
    have f1 := (ev_form av 1).symm.trans h1
    refine ⟨rfl, ?_⟩
    simp [go_sem, f1]
  case s12 =>
    refine step_val (v := (.agg #[.pointer (some ⟨b0, 0, none⟩), .pointer (some ⟨b1, 0, none⟩)])) (fun av wv hE hS hO hD => ?_) (fun _ => rfl)
    have d15 : av.eval (.tmp 15) = (.pointer (some ⟨b0, 0, none⟩)) := hD.1 rfl _ rfl
    have f15 := (ev_form av 15).symm.trans d15
    have d16 : av.eval (.tmp 16) = (.pointer (some ⟨b1, 0, none⟩)) := hD.2.1 rfl _ rfl
    have f16 := (ev_form av 16).symm.trans d16
    refine ⟨rfl, ?_⟩
    simp [go_sem, f15, f16]
  case s13 =>
    refine step_val (v := (.agg #[.string H, .pointer (some ⟨b0, 0, none⟩), .pointer (some ⟨b1, 0, none⟩)])) (fun av wv hE hS hO hD => ?_) (fun _ => rfl)
    have d14 : av.eval (.tmp 14) = (.string H) := hD.1 rfl _ rfl
    have f14 := (ev_form av 14).symm.trans d14
    have d17 : av.eval (.tmp 17) = (.agg #[.pointer (some ⟨b0, 0, none⟩), .pointer (some ⟨b1, 0, none⟩)]) := hD.2.1 rfl _ rfl
    have f17 := (ev_form av 17).symm.trans d17
    refine ⟨rfl, ?_⟩
    simp [go_sem, f14, f17]
  case s14 =>
    refine step_wp (fun av wv hE hS hO hD => ?_)
    have d18 : av.eval (.tmp 18) = (.agg #[.string H, .pointer (some ⟨b0, 0, none⟩), .pointer (some ⟨b1, 0, none⟩)]) := hD.1 rfl _ rfl
    have f18 := (ev_form av 18).symm.trans d18
    refine ⟨rfl, ?_⟩
    refine wp_of_run (v := .pointer (some ⟨wv.heap.size, 0, none⟩)) (w' := wv.alloc (.cells #[.string H, .pointer (some ⟨b0, 0, none⟩), .pointer (some ⟨b1, 0, none⟩)] 118)) (by simp [go_sem, f18]) ⟨_, rfl, es_of_ext (balloc (Ext_refl _) _), wv.heap.size, rfl, (by have := hE.size; simp at this; omega), heap_alloc_new _ _⟩
  intro a' w' hE hO hall
  have hA := act_of_outer (ds := [5, 6, 7, 8, 9, 10, 11, 12, 13, 14, 15, 16, 17, 18, 19]) rfl hO (by kernel_rfl)
  have e5 : (fun u _ => u = (.pointer (some ⟨b0, 0, none⟩))) (a'.eval (.tmp 5)) w' := hall.1 _ rfl
  have e6 : (fun u _ => u = (.pointer (some ⟨b0, 0, none⟩))) (a'.eval (.tmp 6)) w' := hall.2.1 _ rfl
  have e7 : (fun u _ => u = (.pointer (some ⟨b0, 0, none⟩))) (a'.eval (.tmp 7)) w' := hall.2.2.1 _ rfl
  have e8 : (fun u _ => u = (.string d0)) (a'.eval (.tmp 8)) w' := hall.2.2.2.1 _ rfl
  have e9 : (fun u _ => u = (.pointer (some ⟨b1, 0, none⟩))) (a'.eval (.tmp 9)) w' := hall.2.2.2.2.1 _ rfl
  have e10 : (fun u _ => u = (.pointer (some ⟨b1, 0, none⟩))) (a'.eval (.tmp 10)) w' := hall.2.2.2.2.2.1 _ rfl
  have e11 : (fun u _ => u = (.pointer (some ⟨b1, 0, none⟩))) (a'.eval (.tmp 11)) w' := hall.2.2.2.2.2.2.1 _ rfl
  have e12 : (fun u _ => u = (.string d1)) (a'.eval (.tmp 12)) w' := hall.2.2.2.2.2.2.2.1 _ rfl
  have e13 : (fun u w' => ∃ g, u = .slice (some ⟨g, 0, none⟩) 2 2 ∧ w'.heap[g]? = some (.cells #[.string d0, .string d1] 9 (0, 0))) (a'.eval (.tmp 13)) w' := hall.2.2.2.2.2.2.2.2.1 _ rfl
  have e14 : (fun u _ => u = (.string H)) (a'.eval (.tmp 14)) w' := hall.2.2.2.2.2.2.2.2.2.1 _ rfl
  have e15 : (fun u _ => u = (.pointer (some ⟨b0, 0, none⟩))) (a'.eval (.tmp 15)) w' := hall.2.2.2.2.2.2.2.2.2.2.1 _ rfl
  have e16 : (fun u _ => u = (.pointer (some ⟨b1, 0, none⟩))) (a'.eval (.tmp 16)) w' := hall.2.2.2.2.2.2.2.2.2.2.2.1 _ rfl
  have e17 : (fun u _ => u = (.agg #[.pointer (some ⟨b0, 0, none⟩), .pointer (some ⟨b1, 0, none⟩)])) (a'.eval (.tmp 17)) w' := hall.2.2.2.2.2.2.2.2.2.2.2.2.1 _ rfl
  have e18 : (fun u _ => u = (.agg #[.string H, .pointer (some ⟨b0, 0, none⟩), .pointer (some ⟨b1, 0, none⟩)])) (a'.eval (.tmp 18)) w' := hall.2.2.2.2.2.2.2.2.2.2.2.2.2.1 _ rfl
  have e19 : (fun u w' => ∃ g, u = .pointer (some ⟨g, 0, none⟩) ∧ w.heap.size ≤ g ∧ NodeAt g H (some ⟨b0, 0, none⟩) (some ⟨b1, 0, none⟩) w') (a'.eval (.tmp 19)) w' := hall.2.2.2.2.2.2.2.2.2.2.2.2.2.2.1 _ rfl
  obtain ⟨v13, hv13⟩ : ∃ v, a'.eval (.tmp 13) = v := ⟨_, rfl⟩
  rw [hv13] at e13
  obtain ⟨v19, hv19⟩ : ∃ v, a'.eval (.tmp 19) = v := ⟨_, rfl⟩
  rw [hv19] at e19
  simp only [List.foldl_cons, List.foldl_nil, Act.put, List.setIfInBounds_toArray, List.set_cons_succ, List.set_cons_zero, e5, e6, e7, e8, e9, e10, e11, e12, hv13, e14, e15, e16, e17, e18, hv19] at hA
  clear hO hall e5 e6 e7 e8 e9 e10 e11 e12 hv13 e14 e15 e16 e17 e18 hv19
  subst hA
  obtain ⟨g, rfl, hg, hn⟩ := e19
  have HN := Lib.hid hn
  have HG := Lib.hid hg
  have HW : Hid (Below w.heap.size w w') := Lib.hid (of_drew hE)
  clear hn hg hE
  go_wp2
  go_ret
  exact ⟨g, rfl, HG.out, HN.out, HW.out⟩
end Go.Proofs.YtpobhbdomldecaaGreatDoor
namespace Go.Proofs.YtpobhbdomldecaaGreatDoor
open Go.RowKit
set_option linter.unusedSimpArgs false
set_option linter.unusedVariables false
def PlaceIs (els : List ByteArray) (d : Nat) : Nat → Nat → Nat → World → Prop
  | 0, k, b, w => NodeAt b (plD els d 0 k) none none w
  | l + 1, k, b, w => ∃ b0 b1, NodeAt b (plD els d (l + 1) k) (some ⟨b0, 0, none⟩) (some ⟨b1, 0, none⟩) w ∧ PlaceIs els d l (2 * k) b0 w ∧ PlaceIs els d l (2 * k + 1) b1 w
theorem PlaceIs.below {els : List ByteArray} {d : Nat} : ∀ {l k b : Nat} {w w' : World}, PlaceIs els d l k b w → Below w.heap.size w w' → PlaceIs els d l k b w'
  | 0, _, _, _, _, h, hb => NodeAt.below h hb
  | l + 1, _, _, _, _, ⟨b0, b1, h, h0, h1⟩, hb => ⟨b0, b1, h.below hb, h0.below hb, h1.below hb⟩
theorem PlaceIs.digest {els : List ByteArray} {d : Nat} : ∀ {l k b : Nat} {w : World}, PlaceIs els d l k b w → w.cell? ⟨b, 0, none⟩ = some (.string (plD els d l k))
  | 0, _, _, _, h => NodeAt.digest h
  | l + 1, _, _, _, ⟨b0, b1, h, _, _⟩ => h.digest
theorem PlaceIs.ext {els : List ByteArray} {d l k b : Nat} {w w' : World} (h : PlaceIs els d l k b w) (hb : Ext w w') : PlaceIs els d l k b w' := h.below hb
theorem PlaceIs.extB {els : List ByteArray} {d l k b : Nat} {w w' : World} (h : PlaceIs els d l k b w) (hb : ExtB none w w') : PlaceIs els d l k b w' := h.below (extB_none hb)
structure EnvT (els : List ByteArray) (d bF bD bE bN nb : Nat) (a : Option Addr) (cap : Nat) (w : World) : Prop where
  f : w.heap[bF]? = some (.cells #[.func (.func 91) #[] #[.pointer (some ⟨bF, 0, none⟩), .pointer (some ⟨bD, 0, none⟩), .pointer (some ⟨bE, 0, none⟩), .pointer (some ⟨bN, 0, none⟩)]] 119 (0, 0))
  d : w.heap[bD]? = some (.cells #[.int .i64 (d : Nat)] 3 (0, 0))
  e : w.heap[bE]? = some (.cells #[.slice a (len els) cap] 36 (0, 0))
  n : w.heap[bN]? = some (.cells #[.pointer (some ⟨nb, 0, none⟩)] 115 (0, 0))
  nb : NodeAt nb (hashP noneT []) none none w
  t : Txts w a els
theorem EnvT.below {els : List ByteArray} {d bF bD bE bN nb : Nat} {a : Option Addr} {cap : Nat} {w w' : World} (h : EnvT els d bF bD bE bN nb a cap w) (hb : Below w.heap.size w w') : EnvT els d bF bD bE bN nb a cap w' :=
  ⟨(hb.block _ (lt_of_block h.f)).trans h.f, (hb.block _ (lt_of_block h.d)).trans h.d, (hb.block _ (lt_of_block h.e)).trans h.e, (hb.block _ (lt_of_block h.n)).trans h.n, h.nb.below hb, h.t.below hb⟩
def AtIs (els : List ByteArray) (d l k : Nat) (w : World) (e : Ending) (w' : World) : Prop := ∃ g, e = .returned (.pointer (some ⟨g, 0, none⟩)) ∧ PlaceIs els d l k g w' ∧ Below w.heap.size w w'
theorem turned_rev {k d : Nat} (hd : d ≤ 16) (hk : k < 2 ^ d) : turnedZ (k : Nat) (d : Nat) = ((revOf k d : Nat) : Int) := by
  unfold turnedZ
  rw [if_pos]
  · simp
  · refine ⟨by omega, by omega, ?_⟩
    rw [Int.toNat_natCast, pow_cast]
    exact_mod_cast hk
theorem pow_le16 {d : Nat} (hd : d ≤ 16) : 2 ^ d ≤ 65536 := Nat.pow_le_pow_right (by decide) hd
set_option maxRecDepth 100000 in
set_option maxHeartbeats 4000000 in
theorem at_zero (els : List ByteArray) (d bF bD bE bN nb : Nat) (a : Option Addr) (cap k : Nat) (w : World) (hd : d ≤ 16) (hk : k < 2 ^ d) (hn : len els ≤ 65536) (hz : ∀ i, i < len els → (tth els i).size ≤ 140737488355200) (h : EnvT els d bF bD bE bN nb a cap w) :
    Calls Tryz.prog 91 #[.int .i64 0, .int .u64 k, .pointer (some ⟨bF, 0, none⟩), .pointer (some ⟨bD, 0, none⟩), .pointer (some ⟨bE, 0, none⟩), .pointer (some ⟨bN, 0, none⟩)] w (AtIs els d 0 k w) := by
  have H := Lib.hid h
  have HK : Hid (k < 65536) := Lib.hid (Nat.lt_of_lt_of_le hk (pow_le16 hd))
  have HN := Lib.hid hn
  have HZ := Lib.hid hz
  have HEL := Lib.hid (element_any (k : Nat) (d : Nat) w (by omega) (by have := HK.out; omega))
  rw [turned_rev hd hk] at HEL
  have cd : w.cell? ⟨bD, 0, none⟩ = some (.int .i64 (d : Nat)) := by rw [block_cell h.d]; rfl
  have ce : w.cell? ⟨bE, 0, none⟩ = some (.slice a (len els) cap) := by rw [block_cell h.e]; rfl
  have cn : w.cell? ⟨bN, 0, none⟩ = some (.pointer (some ⟨nb, 0, none⟩)) := by rw [block_cell h.n]; rfl
  have HPL : Hid (plD els d 0 k = if revOf k d < len els then hashP leafT [tth els (revOf k d)] else hashP noneT []) := Lib.hid rfl
  have HRL : Hid (revOf k d < 65536) := Lib.hid (Nat.lt_of_lt_of_le (revOf_lt k d) (pow_le16 hd))
  obtain ⟨i, hi⟩ : ∃ i, revOf k d = i := ⟨_, rfl⟩
  rw [hi] at HEL HPL HRL
  clear h hi hd hk hn hz
  go_enter Tryz.func91, Tryz.ntmps91
  go_wp2_with fail
  refine HEL.out.mono ?_
  rintro e w1 ⟨rfl, rfl⟩
  have HNB := HN.out
  have hil := HRL.out
  by_cases hlt : i < len els
  · have i1 : (i : Int) < (len els : Nat) := by omega
    have i2 : IntKind.u64.wrap ((len els : Nat) : Int) = ((len els : Nat) : Int) := IntWalk.u64_in _ (by omega)
    obtain ⟨pb, po, rfl, hpc⟩ := H.out.t i hlt
    obtain ⟨x, hx⟩ : ∃ x, tth els i = x := ⟨_, rfl⟩
    rw [hx] at hpc
    have HX := Lib.hid hx
    clear hx
    go_wp2_with fail
    refine (leaf_node x w (by rw [← HX.out]; exact HZ.out i hlt)).mono ?_
    rintro e w2 ⟨g, rfl, hg, hn2, hb2⟩
    have HE2 : Hid (PlaceIs els d 0 k g w2) := Lib.hid (by
      show NodeAt g (plD els d 0 k) none none w2
      rw [HPL.out, if_pos hlt, HX.out]; exact hn2)
    have HB2 := Lib.hid hb2
    clear hg hn2 hb2 hpc
    go_wp2
    go_ret
    exact ⟨g, rfl, HE2.out, HB2.out⟩
  · have i1 : ¬ (i : Int) < (len els : Nat) := by omega
    have i2 : IntKind.u64.wrap ((len els : Nat) : Int) = ((len els : Nat) : Int) := IntWalk.u64_in _ (by omega)
    have HE2 : Hid (PlaceIs els d 0 k nb w) := Lib.hid (by
      show NodeAt nb (plD els d 0 k) none none w
      rw [HPL.out, if_neg hlt]; exact H.out.nb)
    clear hlt
    go_wp2
    go_ret
    exact ⟨nb, rfl, HE2.out, Below.refl _ _⟩
set_option maxRecDepth 100000 in
set_option maxHeartbeats 4000000 in
theorem at_step (els : List ByteArray) (d bF bD bE bN nb : Nat) (a : Option Addr) (cap l k : Nat) (w : World) (hd : l + 1 ≤ 16) (hk : k < 65536) (h : EnvT els d bF bD bE bN nb a cap w)
    (hr : ∀ (k' : Nat) (wv : World), Below w.heap.size w wv → (k' = 2 * k ∨ k' = 2 * k + 1) → Calls Tryz.prog 91 #[.int .i64 (l : Nat), .int .u64 ((k' : Nat) : Int), .pointer (some ⟨bF, 0, none⟩), .pointer (some ⟨bD, 0, none⟩), .pointer (some ⟨bE, 0, none⟩), .pointer (some ⟨bN, 0, none⟩)] wv (AtIs els d l k' wv)) :
    Calls Tryz.prog 91 #[.int .i64 ((l + 1 : Nat) : Int), .int .u64 k, .pointer (some ⟨bF, 0, none⟩), .pointer (some ⟨bD, 0, none⟩), .pointer (some ⟨bE, 0, none⟩), .pointer (some ⟨bN, 0, none⟩)] w (AtIs els d (l + 1) k w) := by
  have HR := Lib.hid hr
  have K1 : 2 * k = 2 * k ∨ 2 * k = 2 * k + 1 := Or.inl rfl
  have K2 : 2 * k + 1 = 2 * k ∨ 2 * k + 1 = 2 * k + 1 := Or.inr rfl
  have cf : w.cell? ⟨bF, 0, none⟩ = some (.func (.func 91) #[] #[.pointer (some ⟨bF, 0, none⟩), .pointer (some ⟨bD, 0, none⟩), .pointer (some ⟨bE, 0, none⟩), .pointer (some ⟨bN, 0, none⟩)]) := by rw [block_cell h.f]; rfl
  have l1 : (0 : Int) < ((l + 1 : Nat) : Int) := by omega
  have s1 : IntKind.i64.wrap (l : Int) = (l : Int) := IntWalk.i64_in _ (by omega)
  have m1 : IntKind.u64.wrap (2 * (k : Int)) = 2 * (k : Int) := IntWalk.u64_in _ (by omega)
  have m2 : IntKind.u64.wrap (2 * (k : Int) + 1) = 2 * (k : Int) + 1 := IntWalk.u64_in _ (by omega)
  clear hr h
  go_enter Tryz.func91, Tryz.ntmps91
  go_upto_region 2 with fail
  refine wp_region_tail 14 1000 (none) (phis [fun u _ => u = (.func (.func 91) #[] #[.pointer (some ⟨bF, 0, none⟩), .pointer (some ⟨bD, 0, none⟩), .pointer (some ⟨bE, 0, none⟩), .pointer (some ⟨bN, 0, none⟩)]), fun u _ => u = (.int .i64 ((l + 1 : Nat) : Int)), fun u _ => u = (.int .i64 (l : Nat)), fun u _ => u = (.int .u64 k), fun u _ => u = (.int .u64 ((2 * k : Nat) : Int)), fun u w' => ∃ g, u = .pointer (some ⟨g, 0, none⟩) ∧ PlaceIs els d l (2 * k) g w', fun u _ => u = (.func (.func 91) #[] #[.pointer (some ⟨bF, 0, none⟩), .pointer (some ⟨bD, 0, none⟩), .pointer (some ⟨bE, 0, none⟩), .pointer (some ⟨bN, 0, none⟩)]), fun u _ => u = (.int .i64 ((l + 1 : Nat) : Int)), fun u _ => u = (.int .i64 (l : Nat)), fun u _ => u = (.int .u64 k), fun u _ => u = (.int .u64 ((2 * k : Nat) : Int)), fun u _ => u = (.int .u64 ((2 * k + 1 : Nat) : Int)), fun u w' => ∃ g, u = .pointer (some ⟨g, 0, none⟩) ∧ PlaceIs els d l (2 * k + 1) g w', fun u w' => ∃ g, u = .pointer (some ⟨g, 0, none⟩) ∧ PlaceIs els d (l + 1) k g w']) rfl (by kernel_rfl) (by kernel_rfl) (mono_of ⟨mono_eq, mono_eq, mono_eq, mono_eq, mono_eq, ?m5, mono_eq, mono_eq, mono_eq, mono_eq, mono_eq, mono_eq, ?m12, ?m13, trivial⟩) (steps_of 14 ⟨?s0, ?s1, ?s2, ?s3, ?s4, ?s5, ?s6, ?s7, ?s8, ?s9, ?s10, ?s11, ?s12, ?s13, trivial⟩) ?_
  case m5 =>
    exact ⟨fun u w1 w' h ⟨b, h1, hb⟩ => ⟨b, h1, hb.ext h⟩, fun _ u w1 w' h ⟨b, h1, hb⟩ => ⟨b, h1, hb.extB h⟩⟩
  case m12 =>
    exact ⟨fun u w1 w' h ⟨b, h1, hb⟩ => ⟨b, h1, hb.ext h⟩, fun _ u w1 w' h ⟨b, h1, hb⟩ => ⟨b, h1, hb.extB h⟩⟩
  case m13 =>
    exact ⟨fun u w1 w' h ⟨b, h1, hb⟩ => ⟨b, h1, hb.ext h⟩, fun _ u w1 w' h ⟨b, h1, hb⟩ => ⟨b, h1, hb.extB h⟩⟩
  case s0 =>
    refine step_val (v := (.func (.func 91) #[] #[.pointer (some ⟨bF, 0, none⟩), .pointer (some ⟨bD, 0, none⟩), .pointer (some ⟨bE, 0, none⟩), .pointer (some ⟨bN, 0, none⟩)])) (fun av wv hE hS hO hD => ?_) (fun _ => rfl)
    have h2 : av.eval (.tmp 2) = (.pointer (some ⟨bF, 0, none⟩)) := hO.2.2 2 rfl
    have f2 := (ev_form av 2).symm.trans h2
    have cf := extB_cell hE (by simp) cf
    refine ⟨rfl, ?_⟩
    simp [go_sem, f2, cf, s1, m1, m2]
  case s1 =>
    refine step_val (v := (.int .i64 ((l + 1 : Nat) : Int))) (fun av wv hE hS hO hD => ?_) (fun _ => rfl)
    have h0 : av.eval (.tmp 0) = (.int .i64 ((l + 1 : Nat) : Int)) := hO.2.2 0 rfl
    have f0 := (ev_form av 0).symm.trans h0
    refine ⟨rfl, ?_⟩
    simp [go_sem, f0, s1, m1, m2]
  case s2 =>
    refine step_val (v := (.int .i64 (l : Nat))) (fun av wv hE hS hO hD => ?_) (fun _ => rfl)
    have d13 : av.eval (.tmp 13) = (.int .i64 ((l + 1 : Nat) : Int)) := hD.1 rfl _ rfl
    have f13 := (ev_form av 13).symm.trans d13
    refine ⟨rfl, ?_⟩
    simp [go_sem, f13, s1, m1, m2]
  case s3 =>
    refine step_val (v := (.int .u64 k)) (fun av wv hE hS hO hD => ?_) (fun _ => rfl)
    have h1 : av.eval (.tmp 1) = (.int .u64 k) := hO.2.2 1 rfl
    have f1 := (ev_form av 1).symm.trans h1
    refine ⟨rfl, ?_⟩
    simp [go_sem, f1, s1, m1, m2]
  case s4 =>
    refine step_val (v := (.int .u64 ((2 * k : Nat) : Int))) (fun av wv hE hS hO hD => ?_) (fun _ => rfl)
    have d15 : av.eval (.tmp 15) = (.int .u64 k) := hD.1 rfl _ rfl
    have f15 := (ev_form av 15).symm.trans d15
    refine ⟨rfl, ?_⟩
    simp [go_sem, f15, s1, m1, m2]
  case s5 =>
    refine step_wp (fun av wv hE hS hO hD => ?_)
    have d12 : av.eval (.tmp 12) = (.func (.func 91) #[] #[.pointer (some ⟨bF, 0, none⟩), .pointer (some ⟨bD, 0, none⟩), .pointer (some ⟨bE, 0, none⟩), .pointer (some ⟨bN, 0, none⟩)]) := hD.1 rfl _ rfl
    have f12 := (ev_form av 12).symm.trans d12
    have d14 : av.eval (.tmp 14) = (.int .i64 (l : Nat)) := hD.2.1 rfl _ rfl
    have f14 := (ev_form av 14).symm.trans d14
    have d16 : av.eval (.tmp 16) = (.int .u64 ((2 * k : Nat) : Int)) := hD.2.2.1 rfl _ rfl
    have f16 := (ev_form av 16).symm.trans d16
    refine ⟨rfl, ?_⟩
    refine wp_of_callV (R := fun u w2 => (∃ g, u = .pointer (some ⟨g, 0, none⟩) ∧ PlaceIs els d l (2 * k) g w2) ∧ Below wv.heap.size wv w2) (f := 91) (args := #[.int .i64 (l : Nat), .int .u64 ((2 * k : Nat) : Int), .pointer (some ⟨bF, 0, none⟩), .pointer (some ⟨bD, 0, none⟩), .pointer (some ⟨bE, 0, none⟩), .pointer (some ⟨bN, 0, none⟩)]) (by simp [go_sem, f12, f14, f16]) ((HR.out (2 * k) wv (of_drew hE) K1).mono (fun e w2 ⟨g, h1, h2, h3⟩ => ⟨_, h1, ⟨g, rfl, h2⟩, h3⟩)) (fun u w2 ⟨h1, h2⟩ => ⟨_, rfl, es_of_ext h2, h1⟩)
  case s6 =>
    refine step_val (v := (.func (.func 91) #[] #[.pointer (some ⟨bF, 0, none⟩), .pointer (some ⟨bD, 0, none⟩), .pointer (some ⟨bE, 0, none⟩), .pointer (some ⟨bN, 0, none⟩)])) (fun av wv hE hS hO hD => ?_) (fun _ => rfl)
    have h2 : av.eval (.tmp 2) = (.pointer (some ⟨bF, 0, none⟩)) := hO.2.2 2 rfl
    have f2 := (ev_form av 2).symm.trans h2
    have cf := extB_cell hE (by simp) cf
    refine ⟨rfl, ?_⟩
    simp [go_sem, f2, cf, s1, m1, m2]
  case s7 =>
    refine step_val (v := (.int .i64 ((l + 1 : Nat) : Int))) (fun av wv hE hS hO hD => ?_) (fun _ => rfl)
    have h0 : av.eval (.tmp 0) = (.int .i64 ((l + 1 : Nat) : Int)) := hO.2.2 0 rfl
    have f0 := (ev_form av 0).symm.trans h0
    refine ⟨rfl, ?_⟩
    simp [go_sem, f0, s1, m1, m2]
  case s8 =>
    refine step_val (v := (.int .i64 (l : Nat))) (fun av wv hE hS hO hD => ?_) (fun _ => rfl)
    have d19 : av.eval (.tmp 19) = (.int .i64 ((l + 1 : Nat) : Int)) := hD.1 rfl _ rfl
    have f19 := (ev_form av 19).symm.trans d19
    refine ⟨rfl, ?_⟩
    simp [go_sem, f19, s1, m1, m2]
  case s9 =>
    refine step_val (v := (.int .u64 k)) (fun av wv hE hS hO hD => ?_) (fun _ => rfl)
    have h1 : av.eval (.tmp 1) = (.int .u64 k) := hO.2.2 1 rfl
    have f1 := (ev_form av 1).symm.trans h1
    refine ⟨rfl, ?_⟩
    simp [go_sem, f1, s1, m1, m2]
  case s10 =>
    refine step_val (v := (.int .u64 ((2 * k : Nat) : Int))) (fun av wv hE hS hO hD => ?_) (fun _ => rfl)
    have d21 : av.eval (.tmp 21) = (.int .u64 k) := hD.1 rfl _ rfl
    have f21 := (ev_form av 21).symm.trans d21
    refine ⟨rfl, ?_⟩
    simp [go_sem, f21, s1, m1, m2]
  case s11 =>
    refine step_val (v := (.int .u64 ((2 * k + 1 : Nat) : Int))) (fun av wv hE hS hO hD => ?_) (fun _ => rfl)
    have d22 : av.eval (.tmp 22) = (.int .u64 ((2 * k : Nat) : Int)) := hD.1 rfl _ rfl
    have f22 := (ev_form av 22).symm.trans d22
    refine ⟨rfl, ?_⟩
    simp [go_sem, f22, s1, m1, m2]
  case s12 =>
    refine step_wp (fun av wv hE hS hO hD => ?_)
    have d18 : av.eval (.tmp 18) = (.func (.func 91) #[] #[.pointer (some ⟨bF, 0, none⟩), .pointer (some ⟨bD, 0, none⟩), .pointer (some ⟨bE, 0, none⟩), .pointer (some ⟨bN, 0, none⟩)]) := hD.1 rfl _ rfl
    have f18 := (ev_form av 18).symm.trans d18
    have d20 : av.eval (.tmp 20) = (.int .i64 (l : Nat)) := hD.2.1 rfl _ rfl
    have f20 := (ev_form av 20).symm.trans d20
    have d23 : av.eval (.tmp 23) = (.int .u64 ((2 * k + 1 : Nat) : Int)) := hD.2.2.1 rfl _ rfl
    have f23 := (ev_form av 23).symm.trans d23
    refine ⟨rfl, ?_⟩
    refine wp_of_callV (R := fun u w2 => (∃ g, u = .pointer (some ⟨g, 0, none⟩) ∧ PlaceIs els d l (2 * k + 1) g w2) ∧ Below wv.heap.size wv w2) (f := 91) (args := #[.int .i64 (l : Nat), .int .u64 ((2 * k + 1 : Nat) : Int), .pointer (some ⟨bF, 0, none⟩), .pointer (some ⟨bD, 0, none⟩), .pointer (some ⟨bE, 0, none⟩), .pointer (some ⟨bN, 0, none⟩)]) (by simp [go_sem, f18, f20, f23]) ((HR.out (2 * k + 1) wv (of_drew hE) K2).mono (fun e w2 ⟨g, h1, h2, h3⟩ => ⟨_, h1, ⟨g, rfl, h2⟩, h3⟩)) (fun u w2 ⟨h1, h2⟩ => ⟨_, rfl, es_of_ext h2, h1⟩)
  case s13 =>
    refine step_wp (fun av wv hE hS hO hD => ?_)
    have d17 : (fun u w' => ∃ g, u = .pointer (some ⟨g, 0, none⟩) ∧ PlaceIs els d l (2 * k) g w') (av.eval (.tmp 17)) wv := hD.1 rfl _ rfl
    have d24 : (fun u w' => ∃ g, u = .pointer (some ⟨g, 0, none⟩) ∧ PlaceIs els d l (2 * k + 1) g w') (av.eval (.tmp 24)) wv := hD.2.1 rfl _ rfl
    refine ⟨rfl, ?_⟩
    obtain ⟨g0, h17, hg0⟩ := d17
    obtain ⟨g1, h24, hg1⟩ := d24
    have f17 := (ev_form av 17).symm.trans h17
    have f24 := (ev_form av 24).symm.trans h24
    refine wp_of_callV (R := fun u w2 => ∃ g, u = .pointer (some ⟨g, 0, none⟩) ∧ NodeAt g (plD els d (l + 1) k) (some ⟨g0, 0, none⟩) (some ⟨g1, 0, none⟩) w2 ∧ Below wv.heap.size wv w2) (f := 92) (args := #[.pointer (some ⟨g0, 0, none⟩), .pointer (some ⟨g1, 0, none⟩)]) (by simp [go_sem, f17, f24]) ((over_any g0 g1 (plD els d l (2 * k)) (plD els d l (2 * k + 1)) wv hg0.digest hg1.digest ⟨by rw [plD_size]; decide, by rw [plD_size]; decide⟩).mono (fun e w2 ⟨g, h1, _, h2, h3⟩ => ⟨_, h1, g, rfl, h2, h3⟩)) (fun u w2 ⟨g, h1, h2, h3⟩ => ⟨_, rfl, es_of_ext h3, g, h1, g0, g1, h2, hg0.below h3, hg1.below h3⟩)
  intro a' w' hE hO hall
  have hA := act_of_outer (ds := [12, 13, 14, 15, 16, 17, 18, 19, 20, 21, 22, 23, 24, 25]) rfl hO (by kernel_rfl)
  have e12 : (fun u _ => u = (.func (.func 91) #[] #[.pointer (some ⟨bF, 0, none⟩), .pointer (some ⟨bD, 0, none⟩), .pointer (some ⟨bE, 0, none⟩), .pointer (some ⟨bN, 0, none⟩)])) (a'.eval (.tmp 12)) w' := hall.1 _ rfl
  have e13 : (fun u _ => u = (.int .i64 ((l + 1 : Nat) : Int))) (a'.eval (.tmp 13)) w' := hall.2.1 _ rfl
  have e14 : (fun u _ => u = (.int .i64 (l : Nat))) (a'.eval (.tmp 14)) w' := hall.2.2.1 _ rfl
  have e15 : (fun u _ => u = (.int .u64 k)) (a'.eval (.tmp 15)) w' := hall.2.2.2.1 _ rfl
  have e16 : (fun u _ => u = (.int .u64 ((2 * k : Nat) : Int))) (a'.eval (.tmp 16)) w' := hall.2.2.2.2.1 _ rfl
  have e17 : (fun u w' => ∃ g, u = .pointer (some ⟨g, 0, none⟩) ∧ PlaceIs els d l (2 * k) g w') (a'.eval (.tmp 17)) w' := hall.2.2.2.2.2.1 _ rfl
  have e18 : (fun u _ => u = (.func (.func 91) #[] #[.pointer (some ⟨bF, 0, none⟩), .pointer (some ⟨bD, 0, none⟩), .pointer (some ⟨bE, 0, none⟩), .pointer (some ⟨bN, 0, none⟩)])) (a'.eval (.tmp 18)) w' := hall.2.2.2.2.2.2.1 _ rfl
  have e19 : (fun u _ => u = (.int .i64 ((l + 1 : Nat) : Int))) (a'.eval (.tmp 19)) w' := hall.2.2.2.2.2.2.2.1 _ rfl
  have e20 : (fun u _ => u = (.int .i64 (l : Nat))) (a'.eval (.tmp 20)) w' := hall.2.2.2.2.2.2.2.2.1 _ rfl
  have e21 : (fun u _ => u = (.int .u64 k)) (a'.eval (.tmp 21)) w' := hall.2.2.2.2.2.2.2.2.2.1 _ rfl
  have e22 : (fun u _ => u = (.int .u64 ((2 * k : Nat) : Int))) (a'.eval (.tmp 22)) w' := hall.2.2.2.2.2.2.2.2.2.2.1 _ rfl
  have e23 : (fun u _ => u = (.int .u64 ((2 * k + 1 : Nat) : Int))) (a'.eval (.tmp 23)) w' := hall.2.2.2.2.2.2.2.2.2.2.2.1 _ rfl
  have e24 : (fun u w' => ∃ g, u = .pointer (some ⟨g, 0, none⟩) ∧ PlaceIs els d l (2 * k + 1) g w') (a'.eval (.tmp 24)) w' := hall.2.2.2.2.2.2.2.2.2.2.2.2.1 _ rfl
  have e25 : (fun u w' => ∃ g, u = .pointer (some ⟨g, 0, none⟩) ∧ PlaceIs els d (l + 1) k g w') (a'.eval (.tmp 25)) w' := hall.2.2.2.2.2.2.2.2.2.2.2.2.2.1 _ rfl
  obtain ⟨v17, hv17⟩ : ∃ v, a'.eval (.tmp 17) = v := ⟨_, rfl⟩
  rw [hv17] at e17
  obtain ⟨v24, hv24⟩ : ∃ v, a'.eval (.tmp 24) = v := ⟨_, rfl⟩
  rw [hv24] at e24
  obtain ⟨v25, hv25⟩ : ∃ v, a'.eval (.tmp 25) = v := ⟨_, rfl⟩
  rw [hv25] at e25
  simp only [List.foldl_cons, List.foldl_nil, Act.put, List.setIfInBounds_toArray, List.set_cons_succ, List.set_cons_zero, e12, e13, e14, e15, e16, hv17, e18, e19, e20, e21, e22, e23, hv24, hv25] at hA
  clear hO hall e12 e13 e14 e15 e16 hv17 e18 e19 e20 e21 e22 e23 hv24 hv25
  subst hA
  obtain ⟨g, rfl, hg⟩ := e25
  have HG := Lib.hid hg
  have HW : Hid (Below w.heap.size w w') := Lib.hid (of_drew hE)
  clear hg hE e17 e24
  go_wp2
  go_ret
  exact ⟨g, rfl, HG.out, HW.out⟩
theorem at_any (els : List ByteArray) (d bF bD bE bN nb : Nat) (a : Option Addr) (cap : Nat) (hd : d ≤ 16) (hn : len els ≤ 65536) (hz : ∀ i, i < len els → (tth els i).size ≤ 140737488355200) :
    ∀ (l k : Nat) (w : World), l ≤ d → k < 2 ^ (d - l) → EnvT els d bF bD bE bN nb a cap w →
    Calls Tryz.prog 91 #[.int .i64 (l : Nat), .int .u64 k, .pointer (some ⟨bF, 0, none⟩), .pointer (some ⟨bD, 0, none⟩), .pointer (some ⟨bE, 0, none⟩), .pointer (some ⟨bN, 0, none⟩)] w (AtIs els d l k w)
  | 0, k, w, _, hk, h => at_zero els d bF bD bE bN nb a cap k w hd (by simpa using hk) hn hz h
  | l + 1, k, w, hl, hk, h => by
    have h2 : 2 ^ (d - (l + 1)) ≤ 65536 := Nat.le_trans (Nat.pow_le_pow_right (by decide) (show d - (l + 1) ≤ 16 by omega)) (by decide)
    refine at_step els d bF bD bE bN nb a cap l k w (by omega) (by omega) h fun k' wv hb hk' => ?_
    refine at_any els d bF bD bE bN nb a cap hd hn hz l k' wv (by omega) ?_ (h.below hb)
    have : 2 ^ (d - l) = 2 * 2 ^ (d - (l + 1)) := by rw [show d - l = (d - (l + 1)) + 1 by omega, Nat.pow_succ]; omega
    rcases hk' with rfl | rfl <;> omega
end Go.Proofs.YtpobhbdomldecaaGreatDoor
namespace Go.Proofs.YtpobhbdomldecaaGreatDoor
open Go.RowKit
set_option linter.unusedSimpArgs false
set_option linter.unusedVariables false
def depN (els : List ByteArray) : Nat := Lib.bitLen (len els - 1)
theorem depN_le {els : List ByteArray} (h : len els ≤ 65536) : depN els ≤ 16 := (depth_bd (len els) h).1
theorem depthZ_len {els : List ByteArray} (h : len els ≤ 65536) : depthZ (len els : Nat) = ((depN els : Nat) : Int) := by
  unfold depthZ depN
  rw [if_neg (by omega), Int.toNat_natCast]
def TreeAt (els : List ByteArray) (b : Nat) (w : World) : Prop := ∃ p, w.heap[b]? = some (.cells #[.pointer (some ⟨p, 0, none⟩), .int .i64 (depN els : Nat), .int .i64 (len els : Nat)] 124 (0, 0)) ∧ PlaceIs els (depN els) (depN els) 0 p w
theorem TreeAt.below {els : List ByteArray} {b : Nat} {w w' : World} (h : TreeAt els b w) (hb : Below w.heap.size w w') : TreeAt els b w' := by
  obtain ⟨p, h1, h2⟩ := h
  exact ⟨p, (hb.block _ (lt_of_block h1)).trans h1, h2.below hb⟩
def BuildIs (els : List ByteArray) (w : World) (e : Ending) (w' : World) : Prop := ∃ b, e = .returned (.tuple #[.pointer (some ⟨b, 0, none⟩), .int .i64 0]) ∧ w.heap.size ≤ b ∧ TreeAt els b w' ∧ Below w.heap.size w w'
set_option maxRecDepth 100000 in
set_option maxHeartbeats 4000000 in
theorem build_any (els : List ByteArray) (a : Option Addr) (cap : Nat) (w : World) (ht : Txts w a els) (hn : len els ≤ 65536) (hz : ∀ i, i < len els → (tth els i).size ≤ 140737488355200) :
    Calls Tryz.prog 42 #[.slice a (len els) cap] w (BuildIs els w) := by
  have HT := Lib.hid ht
  have HN := Lib.hid hn
  have HZ := Lib.hid hz
  obtain ⟨d, hd⟩ : ∃ d, depN els = d := ⟨_, rfl⟩
  have HDD := Lib.hid hd
  have HD16 : Hid (d ≤ 16) := Lib.hid (by rw [← hd]; exact depN_le hn)
  have HDZ : Hid (depthZ (len els : Nat) = ((d : Nat) : Int)) := Lib.hid (by rw [← hd]; exact depthZ_len hn)
  have n1 : ¬ (65536 : Int) < (len els : Nat) := by omega
  clear ht hz hd
  go_enter Tryz.func42, Tryz.ntmps42
  go_wp2_with fail
  refine (depth_any (len els : Nat) _ (by omega) (by omega)).mono ?_
  rintro e w1 ⟨rfl, rfl⟩
  rw [HDZ.out]
  clear n1 hn
  go_wp2_with fail
  obtain ⟨bE, hbE⟩ : ∃ bE, w.heap.size = bE := ⟨_, rfl⟩
  obtain ⟨bD, hbD⟩ : ∃ bD, w.heap.size + 1 = bD := ⟨_, rfl⟩
  rw [hbD, hbE]
  obtain ⟨V, hV⟩ : ∃ V, (w.alloc (.cells #[.slice a (len els) cap] 36)).alloc (.cells #[.int .i64 (d : Nat)] 3) = V := ⟨_, rfl⟩
  rw [hV]
  have HVE : Hid (V.heap[bE]? = some (.cells #[.slice a (len els) cap] 36 (0, 0))) := Lib.hid (by rw [← hV]; exact block_alloc (alloc_new_at _ hbE) _)
  have HVD : Hid (V.heap[bD]? = some (.cells #[.int .i64 (d : Nat)] 3 (0, 0))) := Lib.hid (by rw [← hV]; exact alloc_new_at _ (by rw [alloc_size _ rfl]; exact hbD))
  have HVW : Hid (Below w.heap.size w V) := Lib.hid (by rw [← hV]; exact balloc (balloc (Below.refl _ _) _) _)
  clear hV hbE hbD
  refine (hash_any noneT [] none 0 V (by decide) (by decide) (Txts.nil _ _) (by decide)).mono ?_
  rintro e w2 ⟨rfl, hb2⟩
  have H2E : Hid (w2.heap[bE]? = some (.cells #[.slice a (len els) cap] 36 (0, 0))) := Lib.hid ((hb2.block _ (lt_of_block HVE.out)).trans HVE.out)
  have H2D : Hid (w2.heap[bD]? = some (.cells #[.int .i64 (d : Nat)] 3 (0, 0))) := Lib.hid ((hb2.block _ (lt_of_block HVD.out)).trans HVD.out)
  have H2W : Hid (Below w.heap.size w w2) := Lib.hid (bnext HVW.out hb2)
  obtain ⟨Hn, hHn⟩ : ∃ Hn, hashP noneT [] = Hn := ⟨_, rfl⟩
  rw [hHn]
  have HHN := Lib.hid hHn
  clear hb2 hHn HVE HVD HVW
  go_upto_region 7 with fail
  obtain ⟨nb, hnb⟩ : ∃ nb, w2.heap.size = nb := ⟨_, rfl⟩
  obtain ⟨bN, hbN⟩ : ∃ bN, w2.heap.size + 1 = bN := ⟨_, rfl⟩
  obtain ⟨bF, hbF⟩ : ∃ bF, w2.heap.size + 1 + 1 = bF := ⟨_, rfl⟩
  rw [hbF, hbN, hnb]
  obtain ⟨U, hU⟩ : ∃ U, (((w2.alloc (.cells #[.string Hn, .pointer none, .pointer none] 118)).alloc (.cells #[.pointer (some ⟨nb, 0, none⟩)] 115)).alloc (.cells #[.func (.func 91) #[] #[.pointer (some ⟨bF, 0, none⟩), .pointer (some ⟨bD, 0, none⟩), .pointer (some ⟨bE, 0, none⟩), .pointer (some ⟨bN, 0, none⟩)]] 119)) = U := ⟨_, rfl⟩
  rw [hU]
  have HEN : Hid (EnvT els d bF bD bE bN nb a cap U) := Lib.hid (by
    have hbw : Below w.heap.size w U := by rw [← hU]; exact balloc (balloc (balloc H2W.out _) _) _
    refine ⟨?_, ?_, ?_, ?_, ?_, HT.out.below hbw⟩
    · rw [← hU]; exact alloc_new_at _ (by rw [alloc_size _ (alloc_size _ rfl)]; exact hbF)
    · rw [← hU]; exact block_alloc (block_alloc (block_alloc H2D.out _) _) _
    · rw [← hU]; exact block_alloc (block_alloc (block_alloc H2E.out _) _) _
    · rw [← hU]; exact block_alloc (alloc_new_at _ (by rw [alloc_size _ rfl]; exact hbN)) _
    · rw [← hU, HHN.out]; exact block_alloc (block_alloc (alloc_new_at _ hnb) _) _)
  have HUW : Hid (Below w.heap.size w U) := Lib.hid (by rw [← hU]; exact balloc (balloc (balloc H2W.out _) _) _)
  have HVS : Hid (w.heap.size ≤ U.heap.size) := Lib.hid HUW.out.size
  have HA : Hid (∀ wv : World, Below U.heap.size U wv → Calls Tryz.prog 91 #[.int .i64 (d : Nat), .int .u64 0, .pointer (some ⟨bF, 0, none⟩), .pointer (some ⟨bD, 0, none⟩), .pointer (some ⟨bE, 0, none⟩), .pointer (some ⟨bN, 0, none⟩)] wv (AtIs els d d 0 wv)) := Lib.hid (fun wv hb => at_any els d bF bD bE bN nb a cap HD16.out HN.out HZ.out d 0 wv (Nat.le_refl _) (Nat.two_pow_pos _) (HEN.out.below hb))
  have cf : U.cell? ⟨bF, 0, none⟩ = some (.func (.func 91) #[] #[.pointer (some ⟨bF, 0, none⟩), .pointer (some ⟨bD, 0, none⟩), .pointer (some ⟨bE, 0, none⟩), .pointer (some ⟨bN, 0, none⟩)]) := by rw [block_cell HEN.out.f]; rfl
  have cd : U.cell? ⟨bD, 0, none⟩ = some (.int .i64 (d : Nat)) := by rw [block_cell HEN.out.d]; rfl
  have ce : U.cell? ⟨bE, 0, none⟩ = some (.slice a (len els) cap) := by rw [block_cell HEN.out.e]; rfl
  clear hU hnb hbN hbF H2D H2E H2W
  refine wp_region_tail 8 1000 (none) (phis [fun u _ => u = (.func (.func 91) #[] #[.pointer (some ⟨bF, 0, none⟩), .pointer (some ⟨bD, 0, none⟩), .pointer (some ⟨bE, 0, none⟩), .pointer (some ⟨bN, 0, none⟩)]), fun u _ => u = (.int .i64 (d : Nat)), fun u w' => ∃ g, u = .pointer (some ⟨g, 0, none⟩) ∧ PlaceIs els d d 0 g w', fun u _ => u = (.int .i64 (d : Nat)), fun u _ => u = (.slice a (len els) cap), fun u _ => u = (.int .i64 (len els)), fun u w' => ∃ g, u = .agg #[.pointer (some ⟨g, 0, none⟩), .int .i64 (d : Nat), .int .i64 (len els)] ∧ PlaceIs els d d 0 g w', fun u w' => ∃ b, u = .pointer (some ⟨b, 0, none⟩) ∧ w.heap.size ≤ b ∧ TreeAt els b w']) rfl (by kernel_rfl) (by kernel_rfl) (mono_of ⟨mono_eq, mono_eq, ?m2, mono_eq, mono_eq, mono_eq, ?m6, ?m7, trivial⟩) (steps_of 8 ⟨?s0, ?s1, ?s2, ?s3, ?s4, ?s5, ?s6, ?s7, trivial⟩) ?_
  case m2 =>
    exact ⟨fun u w1 w' h ⟨b, h1, hb⟩ => ⟨b, h1, hb.ext h⟩, fun _ u w1 w' h ⟨b, h1, hb⟩ => ⟨b, h1, hb.extB h⟩⟩
  case m6 =>
    exact ⟨fun u w1 w' h ⟨b, h1, hb⟩ => ⟨b, h1, hb.ext h⟩, fun _ u w1 w' h ⟨b, h1, hb⟩ => ⟨b, h1, hb.extB h⟩⟩
  case m7 =>
    exact ⟨fun u w1 w' h ⟨b, h1, h2, hb⟩ => ⟨b, h1, h2, hb.below h⟩, fun _ u w1 w' h ⟨b, h1, h2, hb⟩ => ⟨b, h1, h2, hb.below (extB_none h)⟩⟩
  case s0 =>
    refine step_val (v := (.func (.func 91) #[] #[.pointer (some ⟨bF, 0, none⟩), .pointer (some ⟨bD, 0, none⟩), .pointer (some ⟨bE, 0, none⟩), .pointer (some ⟨bN, 0, none⟩)])) (fun av wv hE hS hO hD => ?_) (fun _ => rfl)
    have h6 : av.eval (.tmp 6) = (.pointer (some ⟨bF, 0, none⟩)) := hO.2.2 6 rfl
    have f6 := (ev_form av 6).symm.trans h6
    have cf := extB_cell hE (by simp) cf
    have cd := extB_cell hE (by simp) cd
    have ce := extB_cell hE (by simp) ce
    refine ⟨rfl, ?_⟩
    simp [go_sem, f6, cf, cd, ce]
  case s1 =>
    refine step_val (v := (.int .i64 (d : Nat))) (fun av wv hE hS hO hD => ?_) (fun _ => rfl)
    have h4 : av.eval (.tmp 4) = (.pointer (some ⟨bD, 0, none⟩)) := hO.2.2 4 rfl
    have f4 := (ev_form av 4).symm.trans h4
    have cf := extB_cell hE (by simp) cf
    have cd := extB_cell hE (by simp) cd
    have ce := extB_cell hE (by simp) ce
    refine ⟨rfl, ?_⟩
    simp [go_sem, f4, cf, cd, ce]
  case s2 =>
    refine step_wp (fun av wv hE hS hO hD => ?_)
    have d17 : av.eval (.tmp 17) = (.func (.func 91) #[] #[.pointer (some ⟨bF, 0, none⟩), .pointer (some ⟨bD, 0, none⟩), .pointer (some ⟨bE, 0, none⟩), .pointer (some ⟨bN, 0, none⟩)]) := hD.1 rfl _ rfl
    have f17 := (ev_form av 17).symm.trans d17
    have d18 : av.eval (.tmp 18) = (.int .i64 (d : Nat)) := hD.2.1 rfl _ rfl
    have f18 := (ev_form av 18).symm.trans d18
    refine ⟨rfl, ?_⟩
    refine wp_of_callV (R := fun u w2 => (∃ g, u = .pointer (some ⟨g, 0, none⟩) ∧ PlaceIs els d d 0 g w2) ∧ Below wv.heap.size wv w2) (f := 91) (args := #[.int .i64 (d : Nat), .int .u64 0, .pointer (some ⟨bF, 0, none⟩), .pointer (some ⟨bD, 0, none⟩), .pointer (some ⟨bE, 0, none⟩), .pointer (some ⟨bN, 0, none⟩)]) (by simp [go_sem, f17, f18]) ((HA.out wv (of_drew hE)).mono (fun e w2 ⟨g, h1, h2, h3⟩ => ⟨_, h1, ⟨g, rfl, h2⟩, h3⟩)) (fun u w2 ⟨h1, h2⟩ => ⟨_, rfl, es_of_ext h2, h1⟩)
  case s3 =>
    refine step_val (v := (.int .i64 (d : Nat))) (fun av wv hE hS hO hD => ?_) (fun _ => rfl)
    have h4 : av.eval (.tmp 4) = (.pointer (some ⟨bD, 0, none⟩)) := hO.2.2 4 rfl
    have f4 := (ev_form av 4).symm.trans h4
    have cf := extB_cell hE (by simp) cf
    have cd := extB_cell hE (by simp) cd
    have ce := extB_cell hE (by simp) ce
    refine ⟨rfl, ?_⟩
    simp [go_sem, f4, cf, cd, ce]
  case s4 =>
    refine step_val (v := (.slice a (len els) cap)) (fun av wv hE hS hO hD => ?_) (fun _ => rfl)
    have h1 : av.eval (.tmp 1) = (.pointer (some ⟨bE, 0, none⟩)) := hO.2.2 1 rfl
    have f1 := (ev_form av 1).symm.trans h1
    have cf := extB_cell hE (by simp) cf
    have cd := extB_cell hE (by simp) cd
    have ce := extB_cell hE (by simp) ce
    refine ⟨rfl, ?_⟩
    simp [go_sem, f1, cf, cd, ce]
  case s5 =>
    refine step_val (v := (.int .i64 (len els))) (fun av wv hE hS hO hD => ?_) (fun _ => rfl)
    have d21 : av.eval (.tmp 21) = (.slice a (len els) cap) := hD.1 rfl _ rfl
    have f21 := (ev_form av 21).symm.trans d21
    refine ⟨rfl, ?_⟩
    simp [go_sem, f21]
  case s6 =>
    refine step_wp (fun av wv hE hS hO hD => ?_)
    have d19 : (fun u w' => ∃ g, u = .pointer (some ⟨g, 0, none⟩) ∧ PlaceIs els d d 0 g w') (av.eval (.tmp 19)) wv := hD.1 rfl _ rfl
    have d20 : av.eval (.tmp 20) = (.int .i64 (d : Nat)) := hD.2.1 rfl _ rfl
    have f20 := (ev_form av 20).symm.trans d20
    have d22 : av.eval (.tmp 22) = (.int .i64 (len els)) := hD.2.2.1 rfl _ rfl
    have f22 := (ev_form av 22).symm.trans d22
    refine ⟨rfl, ?_⟩
    obtain ⟨g, h19, hg⟩ := d19
    have f19 := (ev_form av 19).symm.trans h19
    exact wp_of_run (v := .agg #[.pointer (some ⟨g, 0, none⟩), .int .i64 (d : Nat), .int .i64 (len els)]) (by simp [go_sem, f19, f20, f22]) ⟨_, rfl, es_of_ext (Ext_refl _), g, rfl, hg⟩
  case s7 =>
    refine step_wp (fun av wv hE hS hO hD => ?_)
    have d23 : (fun u w' => ∃ g, u = .agg #[.pointer (some ⟨g, 0, none⟩), .int .i64 (d : Nat), .int .i64 (len els)] ∧ PlaceIs els d d 0 g w') (av.eval (.tmp 23)) wv := hD.1 rfl _ rfl
    refine ⟨rfl, ?_⟩
    obtain ⟨g, h23, hg⟩ := d23
    have f23 := (ev_form av 23).symm.trans h23
    refine wp_of_run (v := .pointer (some ⟨wv.heap.size, 0, none⟩)) (w' := wv.alloc (.cells #[.pointer (some ⟨g, 0, none⟩), .int .i64 (d : Nat), .int .i64 (len els)] 124)) (by simp [go_sem, f23]) ⟨_, rfl, es_of_ext (balloc (Ext_refl _) _), wv.heap.size, rfl, (by have := hE.size; have := HVS.out; simp at *; omega), g, ?_, ?_⟩
    · rw [HDD.out]; exact heap_alloc_new _ _
    · rw [HDD.out]; exact hg.below (balloc (Below.refl _ _) _)
  intro a' w' hE hO hall
  have hA := act_of_outer (ds := [17, 18, 19, 20, 21, 22, 23, 24]) rfl hO (by kernel_rfl)
  have e17 : (fun u _ => u = (.func (.func 91) #[] #[.pointer (some ⟨bF, 0, none⟩), .pointer (some ⟨bD, 0, none⟩), .pointer (some ⟨bE, 0, none⟩), .pointer (some ⟨bN, 0, none⟩)])) (a'.eval (.tmp 17)) w' := hall.1 _ rfl
  have e18 : (fun u _ => u = (.int .i64 (d : Nat))) (a'.eval (.tmp 18)) w' := hall.2.1 _ rfl
  have e19 : (fun u w' => ∃ g, u = .pointer (some ⟨g, 0, none⟩) ∧ PlaceIs els d d 0 g w') (a'.eval (.tmp 19)) w' := hall.2.2.1 _ rfl
  have e20 : (fun u _ => u = (.int .i64 (d : Nat))) (a'.eval (.tmp 20)) w' := hall.2.2.2.1 _ rfl
  have e21 : (fun u _ => u = (.slice a (len els) cap)) (a'.eval (.tmp 21)) w' := hall.2.2.2.2.1 _ rfl
  have e22 : (fun u _ => u = (.int .i64 (len els))) (a'.eval (.tmp 22)) w' := hall.2.2.2.2.2.1 _ rfl
  have e23 : (fun u w' => ∃ g, u = .agg #[.pointer (some ⟨g, 0, none⟩), .int .i64 (d : Nat), .int .i64 (len els)] ∧ PlaceIs els d d 0 g w') (a'.eval (.tmp 23)) w' := hall.2.2.2.2.2.2.1 _ rfl
  have e24 : (fun u w' => ∃ b, u = .pointer (some ⟨b, 0, none⟩) ∧ w.heap.size ≤ b ∧ TreeAt els b w') (a'.eval (.tmp 24)) w' := hall.2.2.2.2.2.2.2.1 _ rfl
  obtain ⟨v19, hv19⟩ : ∃ v, a'.eval (.tmp 19) = v := ⟨_, rfl⟩
  rw [hv19] at e19
  obtain ⟨v23, hv23⟩ : ∃ v, a'.eval (.tmp 23) = v := ⟨_, rfl⟩
  rw [hv23] at e23
  obtain ⟨v24, hv24⟩ : ∃ v, a'.eval (.tmp 24) = v := ⟨_, rfl⟩
  rw [hv24] at e24
  simp only [List.foldl_cons, List.foldl_nil, Act.put, List.setIfInBounds_toArray, List.set_cons_succ, List.set_cons_zero, e17, e18, hv19, e20, e21, e22, hv23, hv24] at hA
  clear hO hall e17 e18 hv19 e20 e21 e22 hv23 hv24
  subst hA
  obtain ⟨g, rfl, hg, ht⟩ := e24
  have HG : Hid (w.heap.size ≤ g) := Lib.hid hg
  have HT2 := Lib.hid ht
  have HW : Hid (Below w.heap.size w w') := Lib.hid (bnext HUW.out (of_drew hE))
  clear hg ht hE e19 e23
  go_wp2
  go_ret2
  exact ⟨g, rfl, HG.out, HT2.out, HW.out⟩
theorem root_any (els : List ByteArray) (b : Nat) (w : World) (h : TreeAt els b w) : Calls Tryz.prog 43 #[.pointer (some ⟨b, 0, none⟩)] w fun e w' => e = .returned (.string (plD els (depN els) (depN els) 0)) ∧ w = w' := by
  obtain ⟨p, h1, h2⟩ := h
  have c0 : w.cell? ⟨b, 0, none⟩ = some (.pointer (some ⟨p, 0, none⟩)) := by rw [block_cell h1]; rfl
  have c1 := h2.digest
  clear h1 h2
  go_enter Tryz.func43, Tryz.ntmps43
  go_wp2
  go_ret
  exact ⟨rfl, rfl⟩
end Go.Proofs.YtpobhbdomldecaaGreatDoor
namespace Go.Proofs.YtpobhbdomldecaaGreatDoor
open Go.RowKit Go.ChangeMaps
set_option linter.unusedSimpArgs false
set_option linter.unusedVariables false
attribute [local go_sem] Oper.semAt_some
theorem info_str : (Tryz.prog.info? 9).map (fun i => (i.zero, i.size, i.bytes)) = some (some (.string ⟨#[]⟩), 1, 16) := by kernel_rfl
end Go.Proofs.YtpobhbdomldecaaGreatDoor
namespace Go.Proofs.YtpobhbdomldecaaGreatDoor
open Go.RowKit
set_option linter.unusedSimpArgs false
set_option linter.unusedVariables false
theorem own_txts {w : World} {base n : Nat} {v : Value} {l : List ByteArray} (h : w.ownsRow base 9 1 v n (l.map Value.string)) : ∃ a cap, v = .slice a (len l) cap ∧ Txts w a l := by
  have hn : len l = n := by have := h.1; rw [len_eq]; simpa using this
  rcases h.2 with ⟨rfl, h2⟩ | ⟨g, cap, cur, rfl, hg, hh, hc1, hc2, hc3, hc4⟩
  · obtain rfl : l = [] := List.eq_nil_of_length_eq_zero (by rw [← len_eq]; omega)
    exact ⟨none, 0, rfl, Txts.nil _ _⟩
  · refine ⟨some ⟨g, 0, none⟩, cap, by rw [hn], fun i hi => ⟨g, 0, rfl, ?_⟩⟩
    have := h.cellAt i (by omega)
    have hi2 : i < l.length := hi
    rw [Nat.zero_add, this, List.getElem?_map, List.getElem?_eq_getElem hi2, tth_eq l i hi]; rfl
end Go.Proofs.YtpobhbdomldecaaGreatDoor
namespace Go.Proofs.YtpobhbdomldecaaGreatDoor
open Go.RowKit
set_option linter.unusedSimpArgs false
set_option linter.unusedVariables false
def SmF (g : KnF) : Prop := ∀ k d, g k = some d → d.size ≤ 1000
theorem SmF.put {g : KnF} (h : SmF g) (k : Int) (d : ByteArray) (hd : d.size ≤ 1000) : SmF (putF g k d) := fun j x hx => by
  by_cases e : j = k
  · subst e; rw [putF_same] at hx; cases hx; exact hd
  · rw [putF_other g d e] at hx; exact h j x hx
def ArgOk (n : Int) (ps : List Int) (es : List ByteArray) : Prop := SizeOk n ps ∧ len es = len ps
instance (n : Int) (ps : List Int) (es : List ByteArray) : Decidable (ArgOk n ps es) := by unfold ArgOk; exact inferInstance
end Go.Proofs.YtpobhbdomldecaaGreatDoor
namespace Go.Proofs.YtpobhbdomldecaaGreatDoor
open Go.RowKit
set_option linter.unusedSimpArgs false
set_option linter.unusedVariables false
abbrev Rising (l : List Int) : Prop := l.Pairwise (fun x y => x < y)
end Go.Proofs.YtpobhbdomldecaaGreatDoor
namespace Go.Proofs.YtpobhbdomldecaaGreatDoor
open Go.RowKit
set_option linter.unusedSimpArgs false
set_option linter.unusedVariables false
def Kn (W : World) (base : Nat) (v : Value) (l : List Int) : Prop := Rising l ∧ W.ownsRow base 23 1 v (len l) (l.map (Value.int .u64))
theorem Kn.nil (W : World) (base : Nat) : Kn W base (.slice none 0 0) [] := ⟨List.Pairwise.nil, World.ownsRow_nil _ _ _ _⟩
theorem Kn.below {W W' : World} {base : Nat} {v : Value} {l : List Int} (h : Kn W base v l) (hb : Below W.heap.size W W') : Kn W' base v l := ⟨h.1, own_below h.2 hb⟩
theorem Kn.shape {W : World} {base : Nat} {v : Value} {l : List Int} (h : Kn W base v l) : ∃ a cap, v = .slice a (len l) cap ∧ U64s W a l := by
  obtain ⟨a, cap, h1, h2, _⟩ := own_u64 h.2; exact ⟨a, cap, h1, h2⟩
theorem take_mem_succ {l : List Int} {m : Nat} (h : m < len l) (x : Int) : x ∈ l.take (m + 1) ↔ x ∈ l.take m ∨ x = nth l m := by
  have h' : m < l.length := h
  rw [List.take_succ_eq_append_getElem h', List.mem_append, List.mem_singleton, nth_eq l m h']
theorem take_all (l : List Int) : l.take (len l) = l := List.take_length
def Fill (kn nd nx : List Int) (m : Nat) : Prop := (∀ x, x ∈ nd ↔ (∃ j ∈ kn.take m, x = sib j) ∧ x ∉ kn) ∧ (∀ x, x ∈ nx ↔ ∃ j ∈ kn.take m, x = j / 2) ∧ len nd ≤ m ∧ len nx ≤ m
theorem Fill.start (kn : List Int) : Fill kn [] [] 0 := ⟨fun x => by simp, fun x => by simp, Nat.le_refl _, Nat.le_refl _⟩
theorem Fill.step {kn nd nx nd' nx' : List Int} {m : Nat} (h : Fill kn nd nx m) (hm : m < len kn) (h1 : ∀ x, x ∈ nd' ↔ x ∈ nd ∨ (x = sib (nth kn m) ∧ x ∉ kn)) (h2 : ∀ x, x ∈ nx' ↔ x ∈ nx ∨ x = nth kn m / 2) (l1 : len nd' ≤ len nd + 1) (l2 : len nx' ≤ len nx + 1) : Fill kn nd' nx' (m + 1) := by
  refine ⟨fun x => ?_, fun x => ?_, by have := h.2.2.1; omega, by have := h.2.2.2; omega⟩
  · rw [h1, h.1]
    constructor
    · rintro (⟨⟨j, hj, e⟩, hx⟩ | ⟨e, hx⟩)
      · exact ⟨⟨j, (take_mem_succ hm j).2 (.inl hj), e⟩, hx⟩
      · exact ⟨⟨_, (take_mem_succ hm _).2 (.inr rfl), e⟩, hx⟩
    · rintro ⟨⟨j, hj, e⟩, hx⟩
      rcases (take_mem_succ hm j).1 hj with hj | rfl
      · exact .inl ⟨⟨j, hj, e⟩, hx⟩
      · exact .inr ⟨e, hx⟩
  · rw [h2, h.2.1]
    constructor
    · rintro (⟨j, hj, e⟩ | e)
      · exact ⟨j, (take_mem_succ hm j).2 (.inl hj), e⟩
      · exact ⟨_, (take_mem_succ hm _).2 (.inr rfl), e⟩
    · rintro ⟨j, hj, e⟩
      rcases (take_mem_succ hm j).1 hj with hj | rfl
      · exact .inl ⟨j, hj, e⟩
      · exact .inr e
theorem Fill.row {kn nd nx : List Int} (h : Fill kn nd nx (len kn)) (hr : Rising nd) : nd = rowK kn := by
  refine rising_eq hr (srt_rising (needK_nodup kn)) (fun k => ?_)
  rw [h.1, take_all]
  unfold rowK
  rw [srt_mem, needK_mem]
def At (leaves : List Int) (lv : Nat) (kn : List Int) : Prop := ∀ x, x ∈ kn ↔ ∃ j ∈ leaves, x = j / 2 ^ lv
theorem At.row {leaves kn : List Int} {lv : Nat} (h : At leaves lv kn) : rowK kn = rowK (insAll (leaves.map (· / 2 ^ lv))) := rowK_same (fun k => by
  rw [h k, (insAll_all _).2.1, List.mem_map]
  constructor
  · rintro ⟨j, hj, e⟩; exact ⟨j, hj, e.symm⟩
  · rintro ⟨j, hj, e⟩; exact ⟨j, hj, e.symm⟩)
theorem At.next {leaves kn nd nx : List Int} {lv : Nat} (h : At leaves lv kn) (hf : Fill kn nd nx (len kn)) : At leaves (lv + 1) nx := fun x => by
  have hp : ∀ j : Int, j / 2 ^ lv / 2 = j / 2 ^ (lv + 1) := fun j => by
    rw [Int.pow_succ, Int.ediv_ediv_of_nonneg (Int.pow_nonneg (by decide))]
  rw [hf.2.1, take_all]
  constructor
  · rintro ⟨j, hj, rfl⟩
    obtain ⟨i, hi, rfl⟩ := (h j).1 hj
    exact ⟨i, hi, hp i⟩
  · rintro ⟨i, hi, rfl⟩
    exact ⟨i / 2 ^ lv, (h _).2 ⟨i, hi, rfl⟩, (hp i).symm⟩
theorem At.u64 {leaves kn : List Int} {lv : Nat} (h : At leaves lv kn) (hu : ∀ k ∈ leaves, U64 k) : ∀ k ∈ kn, U64 k := by
  intro k hk
  obtain ⟨j, hj, rfl⟩ := (h k).1 hk
  have := hu j hj
  unfold U64 at this ⊢
  have hp : (0 : Int) < 2 ^ lv := Int.pow_pos (by decide)
  exact ⟨Int.ediv_nonneg this.1 (by omega), Int.le_trans (Int.ediv_le_self _ this.1) this.2⟩
def Laid8 (W : World) (base : Nat) (v : Value) (rs : List (List Int)) : Prop := ∃ vals : List Value, W.ownsRow base 64 1 v vals.length vals ∧ RowsAre W base vals rs
theorem Laid8.nil (W : World) (base : Nat) : Laid8 W base (.slice none 0 0) [] := ⟨[], World.ownsRow_nil _ _ _ _, RowsAre.nil _ _⟩
theorem Laid8.below {W W' : World} {base : Nat} {v : Value} {rs : List (List Int)} (h : Laid8 W base v rs) (hb : Below W.heap.size W W') : Laid8 W' base v rs := by
  obtain ⟨vals, h1, h2⟩ := h; exact ⟨vals, own_below h1 hb, h2.below hb⟩
end Go.Proofs.YtpobhbdomldecaaGreatDoor
namespace Go.Proofs.YtpobhbdomldecaaGreatDoor
open Go.RowKit
set_option linter.unusedSimpArgs false
set_option linter.unusedVariables false
def sV (d : ByteArray) : Value := .agg #[.string d]
structure MapG (L : List (Int × Value)) (g : KnF) : Prop where
  get : ∀ k, mGet L k = (g k).map sV
theorem MapG.nil : MapG [] noF := ⟨fun k => rfl⟩
theorem MapG.put {L : List (Int × Value)} {g : KnF} (h : MapG L g) (k : Int) (d : ByteArray) : MapG (mPut L k (sV d)) (putF g k d) :=
  ⟨fun j => by
    rw [mGet_put, h.get]
    unfold putF
    by_cases e : j = k
    · rw [if_pos e, if_pos e]; rfl
    · rw [if_neg e, if_neg e]⟩
def AtK (lv : List Int) (i : Nat) (k : Int) : Prop := ∃ y ∈ lv, k = y / 2 ^ i
instance (lv : List Int) (i : Nat) (k : Int) : Decidable (AtK lv i k) := by unfold AtK; exact List.decidableBEx _ _
def Cut (row : List Int) (j : Nat) (b : Int) : Prop := j ≤ len row ∧ (∀ x ∈ row.take j, x < b) ∧ ∀ x ∈ row.drop j, b ≤ x
theorem Cut.start {row : List Int} (h : ∀ x ∈ row, 0 ≤ x) : Cut row 0 0 := ⟨Nat.zero_le _, fun x hx => by simp at hx, fun x hx => h x (by simpa using hx)⟩
end Go.Proofs.YtpobhbdomldecaaGreatDoor
namespace Go.Proofs.YtpobhbdomldecaaGreatDoor
open Go.RowKit
set_option linter.unusedSimpArgs false
set_option linter.unusedVariables false
structure Agree (els own : List ByteArray) (ps : List Int) : Prop where
  len_ : len own = len els
  off : ∀ i : Nat, ((i : Nat) : Int) ∉ ps → tth els i = tth own i
theorem Agree.refl (els : List ByteArray) (ps : List Int) : Agree els els ps := ⟨rfl, fun _ _ => rfl⟩
end Go.Proofs.YtpobhbdomldecaaGreatDoor
namespace Go.Proofs.YtpobhbdomldecaaGreatDoor
open Go.RowKit Go.ChangeMaps
set_option linter.unusedSimpArgs false
set_option linter.unusedVariables false
theorem Ranging.keep {w w' : World} {b r n : Nat} {q : IntKind} {l : List (Int × Value)} {seen : Array Nat} (h : Ranging w b r q n l seen) (h1 : w'.heap[b]? = w.heap[b]?) (h2 : w'.heap[r]? = w.heap[r]?) : Ranging w' b r q n l seen := ⟨h1.trans h.map, h2.trans h.iter⟩
def KnownAt (b n : Nat) (g : KnF) (w : World) : Prop := ∃ L, w.heap[b]? = some (mObj .u64 n L) ∧ MapF L g
end Go.Proofs.YtpobhbdomldecaaGreatDoor
namespace Go.Proofs.YtpobhbdomldecaaGreatDoor
open Go.RowKit Go.ChangeMaps
set_option linter.unusedSimpArgs false
set_option linter.unusedVariables false
structure LvAt (mb : Nat) (g : KnF) (w : World) : Prop where
  at_ : KnownAt mb 0 g w
  small : SmF g
theorem LvAt.keep {mb : Nat} {g : KnF} {w w' : World} (h : LvAt mb g w) (hk : w'.heap[mb]? = w.heap[mb]?) : LvAt mb g w' := by
  obtain ⟨⟨L, h1, h2⟩, h3⟩ := h
  exact ⟨⟨L, hk.trans h1, h2⟩, h3⟩
theorem LvAt.lt {mb : Nat} {g : KnF} {w : World} (h : LvAt mb g w) : mb < w.heap.size := by
  obtain ⟨⟨L, h1, h2⟩, h3⟩ := h
  exact lt_of_block h1
def Upper (B : Nat) (w w' : World) : Prop := ∀ b, B ≤ b → b < w.heap.size → w'.heap[b]? = w.heap[b]?
theorem Upper.refl (B : Nat) (w : World) : Upper B w w := fun b _ _ => rfl
theorem Upper.cell {B : Nat} {w w' : World} (h : Upper B w w') {b o : Nat} {v : Value} (hb : B ≤ b) (hc : w.cell? ⟨b, o, none⟩ = some v) : w'.cell? ⟨b, o, none⟩ = some v :=
  (World.cell?_of_block (w := w) (h b hb (lt_of_cell hc))).trans hc
theorem Upper.bel {B : Nat} {w w' w2 : World} (h : Upper B w w') (hs : w.heap.size ≤ w'.heap.size) (hb : Below w'.heap.size w' w2) : Upper B w w2 := fun b h1 h2 => (hb.block b (by omega)).trans (h b h1 h2)
theorem Upper.set {B : Nat} {w w' : World} (h : Upper B w w') {p : Nat} (hp : p < B) (k : Nat) (v : Value) : Upper B w (w'.setCell ⟨p, k, none⟩ v) := fun b h1 h2 => (Below.heap_setCell _ _ _ _ (show b ≠ p by omega)).trans (h b h1 h2)
theorem Upper.map {B : Nat} {w w' : World} (h : Upper B w w') {p : Nat} (hp : p < B ∨ w.heap.size ≤ p) (o : Obj) : Upper B w (setBlock w' p o) := fun b h1 h2 => (setBlock_other (by omega)).trans (h b h1 h2)
theorem LvAt.put {mb : Nat} {g : KnF} {w : World} {L : List (Int × Value)} (hl : w.heap[mb]? = some (mObj .u64 0 L)) (hm : MapF L g) (hs : SmF g) {t : Int} {D : ByteArray} (ht : U64 t) (hd : D.size ≤ 1000) : LvAt mb (putF g t D) (setBlock w mb (mObj .u64 0 (mPut L t (.string D)))) :=
  ⟨⟨_, setBlock_same hl, hm.put t D ht⟩, hs.put t D hd⟩
end Go.Proofs.YtpobhbdomldecaaGreatDoor
namespace Go.Proofs.YtpobhbdomldecaaGreatDoor
open Go.RowKit
set_option linter.unusedSimpArgs false
set_option linter.unusedVariables false
structure Plc where
  K : Int
  d : ByteArray
abbrev Plc.val (r : Plc) : Value := .agg #[.int .u64 r.K, .string r.d]
def Plc.cells (r : Plc) : List Value := [.int .u64 r.K, .string r.d]
theorem Plc.cells_len (r : Plc) : r.cells.length = 2 := rfl
theorem Plc.cells_one (r : Plc) : ∀ u ∈ r.cells, u.oneCell' = true := by intro u hu; simp only [Plc.cells, List.mem_cons, List.not_mem_nil, or_false] at hu; rcases hu with rfl | rfl <;> rfl
def Plc.zero : Plc := ⟨0, ByteArray.empty⟩
def plth (l : List Plc) (i : Nat) : Plc := l.getD i Plc.zero
theorem plth_eq (l : List Plc) (i : Nat) (h : i < l.length) : plth l i = l[i] := by unfold plth; rw [List.getD_eq_getElem?_getD, List.getElem?_eq_getElem h]; rfl
structure PlcAt (w : World) (b o : Nat) (r : Plc) : Prop where
  c0 : w.cell? ⟨b, o, none⟩ = some (.int .u64 r.K)
  c1 : w.cell? ⟨b, o + 1, none⟩ = some (.string r.d)
theorem PlcAt.below {w w' : World} {b o : Nat} {r : Plc} (h : PlcAt w b o r) (hb : Below w.heap.size w w') : PlcAt w' b o r := by
  have hl := lt_of_cell h.c0
  have e : ∀ q, w'.cell? ⟨b, q, none⟩ = w.cell? ⟨b, q, none⟩ := fun q => hb.cell (p := ⟨b, q, none⟩) hl
  obtain ⟨c0, c1⟩ := h
  constructor <;> (rw [e]; assumption)
def Plcs (w : World) (a : Option Addr) (l : List Plc) : Prop := ∀ i, i < len l → ∃ b off, a = some ⟨b, off, none⟩ ∧ PlcAt w b (off + i * 2) (plth l i)
theorem Plcs.nil (w : World) (a : Option Addr) : Plcs w a [] := fun i hi => absurd hi (by simp [len])
theorem Plcs.below {w w' : World} {a : Option Addr} {l : List Plc} (h : Plcs w a l) (hb : Below w.heap.size w w') : Plcs w' a l := fun i hi => by
  obtain ⟨b, off, rfl, hc⟩ := h i hi
  exact ⟨b, off, rfl, hc.below hb⟩
theorem Plcs.drew {w w' : World} {a : Option Addr} {l : List Plc} (h : Plcs w a l) (hb : Drew w w') : Plcs w' a l := h.below (hb.below _)
theorem Plcs.take {w : World} {a : Option Addr} {l : List Plc} (h : Plcs w a l) (k : Nat) : Plcs w a (l.take k) := fun i hi => by
  have hi2 : i < l.length ∧ i < k := by simp only [len, List.length_take] at hi; omega
  have hi3 : i < (l.take k).length := hi
  have e : plth (l.take k) i = plth l i := by rw [plth_eq l i hi2.1, plth_eq _ i hi3, List.getElem_take]
  rw [e]; exact h i hi2.1
theorem Plcs.drop {w : World} {b off : Nat} {l : List Plc} (h : Plcs w (some ⟨b, off, none⟩) l) (k : Nat) : Plcs w (some ⟨b, off + k * 2, none⟩) (l.drop k) := fun i hi => by
  have hi2 : k + i < l.length := by simp only [len, List.length_drop] at hi; omega
  have hi3 : i < (l.drop k).length := hi
  have e : plth (l.drop k) i = plth l (k + i) := by rw [plth_eq l _ hi2, plth_eq _ i hi3, List.getElem_drop]
  obtain ⟨b', off', e2, hc⟩ := h (k + i) hi2
  cases e2
  exact ⟨b, _, rfl, by rw [e, show off + k * 2 + i * 2 = off + (k + i) * 2 by omega]; exact hc⟩
theorem Plcs.own {w : World} {base e n : Nat} {v : Value} {l : List Plc} (h : w.ownsRow base e 2 v n (l.flatMap Plc.cells)) : ∃ a cap, v = .slice a (len l) cap ∧ Plcs w a l ∧ len l ≤ cap := by
  have hn : len l = n := by have := h.1; rw [flat_length Plc.cells 2 Plc.cells_len] at this; rw [len_eq]; omega
  obtain ⟨h1, h2⟩ := h
  rcases h2 with ⟨rfl, h2⟩ | ⟨g, cap, cur, rfl, hg, hh, hc1, hc2, hc3, hc4⟩
  · obtain rfl : l = [] := List.eq_nil_of_length_eq_zero (by rw [← len_eq]; omega)
    exact ⟨none, 0, rfl, Plcs.nil _ _, Nat.le_refl _⟩
  · refine ⟨some ⟨g, 0, none⟩, cap, by rw [hn], fun i hi => ⟨g, 0, rfl, ?_⟩, by omega⟩
    have hown : w.ownsRow base e 2 (.slice (some ⟨g, 0, none⟩) n cap) n (l.flatMap Plc.cells) := ⟨h1, .inr ⟨g, cap, cur, rfl, hg, hh, hc1, hc2, hc3, hc4⟩⟩
    have key : ∀ r, r < 2 → w.cell? ⟨g, 0 + i * 2 + r, none⟩ = (plth l i).cells[r]? := fun r hr => by
      have := hown.cellAt (i * 2 + r) (by rw [← hn]; omega)
      rw [Nat.zero_add, this, flat_get Plc.cells 2 Plc.cells_len l i r hi hr, plth_eq l i hi]
    exact ⟨key 0 (by decide), key 1 (by decide)⟩
theorem Plcs.block {w : World} {g : Nat} {l : List Plc} {t : TypeId} {fr : Nat × Nat} (h : w.heap[g]? = some (.cells (l.flatMap Plc.cells).toArray t fr)) : Plcs w (some ⟨g, 0, none⟩) l := fun i hi => ⟨g, 0, rfl, by
  have key : ∀ r, r < 2 → w.cell? ⟨g, 0 + i * 2 + r, none⟩ = (plth l i).cells[r]? := fun r hr => by
    rw [Nat.zero_add, block_cell h, List.getElem?_toArray, flat_get Plc.cells 2 Plc.cells_len l i r hi hr, plth_eq l i hi]
  exact ⟨key 0 (by decide), key 1 (by decide)⟩⟩
end Go.Proofs.YtpobhbdomldecaaGreatDoor
namespace Go.Proofs.YtpobhbdomldecaaGreatDoor
open Go.RowKit Go.Great
set_option linter.unusedSimpArgs false
set_option linter.unusedVariables false
def Ev (a : Act) (n : Nat) (l : List (Nat × Value)) : Prop := a.tmps.size = n ∧ a.defers = [] ∧ ∀ p ∈ l, a.eval (.tmp p.1) = p.2
theorem Ev.put {a : Act} {n : Nat} {l : List (Nat × Value)} (h : Ev a n l) (d : Nat) (v : Value) (hd : d < n) (hf : l.all (fun p => p.1 != d) = true) : Ev (a.put (some d) v) n ((d, v) :: l) := by
  refine ⟨by simp [Act.put, h.1], h.2.1, ?_⟩
  intro p hp
  rcases List.mem_cons.1 hp with rfl | hp
  · exact eval_put_same (by rw [h.1]; exact hd)
  · have h1 := List.all_eq_true.1 hf p hp
    rw [eval_put_ne (by simpa using h1)]
    exact h.2.2 p hp
theorem Ev.at {a : Act} {n : Nat} {l : List (Nat × Value)} (h : Ev a n l) (k d : Nat) (v : Value) (hk : l[k]? = some (d, v)) : a.eval (.tmp d) = v := h.2.2 (d, v) (List.mem_of_getElem? hk)
def zero8R : List W32 := List.replicate 8 0
structure BlkAt (pb rb : Nat) (A9 : Array Value) (w wr : World) : Prop where
  below : Below w.heap.size w wr
  p : wr.heap[pb]? = some (.cells A9 222 (0, 0))
  r : wr.heap[rb]? = some (.cells (wsC zero8R) 222 (0, 0))
theorem BlkAt.next {pb rb : Nat} {A9 : Array Value} {w wr w' : World} (h : BlkAt pb rb A9 w wr) (hb : Below wr.heap.size wr w') : BlkAt pb rb A9 w w' :=
  ⟨bnext h.below hb, (hb.block _ (lt_of_block h.p)).trans h.p, (hb.block _ (lt_of_block h.r)).trans h.r⟩
theorem BlkAt.set {pb rb b o : Nat} {A9 : Array Value} {w wr : World} {v : Value} (h : BlkAt pb rb A9 w wr) (h0 : w.heap.size ≤ b) (h1 : pb ≠ b) (h2 : rb ≠ b) : BlkAt pb rb A9 w (wr.setCell ⟨b, o, none⟩ v) :=
  ⟨bset h.below h0 _, block_setCell_ne h.p h1 _, block_setCell_ne h.r h2 _⟩
attribute [local go_sem] bv_xor bv_and bv_or bv_add bv_addm
end Go.Proofs.YtpobhbdomldecaaGreatDoor
namespace Go.Proofs.YtpobhbdomldecaaGreatDoor
open Go.RowKit Go.ChangeMaps
set_option linter.unusedSimpArgs false
set_option linter.unusedVariables false
structure KlAt (B : Nat) (v : Value) (KL : List Plc) (w : World) : Prop where
  own : w.ownsRow B 279 2 v (len KL) (KL.flatMap Plc.cells)
  ok : ∀ x ∈ KL, 0 ≤ x.K ∧ x.K < 65536 ∧ x.d.size ≤ 1000
theorem KlAt.nil (B : Nat) (w : World) : KlAt B (.slice none 0 0) [] w := ⟨World.ownsRow_nil _ _ _ _, fun x h => by simp at h⟩
theorem KlAt.below {B : Nat} {v : Value} {KL : List Plc} {w w' : World} (h : KlAt B v KL w) (hb : Below w.heap.size w w') : KlAt B v KL w' := ⟨own_below h.own hb, h.ok⟩
end Go.Proofs.YtpobhbdomldecaaGreatDoor
namespace Go.Proofs.YtpobhbdomldecaaGreatDoor
open Go.RowKit
set_option linter.unusedSimpArgs false
set_option linter.unusedVariables false
structure PrIn (ps : List Int) (es ds : List ByteArray) (pa ea da : Option Addr) (dc : Nat) (w : World) : Prop where
  p : U64s w pa ps
  e : Txts w ea es
  d : Txts w da ds
  pl : len ps ≤ 100
  pu : ∀ k ∈ ps, U64 k
  el : len es ≤ 1000000
  dl : len ds ≤ 1000000
  dc_ : len ds ≤ dc
  ez : ∀ i, i < len es → (tth es i).size ≤ 1000000
theorem PrIn.below {ps : List Int} {es ds : List ByteArray} {pa ea da : Option Addr} {dc : Nat} {w w' : World} (h : PrIn ps es ds pa ea da dc w) (hb : Below w.heap.size w w') : PrIn ps es ds pa ea da dc w' :=
  ⟨h.p.below hb, h.e.below hb, h.d.below hb, h.pl, h.pu, h.el, h.dl, h.dc_, h.ez⟩
end Go.Proofs.YtpobhbdomldecaaGreatDoor
namespace Go.Proofs.YtpobhbdomldecaaGreatDoor
open Go.RowKit
set_option linter.unusedSimpArgs false
set_option linter.unusedVariables false
def treeR (l : List ByteArray) : ByteArray := plD l (depN l) (depN l) 0
theorem own_capP {w : World} {base n c : Nat} {a : Option Addr} {xs : List Value} {m : Nat} (h : w.ownsRow base 9 1 (.slice a m c) n xs) : m ≤ c ∧ (a = none → c = 0) := by
  rcases h.2 with ⟨e, _⟩ | ⟨g, cap, cur, e, _, _, h3, _⟩
  · injection e with e1 e2 e3; exact ⟨by omega, fun _ => e3⟩
  · injection e with e1 e2 e3; exact ⟨by omega, fun e9 => by rw [e9] at e1; cases e1⟩
def TextsAre (L : List ByteArray) (v : Value) (w : World) : Prop := ∃ a c, v = .slice a (len L) c ∧ Txts w a L ∧ len L ≤ c ∧ (a = none → c = 0)
theorem TextsAre.below {L : List ByteArray} {v : Value} {w w' : World} (h : TextsAre L v w) (hb : Below w.heap.size w w') : TextsAre L v w' := by
  obtain ⟨a, c, h1, h2, h3, h4⟩ := h
  exact ⟨a, c, h1, h2.below hb, h3, h4⟩
theorem TextsAre.nil (w : World) : TextsAre [] (.slice none 0 0) w := ⟨none, 0, rfl, Txts.nil _ _, Nat.le_refl _, fun _ => rfl⟩
theorem TextsAre.own {w : World} {base n : Nat} {v : Value} {L : List ByteArray} (h : w.ownsRow base 9 1 v n (L.map Value.string)) : TextsAre L v w := by
  obtain ⟨a, c, rfl, ht⟩ := own_txts h
  obtain ⟨h1, h2⟩ := own_capP h
  exact ⟨a, c, rfl, ht, h1, h2⟩
end Go.Proofs.YtpobhbdomldecaaGreatDoor
namespace Go.Proofs.YtpobhbdomldecaaGreatDoor
set_option linter.unusedSimpArgs false
set_option linter.unusedVariables false
open Go.RowKit
structure URow where
  lo : Int
  hi : Int
  size : Int
  least : Int
abbrev URow.val (r : URow) : Value := .agg #[.int .u8 r.lo, .int .u8 r.hi, .int .i64 r.size, .int .u64 r.least]
def URow.cells (r : URow) : List Value := [.int .u8 r.lo, .int .u8 r.hi, .int .i64 r.size, .int .u64 r.least]
theorem URow.cells_len (r : URow) : r.cells.length = 4 := rfl
theorem URow.cells_one (r : URow) : ∀ u ∈ r.cells, u.oneCell' = true := by intro u hu; simp only [URow.cells, List.mem_cons, List.not_mem_nil, or_false] at hu; rcases hu with rfl | rfl | rfl | rfl <;> rfl
def URow.zero : URow := ⟨0, 0, 0, 0⟩
def unth (l : List URow) (i : Nat) : URow := l.getD i URow.zero
theorem unth_eq (l : List URow) (i : Nat) (h : i < l.length) : unth l i = l[i] := by unfold unth; rw [List.getD_eq_getElem?_getD, List.getElem?_eq_getElem h]; rfl
structure URowAt (w : World) (b o : Nat) (r : URow) : Prop where
  c0 : w.cell? ⟨b, o, none⟩ = some (.int .u8 r.lo)
  c1 : w.cell? ⟨b, o + 1, none⟩ = some (.int .u8 r.hi)
  c2 : w.cell? ⟨b, o + 2, none⟩ = some (.int .i64 r.size)
  c3 : w.cell? ⟨b, o + 3, none⟩ = some (.int .u64 r.least)
theorem URowAt.below {w w' : World} {b o : Nat} {r : URow} (h : URowAt w b o r) (hb : Below w.heap.size w w') : URowAt w' b o r := by
  have hl := lt_of_cell h.c0
  have e : ∀ q, w'.cell? ⟨b, q, none⟩ = w.cell? ⟨b, q, none⟩ := fun q => hb.cell (p := ⟨b, q, none⟩) hl
  obtain ⟨c0, c1, c2, c3⟩ := h
  constructor <;> (rw [e]; assumption)
def URows (w : World) (a : Option Addr) (l : List URow) : Prop := ∀ i, i < len l → ∃ b off, a = some ⟨b, off, none⟩ ∧ URowAt w b (off + i * 4) (unth l i)
theorem URows.nil (w : World) (a : Option Addr) : URows w a [] := fun i hi => absurd hi (by simp [len])
theorem URows.below {w w' : World} {a : Option Addr} {l : List URow} (h : URows w a l) (hb : Below w.heap.size w w') : URows w' a l := fun i hi => by
  obtain ⟨b, off, rfl, hc⟩ := h i hi
  exact ⟨b, off, rfl, hc.below hb⟩
theorem URows.drew {w w' : World} {a : Option Addr} {l : List URow} (h : URows w a l) (hb : Drew w w') : URows w' a l := h.below (hb.below _)
theorem URows.take {w : World} {a : Option Addr} {l : List URow} (h : URows w a l) (k : Nat) : URows w a (l.take k) := fun i hi => by
  have hi2 : i < l.length ∧ i < k := by simp only [len, List.length_take] at hi; omega
  have hi3 : i < (l.take k).length := hi
  have e : unth (l.take k) i = unth l i := by rw [unth_eq l i hi2.1, unth_eq _ i hi3, List.getElem_take]
  rw [e]; exact h i hi2.1
theorem URows.drop {w : World} {b off : Nat} {l : List URow} (h : URows w (some ⟨b, off, none⟩) l) (k : Nat) : URows w (some ⟨b, off + k * 4, none⟩) (l.drop k) := fun i hi => by
  have hi2 : k + i < l.length := by simp only [len, List.length_drop] at hi; omega
  have hi3 : i < (l.drop k).length := hi
  have e : unth (l.drop k) i = unth l (k + i) := by rw [unth_eq l _ hi2, unth_eq _ i hi3, List.getElem_drop]
  obtain ⟨b', off', e2, hc⟩ := h (k + i) hi2
  cases e2
  exact ⟨b, _, rfl, by rw [e, show off + k * 4 + i * 4 = off + (k + i) * 4 by omega]; exact hc⟩
theorem URows.own {w : World} {base e n : Nat} {v : Value} {l : List URow} (h : w.ownsRow base e 4 v n (l.flatMap URow.cells)) : ∃ a cap, v = .slice a (len l) cap ∧ URows w a l ∧ len l ≤ cap := by
  have hn : len l = n := by have := h.1; rw [flat_length URow.cells 4 URow.cells_len] at this; rw [len_eq]; omega
  obtain ⟨h1, h2⟩ := h
  rcases h2 with ⟨rfl, h2⟩ | ⟨g, cap, cur, rfl, hg, hh, hc1, hc2, hc3, hc4⟩
  · obtain rfl : l = [] := List.eq_nil_of_length_eq_zero (by rw [← len_eq]; omega)
    exact ⟨none, 0, rfl, URows.nil _ _, Nat.le_refl _⟩
  · refine ⟨some ⟨g, 0, none⟩, cap, by rw [hn], fun i hi => ⟨g, 0, rfl, ?_⟩, by omega⟩
    have hown : w.ownsRow base e 4 (.slice (some ⟨g, 0, none⟩) n cap) n (l.flatMap URow.cells) := ⟨h1, .inr ⟨g, cap, cur, rfl, hg, hh, hc1, hc2, hc3, hc4⟩⟩
    have key : ∀ r, r < 4 → w.cell? ⟨g, 0 + i * 4 + r, none⟩ = (unth l i).cells[r]? := fun r hr => by
      have := hown.cellAt (i * 4 + r) (by rw [← hn]; omega)
      rw [Nat.zero_add, this, flat_get URow.cells 4 URow.cells_len l i r hi hr, unth_eq l i hi]
    exact ⟨key 0 (by decide), key 1 (by decide), key 2 (by decide), key 3 (by decide)⟩
theorem URows.block {w : World} {g : Nat} {l : List URow} {t : TypeId} {fr : Nat × Nat} (h : w.heap[g]? = some (.cells (l.flatMap URow.cells).toArray t fr)) : URows w (some ⟨g, 0, none⟩) l := fun i hi => ⟨g, 0, rfl, by
  have key : ∀ r, r < 4 → w.cell? ⟨g, 0 + i * 4 + r, none⟩ = (unth l i).cells[r]? := fun r hr => by
    rw [Nat.zero_add, block_cell h, List.getElem?_toArray, flat_get URow.cells 4 URow.cells_len l i r hi hr, unth_eq l i hi]
  exact ⟨key 0 (by decide), key 1 (by decide), key 2 (by decide), key 3 (by decide)⟩⟩
structure URow.Ok (r : URow) : Prop where
  lo0 : 0 ≤ r.lo
  hi1 : r.hi ≤ 255
  sz0 : 0 ≤ r.size
  sz1 : r.size ≤ 8
  le0 : 0 ≤ r.least
  le1 : r.least ≤ 4294967296
end Go.Proofs.YtpobhbdomldecaaGreatDoor
namespace Go.Proofs.YtpobhbdomldecaaGreatDoor
set_option linter.unusedSimpArgs false
set_option linter.unusedVariables false
open Go.RowKit
def RdB (w : World) (b : Nat) (s : ByteArray) (a most : Int) : Prop := w.heap[b]? = some (.cells #[.string s, .int .i64 a, .int .i64 most] 282 (0, 0))
theorem RdB.below {w w' : World} {b : Nat} {s : ByteArray} {a most : Int} (h : RdB w b s a most) (hb : Below w.heap.size w w') : RdB w' b s a most := (hb.block _ (lt_of_block h)).trans h
end Go.Proofs.YtpobhbdomldecaaGreatDoor
namespace Go.Proofs.YtpobhbdomldecaaGreatDoor
set_option linter.unusedSimpArgs false
set_option linter.unusedVariables false
open Go.RowKit
def numsL : List URow := [⟨0, 127, 0, 0⟩, ⟨204, 204, 1, 128⟩, ⟨205, 205, 2, 256⟩, ⟨206, 206, 4, 65536⟩, ⟨207, 207, 8, 4294967296⟩]
def binsL : List URow := [⟨196, 196, 1, 0⟩, ⟨197, 197, 2, 256⟩]
def strsL : List URow := [⟨160, 191, 0, 0⟩, ⟨217, 217, 1, 32⟩, ⟨218, 218, 2, 256⟩]
def pairsL : List URow := [⟨128, 143, 0, 0⟩, ⟨222, 222, 2, 16⟩]
def TabAt (B : Nat) (w : World) (g : Nat) (l : List URow) : Prop := ∃ tb tq rc, g < B ∧ tb < B ∧ B ≤ w.heap.size ∧ w.cell? ⟨g, 0, none⟩ = some (.slice (some ⟨tb, tq, none⟩) (len l) rc) ∧ URows w (some ⟨tb, tq, none⟩) l
theorem TabAt.ext {B : Nat} {w w' : World} {g b : Nat} {l : List URow} (h : TabAt B w g l) (hE : ExtB (some b) w w') (hb : B ≤ b) : TabAt B w' g l := by
  obtain ⟨tb, tq, rc, h1, h2, h5, h3, h4⟩ := h
  have e : ∀ x o, x < B → w'.cell? ⟨x, o, none⟩ = w.cell? ⟨x, o, none⟩ := fun x o hx => World.cell?_of_block (w := w) (hE.block x (by omega) (by intro e; cases e; omega))
  refine ⟨tb, tq, rc, h1, h2, Nat.le_trans h5 hE.size, by rw [e g 0 h1]; exact h3, fun i hi => ?_⟩
  obtain ⟨b', off', e2, ⟨c0, c1, c2, c3⟩⟩ := h4 i hi
  cases e2
  exact ⟨tb, tq, rfl, by rw [e tb _ h2]; exact c0, by rw [e tb _ h2]; exact c1, by rw [e tb _ h2]; exact c2, by rw [e tb _ h2]; exact c3⟩
theorem below_extB {w w' : World} (h : Below w.heap.size w w') (b : Nat) : ExtB (some b) w w' := ⟨h.os, h.tape, h.output, h.size, fun i hi _ => h.block i hi⟩
theorem TabAt.below {B : Nat} {w w' : World} {g : Nat} {l : List URow} (h : TabAt B w g l) (hb : Below w.heap.size w w') : TabAt B w' g l := by
  obtain ⟨tb, tq, rc, h1, h2, h5, h3, h4⟩ := h
  exact TabAt.ext ⟨tb, tq, rc, h1, h2, h5, h3, h4⟩ (below_extB hb B) (Nat.le_refl _)
def ListsAt (B : Nat) (w : World) : Prop := True
theorem ListsAt.imp {B : Nat} {w w' : World} (h : ListsAt B w) (k : ∀ g l, TabAt B w g l → TabAt B w' g l) : ListsAt B w' := trivial
structure Tabs (B : Nat) (w : World) : Prop where
  nums : TabAt B w 0 numsL
  lists : ListsAt B w
  bins : TabAt B w 6 binsL
  strs : TabAt B w 2 strsL
  pairs : TabAt B w 1 pairsL
theorem Tabs.ext {B : Nat} {w w' : World} {b : Nat} (h : Tabs B w) (hE : ExtB (some b) w w') (hb : B ≤ b) : Tabs B w' := ⟨h.nums.ext hE hb, h.lists.imp (fun _ _ h => h.ext hE hb), h.bins.ext hE hb, h.strs.ext hE hb, h.pairs.ext hE hb⟩
theorem Tabs.below {B : Nat} {w w' : World} (h : Tabs B w) (hb : Below w.heap.size w w') : Tabs B w' := ⟨h.nums.below hb, h.lists.imp (fun _ _ h => h.below hb), h.bins.below hb, h.strs.below hb, h.pairs.below hb⟩
end Go.Proofs.YtpobhbdomldecaaGreatDoor
namespace Go.Proofs.YtpobhbdomldecaaGreatDoor
set_option linter.unusedSimpArgs false
set_option linter.unusedVariables false
open Go.RowKit Go.Extern.Stop Go.Stop Go.Extern
def ErrType (w : World) : Prop := w.cell? ⟨3, 0, none⟩ = some (.iface 349 (.agg #[.pointer (some ⟨Tryz.prog.globals.size, 89, none⟩)]))
end Go.Proofs.YtpobhbdomldecaaGreatDoor
namespace Go.Proofs.YtpobhbdomldecaaGreatDoor
set_option linter.unusedSimpArgs false
set_option linter.unusedVariables false
open Go.RowKit
def FltB (w : World) (f : Nat) (k : Int) (a : Nat) : Prop := w.heap[f]? = some (.cells #[.int .i64 k, .int .i64 a] 145 (0, 0))
theorem FltB.below {w w' : World} {f : Nat} {k : Int} {a : Nat} (h : FltB w f k a) (hb : Below w.heap.size w w') : FltB w' f k a := (hb.block _ (lt_of_block h)).trans h
theorem ErrType.below {w w' : World} (h : ErrType w) (hb : Below w.heap.size w w') : ErrType w' := by
  unfold ErrType at *
  rw [hb.cell (p := ⟨_, 0, none⟩) (lt_of_cell h)]; exact h
end Go.Proofs.YtpobhbdomldecaaGreatDoor
namespace Go.Proofs.YtpobhbdomldecaaGreatDoor
set_option linter.unusedSimpArgs false
open Go.RowKit
set_option linter.unusedVariables false
def EsV (VO : Nat → Option Nat) (X : Nat → World → World → Prop) (j : Nat) (w w' : World) : Prop := w.grownBy w' (VO j) ∧ X j w w'
structure ExtS (VO : Nat → Option Nat) (w w' : World) : Prop where
  os : w'.os = w.os
  tape : w'.tape = w.tape
  output : w'.output = w.output
  size : w.heap.size ≤ w'.heap.size
  block : ∀ k, k < w.heap.size → (∀ j, VO j ≠ some k) → w'.heap[k]? = w.heap[k]?
theorem ExtS.refl (VO : Nat → Option Nat) (w : World) : ExtS VO w w := ⟨rfl, rfl, rfl, Nat.le_refl _, fun _ _ _ => rfl⟩
theorem ExtS.step {VO : Nat → Option Nat} {X : Nat → World → World → Prop} {j : Nat} {a b c : World} (h : ExtS VO a b) (k' : EsV VO X j b c) : ExtS VO a c :=
  have k := k'.1
  ⟨k.os.trans h.os, k.tape.trans h.tape, k.output.trans h.output, Nat.le_trans h.size k.size, fun i hi hn => (k.block i (Nat.lt_of_lt_of_le hi h.size) (fun e => hn j e.symm)).trans (h.block i hi hn)⟩
structure Here (VO : Nat → Option Nat) (I : World → Prop) (ops : List Oper) (w0 w : World) (D : Nat → Prop) (i : Nat) : Prop where
  ext : ExtS VO w0 w
  inv : I w
  late : ∀ j, ¬ D j → ∀ b, VO j = some b → b < w0.heap.size → w.heap[b]? = w0.heap[b]?
  notyet : ∀ (j : Nat) oj, ops[j]? = some oj → ∀ e ∈ oj.after, Region.binds .any e = true → ¬ D e.on → ¬ D j
  me : ¬ D i
theorem Here.own {VO : Nat → Option Nat} {I : World → Prop} {ops : List Oper} {w0 w : World} {D : Nat → Prop} {i : Nat} (h : Here VO I ops w0 w D i) : ∀ b, VO i = some b → b < w0.heap.size → w.heap[b]? = w0.heap[b]? := h.late i h.me
section
variable (P : Program) (ops : List Oper) (a0 : Act) (w0 : World) (VO : Nat → Option Nat) (X : Nat → World → World → Prop) (I : World → Prop) (PR : Nat → Nat → Value → Value → World → Prop) (Φ : Nat → Value → World → Prop) (Q : Exit → Act → World → Prop)
def PairAt (D : Nat → Prop) (a : Act) (i : Nat) (v : Value) (w' : World) : Prop := ∀ j oj, ops[j]? = some oj → D j → j ≠ i → PR i j v (slotOf oj a) w' ∧ PR j i (slotOf oj a) v w'
structure RInvV (n : Nat) (listed : Array Bool) (a : Act) (w : World) : Prop where
  head : HeadInv .any ops.toArray n listed
  ext : ExtS VO w0 w
  inv : I w
  ext0 : ∀ i, listed.getD i true = false → ∀ b, VO i = some b → b < w0.heap.size → w.heap[b]? = w0.heap[b]?
  outer : Outer ops a0 n a
  done : ∀ (i : Nat) o, ops[i]? = some o → listed.getD i true = true → Φ i (slotOf o a) w
  pair : ∀ i j oi oj, ops[i]? = some oi → ops[j]? = some oj → listed.getD i true = true → listed.getD j true = true → i ≠ j → PR i j (slotOf oi a) (slotOf oj a) w
variable {P ops a0 w0 VO X I PR Φ Q}
theorem slotv_same {o : Oper} {i : Nat} {a : Act} {v : Value} (hB : regOk ops a0.tmps.size = true) (hs : a.tmps.size = a0.tmps.size) (ho : ops[i]? = some o) : slotOf o (a.put o.dst v) = valOf o v := by
  unfold slotOf valOf
  cases hd : o.dst with
  | none => rfl
  | some d =>
    have hdl : ∀ d ∈ dstsOf ops, d < a0.tmps.size := by
      unfold regOk at hB; simp only [Bool.and_eq_true] at hB
      intro d hd; simpa using List.all_eq_true.1 hB.2 d hd
    have hmem : d ∈ dstsOf ops := List.mem_filterMap.2 ⟨o, List.mem_of_getElem? ho, hd⟩
    exact eval_put_same (by rw [hs]; exact hdl d hmem)
theorem slot_other {o oj : Oper} {i j : Nat} {a : Act} {v : Value} (hB : regOk ops a0.tmps.size = true) (hij : i ≠ j) (ho : ops[i]? = some o) (hoj : ops[j]? = some oj) : slotOf oj (a.put o.dst v) = slotOf oj a := by
  have hnd : (dstsOf ops).Nodup := by unfold regOk at hB; simp only [Bool.and_eq_true, decide_eq_true_eq] at hB; exact hB.1.2
  unfold slotOf
  cases hdj : oj.dst with
  | none => rfl
  | some d =>
    cases hdo : o.dst with
    | none => rfl
    | some d' =>
      have hne : d ≠ d' := by
        rintro rfl
        exact dst_two hnd hij ho hoj hdo hdj
      exact eval_put_ne hne
theorem RInvV.next {n : Nat} (hB : regOk ops a0.tmps.size = true) (hVO : ∀ i j b, VO i = some b → VO j = some b → i = j)
    (hmono : ∀ i j v w w', i ≠ j → EsV VO X j w w' → Φ i v w → Φ i v w') (hI : ∀ j w w', EsV VO X j w w' → I w → I w') (hmonoP : ∀ i j k vi vj w w', k ≠ i → k ≠ j → EsV VO X k w w' → PR i j vi vj w → PR i j vi vj w') {listed : Array Bool} {a : Act} {w : World} (inv : RInvV ops a0 w0 VO I PR Φ n listed a w)
    {i : Nat} {o : Oper} (hi : i ∈ Region.ready .any ops.toArray listed) (hin : i < n) (ho' : ops[i]? = some o) {v : Value} {w' : World} (he : EsV VO X i w w') (hv : Φ i (valOf o v) w') (hpr : PairAt ops PR (fun j => listed.getD j true = true) a i (valOf o v) w') :
    RInvV ops a0 w0 VO I PR Φ n (listed.setIfInBounds i true) (a.put o.dst v) w' := by
  have hnd : (dstsOf ops).Nodup := by unfold regOk at hB; simp only [Bool.and_eq_true, decide_eq_true_eq] at hB; exact hB.1.2
  have hdl : ∀ d ∈ dstsOf ops, d < a0.tmps.size := by
    unfold regOk at hB; simp only [Bool.and_eq_true] at hB
    intro d hd; simpa using List.all_eq_true.1 hB.2 d hd
  refine ⟨inv.head.set hi hin, inv.ext.step he, hI _ _ _ he inv.inv, fun k hl b hb hlt => ?_, ?_, ?_, fun i1 j1 oi oj hoi hoj l1 l2 hne => ?_⟩
  · by_cases his : k = i
    · exfalso
      subst his
      obtain ⟨hun, o', ho, _⟩ := mem_ready.1 hi
      have hil : k < listed.size := by rw [inv.head.size]; exact (Array.getElem?_eq_some_iff.1 ho).1
      simp [hil] at hl
    · rw [getD_set_ne true (Ne.symm his)] at hl
      have h1 := inv.ext0 k hl b hb hlt
      rw [← h1]
      exact he.1.block b (Nat.lt_of_lt_of_le hlt inv.ext.size) (fun e => his (hVO k i b hb e.symm))
  · obtain ⟨h1, h2, h3⟩ := inv.outer
    cases hd : o.dst with
    | none => exact ⟨h1, h2, h3⟩
    | some d =>
      refine ⟨h1, by simp [Act.put, h2], fun t ht => ?_⟩
      have hmem : d ∈ dstsOf (ops.take n) := List.mem_filterMap.2 ⟨o, List.mem_of_getElem? (i := i) (by rw [List.getElem?_take, if_pos hin]; exact ho'), hd⟩
      rw [eval_put_ne (by rintro rfl; simp at ht; exact ht hmem)]; exact h3 t ht
  · intro j oj hoj hl
    by_cases hij : j = i
    · subst hij
      have : oj = o := Option.some.inj (hoj.symm.trans ho')
      subst this
      unfold slotOf
      unfold valOf at hv
      cases hd : oj.dst with
      | none => simpa [hd] using hv
      | some d =>
        simp only [hd] at hv
        have hmem : d ∈ dstsOf ops := List.mem_filterMap.2 ⟨oj, List.mem_of_getElem? ho', hd⟩
        simp only
        rw [eval_put_same (by rw [inv.outer.2.1]; exact hdl d hmem)]; exact hv
    · rw [getD_set_ne true (Ne.symm hij)] at hl
      have h1 := hmono j i _ w w' hij he (inv.done j oj hoj hl)
      unfold slotOf at h1 ⊢
      cases hdj : oj.dst with
      | none => first | exact h1 | simpa [hdj] using h1
      | some d =>
        try simp only [hdj] at h1 ⊢
        cases hdo : o.dst with
        | none => exact h1
        | some d' =>
          have hne : d ≠ d' := by
            rintro rfl
            exact dst_two hnd (Ne.symm hij) ho' hoj hdo hdj
          rw [eval_put_ne hne]; exact h1
  · by_cases h1 : i1 = i
    · subst h1
      have e : oi = o := Option.some.inj (hoi.symm.trans ho')
      subst e
      rw [slotv_same hB inv.outer.2.1 ho', slot_other hB hne ho' hoj]
      exact (hpr j1 oj hoj (by rwa [getD_set_ne true hne] at l2) (Ne.symm hne)).1
    · by_cases h2 : j1 = i
      · subst h2
        have e : oj = o := Option.some.inj (hoj.symm.trans ho')
        subst e
        rw [slotv_same hB inv.outer.2.1 ho', slot_other hB (Ne.symm hne) ho' hoi]
        exact (hpr i1 oi hoi (by rwa [getD_set_ne true (Ne.symm hne)] at l1) hne).2
      · rw [slot_other hB (Ne.symm h1) ho' hoi, slot_other hB (Ne.symm h2) ho' hoj]
        exact hmonoP i1 j1 i _ _ w w' (Ne.symm h1) (Ne.symm h2) he (inv.pair i1 j1 oi oj hoi hoj (by rwa [getD_set_ne true (Ne.symm h1)] at l1) (by rwa [getD_set_ne true (Ne.symm h2)] at l2) hne)
end
section
variable {P : Program} {Q : Exit → Act → World → Prop} {a : Act} {w : World} {l : List Oper} {VO : Nat → Option Nat} {X : Nat → World → World → Prop} {I : World → Prop} {PR : Nat → Nat → Value → Value → World → Prop} {Φ : Nat → Value → World → Prop}
end
section
variable {P : Program} {ops : List Oper} {a0 : Act} {w0 : World} {VO : Nat → Option Nat} {X : Nat → World → World → Prop} {I : World → Prop} {PR : Nat → Nat → Value → Value → World → Prop} {Φ : Nat → Value → World → Prop} {Q : Exit → Act → World → Prop} {hd : Nat} {i : Nat} {o : Oper}
end
end Go.Proofs.YtpobhbdomldecaaGreatDoor
namespace Go.Proofs.YtpobhbdomldecaaGreatDoor
open Go.RowKit
set_option linter.unusedSimpArgs false
set_option linter.unusedVariables false
structure RevD where
  pos : Int
  L : Int
  signed : Bool
  idx : Int
  ws : List ByteArray
  ps : List ByteArray
  root : ByteArray
  wt : Int
  first : Int
  life : Int
  keys : Int
inductive DV where
  | num (n : Int)
  | flag (q : Bool)
  | str (s : ByteArray)
  | strs (l : List ByteArray)
  | nums (l : List Int)
  | revs (l : List RevD)
abbrev Rcd := Nat → DV
def upd (x : Rcd) (o : Nat) (d : DV) : Rcd := fun i => if i = o then d else x i
theorem upd_at (x : Rcd) (o : Nat) (d : DV) : upd x o d o = d := if_pos rfl
theorem upd_ne {x : Rcd} {o i : Nat} {d : DV} (h : i ≠ o) : upd x o d i = x i := if_neg h
abbrev Flt := Int × Nat
structure GSpec where
  key : ByteArray
  must : Bool
  offs : List Nat
  empty : Rcd → Bool
  read : Rcd → Nat → Except Flt (Rcd × Nat)
def GSpec.zero : GSpec := ⟨ByteArray.empty, false, [], fun _ => true, fun x a => .ok (x, a)⟩
def gth (l : List GSpec) (i : Nat) : GSpec := l.getD i GSpec.zero
theorem gth_eq (l : List GSpec) (i : Nat) (h : i < l.length) : gth l i = l[i] := by unfold gth; rw [List.getD_eq_getElem?_getD, List.getElem?_eq_getElem h]; rfl
def DV.n : DV → Int | .num n => n | _ => 0
def DV.q : DV → Bool | .flag q => q | _ => false
def DV.s : DV → ByteArray | .str s => s | _ => ByteArray.empty
def DV.l : DV → List ByteArray | .strs l => l | _ => []
def DV.ns : DV → List Int | .nums l => l | _ => []
def DV.rs : DV → List RevD | .revs l => l | _ => []
def revC (r : RevD) : Rcd := fun i => match i with
  | 0 => .num r.pos | 1 => .num r.L | 2 => .flag r.signed | 3 => .num r.idx | 4 => .strs r.ws | 5 => .strs r.ps | 6 => .str r.root | 7 => .num r.wt | 8 => .num r.first | 9 => .num r.life | _ => .num r.keys
def GSpec.Frames (g : GSpec) : Prop := ∀ x a y, g.read x a = .ok y → ∀ i, i ∉ g.offs → y.1 i = x i
def kindD : DV → Nat
  | .num _ => 0 | .flag _ => 1 | .str _ => 2 | .strs _ => 3 | .nums _ => 4 | .revs _ => 5
def Kd (x0 x : Rcd) : Prop := ∀ i, kindD (x i) = kindD (x0 i)
def GSpec.Kinds (x0 : Rcd) (g : GSpec) : Prop := ∀ x a y, g.read x a = .ok y → Kd x0 x → Kd x0 y.1
theorem Kd.num {x0 x : Rcd} (h : Kd x0 x) {o : Nat} (h0 : kindD (x0 o) = 0) : ∃ n, x o = .num n := by
  have := (h o).trans h0
  cases hx : x o <;> rw [hx] at this <;> first | exact ⟨_, rfl⟩ | cases this
theorem Kd.flag {x0 x : Rcd} (h : Kd x0 x) {o : Nat} (h0 : kindD (x0 o) = 1) : ∃ n, x o = .flag n := by
  have := (h o).trans h0
  cases hx : x o <;> rw [hx] at this <;> first | exact ⟨_, rfl⟩ | cases this
end Go.Proofs.YtpobhbdomldecaaGreatDoor
namespace Go.Proofs.YtpobhbdomldecaaGreatDoor
open Go.RowKit
set_option linter.unusedSimpArgs false
set_option linter.unusedVariables false
def stopC (f : Nat) : List PanicEntry := [{ v := .iface 211 (.agg #[.iface 290 (.pointer (some ⟨f, 0, none⟩))]), recovered := false }]
structure RdEnv (B : Nat) (w : World) (qb rb : Nat) (s : ByteArray) (a : Nat) : Prop where
  q : w.heap[qb]? = some (.cells #[.pointer (some ⟨rb, 0, none⟩)] 217 (0, 0))
  r : RdB w rb s a 10240
  tabs : Tabs B w
  bq : B ≤ qb
  br : B ≤ rb
  ne : qb ≠ rb
  at_le : a ≤ s.size
  sz : s.size ≤ 9223372036854775807
theorem RdEnv.below {B : Nat} {w w' : World} {qb rb : Nat} {s : ByteArray} {a : Nat} (h : RdEnv B w qb rb s a) (hb : Below w.heap.size w w') : RdEnv B w' qb rb s a :=
  ⟨(hb.block _ (lt_of_block h.q)).trans h.q, h.r.below hb, h.tabs.below hb, h.bq, h.br, h.ne, h.at_le, h.sz⟩
theorem RdEnv.step {B : Nat} {w w' : World} {qb rb : Nat} {s : ByteArray} {a a' : Nat} (h : RdEnv B w qb rb s a) (hE : ExtB (some rb) w w') (hr : RdB w' rb s a' 10240) (ha : a' ≤ s.size) : RdEnv B w' qb rb s a' :=
  ⟨(hE.block _ (lt_of_block h.q) (by simpa using h.ne)).trans h.q, hr, h.tabs.ext hE h.br, h.bq, h.br, h.ne, ha, h.sz⟩
end Go.Proofs.YtpobhbdomldecaaGreatDoor
namespace Go.Proofs.YtpobhbdomldecaaGreatDoor
open Go.RowKit
set_option linter.unusedSimpArgs false
set_option linter.unusedVariables false
structure Rev where
  pos : Int
  L : Int
  signed : Bool
  idx : Int
  wa : Option Addr
  wn : Nat
  wc : Nat
  pa : Option Addr
  pn : Nat
  pc : Nat
  root : ByteArray
  wt : Int
  first : Int
  life : Int
  keys : Int
abbrev Rev.val (r : Rev) : Value := .agg #[.int .u64 r.pos, .int .u64 r.L, .bool r.signed, .int .u64 r.idx, .slice r.wa r.wn r.wc, .slice r.pa r.pn r.pc, .string r.root, .int .u64 r.wt, .int .u64 r.first, .int .u64 r.life, .int .u64 r.keys]
def Rev.zero : Rev := ⟨0, 0, false, 0, none, 0, 0, none, 0, 0, ByteArray.empty, 0, 0, 0, 0⟩
def revnth (l : List Rev) (i : Nat) : Rev := l.getD i Rev.zero
structure RevAt (w : World) (b o : Nat) (r : Rev) : Prop where
  c0 : w.cell? ⟨b, o, none⟩ = some (.int .u64 r.pos)
  c1 : w.cell? ⟨b, o + 1, none⟩ = some (.int .u64 r.L)
  c2 : w.cell? ⟨b, o + 2, none⟩ = some (.bool r.signed)
  c3 : w.cell? ⟨b, o + 3, none⟩ = some (.int .u64 r.idx)
  c4 : w.cell? ⟨b, o + 4, none⟩ = some (.slice r.wa r.wn r.wc)
  c5 : w.cell? ⟨b, o + 5, none⟩ = some (.slice r.pa r.pn r.pc)
  c6 : w.cell? ⟨b, o + 6, none⟩ = some (.string r.root)
  c7 : w.cell? ⟨b, o + 7, none⟩ = some (.int .u64 r.wt)
  c8 : w.cell? ⟨b, o + 8, none⟩ = some (.int .u64 r.first)
  c9 : w.cell? ⟨b, o + 9, none⟩ = some (.int .u64 r.life)
  c10 : w.cell? ⟨b, o + 10, none⟩ = some (.int .u64 r.keys)
theorem RevAt.below {w w' : World} {b o : Nat} {r : Rev} (h : RevAt w b o r) (hb : Below w.heap.size w w') : RevAt w' b o r := by
  have hl := lt_of_cell h.c0
  have e : ∀ q, w'.cell? ⟨b, q, none⟩ = w.cell? ⟨b, q, none⟩ := fun q => hb.cell (p := ⟨b, q, none⟩) hl
  obtain ⟨c0, c1, c2, c3, c4, c5, c6, c7, c8, c9, c10⟩ := h
  constructor <;> (rw [e]; assumption)
def Revs (w : World) (a : Option Addr) (l : List Rev) : Prop :=
  ∀ i, i < len l → ∃ b off, a = some ⟨b, off, none⟩ ∧ RevAt w b (off + i * 11) (revnth l i)
theorem Revs.below {w w' : World} {a : Option Addr} {l : List Rev} (h : Revs w a l) (hb : Below w.heap.size w w') : Revs w' a l := fun i hi => by
  obtain ⟨b, off, rfl, hc⟩ := h i hi
  exact ⟨b, off, rfl, hc.below hb⟩
theorem Revs.drew {w w' : World} {a : Option Addr} {l : List Rev} (h : Revs w a l) (hb : Drew w w') : Revs w' a l := h.below (hb.below _)
def Rev.cells (r : Rev) : List Value := [.int .u64 r.pos, .int .u64 r.L, .bool r.signed, .int .u64 r.idx, .slice r.wa r.wn r.wc, .slice r.pa r.pn r.pc, .string r.root, .int .u64 r.wt, .int .u64 r.first, .int .u64 r.life, .int .u64 r.keys]
end Go.Proofs.YtpobhbdomldecaaGreatDoor
namespace Go.Proofs.YtpobhbdomldecaaGreatDoor
open Go.RowKit
set_option linter.unusedSimpArgs false
set_option linter.unusedVariables false
def sth (l : List ByteArray) (i : Nat) : ByteArray := l.getD i ByteArray.empty
def Txs (w : World) (a : Option Addr) (l : List ByteArray) : Prop :=
  ∀ i, i < len l → ∃ b off, a = some ⟨b, off, none⟩ ∧ w.cell? ⟨b, off + i, none⟩ = some (.string (sth l i))
theorem Txs.below {w w' : World} {a : Option Addr} {l : List ByteArray} (h : Txs w a l) (hb : Below w.heap.size w w') : Txs w' a l := fun i hi => by
  obtain ⟨b, off, rfl, hc⟩ := h i hi
  exact ⟨b, off, rfl, by rw [hb.cell (p := ⟨b, off + i, none⟩) (lt_of_cell hc)]; exact hc⟩
theorem Txs.drew {w w' : World} {a : Option Addr} {l : List ByteArray} (h : Txs w a l) (hb : Drew w w') : Txs w' a l := h.below (hb.below _)
end Go.Proofs.YtpobhbdomldecaaGreatDoor
namespace Go.Proofs.YtpobhbdomldecaaGreatDoor
open Go.RowKit
set_option linter.unusedSimpArgs false
set_option linter.unusedVariables false
def hiL (n : Int) : Nat → List Int
  | 0 => []
  | k + 1 => (n / 256 ^ k % 256) :: hiL n k
theorem hiL_len (n : Int) : ∀ k, (hiL n k).length = k
  | 0 => rfl
  | k + 1 => by rw [hiL, List.length_cons, hiL_len n k]
def toB (x : Int) : UInt8 := UInt8.ofNat x.toNat
theorem nat_toB {x : Int} (h0 : 0 ≤ x) (h1 : x ≤ 255) : ((toB x).toNat : Int) = x := by
  unfold toB; rw [UInt8.toNat_ofNat']; omega
theorem ba_ext {s t : ByteArray} (h : s.data.toList = t.data.toList) : s = t := ByteArray.ext (Array.ext' h)
theorem ba_len (s : ByteArray) : s.data.toList.length = s.size := by rw [Array.length_toList]; rfl
def baL (l : List UInt8) : ByteArray := ⟨l.toArray⟩
theorem baL_list (l : List UInt8) : (baL l).data.toList = l := rfl
theorem baL_size (l : List UInt8) : (baL l).size = l.length := by show l.toArray.size = _; simp
theorem baL_app (a b : List UInt8) : baL (a ++ b) = baL a ++ baL b := ba_ext (by rw [baL_list, ByteArray.data_append, Array.toList_append, baL_list, baL_list])
structure PRow where
  below : Int
  first : Int
  size : Int
abbrev PRow.val (r : PRow) : Value := .agg #[.int .u64 r.below, .int .u8 r.first, .int .i64 r.size]
def PRow.cells (r : PRow) : List Value := [.int .u64 r.below, .int .u8 r.first, .int .i64 r.size]
theorem PRow.cells_len (r : PRow) : r.cells.length = 3 := rfl
theorem PRow.cells_one (r : PRow) : ∀ u ∈ r.cells, u.oneCell' = true := by intro u hu; simp only [PRow.cells, List.mem_cons, List.not_mem_nil, or_false] at hu; rcases hu with rfl | rfl | rfl <;> rfl
def PRow.zero : PRow := ⟨0, 0, 0⟩
def prth (l : List PRow) (i : Nat) : PRow := l.getD i PRow.zero
theorem prth_eq (l : List PRow) (i : Nat) (h : i < l.length) : prth l i = l[i] := by unfold prth; rw [List.getD_eq_getElem?_getD, List.getElem?_eq_getElem h]; rfl
structure PRowAt (w : World) (b o : Nat) (r : PRow) : Prop where
  c0 : w.cell? ⟨b, o, none⟩ = some (.int .u64 r.below)
  c1 : w.cell? ⟨b, o + 1, none⟩ = some (.int .u8 r.first)
  c2 : w.cell? ⟨b, o + 2, none⟩ = some (.int .i64 r.size)
theorem PRowAt.below {w w' : World} {b o : Nat} {r : PRow} (h : PRowAt w b o r) (hb : Below w.heap.size w w') : PRowAt w' b o r := by
  have hl := lt_of_cell h.c0
  have e : ∀ q, w'.cell? ⟨b, q, none⟩ = w.cell? ⟨b, q, none⟩ := fun q => hb.cell (p := ⟨b, q, none⟩) hl
  obtain ⟨c0, c1, c2⟩ := h
  constructor <;> (rw [e]; assumption)
def PRows (w : World) (a : Option Addr) (l : List PRow) : Prop := ∀ i, i < len l → ∃ b off, a = some ⟨b, off, none⟩ ∧ PRowAt w b (off + i * 3) (prth l i)
theorem PRows.nil (w : World) (a : Option Addr) : PRows w a [] := fun i hi => absurd hi (by simp [len])
theorem PRows.below {w w' : World} {a : Option Addr} {l : List PRow} (h : PRows w a l) (hb : Below w.heap.size w w') : PRows w' a l := fun i hi => by
  obtain ⟨b, off, rfl, hc⟩ := h i hi
  exact ⟨b, off, rfl, hc.below hb⟩
theorem PRows.drew {w w' : World} {a : Option Addr} {l : List PRow} (h : PRows w a l) (hb : Drew w w') : PRows w' a l := h.below (hb.below _)
theorem PRows.take {w : World} {a : Option Addr} {l : List PRow} (h : PRows w a l) (k : Nat) : PRows w a (l.take k) := fun i hi => by
  have hi2 : i < l.length ∧ i < k := by simp only [len, List.length_take] at hi; omega
  have hi3 : i < (l.take k).length := hi
  have e : prth (l.take k) i = prth l i := by rw [prth_eq l i hi2.1, prth_eq _ i hi3, List.getElem_take]
  rw [e]; exact h i hi2.1
theorem PRows.drop {w : World} {b off : Nat} {l : List PRow} (h : PRows w (some ⟨b, off, none⟩) l) (k : Nat) : PRows w (some ⟨b, off + k * 3, none⟩) (l.drop k) := fun i hi => by
  have hi2 : k + i < l.length := by simp only [len, List.length_drop] at hi; omega
  have hi3 : i < (l.drop k).length := hi
  have e : prth (l.drop k) i = prth l (k + i) := by rw [prth_eq l _ hi2, prth_eq _ i hi3, List.getElem_drop]
  obtain ⟨b', off', e2, hc⟩ := h (k + i) hi2
  cases e2
  exact ⟨b, _, rfl, by rw [e, show off + k * 3 + i * 3 = off + (k + i) * 3 by omega]; exact hc⟩
theorem PRows.own {w : World} {base e n : Nat} {v : Value} {l : List PRow} (h : w.ownsRow base e 3 v n (l.flatMap PRow.cells)) : ∃ a cap, v = .slice a (len l) cap ∧ PRows w a l ∧ len l ≤ cap := by
  have hn : len l = n := by have := h.1; rw [flat_length PRow.cells 3 PRow.cells_len] at this; rw [len_eq]; omega
  obtain ⟨h1, h2⟩ := h
  rcases h2 with ⟨rfl, h2⟩ | ⟨g, cap, cur, rfl, hg, hh, hc1, hc2, hc3, hc4⟩
  · obtain rfl : l = [] := List.eq_nil_of_length_eq_zero (by rw [← len_eq]; omega)
    exact ⟨none, 0, rfl, PRows.nil _ _, Nat.le_refl _⟩
  · refine ⟨some ⟨g, 0, none⟩, cap, by rw [hn], fun i hi => ⟨g, 0, rfl, ?_⟩, by omega⟩
    have hown : w.ownsRow base e 3 (.slice (some ⟨g, 0, none⟩) n cap) n (l.flatMap PRow.cells) := ⟨h1, .inr ⟨g, cap, cur, rfl, hg, hh, hc1, hc2, hc3, hc4⟩⟩
    have key : ∀ r, r < 3 → w.cell? ⟨g, 0 + i * 3 + r, none⟩ = (prth l i).cells[r]? := fun r hr => by
      have := hown.cellAt (i * 3 + r) (by rw [← hn]; omega)
      rw [Nat.zero_add, this, flat_get PRow.cells 3 PRow.cells_len l i r hi hr, prth_eq l i hi]
    exact ⟨key 0 (by decide), key 1 (by decide), key 2 (by decide)⟩
theorem PRows.block {w : World} {g : Nat} {l : List PRow} {t : TypeId} {fr : Nat × Nat} (h : w.heap[g]? = some (.cells (l.flatMap PRow.cells).toArray t fr)) : PRows w (some ⟨g, 0, none⟩) l := fun i hi => ⟨g, 0, rfl, by
  have key : ∀ r, r < 3 → w.cell? ⟨g, 0 + i * 3 + r, none⟩ = (prth l i).cells[r]? := fun r hr => by
    rw [Nat.zero_add, block_cell h, List.getElem?_toArray, flat_get PRow.cells 3 PRow.cells_len l i r hi hr, prth_eq l i hi]
  exact ⟨key 0 (by decide), key 1 (by decide), key 2 (by decide)⟩⟩
def rowB (r : PRow) (n : Int) : List UInt8 := if r.size = 0 then [toB (r.first + n)] else toB r.first :: (hiL n r.size.toNat).map toB
def hrowsP (sort : Nat) : List PRow :=
  match sort with
  | 1 => [⟨256, 196, 1⟩, ⟨65536, 197, 2⟩]
  | 2 => [⟨32, 160, 0⟩, ⟨256, 217, 1⟩, ⟨65536, 218, 2⟩]
  | 3 => [⟨16, 144, 0⟩, ⟨65536, 220, 2⟩]
  | 4 => [⟨16, 128, 0⟩, ⟨65536, 222, 2⟩]
  | _ => [⟨128, 0, 0⟩, ⟨256, 204, 1⟩, ⟨65536, 205, 2⟩, ⟨4294967296, 206, 4⟩, ⟨0, 207, 8⟩]
def headP (sort : Nat) (n : Int) : List UInt8 :=
  match (hrowsP sort).find? (fun r => decide (n < r.below ∨ r.below = 0)) with
  | some r => rowB r n
  | none => []
def laidP (sort : Nat) (n : Int) (t : ByteArray) : ByteArray := baL (headP sort n) ++ (if sort = 1 ∨ sort = 2 then t else ByteArray.empty)
theorem headP_len (sort : Nat) (n : Int) : (headP sort n).length ≤ 9 := by
  unfold headP
  split
  · rename_i r hr
    have hm := List.mem_of_find?_eq_some hr
    unfold rowB
    split
    · simp
    · rw [List.length_cons, List.length_map, hiL_len]
      unfold hrowsP at hm
      split at hm <;> simp at hm <;> (first | (rcases hm with rfl | rfl | rfl | rfl | rfl <;> simp) | (rcases hm with rfl | rfl | rfl <;> simp) | (rcases hm with rfl | rfl <;> simp))
  · simp
end Go.Proofs.YtpobhbdomldecaaGreatDoor
namespace Go.Proofs.YtpobhbdomldecaaGreatDoor
open Go.RowKit
set_option linter.unusedSimpArgs false
set_option linter.unusedVariables false
theorem info_u8 : (Tryz.prog.info? 5).map (fun i => (i.zero, i.size, i.bytes)) = some (some (.int .u8 0), 1, 1) := by kernel_rfl
theorem one_u8 (x : Int) : ∀ u ∈ [Value.int .u8 x], u.oneCell' = true := by
  intro u hu; simp at hu; subst hu; rfl
def Not8 (x : Obj) : Prop := ∀ cs fr, x ≠ .cells cs 5 fr
theorem not8_cells {cs : Array Value} {t : TypeId} {fr : Nat × Nat} (h : t ≠ 5) : Not8 (.cells cs t fr) := fun _ _ e => by cases e; exact h rfl
structure WK (base b : Nat) (w w' : World) : Prop where
  bel : Below base w w'
  keep : ∀ k x, w.heap[k]? = some x → k ≠ b → Not8 x → w'.heap[k]? = some x
theorem WK.refl (base b : Nat) (w : World) : WK base b w w := ⟨Below.refl _ _, fun _ _ h _ _ => h⟩
theorem WK.trans {base b : Nat} {w w' w'' : World} (h : WK base b w w') (k : WK base b w' w'') : WK base b w w'' := ⟨h.bel.trans k.bel, fun j x hx hj hn => k.keep j x (h.keep j x hx hj hn) hj hn⟩
theorem WK.of_below {base b : Nat} {w w' : World} (h : Below w.heap.size w w') (hb : base ≤ w.heap.size) : WK base b w w' := ⟨h.mono hb, fun k x hx _ _ => (h.block k (lt_of_block hx)).trans hx⟩
theorem WK.next {base b : Nat} {w w1 w2 : World} (h : WK base b w w1) (k : Below w1.heap.size w1 w2) (hb : base ≤ w.heap.size) : WK base b w w2 := h.trans (WK.of_below k (Nat.le_trans hb h.bel.size))
def WrB (w : World) (b base : Nat) (s : ByteArray) : Prop := base ≤ b ∧ ∃ v, w.heap[b]? = some (.cells #[v] 233 (0, 0)) ∧ w.ownsRow base 5 1 v s.size (Lib.strCells s)
theorem WrB.below {w w' : World} {b base : Nat} {s : ByteArray} (h : WrB w b base s) (hb : Below w.heap.size w w') : WrB w' b base s := by
  obtain ⟨h0, v, h1, h2⟩ := h
  exact ⟨h0, v, (hb.block _ (lt_of_block h1)).trans h1, own_below h2 hb⟩
theorem WrB.lt {w : World} {b base : Nat} {s : ByteArray} (h : WrB w b base s) : b < w.heap.size := by
  obtain ⟨h0, v, h1, h2⟩ := h; exact lt_of_block h1
theorem own_not8 {w : World} {base e n k : Nat} {v : Value} {xs : List Value} {x : Obj} (h : w.ownsRow base 5 e v n xs) (hk : w.heap[k]? = some x) (hx : Not8 x) : some k ≠ v.ownBlock := by
  rcases h.2 with ⟨rfl, _⟩ | ⟨g, cap, cur, rfl, _, hg, _⟩
  · intro e; cases e
  · intro e
    obtain rfl : k = g := by simpa [Value.ownBlock] using e
    rw [hg] at hk
    cases hk
    exact hx _ _ rfl
theorem wr_step {w w1 : World} {b base n : Nat} {v v' : Value} {xs ys : List Value} {s' : ByteArray} (hb : base ≤ b) (h1 : w.heap[b]? = some (.cells #[v] 233 (0, 0))) (hown : w.ownsRow base 5 1 v n xs) (hE : ExtB v.ownBlock w.drew w1)
    (hown' : w1.ownsRow base 5 1 v' s'.size ys) (hy : ys = Lib.strCells s') :
    w1.cell? ⟨b, 0, none⟩ = some v ∧ w1.frozen? ⟨b, 0, none⟩ = false ∧ WrB (w1.setCell ⟨b, 0, none⟩ v') b base s' ∧ WK base b w (w1.setCell ⟨b, 0, none⟩ v') := by
  have hn8 : Not8 (.cells #[v] 233 (0, 0)) := not8_cells (by decide)
  have hlt := lt_of_block h1
  have hb1 : w1.heap[b]? = some (.cells #[v] 233 (0, 0)) := by
    rw [hE.block b hlt (own_not8 hown h1 hn8)]; exact h1
  have hne := own_not8 hown' hb1 hn8
  refine ⟨block_cell hb1 0, block_free hb1 0, ⟨hb, v', block_setCell hb1 v', ?_⟩, ⟨?_, fun k x hx hk hnx => ?_⟩⟩
  · subst hy
    refine hown'.kept ⟨rfl, rfl, rfl, (by simp [World.setCell]), fun k _ hk => Below.heap_setCell _ _ _ k (fun e => hk (by rw [e]))⟩ (row := some b) (.inr (fun e => hne e.symm))
  · refine Below.setCell (Below.grown ((Below.refl base w).drew) hE (by show base ≤ w.heap.size; omega) (fun k hk => (hown.lt k hk).1)) hb v'
  · rw [Below.heap_setCell _ _ _ _ hk, hE.block k (lt_of_block hx) (own_not8 hown hx hnx)]; exact hx
theorem own_slice {w : World} {base e n : Nat} {v : Value} {xs : List Value} (h : w.ownsRow base e 1 v (n + 1) xs) : ∃ g cap, v = .slice (some ⟨g, 0, none⟩) (n + 1) cap := by
  rcases h.2 with ⟨_, h2⟩ | ⟨g, cap, cur, h3, _⟩
  · omega
  · exact ⟨g, cap, h3⟩
theorem strCells_app (s t : ByteArray) : Lib.strCells (s ++ t) = Lib.strCells s ++ Lib.strCells t := by
  unfold Lib.strCells; rw [ByteArray.data_append, Array.toList_append, List.map_append]
theorem strCells_one {y : Int} (h0 : 0 ≤ y) (h1 : y ≤ 255) : Lib.strCells (baL [toB y]) = [.int .u8 y] := by
  unfold Lib.strCells; rw [baL_list, List.map_cons, List.map_nil, nat_toB h0 h1]
theorem baL_one (s : ByteArray) (x : UInt8) : (s ++ baL [x]).size = s.size + 1 := by rw [ByteArray.size_append, baL_size]; rfl
end Go.Proofs.YtpobhbdomldecaaGreatDoor
namespace Go.Proofs.YtpobhbdomldecaaGreatDoor
open Go.RowKit
set_option linter.unusedSimpArgs false
set_option linter.unusedVariables false
structure PRow.Ok (r : PRow) (n : Int) : Prop where
  b0 : 0 ≤ r.below
  b1 : r.below ≤ 18446744073709551615
  f0 : 0 ≤ r.first
  f1 : r.first ≤ 255
  s0 : 0 ≤ r.size
  s1 : r.size ≤ 8
  fit : r.size = 0 → (n < r.below ∨ r.below = 0) → r.first + n ≤ 255
def Head1Is (r : PRow) (n : Int) (s : ByteArray) (b base : Nat) (w : World) (e : Ending) (w' : World) : Prop :=
  e = .returned (.bool (decide (n < r.below ∨ r.below = 0))) ∧ WrB w' b base (if n < r.below ∨ r.below = 0 then s ++ baL (rowB r n) else s) ∧ WK base b w w'
theorem hi_next (n : Int) (k i : Nat) (h : i < k) : (hiL n k).take (k - i) = (hiL n k).take (k - (i + 1)) ++ [n / 256 ^ i % 256] := by
  have hl := hiL_len n k
  have key : ∀ k, i < k → (hiL n k)[k - (i + 1)]? = some (n / 256 ^ i % 256) := by
    intro k
    induction k with
    | zero => intro h; omega
    | succ k ih =>
      intro h
      rw [hiL]
      by_cases e : i = k
      · subst e; simp
      · have h2 := ih (by omega)
        rw [show k + 1 - (i + 1) = (k - (i + 1)) + 1 by omega, List.getElem?_cons_succ]; exact h2
  have h3 := key k h
  rw [show k - i = k - (i + 1) + 1 by omega, List.take_add_one, h3]; rfl
set_option maxRecDepth 100000 in
set_option maxHeartbeats 4000000 in
theorem head1_any (r : PRow) (bn bw b base : Nat) (n : Int) (s : ByteArray) (w : World) (hn : w.heap[bn]? = some (.cells #[.int .u64 n] 23 (0, 0))) (hw : w.heap[bw]? = some (.cells #[.pointer (some ⟨b, 0, none⟩)] 177 (0, 0)))
    (hW : WrB w b base s) (h0 : 0 ≤ n) (h1 : n ≤ 18446744073709551615) (hr : r.Ok n) (hs : s.size ≤ 70000000000000) :
    Calls Tryz.prog 291 #[r.val, .pointer (some ⟨bn, 0, none⟩), .pointer (some ⟨bw, 0, none⟩)] w (Head1Is r n s b base w) := by
  have HR := Lib.hid hr
  have HN := Lib.hid hn
  have HW2 := Lib.hid hw
  have HWR := Lib.hid hW
  have cn := block_cell hn 0
  have cw := block_cell hw 0
  simp only [List.getElem?_toArray, List.getElem?_cons_zero] at cn cw
  have lbn := lt_of_block hn
  have lbw := lt_of_block hw
  clear hr hn hw hW
  unfold PRow.val
  by_cases hx : n < r.below ∨ r.below = 0
  · have HX : Hid (decide (n < r.below ∨ r.below = 0) = true) := Lib.hid (decide_eq_true hx)
    have hcase : decide (r.below ≤ n) = false ∨ (decide (r.below ≤ n) = true ∧ decide (0 < r.below) = false) := by
      rcases hx with h | h
      · exact .inl (decide_eq_false (by omega))
      · exact .inr ⟨decide_eq_true (by omega), decide_eq_false (by omega)⟩
    have HCS := Lib.hid hcase
    have hfit := fun h => HR.out.fit h hx
    have HFIT := Lib.hid hfit
    have HIF : Hid ((if n < r.below ∨ r.below = 0 then s ++ baL (rowB r n) else s) = s ++ baL (rowB r n)) := Lib.hid (if_pos hx)
    have f0 := HR.out.f0
    have f1 := HR.out.f1
    have s0 := HR.out.s0
    have s1 := HR.out.s1
    clear hx hfit hcase
    obtain ⟨hbase, v, hv, hown⟩ := HWR.out
    have n8w : Not8 (.cells #[v] 233 (0, 0)) := not8_cells (by decide)
    have n8n : Not8 (.cells #[.int .u64 n] 23 (0, 0)) := not8_cells (by decide)
    have n8b : Not8 (.cells #[.pointer (some ⟨b, 0, none⟩)] 177 (0, 0)) := not8_cells (by decide)
    have n8r : Not8 (.cells #[.int .u64 r.below, .int .u8 r.first, .int .i64 r.size] 336 (0, 0)) := not8_cells (by decide)
    obtain ⟨i0, hi, hz0, hz1, hz2⟩ := info_parts info_u8
    have cb := block_cell hv 0
    simp only [List.getElem?_toArray, List.getElem?_cons_zero] at cb
    have HV := Lib.hid hv
    have HOWN0 := Lib.hid hown
    have hltb := HWR.out.lt
    have HBS : Hid (base ≤ w.heap.size) := Lib.hid (by omega)
    clear hv hown
    have hcs := HCS.out
    clear HCS
    rcases hcs with g1 | ⟨g1, g2⟩
    · skip
      go_enter Tryz.func291, Tryz.ntmps291
      by_cases hsz : r.size = 0
      · have e0 : (r.size == 0) = true := by simpa using hsz
        have HSZ := Lib.hid hsz
        clear hsz
        go_upto_region 4 with fail
        obtain ⟨br, hbr⟩ : ∃ br, w.heap.size = br := ⟨_, rfl⟩
        obtain ⟨V, hV⟩ : ∃ V, w.alloc (.cells #[.int .u64 r.below, .int .u8 r.first, .int .i64 r.size] 336) = V := ⟨_, rfl⟩
        have VB : Hid (Below w.heap.size w V) := Lib.hid (by rw [← hV]; exact balloc (Below.refl _ _) _)
        have VR : Hid (V.heap[br]? = some (.cells #[.int .u64 r.below, .int .u8 r.first, .int .i64 r.size] 336 (0, 0))) := Lib.hid (by rw [← hV, ← hbr]; exact heap_alloc_new _ _)
        have VN : Hid (V.heap[bn]? = some (.cells #[.int .u64 n] 23 (0, 0))) := Lib.hid ((VB.out.block _ (lt_of_block HN.out)).trans HN.out)
        have VW : Hid (V.heap[bw]? = some (.cells #[.pointer (some ⟨b, 0, none⟩)] 177 (0, 0))) := Lib.hid ((VB.out.block _ (lt_of_block HW2.out)).trans HW2.out)
        have VV : Hid (V.heap[b]? = some (.cells #[v] 233 (0, 0))) := Lib.hid ((VB.out.block _ hltb).trans HV.out)
        have HOWN := Lib.hid (own_below HOWN0.out VB.out)
        have HQ : Hid (∀ g, v.ownBlock = some g → base ≤ g ∧ g < V.heap.size) := Lib.hid (fun g hg => HOWN.out.lt g hg)
        have n1 := own_not8 HOWN.out VN.out n8n
        have n2 := own_not8 HOWN.out VW.out n8b
        have n3 := own_not8 HOWN.out VR.out n8r
        have n4 := own_not8 HOWN.out VV.out n8w
        have c1 : V.cell? ⟨bn, 0, none⟩ = some (.int .u64 n) := block_cell VN.out 0
        have c2 : V.cell? ⟨bw, 0, none⟩ = some (.pointer (some ⟨b, 0, none⟩)) := block_cell VW.out 0
        have c3 : V.cell? ⟨br, 1, none⟩ = some (.int .u8 r.first) := block_cell VR.out 1
        have c4 : V.cell? ⟨b, 0, none⟩ = some v := block_cell VV.out 0
        have hbV : base ≤ V.heap.size := Nat.le_trans hbase (Nat.le_of_lt (lt_of_block VV.out))
        obtain ⟨y, hy⟩ : ∃ y, r.first + n = y := ⟨_, rfl⟩
        have hy1 : y ≤ 255 := by rw [← hy]; exact HFIT.out HSZ.out
        have y0 : IntKind.u8.wrap n = n := IntWalk.u8_in _ (by omega)
        have y1 : IntKind.u8.wrap (r.first + n) = y := by rw [hy]; exact IntWalk.u8_in _ (by omega)
        have hy0 : 0 ≤ y := by omega
        have HY := Lib.hid hy
        rw [hbr]
        try rw [hV]
        clear hV hbr hy cn cw cb
        refine wp_region_tail 14 11 (v.ownBlock) (phis [fun u _ => u = (.pointer (some ⟨b, 0, none⟩)), fun u _ => u = (.pointer (some ⟨b, 0, none⟩)), fun u _ => u = (.pointer (some ⟨b, 0, none⟩)), fun u _ => u = (.pointer (some ⟨b, 0, none⟩)), fun u _ => u = (v), fun u _ => u = (.pointer (some ⟨br, 1, none⟩)), fun u _ => u = (.int .u8 r.first), fun u _ => u = (.int .u64 n), fun u _ => u = (.int .u8 n), fun u _ => u = (.int .u8 y), fun u w' => ∃ b, u = .slice (some ⟨b, 0, none⟩) 1 1 ∧ some b ≠ v.ownBlock ∧ w'.heap[b]? = some (.cells ([.int .u8 y]).toArray 5 (0, 0)), fun u w' => w'.ownsRow (base) 5 1 u (s.size + 1) (Lib.strCells s ++ [.int .u8 y]), fun u _ => u = (.pointer (some ⟨b, 0, none⟩)), fun u _ => u = (.pointer (some ⟨b, 0, none⟩))]) rfl (by kernel_rfl) (by kernel_rfl) (mono_of ⟨mono_eq, mono_eq, mono_eq, mono_eq, mono_eq, mono_eq, mono_eq, mono_eq, mono_eq, mono_eq, ?m10, ?m11, mono_eq, mono_eq, trivial⟩) (steps_of 14 ⟨?s0, ?s1, ?s2, ?s3, ?s4, ?s5, ?s6, ?s7, ?s8, ?s9, ?s10, ?s11, ?s12, ?s13, trivial⟩) ?_
        case m10 =>
          exact ⟨fun u w1 w' h ⟨b, h1, hb, hb'⟩ => ⟨b, h1, hb, ext_block h hb'⟩, fun _ u w1 w' h ⟨b, h1, hb, hb'⟩ => ⟨b, h1, hb, extB_block h hb hb'⟩⟩
        case m11 =>
          exact ⟨fun u w1 w' h hu => own_below hu h, fun hn => absurd rfl hn⟩
        case s0 =>
          refine step_val (v := (.pointer (some ⟨b, 0, none⟩))) (fun av wv hE hS hO hD => ?_) (fun _ => rfl)
          have h2 : av.eval (.tmp 2) = (.pointer (some ⟨bw, 0, none⟩)) := hO.2.2 2 rfl
          have f2 := (ev_form av 2).symm.trans h2
          have c1 := extB_cell hE n1 c1
          have c2 := extB_cell hE n2 c2
          have c3 := extB_cell hE n3 c3
          have c4 := extB_cell hE n4 c4
          refine ⟨rfl, ?_⟩
          simp [go_sem, f2, c1, c2, c3, c4, y0, y1]
        case s1 =>
          refine step_val (v := (.pointer (some ⟨b, 0, none⟩))) (fun av wv hE hS hO hD => ?_) (fun _ => rfl)
          have h2 : av.eval (.tmp 2) = (.pointer (some ⟨bw, 0, none⟩)) := hO.2.2 2 rfl
          have f2 := (ev_form av 2).symm.trans h2
          have c1 := extB_cell hE n1 c1
          have c2 := extB_cell hE n2 c2
          have c3 := extB_cell hE n3 c3
          have c4 := extB_cell hE n4 c4
          refine ⟨rfl, ?_⟩
          simp [go_sem, f2, c1, c2, c3, c4, y0, y1]
        case s2 =>
          refine step_val (v := (.pointer (some ⟨b, 0, none⟩))) (fun av wv hE hS hO hD => ?_) (fun _ => rfl)
          have d19 : av.eval (.tmp 19) = (.pointer (some ⟨b, 0, none⟩)) := hD.1 rfl _ rfl
          have f19 := (ev_form av 19).symm.trans d19
          refine ⟨rfl, ?_⟩
          simp [go_sem, f19, y0, y1]
        case s3 =>
          refine step_val (v := (.pointer (some ⟨b, 0, none⟩))) (fun av wv hE hS hO hD => ?_) (fun _ => rfl)
          have d20 : av.eval (.tmp 20) = (.pointer (some ⟨b, 0, none⟩)) := hD.1 rfl _ rfl
          have f20 := (ev_form av 20).symm.trans d20
          refine ⟨rfl, ?_⟩
          simp [go_sem, f20, y0, y1]
        case s4 =>
          refine step_val (v := (v)) (fun av wv hE hS hO hD => ?_) (fun _ => rfl)
          have d21 : av.eval (.tmp 21) = (.pointer (some ⟨b, 0, none⟩)) := hD.1 rfl _ rfl
          have f21 := (ev_form av 21).symm.trans d21
          have c1 := extB_cell hE n1 c1
          have c2 := extB_cell hE n2 c2
          have c3 := extB_cell hE n3 c3
          have c4 := extB_cell hE n4 c4
          refine ⟨rfl, ?_⟩
          simp [go_sem, f21, c1, c2, c3, c4, y0, y1]
        case s5 =>
          refine step_val (v := (.pointer (some ⟨br, 1, none⟩))) (fun av wv hE hS hO hD => ?_) (fun _ => rfl)
          have h3 : av.eval (.tmp 3) = (.pointer (some ⟨br, 0, none⟩)) := hO.2.2 3 rfl
          have f3 := (ev_form av 3).symm.trans h3
          refine ⟨rfl, ?_⟩
          simp [go_sem, f3, y0, y1]
        case s6 =>
          refine step_val (v := (.int .u8 r.first)) (fun av wv hE hS hO hD => ?_) (fun _ => rfl)
          have d23 : av.eval (.tmp 23) = (.pointer (some ⟨br, 1, none⟩)) := hD.1 rfl _ rfl
          have f23 := (ev_form av 23).symm.trans d23
          have c1 := extB_cell hE n1 c1
          have c2 := extB_cell hE n2 c2
          have c3 := extB_cell hE n3 c3
          have c4 := extB_cell hE n4 c4
          refine ⟨rfl, ?_⟩
          simp [go_sem, f23, c1, c2, c3, c4, y0, y1]
        case s7 =>
          refine step_val (v := (.int .u64 n)) (fun av wv hE hS hO hD => ?_) (fun _ => rfl)
          have h1 : av.eval (.tmp 1) = (.pointer (some ⟨bn, 0, none⟩)) := hO.2.2 1 rfl
          have f1 := (ev_form av 1).symm.trans h1
          have c1 := extB_cell hE n1 c1
          have c2 := extB_cell hE n2 c2
          have c3 := extB_cell hE n3 c3
          have c4 := extB_cell hE n4 c4
          refine ⟨rfl, ?_⟩
          simp [go_sem, f1, c1, c2, c3, c4, y0, y1]
        case s8 =>
          refine step_val (v := (.int .u8 n)) (fun av wv hE hS hO hD => ?_) (fun _ => rfl)
          have d25 : av.eval (.tmp 25) = (.int .u64 n) := hD.1 rfl _ rfl
          have f25 := (ev_form av 25).symm.trans d25
          refine ⟨rfl, ?_⟩
          simp [go_sem, f25, y0, y1]
        case s9 =>
          refine step_val (v := (.int .u8 y)) (fun av wv hE hS hO hD => ?_) (fun _ => rfl)
          have d24 : av.eval (.tmp 24) = (.int .u8 r.first) := hD.1 rfl _ rfl
          have f24 := (ev_form av 24).symm.trans d24
          have d26 : av.eval (.tmp 26) = (.int .u8 n) := hD.2.1 rfl _ rfl
          have f26 := (ev_form av 26).symm.trans d26
          refine ⟨rfl, ?_⟩
          simp [go_sem, f24, f26, y0, y1]
        case s10 =>
          refine step_wp (fun av wv hE hS hO hD => ?_)
          have d27 : av.eval (.tmp 27) = (.int .u8 y) := hD.1 rfl _ rfl
          have f27 := (ev_form av 27).symm.trans d27
          refine ⟨rfl, ?_⟩
          refine wp_of_run (v := .slice (some ⟨wv.heap.size, 0, none⟩) 1 1) (w' := wv.alloc (.cells ([.int .u8 y]).toArray 5)) (by first | (simp [go_sem, f27, y0, y1]; done) | (simp [go_sem, f27, y0, y1]; rfl)) ⟨_, rfl, es_of_ext (balloc (Ext_refl _) _), wv.heap.size, rfl, ?_, heap_alloc_new _ _⟩
          exact fun e => absurd (HQ.out _ e.symm).2 (by have := hE.size; simp at this; omega)
        case s11 =>
          refine step_wp (fun av wv hE hS hO hD => ?_)
          have d22 : av.eval (.tmp 22) = (v) := hD.1 rfl _ rfl
          have f22 := (ev_form av 22).symm.trans d22
          have d28 : (fun u w' => ∃ b, u = .slice (some ⟨b, 0, none⟩) 1 1 ∧ some b ≠ v.ownBlock ∧ w'.heap[b]? = some (.cells ([.int .u8 y]).toArray 5 (0, 0))) (av.eval (.tmp 28)) wv := hD.2.1 rfl _ rfl
          refine ⟨rfl, ?_⟩
          obtain ⟨bS, hS1, hbS, hcS⟩ := d28
          have hown1 : wv.ownsRow (base) 5 1 (v) (s.size) (Lib.strCells s) := own_below (w := World.drew _) (HOWN.out) (hS rfl)
          refine wp_append_lies wv _ _ _ rfl (base) 5 i0 (.int .u8 0) 1 1 Tryz.underlying41 hi hz0 hz1 hz2 rfl (by decide) (v) (s.size) _ d22 hown1 ⟨bS, 0, none⟩ 1 1 ([.int .u8 y]) (by exact hS1) rfl (World.news_of_block hcS) (one_u8 _) (by decide) (by unfold maxLen; omega) (by omega) (by have := hE.size; simp at this; omega) _ rfl ?_
          intro g cap1 w2 hown2 hgrow hat hlt2
          exact ⟨_, rfl, es_sp hgrow, hown2⟩
        case s12 =>
          refine step_val (v := (.pointer (some ⟨b, 0, none⟩))) (fun av wv hE hS hO hD => ?_) (fun _ => rfl)
          have d18 : av.eval (.tmp 18) = (.pointer (some ⟨b, 0, none⟩)) := hD.1 rfl _ rfl
          have f18 := (ev_form av 18).symm.trans d18
          refine ⟨rfl, ?_⟩
          simp [go_sem, f18, y0, y1]
        case s13 =>
          refine step_val (v := (.pointer (some ⟨b, 0, none⟩))) (fun av wv hE hS hO hD => ?_) (fun _ => rfl)
          have d30 : av.eval (.tmp 30) = (.pointer (some ⟨b, 0, none⟩)) := hD.1 rfl _ rfl
          have f30 := (ev_form av 30).symm.trans d30
          refine ⟨rfl, ?_⟩
          simp [go_sem, f30, y0, y1]
        intro a' w' hE hO hall
        have hA := act_of_outer (ds := [18, 19, 20, 21, 22, 23, 24, 25, 26, 27, 28, 29, 30, 31]) rfl hO (by kernel_rfl)
        have e18 : (fun u _ => u = (.pointer (some ⟨b, 0, none⟩))) (a'.eval (.tmp 18)) w' := hall.1 _ rfl
        have e19 : (fun u _ => u = (.pointer (some ⟨b, 0, none⟩))) (a'.eval (.tmp 19)) w' := hall.2.1 _ rfl
        have e20 : (fun u _ => u = (.pointer (some ⟨b, 0, none⟩))) (a'.eval (.tmp 20)) w' := hall.2.2.1 _ rfl
        have e21 : (fun u _ => u = (.pointer (some ⟨b, 0, none⟩))) (a'.eval (.tmp 21)) w' := hall.2.2.2.1 _ rfl
        have e22 : (fun u _ => u = (v)) (a'.eval (.tmp 22)) w' := hall.2.2.2.2.1 _ rfl
        have e23 : (fun u _ => u = (.pointer (some ⟨br, 1, none⟩))) (a'.eval (.tmp 23)) w' := hall.2.2.2.2.2.1 _ rfl
        have e24 : (fun u _ => u = (.int .u8 r.first)) (a'.eval (.tmp 24)) w' := hall.2.2.2.2.2.2.1 _ rfl
        have e25 : (fun u _ => u = (.int .u64 n)) (a'.eval (.tmp 25)) w' := hall.2.2.2.2.2.2.2.1 _ rfl
        have e26 : (fun u _ => u = (.int .u8 n)) (a'.eval (.tmp 26)) w' := hall.2.2.2.2.2.2.2.2.1 _ rfl
        have e27 : (fun u _ => u = (.int .u8 y)) (a'.eval (.tmp 27)) w' := hall.2.2.2.2.2.2.2.2.2.1 _ rfl
        have e28 : (fun u w' => ∃ b, u = .slice (some ⟨b, 0, none⟩) 1 1 ∧ some b ≠ v.ownBlock ∧ w'.heap[b]? = some (.cells ([.int .u8 y]).toArray 5 (0, 0))) (a'.eval (.tmp 28)) w' := hall.2.2.2.2.2.2.2.2.2.2.1 _ rfl
        have e29 : (fun u w' => w'.ownsRow (base) 5 1 u (s.size + 1) (Lib.strCells s ++ [.int .u8 y])) (a'.eval (.tmp 29)) w' := hall.2.2.2.2.2.2.2.2.2.2.2.1 _ rfl
        have e30 : (fun u _ => u = (.pointer (some ⟨b, 0, none⟩))) (a'.eval (.tmp 30)) w' := hall.2.2.2.2.2.2.2.2.2.2.2.2.1 _ rfl
        have e31 : (fun u _ => u = (.pointer (some ⟨b, 0, none⟩))) (a'.eval (.tmp 31)) w' := hall.2.2.2.2.2.2.2.2.2.2.2.2.2.1 _ rfl
        obtain ⟨v28, hv28⟩ : ∃ v, a'.eval (.tmp 28) = v := ⟨_, rfl⟩
        rw [hv28] at e28
        obtain ⟨v29, hv29⟩ : ∃ v, a'.eval (.tmp 29) = v := ⟨_, rfl⟩
        rw [hv29] at e29
        simp only [List.foldl_cons, List.foldl_nil, Act.put, List.setIfInBounds_toArray, List.set_cons_succ, List.set_cons_zero, e18, e19, e20, e21, e22, e23, e24, e25, e26, e27, hv28, hv29, e30, e31] at hA
        clear hO hall e18 e19 e20 e21 e22 e23 e24 e25 e26 e27 hv28 hv29 e30 e31
        subst hA
        obtain ⟨ga, gc, rfl⟩ := own_slice e29
        have hst := wr_step (s' := s ++ baL [toB y]) hbase VV.out HOWN.out hE (by rw [baL_one]; exact e29) (by rw [strCells_app, strCells_one hy0 hy1])
        have HST := Lib.hid hst
        have hc4 := hst.1
        have hf4 := hst.2.1
        clear hst hE e29
        go_wp2
        go_ret
        refine ⟨ret_bool HX.out.symm, ?_, (WK.of_below VB.out HBS.out).trans HST.out.2.2.2⟩
        rw [HIF.out]
        have e4 : rowB r n = [toB y] := by unfold rowB; rw [if_pos HSZ.out, HY.out]
        rw [e4]; exact HST.out.2.2.1
      · have e0 : (r.size == 0) = false := by simpa using hsz
        have HSZ := Lib.hid hsz
        clear hsz
        go_upto_region 6 with fail
        obtain ⟨br, hbr⟩ : ∃ br, w.heap.size = br := ⟨_, rfl⟩
        obtain ⟨V, hV⟩ : ∃ V, w.alloc (.cells #[.int .u64 r.below, .int .u8 r.first, .int .i64 r.size] 336) = V := ⟨_, rfl⟩
        have VB : Hid (Below w.heap.size w V) := Lib.hid (by rw [← hV]; exact balloc (Below.refl _ _) _)
        have VR : Hid (V.heap[br]? = some (.cells #[.int .u64 r.below, .int .u8 r.first, .int .i64 r.size] 336 (0, 0))) := Lib.hid (by rw [← hV, ← hbr]; exact heap_alloc_new _ _)
        have VN : Hid (V.heap[bn]? = some (.cells #[.int .u64 n] 23 (0, 0))) := Lib.hid ((VB.out.block _ (lt_of_block HN.out)).trans HN.out)
        have VW : Hid (V.heap[bw]? = some (.cells #[.pointer (some ⟨b, 0, none⟩)] 177 (0, 0))) := Lib.hid ((VB.out.block _ (lt_of_block HW2.out)).trans HW2.out)
        have VV : Hid (V.heap[b]? = some (.cells #[v] 233 (0, 0))) := Lib.hid ((VB.out.block _ hltb).trans HV.out)
        have HOWN := Lib.hid (own_below HOWN0.out VB.out)
        have HQ : Hid (∀ g, v.ownBlock = some g → base ≤ g ∧ g < V.heap.size) := Lib.hid (fun g hg => HOWN.out.lt g hg)
        have n1 := own_not8 HOWN.out VN.out n8n
        have n2 := own_not8 HOWN.out VW.out n8b
        have n3 := own_not8 HOWN.out VR.out n8r
        have n4 := own_not8 HOWN.out VV.out n8w
        have c1 : V.cell? ⟨bn, 0, none⟩ = some (.int .u64 n) := block_cell VN.out 0
        have c2 : V.cell? ⟨bw, 0, none⟩ = some (.pointer (some ⟨b, 0, none⟩)) := block_cell VW.out 0
        have c3 : V.cell? ⟨br, 1, none⟩ = some (.int .u8 r.first) := block_cell VR.out 1
        have c4 : V.cell? ⟨b, 0, none⟩ = some v := block_cell VV.out 0
        have hbV : base ≤ V.heap.size := Nat.le_trans hbase (Nat.le_of_lt (lt_of_block VV.out))
        rw [hbr]
        try rw [hV]
        clear hV hbr cn cw cb
        refine wp_region_tail 11 8 (v.ownBlock) (phis [fun u _ => u = (.pointer (some ⟨b, 0, none⟩)), fun u _ => u = (.pointer (some ⟨b, 0, none⟩)), fun u _ => u = (.pointer (some ⟨b, 0, none⟩)), fun u _ => u = (.pointer (some ⟨b, 0, none⟩)), fun u _ => u = (v), fun u _ => u = (.pointer (some ⟨br, 1, none⟩)), fun u _ => u = (.int .u8 r.first), fun u w' => ∃ b, u = .slice (some ⟨b, 0, none⟩) 1 1 ∧ some b ≠ v.ownBlock ∧ w'.heap[b]? = some (.cells ([.int .u8 r.first]).toArray 5 (0, 0)), fun u w' => w'.ownsRow (base) 5 1 u (s.size + 1) (Lib.strCells s ++ [.int .u8 r.first]), fun u _ => u = (.pointer (some ⟨b, 0, none⟩)), fun u _ => u = (.pointer (some ⟨b, 0, none⟩))]) rfl (by kernel_rfl) (by kernel_rfl) (mono_of ⟨mono_eq, mono_eq, mono_eq, mono_eq, mono_eq, mono_eq, mono_eq, ?m7, ?m8, mono_eq, mono_eq, trivial⟩) (steps_of 11 ⟨?s0, ?s1, ?s2, ?s3, ?s4, ?s5, ?s6, ?s7, ?s8, ?s9, ?s10, trivial⟩) ?_
        case m7 =>
          exact ⟨fun u w1 w' h ⟨b, h1, hb, hb'⟩ => ⟨b, h1, hb, ext_block h hb'⟩, fun _ u w1 w' h ⟨b, h1, hb, hb'⟩ => ⟨b, h1, hb, extB_block h hb hb'⟩⟩
        case m8 =>
          exact ⟨fun u w1 w' h hu => own_below hu h, fun hn => absurd rfl hn⟩
        case s0 =>
          refine step_val (v := (.pointer (some ⟨b, 0, none⟩))) (fun av wv hE hS hO hD => ?_) (fun _ => rfl)
          have h2 : av.eval (.tmp 2) = (.pointer (some ⟨bw, 0, none⟩)) := hO.2.2 2 rfl
          have f2 := (ev_form av 2).symm.trans h2
          have c1 := extB_cell hE n1 c1
          have c2 := extB_cell hE n2 c2
          have c3 := extB_cell hE n3 c3
          have c4 := extB_cell hE n4 c4
          refine ⟨rfl, ?_⟩
          simp [go_sem, f2, c1, c2, c3, c4]
        case s1 =>
          refine step_val (v := (.pointer (some ⟨b, 0, none⟩))) (fun av wv hE hS hO hD => ?_) (fun _ => rfl)
          have h2 : av.eval (.tmp 2) = (.pointer (some ⟨bw, 0, none⟩)) := hO.2.2 2 rfl
          have f2 := (ev_form av 2).symm.trans h2
          have c1 := extB_cell hE n1 c1
          have c2 := extB_cell hE n2 c2
          have c3 := extB_cell hE n3 c3
          have c4 := extB_cell hE n4 c4
          refine ⟨rfl, ?_⟩
          simp [go_sem, f2, c1, c2, c3, c4]
        case s2 =>
          refine step_val (v := (.pointer (some ⟨b, 0, none⟩))) (fun av wv hE hS hO hD => ?_) (fun _ => rfl)
          have d33 : av.eval (.tmp 33) = (.pointer (some ⟨b, 0, none⟩)) := hD.1 rfl _ rfl
          have f33 := (ev_form av 33).symm.trans d33
          refine ⟨rfl, ?_⟩
          simp [go_sem, f33]
        case s3 =>
          refine step_val (v := (.pointer (some ⟨b, 0, none⟩))) (fun av wv hE hS hO hD => ?_) (fun _ => rfl)
          have d34 : av.eval (.tmp 34) = (.pointer (some ⟨b, 0, none⟩)) := hD.1 rfl _ rfl
          have f34 := (ev_form av 34).symm.trans d34
          refine ⟨rfl, ?_⟩
          simp [go_sem, f34]
        case s4 =>
          refine step_val (v := (v)) (fun av wv hE hS hO hD => ?_) (fun _ => rfl)
          have d35 : av.eval (.tmp 35) = (.pointer (some ⟨b, 0, none⟩)) := hD.1 rfl _ rfl
          have f35 := (ev_form av 35).symm.trans d35
          have c1 := extB_cell hE n1 c1
          have c2 := extB_cell hE n2 c2
          have c3 := extB_cell hE n3 c3
          have c4 := extB_cell hE n4 c4
          refine ⟨rfl, ?_⟩
          simp [go_sem, f35, c1, c2, c3, c4]
        case s5 =>
          refine step_val (v := (.pointer (some ⟨br, 1, none⟩))) (fun av wv hE hS hO hD => ?_) (fun _ => rfl)
          have h3 : av.eval (.tmp 3) = (.pointer (some ⟨br, 0, none⟩)) := hO.2.2 3 rfl
          have f3 := (ev_form av 3).symm.trans h3
          refine ⟨rfl, ?_⟩
          simp [go_sem, f3]
        case s6 =>
          refine step_val (v := (.int .u8 r.first)) (fun av wv hE hS hO hD => ?_) (fun _ => rfl)
          have d37 : av.eval (.tmp 37) = (.pointer (some ⟨br, 1, none⟩)) := hD.1 rfl _ rfl
          have f37 := (ev_form av 37).symm.trans d37
          have c1 := extB_cell hE n1 c1
          have c2 := extB_cell hE n2 c2
          have c3 := extB_cell hE n3 c3
          have c4 := extB_cell hE n4 c4
          refine ⟨rfl, ?_⟩
          simp [go_sem, f37, c1, c2, c3, c4]
        case s7 =>
          refine step_wp (fun av wv hE hS hO hD => ?_)
          have d38 : av.eval (.tmp 38) = (.int .u8 r.first) := hD.1 rfl _ rfl
          have f38 := (ev_form av 38).symm.trans d38
          refine ⟨rfl, ?_⟩
          refine wp_of_run (v := .slice (some ⟨wv.heap.size, 0, none⟩) 1 1) (w' := wv.alloc (.cells ([.int .u8 r.first]).toArray 5)) (by first | (simp [go_sem, f38]; done) | (simp [go_sem, f38]; rfl)) ⟨_, rfl, es_of_ext (balloc (Ext_refl _) _), wv.heap.size, rfl, ?_, heap_alloc_new _ _⟩
          exact fun e => absurd (HQ.out _ e.symm).2 (by have := hE.size; simp at this; omega)
        case s8 =>
          refine step_wp (fun av wv hE hS hO hD => ?_)
          have d36 : av.eval (.tmp 36) = (v) := hD.1 rfl _ rfl
          have f36 := (ev_form av 36).symm.trans d36
          have d39 : (fun u w' => ∃ b, u = .slice (some ⟨b, 0, none⟩) 1 1 ∧ some b ≠ v.ownBlock ∧ w'.heap[b]? = some (.cells ([.int .u8 r.first]).toArray 5 (0, 0))) (av.eval (.tmp 39)) wv := hD.2.1 rfl _ rfl
          refine ⟨rfl, ?_⟩
          obtain ⟨bS, hS1, hbS, hcS⟩ := d39
          have hown1 : wv.ownsRow (base) 5 1 (v) (s.size) (Lib.strCells s) := own_below (w := World.drew _) (HOWN.out) (hS rfl)
          refine wp_append_lies wv _ _ _ rfl (base) 5 i0 (.int .u8 0) 1 1 Tryz.underlying41 hi hz0 hz1 hz2 rfl (by decide) (v) (s.size) _ d36 hown1 ⟨bS, 0, none⟩ 1 1 ([.int .u8 r.first]) (by exact hS1) rfl (World.news_of_block hcS) (one_u8 _) (by decide) (by unfold maxLen; omega) (by omega) (by have := hE.size; simp at this; omega) _ rfl ?_
          intro g cap1 w2 hown2 hgrow hat hlt2
          exact ⟨_, rfl, es_sp hgrow, hown2⟩
        case s9 =>
          refine step_val (v := (.pointer (some ⟨b, 0, none⟩))) (fun av wv hE hS hO hD => ?_) (fun _ => rfl)
          have d32 : av.eval (.tmp 32) = (.pointer (some ⟨b, 0, none⟩)) := hD.1 rfl _ rfl
          have f32 := (ev_form av 32).symm.trans d32
          refine ⟨rfl, ?_⟩
          simp [go_sem, f32]
        case s10 =>
          refine step_val (v := (.pointer (some ⟨b, 0, none⟩))) (fun av wv hE hS hO hD => ?_) (fun _ => rfl)
          have d41 : av.eval (.tmp 41) = (.pointer (some ⟨b, 0, none⟩)) := hD.1 rfl _ rfl
          have f41 := (ev_form av 41).symm.trans d41
          refine ⟨rfl, ?_⟩
          simp [go_sem, f41]
        intro a' w' hE hO hall
        have hA := act_of_outer (ds := [32, 33, 34, 35, 36, 37, 38, 39, 40, 41, 42]) rfl hO (by kernel_rfl)
        have e32 : (fun u _ => u = (.pointer (some ⟨b, 0, none⟩))) (a'.eval (.tmp 32)) w' := hall.1 _ rfl
        have e33 : (fun u _ => u = (.pointer (some ⟨b, 0, none⟩))) (a'.eval (.tmp 33)) w' := hall.2.1 _ rfl
        have e34 : (fun u _ => u = (.pointer (some ⟨b, 0, none⟩))) (a'.eval (.tmp 34)) w' := hall.2.2.1 _ rfl
        have e35 : (fun u _ => u = (.pointer (some ⟨b, 0, none⟩))) (a'.eval (.tmp 35)) w' := hall.2.2.2.1 _ rfl
        have e36 : (fun u _ => u = (v)) (a'.eval (.tmp 36)) w' := hall.2.2.2.2.1 _ rfl
        have e37 : (fun u _ => u = (.pointer (some ⟨br, 1, none⟩))) (a'.eval (.tmp 37)) w' := hall.2.2.2.2.2.1 _ rfl
        have e38 : (fun u _ => u = (.int .u8 r.first)) (a'.eval (.tmp 38)) w' := hall.2.2.2.2.2.2.1 _ rfl
        have e39 : (fun u w' => ∃ b, u = .slice (some ⟨b, 0, none⟩) 1 1 ∧ some b ≠ v.ownBlock ∧ w'.heap[b]? = some (.cells ([.int .u8 r.first]).toArray 5 (0, 0))) (a'.eval (.tmp 39)) w' := hall.2.2.2.2.2.2.2.1 _ rfl
        have e40 : (fun u w' => w'.ownsRow (base) 5 1 u (s.size + 1) (Lib.strCells s ++ [.int .u8 r.first])) (a'.eval (.tmp 40)) w' := hall.2.2.2.2.2.2.2.2.1 _ rfl
        have e41 : (fun u _ => u = (.pointer (some ⟨b, 0, none⟩))) (a'.eval (.tmp 41)) w' := hall.2.2.2.2.2.2.2.2.2.1 _ rfl
        have e42 : (fun u _ => u = (.pointer (some ⟨b, 0, none⟩))) (a'.eval (.tmp 42)) w' := hall.2.2.2.2.2.2.2.2.2.2.1 _ rfl
        obtain ⟨v39, hv39⟩ : ∃ v, a'.eval (.tmp 39) = v := ⟨_, rfl⟩
        rw [hv39] at e39
        obtain ⟨v40, hv40⟩ : ∃ v, a'.eval (.tmp 40) = v := ⟨_, rfl⟩
        rw [hv40] at e40
        simp only [List.foldl_cons, List.foldl_nil, Act.put, List.setIfInBounds_toArray, List.set_cons_succ, List.set_cons_zero, e32, e33, e34, e35, e36, e37, e38, hv39, hv40, e41, e42] at hA
        clear hO hall e32 e33 e34 e35 e36 e37 e38 hv39 hv40 e41 e42
        subst hA
        obtain ⟨ga, gc, rfl⟩ := own_slice e40
        have hst := wr_step (s' := s ++ baL [toB r.first]) hbase VV.out HOWN.out hE (by rw [baL_one]; exact e40) (by rw [strCells_app, strCells_one f0 f1])
        have HST := Lib.hid hst
        have hc4 := hst.1
        have hf4 := hst.2.1
        have HBR : Hid (w'.cell? ⟨br, 2, none⟩ = some (.int .i64 r.size)) := Lib.hid (extB_cell hE n3 (block_cell VR.out 2))
        clear hst hE e40 c1 c2 c3 c4
        have hne : br ≠ b := fun e => by have h1 := VR.out; rw [e, VV.out] at h1; cases h1
        have c5 : (w'.setCell ⟨b, 0, none⟩ (.slice (some ⟨ga, 0, none⟩) (s.size + 1) gc)).cell? ⟨br, 2, none⟩ = some (.int .i64 r.size) := by
          have h := (HST.out.2.2.2).keep br _ VR.out hne n8r
          exact block_cell h 2
        obtain ⟨k, hk⟩ := Int.eq_ofNat_of_zero_le s0
        have HKK := Lib.hid hk
        have k8 : k ≤ 8 := by omega
        rw [hk] at c5
        have hw1 : IntKind.i64.wrap ((k : Int) - 1) = (k : Int) - 1 := IntWalk.i64_in _ (by omega)
        clear hk HBR
        go_wp2
        obtain ⟨V2, hV2⟩ : ∃ V2, w'.setCell ⟨b, 0, none⟩ (.slice (some ⟨ga, 0, none⟩) (s.size + 1) gc) = V2 := ⟨_, rfl⟩
        have HWR2 : Hid (WrB V2 b base (s ++ baL (toB r.first :: ((hiL n k).take (k - k)).map toB))) := Lib.hid (by rw [← hV2, Nat.sub_self]; exact HST.out.2.2.1)
        have HWK2 : Hid (WK base b V V2) := Lib.hid (by rw [← hV2]; exact HST.out.2.2.2)
        try rw [hV2]
        clear hV2 HST hc4 hf4 c5 hw1 HWR
        have nbn : bn ≠ b := fun e => by have h1 := VN.out; rw [e, VV.out] at h1; cases h1
        have nbw : bw ≠ b := fun e => by have h1 := VW.out; rw [e, VV.out] at h1; cases h1
        have hbVS : base ≤ V.heap.size := hbV
        clear n1 n2 n3 n4 hbV hltb HQ
        go_loopg [5] k (fun g i wr => g ≤ k ∧ i = .int .i64 ((g : Int) - 1) ∧ Hid (WrB wr b base (s ++ baL (toB r.first :: ((hiL n k).take (k - g)).map toB))) ∧ Hid (WK base b V wr))
        case atStart => exact ⟨Nat.le_refl _, rfl, HWR2.out, HWK2.out⟩
        case round =>
          clear HWR2 HWK2
          obtain ⟨hgk, rfl, HWR, HWK⟩ := hrel
          obtain ⟨G, hG⟩ : ∃ G, G = gk := ⟨_, rfl⟩
          subst hG
          cases G with
          | zero =>
            have e2 : ((0 : Nat) : Int) - 1 = -1 := rfl
            rw [e2]
            clear e2
            go_wp2
            go_ret
            refine ⟨ret_bool HX.out.symm, ?_, (WK.of_below VB.out HBS.out).trans HWK.out⟩
            rw [HIF.out]
            have e4 : rowB r n = toB r.first :: ((hiL n k).take (k - 0)).map toB := by
              unfold rowB
              rw [if_neg HSZ.out, HKK.out, Nat.sub_zero, List.take_of_length_le (by rw [hiL_len]; exact Nat.le_refl _)]; rfl
            rw [e4]; exact HWR.out
          | succ i =>
            have e2 : ((i + 1 : Nat) : Int) - 1 = (i : Int) := by omega
            rw [e2]
            obtain ⟨t, ht⟩ : ∃ t, s ++ baL (toB r.first :: ((hiL n k).take (k - (i + 1))).map toB) = t := ⟨_, rfl⟩
            have hts : t.size ≤ 70000000000009 := by
              rw [← ht, ByteArray.size_append, baL_size, List.length_cons, List.length_map, List.length_take, hiL_len]; omega
            obtain ⟨x, hx⟩ : ∃ x, n / 2 ^ (8 * i) % 256 = x := ⟨_, rfl⟩
            have hx0 : 0 ≤ x ∧ x ≤ 255 := by rw [← hx]; omega
            have HT : Hid (s ++ baL (toB r.first :: ((hiL n k).take (k - i)).map toB) = t ++ baL [toB x]) := Lib.hid (by
              rw [← ht, hi_next n k i (by omega), show (256 : Int) ^ i = 2 ^ (8 * i) by rw [Int.pow_mul]; rfl, hx, List.map_append, ← List.cons_append, baL_app, ByteArray.append_assoc]; rfl)
            rw [ht] at HWR
            have y0 : IntKind.u8.wrap (n / 2 ^ (8 * i)) = x := by rw [IntKind.wrap_u8]; exact hx
            have y1 : IntKind.i64.wrap (8 * (i : Int)) = 8 * (i : Int) := IntWalk.i64_in _ (by omega)
            have y2 : 0 ≤ 8 * (i : Int) := by omega
            have y3 : (8 * (i : Int)).toNat = 8 * i := by omega
            clear ht e2 hx
            obtain ⟨-, v, hv, hown⟩ := HWR.out
            have VV2 := Lib.hid hv
            have HOWN := Lib.hid hown
            have VN2 := Lib.hid (HWK.out.keep _ _ VN.out nbn n8n)
            have VW2 := Lib.hid (HWK.out.keep _ _ VW.out nbw n8b)
            have n8w : Not8 (.cells #[v] 233 (0, 0)) := not8_cells (by decide)
            have HQ : Hid (∀ g, v.ownBlock = some g → base ≤ g ∧ g < wr.heap.size) := Lib.hid (fun g hg => HOWN.out.lt g hg)
            have n1 := own_not8 HOWN.out VN2.out n8n
            have n2 := own_not8 HOWN.out VW2.out n8b
            have n4 := own_not8 HOWN.out VV2.out n8w
            have c1 : wr.cell? ⟨bn, 0, none⟩ = some (.int .u64 n) := block_cell VN2.out 0
            have c2 : wr.cell? ⟨bw, 0, none⟩ = some (.pointer (some ⟨b, 0, none⟩)) := block_cell VW2.out 0
            have c4 : wr.cell? ⟨b, 0, none⟩ = some v := block_cell VV2.out 0
            have hbV : base ≤ wr.heap.size := Nat.le_trans hbase (Nat.le_of_lt (lt_of_block VV2.out))
            clear hv hown
            go_upto_region 10 with fail
            refine wp_region_tail 14 11 (v.ownBlock) (phis [fun u _ => u = (.pointer (some ⟨b, 0, none⟩)), fun u _ => u = (.pointer (some ⟨b, 0, none⟩)), fun u _ => u = (.pointer (some ⟨b, 0, none⟩)), fun u _ => u = (.pointer (some ⟨b, 0, none⟩)), fun u _ => u = (v), fun u _ => u = (.int .u64 n), fun u _ => u = (.int .i64 i), fun u _ => u = (.int .i64 (8 * (i : Int))), fun u _ => u = (.int .u64 (n / 2 ^ (8 * i))), fun u _ => u = (.int .u8 x), fun u w' => ∃ b, u = .slice (some ⟨b, 0, none⟩) 1 1 ∧ some b ≠ v.ownBlock ∧ w'.heap[b]? = some (.cells ([.int .u8 x]).toArray 5 (0, 0)), fun u w' => w'.ownsRow (base) 5 1 u (t.size + 1) (Lib.strCells t ++ [.int .u8 x]), fun u _ => u = (.pointer (some ⟨b, 0, none⟩)), fun u _ => u = (.pointer (some ⟨b, 0, none⟩))]) rfl (by kernel_rfl) (by kernel_rfl) (mono_of ⟨mono_eq, mono_eq, mono_eq, mono_eq, mono_eq, mono_eq, mono_eq, mono_eq, mono_eq, mono_eq, ?m10, ?m11, mono_eq, mono_eq, trivial⟩) (steps_of 14 ⟨?s0, ?s1, ?s2, ?s3, ?s4, ?s5, ?s6, ?s7, ?s8, ?s9, ?s10, ?s11, ?s12, ?s13, trivial⟩) ?_
            case m10 =>
              exact ⟨fun u w1 w' h ⟨b, h1, hb, hb'⟩ => ⟨b, h1, hb, ext_block h hb'⟩, fun _ u w1 w' h ⟨b, h1, hb, hb'⟩ => ⟨b, h1, hb, extB_block h hb hb'⟩⟩
            case m11 =>
              exact ⟨fun u w1 w' h hu => own_below hu h, fun hn => absurd rfl hn⟩
            case s0 =>
              refine step_val (v := (.pointer (some ⟨b, 0, none⟩))) (fun av wv hE hS hO hD => ?_) (fun _ => rfl)
              have h2 : av.eval (.tmp 2) = (.pointer (some ⟨bw, 0, none⟩)) := hO.2.2 2 rfl
              have f2 := (ev_form av 2).symm.trans h2
              have c1 := extB_cell hE n1 c1
              have c2 := extB_cell hE n2 c2
              have c4 := extB_cell hE n4 c4
              refine ⟨rfl, ?_⟩
              simp [go_sem, f2, c1, c2, c4, y0, y1, y2, y3]
            case s1 =>
              refine step_val (v := (.pointer (some ⟨b, 0, none⟩))) (fun av wv hE hS hO hD => ?_) (fun _ => rfl)
              have h2 : av.eval (.tmp 2) = (.pointer (some ⟨bw, 0, none⟩)) := hO.2.2 2 rfl
              have f2 := (ev_form av 2).symm.trans h2
              have c1 := extB_cell hE n1 c1
              have c2 := extB_cell hE n2 c2
              have c4 := extB_cell hE n4 c4
              refine ⟨rfl, ?_⟩
              simp [go_sem, f2, c1, c2, c4, y0, y1, y2, y3]
            case s2 =>
              refine step_val (v := (.pointer (some ⟨b, 0, none⟩))) (fun av wv hE hS hO hD => ?_) (fun _ => rfl)
              have d51 : av.eval (.tmp 51) = (.pointer (some ⟨b, 0, none⟩)) := hD.1 rfl _ rfl
              have f51 := (ev_form av 51).symm.trans d51
              refine ⟨rfl, ?_⟩
              simp [go_sem, f51, y0, y1, y2, y3]
            case s3 =>
              refine step_val (v := (.pointer (some ⟨b, 0, none⟩))) (fun av wv hE hS hO hD => ?_) (fun _ => rfl)
              have d52 : av.eval (.tmp 52) = (.pointer (some ⟨b, 0, none⟩)) := hD.1 rfl _ rfl
              have f52 := (ev_form av 52).symm.trans d52
              refine ⟨rfl, ?_⟩
              simp [go_sem, f52, y0, y1, y2, y3]
            case s4 =>
              refine step_val (v := (v)) (fun av wv hE hS hO hD => ?_) (fun _ => rfl)
              have d53 : av.eval (.tmp 53) = (.pointer (some ⟨b, 0, none⟩)) := hD.1 rfl _ rfl
              have f53 := (ev_form av 53).symm.trans d53
              have c1 := extB_cell hE n1 c1
              have c2 := extB_cell hE n2 c2
              have c4 := extB_cell hE n4 c4
              refine ⟨rfl, ?_⟩
              simp [go_sem, f53, c1, c2, c4, y0, y1, y2, y3]
            case s5 =>
              refine step_val (v := (.int .u64 n)) (fun av wv hE hS hO hD => ?_) (fun _ => rfl)
              have h1 : av.eval (.tmp 1) = (.pointer (some ⟨bn, 0, none⟩)) := hO.2.2 1 rfl
              have f1 := (ev_form av 1).symm.trans h1
              have c1 := extB_cell hE n1 c1
              have c2 := extB_cell hE n2 c2
              have c4 := extB_cell hE n4 c4
              refine ⟨rfl, ?_⟩
              simp [go_sem, f1, c1, c2, c4, y0, y1, y2, y3]
            case s6 =>
              refine step_val (v := (.int .i64 i)) (fun av wv hE hS hO hD => ?_) (fun _ => rfl)
              have h5 : av.eval (.tmp 5) = (.int .i64 i) := hO.2.2 5 rfl
              have f5 := (ev_form av 5).symm.trans h5
              refine ⟨rfl, ?_⟩
              simp [go_sem, f5, y0, y1, y2, y3]
            case s7 =>
              refine step_val (v := (.int .i64 (8 * (i : Int)))) (fun av wv hE hS hO hD => ?_) (fun _ => rfl)
              have d56 : av.eval (.tmp 56) = (.int .i64 i) := hD.1 rfl _ rfl
              have f56 := (ev_form av 56).symm.trans d56
              refine ⟨rfl, ?_⟩
              simp [go_sem, f56, y0, y1, y2, y3]
            case s8 =>
              refine step_val (v := (.int .u64 (n / 2 ^ (8 * i)))) (fun av wv hE hS hO hD => ?_) (fun _ => rfl)
              have d55 : av.eval (.tmp 55) = (.int .u64 n) := hD.1 rfl _ rfl
              have f55 := (ev_form av 55).symm.trans d55
              have d57 : av.eval (.tmp 57) = (.int .i64 (8 * (i : Int))) := hD.2.1 rfl _ rfl
              have f57 := (ev_form av 57).symm.trans d57
              refine ⟨rfl, ?_⟩
              simp [go_sem, f55, f57, y0, y1, y2, y3]
            case s9 =>
              refine step_val (v := (.int .u8 x)) (fun av wv hE hS hO hD => ?_) (fun _ => rfl)
              have d58 : av.eval (.tmp 58) = (.int .u64 (n / 2 ^ (8 * i))) := hD.1 rfl _ rfl
              have f58 := (ev_form av 58).symm.trans d58
              refine ⟨rfl, ?_⟩
              simp [go_sem, f58, y0, y1, y2, y3]
            case s10 =>
              refine step_wp (fun av wv hE hS hO hD => ?_)
              have d59 : av.eval (.tmp 59) = (.int .u8 x) := hD.1 rfl _ rfl
              have f59 := (ev_form av 59).symm.trans d59
              refine ⟨rfl, ?_⟩
              refine wp_of_run (v := .slice (some ⟨wv.heap.size, 0, none⟩) 1 1) (w' := wv.alloc (.cells ([.int .u8 x]).toArray 5)) (by first | (simp [go_sem, f59, y0, y1, y2, y3]; done) | (simp [go_sem, f59, y0, y1, y2, y3]; rfl)) ⟨_, rfl, es_of_ext (balloc (Ext_refl _) _), wv.heap.size, rfl, ?_, heap_alloc_new _ _⟩
              exact fun e => absurd (HQ.out _ e.symm).2 (by have := hE.size; simp at this; omega)
            case s11 =>
              refine step_wp (fun av wv hE hS hO hD => ?_)
              have d54 : av.eval (.tmp 54) = (v) := hD.1 rfl _ rfl
              have f54 := (ev_form av 54).symm.trans d54
              have d60 : (fun u w' => ∃ b, u = .slice (some ⟨b, 0, none⟩) 1 1 ∧ some b ≠ v.ownBlock ∧ w'.heap[b]? = some (.cells ([.int .u8 x]).toArray 5 (0, 0))) (av.eval (.tmp 60)) wv := hD.2.1 rfl _ rfl
              refine ⟨rfl, ?_⟩
              obtain ⟨bS, hS1, hbS, hcS⟩ := d60
              have hown1 : wv.ownsRow (base) 5 1 (v) (t.size) (Lib.strCells t) := own_below (w := World.drew _) (HOWN.out) (hS rfl)
              refine wp_append_lies wv _ _ _ rfl (base) 5 i0 (.int .u8 0) 1 1 Tryz.underlying41 hi hz0 hz1 hz2 rfl (by decide) (v) (t.size) _ d54 hown1 ⟨bS, 0, none⟩ 1 1 ([.int .u8 x]) (by exact hS1) rfl (World.news_of_block hcS) (one_u8 _) (by decide) (by unfold maxLen; omega) (by omega) (by have := hE.size; simp at this; omega) _ rfl ?_
              intro g cap1 w2 hown2 hgrow hat hlt2
              exact ⟨_, rfl, es_sp hgrow, hown2⟩
            case s12 =>
              refine step_val (v := (.pointer (some ⟨b, 0, none⟩))) (fun av wv hE hS hO hD => ?_) (fun _ => rfl)
              have d50 : av.eval (.tmp 50) = (.pointer (some ⟨b, 0, none⟩)) := hD.1 rfl _ rfl
              have f50 := (ev_form av 50).symm.trans d50
              refine ⟨rfl, ?_⟩
              simp [go_sem, f50, y0, y1, y2, y3]
            case s13 =>
              refine step_val (v := (.pointer (some ⟨b, 0, none⟩))) (fun av wv hE hS hO hD => ?_) (fun _ => rfl)
              have d62 : av.eval (.tmp 62) = (.pointer (some ⟨b, 0, none⟩)) := hD.1 rfl _ rfl
              have f62 := (ev_form av 62).symm.trans d62
              refine ⟨rfl, ?_⟩
              simp [go_sem, f62, y0, y1, y2, y3]
            intro a' w' hE hO hall
            have hA := act_of_outer (ds := [50, 51, 52, 53, 54, 55, 56, 57, 58, 59, 60, 61, 62, 63]) rfl hO (by kernel_rfl)
            have e50 : (fun u _ => u = (.pointer (some ⟨b, 0, none⟩))) (a'.eval (.tmp 50)) w' := hall.1 _ rfl
            have e51 : (fun u _ => u = (.pointer (some ⟨b, 0, none⟩))) (a'.eval (.tmp 51)) w' := hall.2.1 _ rfl
            have e52 : (fun u _ => u = (.pointer (some ⟨b, 0, none⟩))) (a'.eval (.tmp 52)) w' := hall.2.2.1 _ rfl
            have e53 : (fun u _ => u = (.pointer (some ⟨b, 0, none⟩))) (a'.eval (.tmp 53)) w' := hall.2.2.2.1 _ rfl
            have e54 : (fun u _ => u = (v)) (a'.eval (.tmp 54)) w' := hall.2.2.2.2.1 _ rfl
            have e55 : (fun u _ => u = (.int .u64 n)) (a'.eval (.tmp 55)) w' := hall.2.2.2.2.2.1 _ rfl
            have e56 : (fun u _ => u = (.int .i64 i)) (a'.eval (.tmp 56)) w' := hall.2.2.2.2.2.2.1 _ rfl
            have e57 : (fun u _ => u = (.int .i64 (8 * (i : Int)))) (a'.eval (.tmp 57)) w' := hall.2.2.2.2.2.2.2.1 _ rfl
            have e58 : (fun u _ => u = (.int .u64 (n / 2 ^ (8 * i)))) (a'.eval (.tmp 58)) w' := hall.2.2.2.2.2.2.2.2.1 _ rfl
            have e59 : (fun u _ => u = (.int .u8 x)) (a'.eval (.tmp 59)) w' := hall.2.2.2.2.2.2.2.2.2.1 _ rfl
            have e60 : (fun u w' => ∃ b, u = .slice (some ⟨b, 0, none⟩) 1 1 ∧ some b ≠ v.ownBlock ∧ w'.heap[b]? = some (.cells ([.int .u8 x]).toArray 5 (0, 0))) (a'.eval (.tmp 60)) w' := hall.2.2.2.2.2.2.2.2.2.2.1 _ rfl
            have e61 : (fun u w' => w'.ownsRow (base) 5 1 u (t.size + 1) (Lib.strCells t ++ [.int .u8 x])) (a'.eval (.tmp 61)) w' := hall.2.2.2.2.2.2.2.2.2.2.2.1 _ rfl
            have e62 : (fun u _ => u = (.pointer (some ⟨b, 0, none⟩))) (a'.eval (.tmp 62)) w' := hall.2.2.2.2.2.2.2.2.2.2.2.2.1 _ rfl
            have e63 : (fun u _ => u = (.pointer (some ⟨b, 0, none⟩))) (a'.eval (.tmp 63)) w' := hall.2.2.2.2.2.2.2.2.2.2.2.2.2.1 _ rfl
            obtain ⟨v60, hv60⟩ : ∃ v, a'.eval (.tmp 60) = v := ⟨_, rfl⟩
            rw [hv60] at e60
            obtain ⟨v61, hv61⟩ : ∃ v, a'.eval (.tmp 61) = v := ⟨_, rfl⟩
            rw [hv61] at e61
            simp only [List.foldl_cons, List.foldl_nil, Act.put, List.setIfInBounds_toArray, List.set_cons_succ, List.set_cons_zero, e50, e51, e52, e53, e54, e55, e56, e57, e58, e59, hv60, hv61, e62, e63] at hA
            clear hO hall e50 e51 e52 e53 e54 e55 e56 e57 e58 e59 hv60 hv61 e62 e63
            subst hA
            obtain ⟨ga, gc, rfl⟩ := own_slice e61
            have hst := wr_step (s' := t ++ baL [toB x]) hbase VV2.out HOWN.out hE (by rw [baL_one]; exact e61) (by rw [strCells_app, strCells_one hx0.1 hx0.2])
            have HST := Lib.hid hst
            have hc4 := hst.1
            have hf4 := hst.2.1
            clear hst hE e61 c1 c2 c4 n1 n2 n4
            go_wp2
            go_roundg i
            case rel => exact ⟨by omega, by go_num, by rw [HT.out]; exact HST.out.2.2.1, HWK.out.trans HST.out.2.2.2⟩
            case measure => omega
    · skip
      go_enter Tryz.func291, Tryz.ntmps291
      by_cases hsz : r.size = 0
      · have e0 : (r.size == 0) = true := by simpa using hsz
        have HSZ := Lib.hid hsz
        clear hsz
        go_upto_region 4 with fail
        obtain ⟨br, hbr⟩ : ∃ br, w.heap.size = br := ⟨_, rfl⟩
        obtain ⟨V, hV⟩ : ∃ V, w.alloc (.cells #[.int .u64 r.below, .int .u8 r.first, .int .i64 r.size] 336) = V := ⟨_, rfl⟩
        have VB : Hid (Below w.heap.size w V) := Lib.hid (by rw [← hV]; exact balloc (Below.refl _ _) _)
        have VR : Hid (V.heap[br]? = some (.cells #[.int .u64 r.below, .int .u8 r.first, .int .i64 r.size] 336 (0, 0))) := Lib.hid (by rw [← hV, ← hbr]; exact heap_alloc_new _ _)
        have VN : Hid (V.heap[bn]? = some (.cells #[.int .u64 n] 23 (0, 0))) := Lib.hid ((VB.out.block _ (lt_of_block HN.out)).trans HN.out)
        have VW : Hid (V.heap[bw]? = some (.cells #[.pointer (some ⟨b, 0, none⟩)] 177 (0, 0))) := Lib.hid ((VB.out.block _ (lt_of_block HW2.out)).trans HW2.out)
        have VV : Hid (V.heap[b]? = some (.cells #[v] 233 (0, 0))) := Lib.hid ((VB.out.block _ hltb).trans HV.out)
        have HOWN := Lib.hid (own_below HOWN0.out VB.out)
        have HQ : Hid (∀ g, v.ownBlock = some g → base ≤ g ∧ g < V.heap.size) := Lib.hid (fun g hg => HOWN.out.lt g hg)
        have n1 := own_not8 HOWN.out VN.out n8n
        have n2 := own_not8 HOWN.out VW.out n8b
        have n3 := own_not8 HOWN.out VR.out n8r
        have n4 := own_not8 HOWN.out VV.out n8w
        have c1 : V.cell? ⟨bn, 0, none⟩ = some (.int .u64 n) := block_cell VN.out 0
        have c2 : V.cell? ⟨bw, 0, none⟩ = some (.pointer (some ⟨b, 0, none⟩)) := block_cell VW.out 0
        have c3 : V.cell? ⟨br, 1, none⟩ = some (.int .u8 r.first) := block_cell VR.out 1
        have c4 : V.cell? ⟨b, 0, none⟩ = some v := block_cell VV.out 0
        have hbV : base ≤ V.heap.size := Nat.le_trans hbase (Nat.le_of_lt (lt_of_block VV.out))
        obtain ⟨y, hy⟩ : ∃ y, r.first + n = y := ⟨_, rfl⟩
        have hy1 : y ≤ 255 := by rw [← hy]; exact HFIT.out HSZ.out
        have y0 : IntKind.u8.wrap n = n := IntWalk.u8_in _ (by omega)
        have y1 : IntKind.u8.wrap (r.first + n) = y := by rw [hy]; exact IntWalk.u8_in _ (by omega)
        have hy0 : 0 ≤ y := by omega
        have HY := Lib.hid hy
        rw [hbr]
        try rw [hV]
        clear hV hbr hy cn cw cb
        refine wp_region_tail 14 11 (v.ownBlock) (phis [fun u _ => u = (.pointer (some ⟨b, 0, none⟩)), fun u _ => u = (.pointer (some ⟨b, 0, none⟩)), fun u _ => u = (.pointer (some ⟨b, 0, none⟩)), fun u _ => u = (.pointer (some ⟨b, 0, none⟩)), fun u _ => u = (v), fun u _ => u = (.pointer (some ⟨br, 1, none⟩)), fun u _ => u = (.int .u8 r.first), fun u _ => u = (.int .u64 n), fun u _ => u = (.int .u8 n), fun u _ => u = (.int .u8 y), fun u w' => ∃ b, u = .slice (some ⟨b, 0, none⟩) 1 1 ∧ some b ≠ v.ownBlock ∧ w'.heap[b]? = some (.cells ([.int .u8 y]).toArray 5 (0, 0)), fun u w' => w'.ownsRow (base) 5 1 u (s.size + 1) (Lib.strCells s ++ [.int .u8 y]), fun u _ => u = (.pointer (some ⟨b, 0, none⟩)), fun u _ => u = (.pointer (some ⟨b, 0, none⟩))]) rfl (by kernel_rfl) (by kernel_rfl) (mono_of ⟨mono_eq, mono_eq, mono_eq, mono_eq, mono_eq, mono_eq, mono_eq, mono_eq, mono_eq, mono_eq, ?m10, ?m11, mono_eq, mono_eq, trivial⟩) (steps_of 14 ⟨?s0, ?s1, ?s2, ?s3, ?s4, ?s5, ?s6, ?s7, ?s8, ?s9, ?s10, ?s11, ?s12, ?s13, trivial⟩) ?_
        case m10 =>
          exact ⟨fun u w1 w' h ⟨b, h1, hb, hb'⟩ => ⟨b, h1, hb, ext_block h hb'⟩, fun _ u w1 w' h ⟨b, h1, hb, hb'⟩ => ⟨b, h1, hb, extB_block h hb hb'⟩⟩
        case m11 =>
          exact ⟨fun u w1 w' h hu => own_below hu h, fun hn => absurd rfl hn⟩
        case s0 =>
          refine step_val (v := (.pointer (some ⟨b, 0, none⟩))) (fun av wv hE hS hO hD => ?_) (fun _ => rfl)
          have h2 : av.eval (.tmp 2) = (.pointer (some ⟨bw, 0, none⟩)) := hO.2.2 2 rfl
          have f2 := (ev_form av 2).symm.trans h2
          have c1 := extB_cell hE n1 c1
          have c2 := extB_cell hE n2 c2
          have c3 := extB_cell hE n3 c3
          have c4 := extB_cell hE n4 c4
          refine ⟨rfl, ?_⟩
          simp [go_sem, f2, c1, c2, c3, c4, y0, y1]
        case s1 =>
          refine step_val (v := (.pointer (some ⟨b, 0, none⟩))) (fun av wv hE hS hO hD => ?_) (fun _ => rfl)
          have h2 : av.eval (.tmp 2) = (.pointer (some ⟨bw, 0, none⟩)) := hO.2.2 2 rfl
          have f2 := (ev_form av 2).symm.trans h2
          have c1 := extB_cell hE n1 c1
          have c2 := extB_cell hE n2 c2
          have c3 := extB_cell hE n3 c3
          have c4 := extB_cell hE n4 c4
          refine ⟨rfl, ?_⟩
          simp [go_sem, f2, c1, c2, c3, c4, y0, y1]
        case s2 =>
          refine step_val (v := (.pointer (some ⟨b, 0, none⟩))) (fun av wv hE hS hO hD => ?_) (fun _ => rfl)
          have d19 : av.eval (.tmp 19) = (.pointer (some ⟨b, 0, none⟩)) := hD.1 rfl _ rfl
          have f19 := (ev_form av 19).symm.trans d19
          refine ⟨rfl, ?_⟩
          simp [go_sem, f19, y0, y1]
        case s3 =>
          refine step_val (v := (.pointer (some ⟨b, 0, none⟩))) (fun av wv hE hS hO hD => ?_) (fun _ => rfl)
          have d20 : av.eval (.tmp 20) = (.pointer (some ⟨b, 0, none⟩)) := hD.1 rfl _ rfl
          have f20 := (ev_form av 20).symm.trans d20
          refine ⟨rfl, ?_⟩
          simp [go_sem, f20, y0, y1]
        case s4 =>
          refine step_val (v := (v)) (fun av wv hE hS hO hD => ?_) (fun _ => rfl)
          have d21 : av.eval (.tmp 21) = (.pointer (some ⟨b, 0, none⟩)) := hD.1 rfl _ rfl
          have f21 := (ev_form av 21).symm.trans d21
          have c1 := extB_cell hE n1 c1
          have c2 := extB_cell hE n2 c2
          have c3 := extB_cell hE n3 c3
          have c4 := extB_cell hE n4 c4
          refine ⟨rfl, ?_⟩
          simp [go_sem, f21, c1, c2, c3, c4, y0, y1]
        case s5 =>
          refine step_val (v := (.pointer (some ⟨br, 1, none⟩))) (fun av wv hE hS hO hD => ?_) (fun _ => rfl)
          have h3 : av.eval (.tmp 3) = (.pointer (some ⟨br, 0, none⟩)) := hO.2.2 3 rfl
          have f3 := (ev_form av 3).symm.trans h3
          refine ⟨rfl, ?_⟩
          simp [go_sem, f3, y0, y1]
        case s6 =>
          refine step_val (v := (.int .u8 r.first)) (fun av wv hE hS hO hD => ?_) (fun _ => rfl)
          have d23 : av.eval (.tmp 23) = (.pointer (some ⟨br, 1, none⟩)) := hD.1 rfl _ rfl
          have f23 := (ev_form av 23).symm.trans d23
          have c1 := extB_cell hE n1 c1
          have c2 := extB_cell hE n2 c2
          have c3 := extB_cell hE n3 c3
          have c4 := extB_cell hE n4 c4
          refine ⟨rfl, ?_⟩
          simp [go_sem, f23, c1, c2, c3, c4, y0, y1]
        case s7 =>
          refine step_val (v := (.int .u64 n)) (fun av wv hE hS hO hD => ?_) (fun _ => rfl)
          have h1 : av.eval (.tmp 1) = (.pointer (some ⟨bn, 0, none⟩)) := hO.2.2 1 rfl
          have f1 := (ev_form av 1).symm.trans h1
          have c1 := extB_cell hE n1 c1
          have c2 := extB_cell hE n2 c2
          have c3 := extB_cell hE n3 c3
          have c4 := extB_cell hE n4 c4
          refine ⟨rfl, ?_⟩
          simp [go_sem, f1, c1, c2, c3, c4, y0, y1]
        case s8 =>
          refine step_val (v := (.int .u8 n)) (fun av wv hE hS hO hD => ?_) (fun _ => rfl)
          have d25 : av.eval (.tmp 25) = (.int .u64 n) := hD.1 rfl _ rfl
          have f25 := (ev_form av 25).symm.trans d25
          refine ⟨rfl, ?_⟩
          simp [go_sem, f25, y0, y1]
        case s9 =>
          refine step_val (v := (.int .u8 y)) (fun av wv hE hS hO hD => ?_) (fun _ => rfl)
          have d24 : av.eval (.tmp 24) = (.int .u8 r.first) := hD.1 rfl _ rfl
          have f24 := (ev_form av 24).symm.trans d24
          have d26 : av.eval (.tmp 26) = (.int .u8 n) := hD.2.1 rfl _ rfl
          have f26 := (ev_form av 26).symm.trans d26
          refine ⟨rfl, ?_⟩
          simp [go_sem, f24, f26, y0, y1]
        case s10 =>
          refine step_wp (fun av wv hE hS hO hD => ?_)
          have d27 : av.eval (.tmp 27) = (.int .u8 y) := hD.1 rfl _ rfl
          have f27 := (ev_form av 27).symm.trans d27
          refine ⟨rfl, ?_⟩
          refine wp_of_run (v := .slice (some ⟨wv.heap.size, 0, none⟩) 1 1) (w' := wv.alloc (.cells ([.int .u8 y]).toArray 5)) (by first | (simp [go_sem, f27, y0, y1]; done) | (simp [go_sem, f27, y0, y1]; rfl)) ⟨_, rfl, es_of_ext (balloc (Ext_refl _) _), wv.heap.size, rfl, ?_, heap_alloc_new _ _⟩
          exact fun e => absurd (HQ.out _ e.symm).2 (by have := hE.size; simp at this; omega)
        case s11 =>
          refine step_wp (fun av wv hE hS hO hD => ?_)
          have d22 : av.eval (.tmp 22) = (v) := hD.1 rfl _ rfl
          have f22 := (ev_form av 22).symm.trans d22
          have d28 : (fun u w' => ∃ b, u = .slice (some ⟨b, 0, none⟩) 1 1 ∧ some b ≠ v.ownBlock ∧ w'.heap[b]? = some (.cells ([.int .u8 y]).toArray 5 (0, 0))) (av.eval (.tmp 28)) wv := hD.2.1 rfl _ rfl
          refine ⟨rfl, ?_⟩
          obtain ⟨bS, hS1, hbS, hcS⟩ := d28
          have hown1 : wv.ownsRow (base) 5 1 (v) (s.size) (Lib.strCells s) := own_below (w := World.drew _) (HOWN.out) (hS rfl)
          refine wp_append_lies wv _ _ _ rfl (base) 5 i0 (.int .u8 0) 1 1 Tryz.underlying41 hi hz0 hz1 hz2 rfl (by decide) (v) (s.size) _ d22 hown1 ⟨bS, 0, none⟩ 1 1 ([.int .u8 y]) (by exact hS1) rfl (World.news_of_block hcS) (one_u8 _) (by decide) (by unfold maxLen; omega) (by omega) (by have := hE.size; simp at this; omega) _ rfl ?_
          intro g cap1 w2 hown2 hgrow hat hlt2
          exact ⟨_, rfl, es_sp hgrow, hown2⟩
        case s12 =>
          refine step_val (v := (.pointer (some ⟨b, 0, none⟩))) (fun av wv hE hS hO hD => ?_) (fun _ => rfl)
          have d18 : av.eval (.tmp 18) = (.pointer (some ⟨b, 0, none⟩)) := hD.1 rfl _ rfl
          have f18 := (ev_form av 18).symm.trans d18
          refine ⟨rfl, ?_⟩
          simp [go_sem, f18, y0, y1]
        case s13 =>
          refine step_val (v := (.pointer (some ⟨b, 0, none⟩))) (fun av wv hE hS hO hD => ?_) (fun _ => rfl)
          have d30 : av.eval (.tmp 30) = (.pointer (some ⟨b, 0, none⟩)) := hD.1 rfl _ rfl
          have f30 := (ev_form av 30).symm.trans d30
          refine ⟨rfl, ?_⟩
          simp [go_sem, f30, y0, y1]
        intro a' w' hE hO hall
        have hA := act_of_outer (ds := [18, 19, 20, 21, 22, 23, 24, 25, 26, 27, 28, 29, 30, 31]) rfl hO (by kernel_rfl)
        have e18 : (fun u _ => u = (.pointer (some ⟨b, 0, none⟩))) (a'.eval (.tmp 18)) w' := hall.1 _ rfl
        have e19 : (fun u _ => u = (.pointer (some ⟨b, 0, none⟩))) (a'.eval (.tmp 19)) w' := hall.2.1 _ rfl
        have e20 : (fun u _ => u = (.pointer (some ⟨b, 0, none⟩))) (a'.eval (.tmp 20)) w' := hall.2.2.1 _ rfl
        have e21 : (fun u _ => u = (.pointer (some ⟨b, 0, none⟩))) (a'.eval (.tmp 21)) w' := hall.2.2.2.1 _ rfl
        have e22 : (fun u _ => u = (v)) (a'.eval (.tmp 22)) w' := hall.2.2.2.2.1 _ rfl
        have e23 : (fun u _ => u = (.pointer (some ⟨br, 1, none⟩))) (a'.eval (.tmp 23)) w' := hall.2.2.2.2.2.1 _ rfl
        have e24 : (fun u _ => u = (.int .u8 r.first)) (a'.eval (.tmp 24)) w' := hall.2.2.2.2.2.2.1 _ rfl
        have e25 : (fun u _ => u = (.int .u64 n)) (a'.eval (.tmp 25)) w' := hall.2.2.2.2.2.2.2.1 _ rfl
        have e26 : (fun u _ => u = (.int .u8 n)) (a'.eval (.tmp 26)) w' := hall.2.2.2.2.2.2.2.2.1 _ rfl
        have e27 : (fun u _ => u = (.int .u8 y)) (a'.eval (.tmp 27)) w' := hall.2.2.2.2.2.2.2.2.2.1 _ rfl
        have e28 : (fun u w' => ∃ b, u = .slice (some ⟨b, 0, none⟩) 1 1 ∧ some b ≠ v.ownBlock ∧ w'.heap[b]? = some (.cells ([.int .u8 y]).toArray 5 (0, 0))) (a'.eval (.tmp 28)) w' := hall.2.2.2.2.2.2.2.2.2.2.1 _ rfl
        have e29 : (fun u w' => w'.ownsRow (base) 5 1 u (s.size + 1) (Lib.strCells s ++ [.int .u8 y])) (a'.eval (.tmp 29)) w' := hall.2.2.2.2.2.2.2.2.2.2.2.1 _ rfl
        have e30 : (fun u _ => u = (.pointer (some ⟨b, 0, none⟩))) (a'.eval (.tmp 30)) w' := hall.2.2.2.2.2.2.2.2.2.2.2.2.1 _ rfl
        have e31 : (fun u _ => u = (.pointer (some ⟨b, 0, none⟩))) (a'.eval (.tmp 31)) w' := hall.2.2.2.2.2.2.2.2.2.2.2.2.2.1 _ rfl
        obtain ⟨v28, hv28⟩ : ∃ v, a'.eval (.tmp 28) = v := ⟨_, rfl⟩
        rw [hv28] at e28
        obtain ⟨v29, hv29⟩ : ∃ v, a'.eval (.tmp 29) = v := ⟨_, rfl⟩
        rw [hv29] at e29
        simp only [List.foldl_cons, List.foldl_nil, Act.put, List.setIfInBounds_toArray, List.set_cons_succ, List.set_cons_zero, e18, e19, e20, e21, e22, e23, e24, e25, e26, e27, hv28, hv29, e30, e31] at hA
        clear hO hall e18 e19 e20 e21 e22 e23 e24 e25 e26 e27 hv28 hv29 e30 e31
        subst hA
        obtain ⟨ga, gc, rfl⟩ := own_slice e29
        have hst := wr_step (s' := s ++ baL [toB y]) hbase VV.out HOWN.out hE (by rw [baL_one]; exact e29) (by rw [strCells_app, strCells_one hy0 hy1])
        have HST := Lib.hid hst
        have hc4 := hst.1
        have hf4 := hst.2.1
        clear hst hE e29
        go_wp2
        go_ret
        refine ⟨ret_bool HX.out.symm, ?_, (WK.of_below VB.out HBS.out).trans HST.out.2.2.2⟩
        rw [HIF.out]
        have e4 : rowB r n = [toB y] := by unfold rowB; rw [if_pos HSZ.out, HY.out]
        rw [e4]; exact HST.out.2.2.1
      · have e0 : (r.size == 0) = false := by simpa using hsz
        have HSZ := Lib.hid hsz
        clear hsz
        go_upto_region 6 with fail
        obtain ⟨br, hbr⟩ : ∃ br, w.heap.size = br := ⟨_, rfl⟩
        obtain ⟨V, hV⟩ : ∃ V, w.alloc (.cells #[.int .u64 r.below, .int .u8 r.first, .int .i64 r.size] 336) = V := ⟨_, rfl⟩
        have VB : Hid (Below w.heap.size w V) := Lib.hid (by rw [← hV]; exact balloc (Below.refl _ _) _)
        have VR : Hid (V.heap[br]? = some (.cells #[.int .u64 r.below, .int .u8 r.first, .int .i64 r.size] 336 (0, 0))) := Lib.hid (by rw [← hV, ← hbr]; exact heap_alloc_new _ _)
        have VN : Hid (V.heap[bn]? = some (.cells #[.int .u64 n] 23 (0, 0))) := Lib.hid ((VB.out.block _ (lt_of_block HN.out)).trans HN.out)
        have VW : Hid (V.heap[bw]? = some (.cells #[.pointer (some ⟨b, 0, none⟩)] 177 (0, 0))) := Lib.hid ((VB.out.block _ (lt_of_block HW2.out)).trans HW2.out)
        have VV : Hid (V.heap[b]? = some (.cells #[v] 233 (0, 0))) := Lib.hid ((VB.out.block _ hltb).trans HV.out)
        have HOWN := Lib.hid (own_below HOWN0.out VB.out)
        have HQ : Hid (∀ g, v.ownBlock = some g → base ≤ g ∧ g < V.heap.size) := Lib.hid (fun g hg => HOWN.out.lt g hg)
        have n1 := own_not8 HOWN.out VN.out n8n
        have n2 := own_not8 HOWN.out VW.out n8b
        have n3 := own_not8 HOWN.out VR.out n8r
        have n4 := own_not8 HOWN.out VV.out n8w
        have c1 : V.cell? ⟨bn, 0, none⟩ = some (.int .u64 n) := block_cell VN.out 0
        have c2 : V.cell? ⟨bw, 0, none⟩ = some (.pointer (some ⟨b, 0, none⟩)) := block_cell VW.out 0
        have c3 : V.cell? ⟨br, 1, none⟩ = some (.int .u8 r.first) := block_cell VR.out 1
        have c4 : V.cell? ⟨b, 0, none⟩ = some v := block_cell VV.out 0
        have hbV : base ≤ V.heap.size := Nat.le_trans hbase (Nat.le_of_lt (lt_of_block VV.out))
        rw [hbr]
        try rw [hV]
        clear hV hbr cn cw cb
        refine wp_region_tail 11 8 (v.ownBlock) (phis [fun u _ => u = (.pointer (some ⟨b, 0, none⟩)), fun u _ => u = (.pointer (some ⟨b, 0, none⟩)), fun u _ => u = (.pointer (some ⟨b, 0, none⟩)), fun u _ => u = (.pointer (some ⟨b, 0, none⟩)), fun u _ => u = (v), fun u _ => u = (.pointer (some ⟨br, 1, none⟩)), fun u _ => u = (.int .u8 r.first), fun u w' => ∃ b, u = .slice (some ⟨b, 0, none⟩) 1 1 ∧ some b ≠ v.ownBlock ∧ w'.heap[b]? = some (.cells ([.int .u8 r.first]).toArray 5 (0, 0)), fun u w' => w'.ownsRow (base) 5 1 u (s.size + 1) (Lib.strCells s ++ [.int .u8 r.first]), fun u _ => u = (.pointer (some ⟨b, 0, none⟩)), fun u _ => u = (.pointer (some ⟨b, 0, none⟩))]) rfl (by kernel_rfl) (by kernel_rfl) (mono_of ⟨mono_eq, mono_eq, mono_eq, mono_eq, mono_eq, mono_eq, mono_eq, ?m7, ?m8, mono_eq, mono_eq, trivial⟩) (steps_of 11 ⟨?s0, ?s1, ?s2, ?s3, ?s4, ?s5, ?s6, ?s7, ?s8, ?s9, ?s10, trivial⟩) ?_
        case m7 =>
          exact ⟨fun u w1 w' h ⟨b, h1, hb, hb'⟩ => ⟨b, h1, hb, ext_block h hb'⟩, fun _ u w1 w' h ⟨b, h1, hb, hb'⟩ => ⟨b, h1, hb, extB_block h hb hb'⟩⟩
        case m8 =>
          exact ⟨fun u w1 w' h hu => own_below hu h, fun hn => absurd rfl hn⟩
        case s0 =>
          refine step_val (v := (.pointer (some ⟨b, 0, none⟩))) (fun av wv hE hS hO hD => ?_) (fun _ => rfl)
          have h2 : av.eval (.tmp 2) = (.pointer (some ⟨bw, 0, none⟩)) := hO.2.2 2 rfl
          have f2 := (ev_form av 2).symm.trans h2
          have c1 := extB_cell hE n1 c1
          have c2 := extB_cell hE n2 c2
          have c3 := extB_cell hE n3 c3
          have c4 := extB_cell hE n4 c4
          refine ⟨rfl, ?_⟩
          simp [go_sem, f2, c1, c2, c3, c4]
        case s1 =>
          refine step_val (v := (.pointer (some ⟨b, 0, none⟩))) (fun av wv hE hS hO hD => ?_) (fun _ => rfl)
          have h2 : av.eval (.tmp 2) = (.pointer (some ⟨bw, 0, none⟩)) := hO.2.2 2 rfl
          have f2 := (ev_form av 2).symm.trans h2
          have c1 := extB_cell hE n1 c1
          have c2 := extB_cell hE n2 c2
          have c3 := extB_cell hE n3 c3
          have c4 := extB_cell hE n4 c4
          refine ⟨rfl, ?_⟩
          simp [go_sem, f2, c1, c2, c3, c4]
        case s2 =>
          refine step_val (v := (.pointer (some ⟨b, 0, none⟩))) (fun av wv hE hS hO hD => ?_) (fun _ => rfl)
          have d33 : av.eval (.tmp 33) = (.pointer (some ⟨b, 0, none⟩)) := hD.1 rfl _ rfl
          have f33 := (ev_form av 33).symm.trans d33
          refine ⟨rfl, ?_⟩
          simp [go_sem, f33]
        case s3 =>
          refine step_val (v := (.pointer (some ⟨b, 0, none⟩))) (fun av wv hE hS hO hD => ?_) (fun _ => rfl)
          have d34 : av.eval (.tmp 34) = (.pointer (some ⟨b, 0, none⟩)) := hD.1 rfl _ rfl
          have f34 := (ev_form av 34).symm.trans d34
          refine ⟨rfl, ?_⟩
          simp [go_sem, f34]
        case s4 =>
          refine step_val (v := (v)) (fun av wv hE hS hO hD => ?_) (fun _ => rfl)
          have d35 : av.eval (.tmp 35) = (.pointer (some ⟨b, 0, none⟩)) := hD.1 rfl _ rfl
          have f35 := (ev_form av 35).symm.trans d35
          have c1 := extB_cell hE n1 c1
          have c2 := extB_cell hE n2 c2
          have c3 := extB_cell hE n3 c3
          have c4 := extB_cell hE n4 c4
          refine ⟨rfl, ?_⟩
          simp [go_sem, f35, c1, c2, c3, c4]
        case s5 =>
          refine step_val (v := (.pointer (some ⟨br, 1, none⟩))) (fun av wv hE hS hO hD => ?_) (fun _ => rfl)
          have h3 : av.eval (.tmp 3) = (.pointer (some ⟨br, 0, none⟩)) := hO.2.2 3 rfl
          have f3 := (ev_form av 3).symm.trans h3
          refine ⟨rfl, ?_⟩
          simp [go_sem, f3]
        case s6 =>
          refine step_val (v := (.int .u8 r.first)) (fun av wv hE hS hO hD => ?_) (fun _ => rfl)
          have d37 : av.eval (.tmp 37) = (.pointer (some ⟨br, 1, none⟩)) := hD.1 rfl _ rfl
          have f37 := (ev_form av 37).symm.trans d37
          have c1 := extB_cell hE n1 c1
          have c2 := extB_cell hE n2 c2
          have c3 := extB_cell hE n3 c3
          have c4 := extB_cell hE n4 c4
          refine ⟨rfl, ?_⟩
          simp [go_sem, f37, c1, c2, c3, c4]
        case s7 =>
          refine step_wp (fun av wv hE hS hO hD => ?_)
          have d38 : av.eval (.tmp 38) = (.int .u8 r.first) := hD.1 rfl _ rfl
          have f38 := (ev_form av 38).symm.trans d38
          refine ⟨rfl, ?_⟩
          refine wp_of_run (v := .slice (some ⟨wv.heap.size, 0, none⟩) 1 1) (w' := wv.alloc (.cells ([.int .u8 r.first]).toArray 5)) (by first | (simp [go_sem, f38]; done) | (simp [go_sem, f38]; rfl)) ⟨_, rfl, es_of_ext (balloc (Ext_refl _) _), wv.heap.size, rfl, ?_, heap_alloc_new _ _⟩
          exact fun e => absurd (HQ.out _ e.symm).2 (by have := hE.size; simp at this; omega)
        case s8 =>
          refine step_wp (fun av wv hE hS hO hD => ?_)
          have d36 : av.eval (.tmp 36) = (v) := hD.1 rfl _ rfl
          have f36 := (ev_form av 36).symm.trans d36
          have d39 : (fun u w' => ∃ b, u = .slice (some ⟨b, 0, none⟩) 1 1 ∧ some b ≠ v.ownBlock ∧ w'.heap[b]? = some (.cells ([.int .u8 r.first]).toArray 5 (0, 0))) (av.eval (.tmp 39)) wv := hD.2.1 rfl _ rfl
          refine ⟨rfl, ?_⟩
          obtain ⟨bS, hS1, hbS, hcS⟩ := d39
          have hown1 : wv.ownsRow (base) 5 1 (v) (s.size) (Lib.strCells s) := own_below (w := World.drew _) (HOWN.out) (hS rfl)
          refine wp_append_lies wv _ _ _ rfl (base) 5 i0 (.int .u8 0) 1 1 Tryz.underlying41 hi hz0 hz1 hz2 rfl (by decide) (v) (s.size) _ d36 hown1 ⟨bS, 0, none⟩ 1 1 ([.int .u8 r.first]) (by exact hS1) rfl (World.news_of_block hcS) (one_u8 _) (by decide) (by unfold maxLen; omega) (by omega) (by have := hE.size; simp at this; omega) _ rfl ?_
          intro g cap1 w2 hown2 hgrow hat hlt2
          exact ⟨_, rfl, es_sp hgrow, hown2⟩
        case s9 =>
          refine step_val (v := (.pointer (some ⟨b, 0, none⟩))) (fun av wv hE hS hO hD => ?_) (fun _ => rfl)
          have d32 : av.eval (.tmp 32) = (.pointer (some ⟨b, 0, none⟩)) := hD.1 rfl _ rfl
          have f32 := (ev_form av 32).symm.trans d32
          refine ⟨rfl, ?_⟩
          simp [go_sem, f32]
        case s10 =>
          refine step_val (v := (.pointer (some ⟨b, 0, none⟩))) (fun av wv hE hS hO hD => ?_) (fun _ => rfl)
          have d41 : av.eval (.tmp 41) = (.pointer (some ⟨b, 0, none⟩)) := hD.1 rfl _ rfl
          have f41 := (ev_form av 41).symm.trans d41
          refine ⟨rfl, ?_⟩
          simp [go_sem, f41]
        intro a' w' hE hO hall
        have hA := act_of_outer (ds := [32, 33, 34, 35, 36, 37, 38, 39, 40, 41, 42]) rfl hO (by kernel_rfl)
        have e32 : (fun u _ => u = (.pointer (some ⟨b, 0, none⟩))) (a'.eval (.tmp 32)) w' := hall.1 _ rfl
        have e33 : (fun u _ => u = (.pointer (some ⟨b, 0, none⟩))) (a'.eval (.tmp 33)) w' := hall.2.1 _ rfl
        have e34 : (fun u _ => u = (.pointer (some ⟨b, 0, none⟩))) (a'.eval (.tmp 34)) w' := hall.2.2.1 _ rfl
        have e35 : (fun u _ => u = (.pointer (some ⟨b, 0, none⟩))) (a'.eval (.tmp 35)) w' := hall.2.2.2.1 _ rfl
        have e36 : (fun u _ => u = (v)) (a'.eval (.tmp 36)) w' := hall.2.2.2.2.1 _ rfl
        have e37 : (fun u _ => u = (.pointer (some ⟨br, 1, none⟩))) (a'.eval (.tmp 37)) w' := hall.2.2.2.2.2.1 _ rfl
        have e38 : (fun u _ => u = (.int .u8 r.first)) (a'.eval (.tmp 38)) w' := hall.2.2.2.2.2.2.1 _ rfl
        have e39 : (fun u w' => ∃ b, u = .slice (some ⟨b, 0, none⟩) 1 1 ∧ some b ≠ v.ownBlock ∧ w'.heap[b]? = some (.cells ([.int .u8 r.first]).toArray 5 (0, 0))) (a'.eval (.tmp 39)) w' := hall.2.2.2.2.2.2.2.1 _ rfl
        have e40 : (fun u w' => w'.ownsRow (base) 5 1 u (s.size + 1) (Lib.strCells s ++ [.int .u8 r.first])) (a'.eval (.tmp 40)) w' := hall.2.2.2.2.2.2.2.2.1 _ rfl
        have e41 : (fun u _ => u = (.pointer (some ⟨b, 0, none⟩))) (a'.eval (.tmp 41)) w' := hall.2.2.2.2.2.2.2.2.2.1 _ rfl
        have e42 : (fun u _ => u = (.pointer (some ⟨b, 0, none⟩))) (a'.eval (.tmp 42)) w' := hall.2.2.2.2.2.2.2.2.2.2.1 _ rfl
        obtain ⟨v39, hv39⟩ : ∃ v, a'.eval (.tmp 39) = v := ⟨_, rfl⟩
        rw [hv39] at e39
        obtain ⟨v40, hv40⟩ : ∃ v, a'.eval (.tmp 40) = v := ⟨_, rfl⟩
        rw [hv40] at e40
        simp only [List.foldl_cons, List.foldl_nil, Act.put, List.setIfInBounds_toArray, List.set_cons_succ, List.set_cons_zero, e32, e33, e34, e35, e36, e37, e38, hv39, hv40, e41, e42] at hA
        clear hO hall e32 e33 e34 e35 e36 e37 e38 hv39 hv40 e41 e42
        subst hA
        obtain ⟨ga, gc, rfl⟩ := own_slice e40
        have hst := wr_step (s' := s ++ baL [toB r.first]) hbase VV.out HOWN.out hE (by rw [baL_one]; exact e40) (by rw [strCells_app, strCells_one f0 f1])
        have HST := Lib.hid hst
        have hc4 := hst.1
        have hf4 := hst.2.1
        have HBR : Hid (w'.cell? ⟨br, 2, none⟩ = some (.int .i64 r.size)) := Lib.hid (extB_cell hE n3 (block_cell VR.out 2))
        clear hst hE e40 c1 c2 c3 c4
        have hne : br ≠ b := fun e => by have h1 := VR.out; rw [e, VV.out] at h1; cases h1
        have c5 : (w'.setCell ⟨b, 0, none⟩ (.slice (some ⟨ga, 0, none⟩) (s.size + 1) gc)).cell? ⟨br, 2, none⟩ = some (.int .i64 r.size) := by
          have h := (HST.out.2.2.2).keep br _ VR.out hne n8r
          exact block_cell h 2
        obtain ⟨k, hk⟩ := Int.eq_ofNat_of_zero_le s0
        have HKK := Lib.hid hk
        have k8 : k ≤ 8 := by omega
        rw [hk] at c5
        have hw1 : IntKind.i64.wrap ((k : Int) - 1) = (k : Int) - 1 := IntWalk.i64_in _ (by omega)
        clear hk HBR
        go_wp2
        obtain ⟨V2, hV2⟩ : ∃ V2, w'.setCell ⟨b, 0, none⟩ (.slice (some ⟨ga, 0, none⟩) (s.size + 1) gc) = V2 := ⟨_, rfl⟩
        have HWR2 : Hid (WrB V2 b base (s ++ baL (toB r.first :: ((hiL n k).take (k - k)).map toB))) := Lib.hid (by rw [← hV2, Nat.sub_self]; exact HST.out.2.2.1)
        have HWK2 : Hid (WK base b V V2) := Lib.hid (by rw [← hV2]; exact HST.out.2.2.2)
        try rw [hV2]
        clear hV2 HST hc4 hf4 c5 hw1 HWR
        have nbn : bn ≠ b := fun e => by have h1 := VN.out; rw [e, VV.out] at h1; cases h1
        have nbw : bw ≠ b := fun e => by have h1 := VW.out; rw [e, VV.out] at h1; cases h1
        have hbVS : base ≤ V.heap.size := hbV
        clear n1 n2 n3 n4 hbV hltb HQ
        go_loopg [5] k (fun g i wr => g ≤ k ∧ i = .int .i64 ((g : Int) - 1) ∧ Hid (WrB wr b base (s ++ baL (toB r.first :: ((hiL n k).take (k - g)).map toB))) ∧ Hid (WK base b V wr))
        case atStart => exact ⟨Nat.le_refl _, rfl, HWR2.out, HWK2.out⟩
        case round =>
          clear HWR2 HWK2
          obtain ⟨hgk, rfl, HWR, HWK⟩ := hrel
          obtain ⟨G, hG⟩ : ∃ G, G = gk := ⟨_, rfl⟩
          subst hG
          cases G with
          | zero =>
            have e2 : ((0 : Nat) : Int) - 1 = -1 := rfl
            rw [e2]
            clear e2
            go_wp2
            go_ret
            refine ⟨ret_bool HX.out.symm, ?_, (WK.of_below VB.out HBS.out).trans HWK.out⟩
            rw [HIF.out]
            have e4 : rowB r n = toB r.first :: ((hiL n k).take (k - 0)).map toB := by
              unfold rowB
              rw [if_neg HSZ.out, HKK.out, Nat.sub_zero, List.take_of_length_le (by rw [hiL_len]; exact Nat.le_refl _)]; rfl
            rw [e4]; exact HWR.out
          | succ i =>
            have e2 : ((i + 1 : Nat) : Int) - 1 = (i : Int) := by omega
            rw [e2]
            obtain ⟨t, ht⟩ : ∃ t, s ++ baL (toB r.first :: ((hiL n k).take (k - (i + 1))).map toB) = t := ⟨_, rfl⟩
            have hts : t.size ≤ 70000000000009 := by
              rw [← ht, ByteArray.size_append, baL_size, List.length_cons, List.length_map, List.length_take, hiL_len]; omega
            obtain ⟨x, hx⟩ : ∃ x, n / 2 ^ (8 * i) % 256 = x := ⟨_, rfl⟩
            have hx0 : 0 ≤ x ∧ x ≤ 255 := by rw [← hx]; omega
            have HT : Hid (s ++ baL (toB r.first :: ((hiL n k).take (k - i)).map toB) = t ++ baL [toB x]) := Lib.hid (by
              rw [← ht, hi_next n k i (by omega), show (256 : Int) ^ i = 2 ^ (8 * i) by rw [Int.pow_mul]; rfl, hx, List.map_append, ← List.cons_append, baL_app, ByteArray.append_assoc]; rfl)
            rw [ht] at HWR
            have y0 : IntKind.u8.wrap (n / 2 ^ (8 * i)) = x := by rw [IntKind.wrap_u8]; exact hx
            have y1 : IntKind.i64.wrap (8 * (i : Int)) = 8 * (i : Int) := IntWalk.i64_in _ (by omega)
            have y2 : 0 ≤ 8 * (i : Int) := by omega
            have y3 : (8 * (i : Int)).toNat = 8 * i := by omega
            clear ht e2 hx
            obtain ⟨-, v, hv, hown⟩ := HWR.out
            have VV2 := Lib.hid hv
            have HOWN := Lib.hid hown
            have VN2 := Lib.hid (HWK.out.keep _ _ VN.out nbn n8n)
            have VW2 := Lib.hid (HWK.out.keep _ _ VW.out nbw n8b)
            have n8w : Not8 (.cells #[v] 233 (0, 0)) := not8_cells (by decide)
            have HQ : Hid (∀ g, v.ownBlock = some g → base ≤ g ∧ g < wr.heap.size) := Lib.hid (fun g hg => HOWN.out.lt g hg)
            have n1 := own_not8 HOWN.out VN2.out n8n
            have n2 := own_not8 HOWN.out VW2.out n8b
            have n4 := own_not8 HOWN.out VV2.out n8w
            have c1 : wr.cell? ⟨bn, 0, none⟩ = some (.int .u64 n) := block_cell VN2.out 0
            have c2 : wr.cell? ⟨bw, 0, none⟩ = some (.pointer (some ⟨b, 0, none⟩)) := block_cell VW2.out 0
            have c4 : wr.cell? ⟨b, 0, none⟩ = some v := block_cell VV2.out 0
            have hbV : base ≤ wr.heap.size := Nat.le_trans hbase (Nat.le_of_lt (lt_of_block VV2.out))
            clear hv hown
            go_upto_region 10 with fail
            refine wp_region_tail 14 11 (v.ownBlock) (phis [fun u _ => u = (.pointer (some ⟨b, 0, none⟩)), fun u _ => u = (.pointer (some ⟨b, 0, none⟩)), fun u _ => u = (.pointer (some ⟨b, 0, none⟩)), fun u _ => u = (.pointer (some ⟨b, 0, none⟩)), fun u _ => u = (v), fun u _ => u = (.int .u64 n), fun u _ => u = (.int .i64 i), fun u _ => u = (.int .i64 (8 * (i : Int))), fun u _ => u = (.int .u64 (n / 2 ^ (8 * i))), fun u _ => u = (.int .u8 x), fun u w' => ∃ b, u = .slice (some ⟨b, 0, none⟩) 1 1 ∧ some b ≠ v.ownBlock ∧ w'.heap[b]? = some (.cells ([.int .u8 x]).toArray 5 (0, 0)), fun u w' => w'.ownsRow (base) 5 1 u (t.size + 1) (Lib.strCells t ++ [.int .u8 x]), fun u _ => u = (.pointer (some ⟨b, 0, none⟩)), fun u _ => u = (.pointer (some ⟨b, 0, none⟩))]) rfl (by kernel_rfl) (by kernel_rfl) (mono_of ⟨mono_eq, mono_eq, mono_eq, mono_eq, mono_eq, mono_eq, mono_eq, mono_eq, mono_eq, mono_eq, ?m10, ?m11, mono_eq, mono_eq, trivial⟩) (steps_of 14 ⟨?s0, ?s1, ?s2, ?s3, ?s4, ?s5, ?s6, ?s7, ?s8, ?s9, ?s10, ?s11, ?s12, ?s13, trivial⟩) ?_
            case m10 =>
              exact ⟨fun u w1 w' h ⟨b, h1, hb, hb'⟩ => ⟨b, h1, hb, ext_block h hb'⟩, fun _ u w1 w' h ⟨b, h1, hb, hb'⟩ => ⟨b, h1, hb, extB_block h hb hb'⟩⟩
            case m11 =>
              exact ⟨fun u w1 w' h hu => own_below hu h, fun hn => absurd rfl hn⟩
            case s0 =>
              refine step_val (v := (.pointer (some ⟨b, 0, none⟩))) (fun av wv hE hS hO hD => ?_) (fun _ => rfl)
              have h2 : av.eval (.tmp 2) = (.pointer (some ⟨bw, 0, none⟩)) := hO.2.2 2 rfl
              have f2 := (ev_form av 2).symm.trans h2
              have c1 := extB_cell hE n1 c1
              have c2 := extB_cell hE n2 c2
              have c4 := extB_cell hE n4 c4
              refine ⟨rfl, ?_⟩
              simp [go_sem, f2, c1, c2, c4, y0, y1, y2, y3]
            case s1 =>
              refine step_val (v := (.pointer (some ⟨b, 0, none⟩))) (fun av wv hE hS hO hD => ?_) (fun _ => rfl)
              have h2 : av.eval (.tmp 2) = (.pointer (some ⟨bw, 0, none⟩)) := hO.2.2 2 rfl
              have f2 := (ev_form av 2).symm.trans h2
              have c1 := extB_cell hE n1 c1
              have c2 := extB_cell hE n2 c2
              have c4 := extB_cell hE n4 c4
              refine ⟨rfl, ?_⟩
              simp [go_sem, f2, c1, c2, c4, y0, y1, y2, y3]
            case s2 =>
              refine step_val (v := (.pointer (some ⟨b, 0, none⟩))) (fun av wv hE hS hO hD => ?_) (fun _ => rfl)
              have d51 : av.eval (.tmp 51) = (.pointer (some ⟨b, 0, none⟩)) := hD.1 rfl _ rfl
              have f51 := (ev_form av 51).symm.trans d51
              refine ⟨rfl, ?_⟩
              simp [go_sem, f51, y0, y1, y2, y3]
            case s3 =>
              refine step_val (v := (.pointer (some ⟨b, 0, none⟩))) (fun av wv hE hS hO hD => ?_) (fun _ => rfl)
              have d52 : av.eval (.tmp 52) = (.pointer (some ⟨b, 0, none⟩)) := hD.1 rfl _ rfl
              have f52 := (ev_form av 52).symm.trans d52
              refine ⟨rfl, ?_⟩
              simp [go_sem, f52, y0, y1, y2, y3]
            case s4 =>
              refine step_val (v := (v)) (fun av wv hE hS hO hD => ?_) (fun _ => rfl)
              have d53 : av.eval (.tmp 53) = (.pointer (some ⟨b, 0, none⟩)) := hD.1 rfl _ rfl
              have f53 := (ev_form av 53).symm.trans d53
              have c1 := extB_cell hE n1 c1
              have c2 := extB_cell hE n2 c2
              have c4 := extB_cell hE n4 c4
              refine ⟨rfl, ?_⟩
              simp [go_sem, f53, c1, c2, c4, y0, y1, y2, y3]
            case s5 =>
              refine step_val (v := (.int .u64 n)) (fun av wv hE hS hO hD => ?_) (fun _ => rfl)
              have h1 : av.eval (.tmp 1) = (.pointer (some ⟨bn, 0, none⟩)) := hO.2.2 1 rfl
              have f1 := (ev_form av 1).symm.trans h1
              have c1 := extB_cell hE n1 c1
              have c2 := extB_cell hE n2 c2
              have c4 := extB_cell hE n4 c4
              refine ⟨rfl, ?_⟩
              simp [go_sem, f1, c1, c2, c4, y0, y1, y2, y3]
            case s6 =>
              refine step_val (v := (.int .i64 i)) (fun av wv hE hS hO hD => ?_) (fun _ => rfl)
              have h5 : av.eval (.tmp 5) = (.int .i64 i) := hO.2.2 5 rfl
              have f5 := (ev_form av 5).symm.trans h5
              refine ⟨rfl, ?_⟩
              simp [go_sem, f5, y0, y1, y2, y3]
            case s7 =>
              refine step_val (v := (.int .i64 (8 * (i : Int)))) (fun av wv hE hS hO hD => ?_) (fun _ => rfl)
              have d56 : av.eval (.tmp 56) = (.int .i64 i) := hD.1 rfl _ rfl
              have f56 := (ev_form av 56).symm.trans d56
              refine ⟨rfl, ?_⟩
              simp [go_sem, f56, y0, y1, y2, y3]
            case s8 =>
              refine step_val (v := (.int .u64 (n / 2 ^ (8 * i)))) (fun av wv hE hS hO hD => ?_) (fun _ => rfl)
              have d55 : av.eval (.tmp 55) = (.int .u64 n) := hD.1 rfl _ rfl
              have f55 := (ev_form av 55).symm.trans d55
              have d57 : av.eval (.tmp 57) = (.int .i64 (8 * (i : Int))) := hD.2.1 rfl _ rfl
              have f57 := (ev_form av 57).symm.trans d57
              refine ⟨rfl, ?_⟩
              simp [go_sem, f55, f57, y0, y1, y2, y3]
            case s9 =>
              refine step_val (v := (.int .u8 x)) (fun av wv hE hS hO hD => ?_) (fun _ => rfl)
              have d58 : av.eval (.tmp 58) = (.int .u64 (n / 2 ^ (8 * i))) := hD.1 rfl _ rfl
              have f58 := (ev_form av 58).symm.trans d58
              refine ⟨rfl, ?_⟩
              simp [go_sem, f58, y0, y1, y2, y3]
            case s10 =>
              refine step_wp (fun av wv hE hS hO hD => ?_)
              have d59 : av.eval (.tmp 59) = (.int .u8 x) := hD.1 rfl _ rfl
              have f59 := (ev_form av 59).symm.trans d59
              refine ⟨rfl, ?_⟩
              refine wp_of_run (v := .slice (some ⟨wv.heap.size, 0, none⟩) 1 1) (w' := wv.alloc (.cells ([.int .u8 x]).toArray 5)) (by first | (simp [go_sem, f59, y0, y1, y2, y3]; done) | (simp [go_sem, f59, y0, y1, y2, y3]; rfl)) ⟨_, rfl, es_of_ext (balloc (Ext_refl _) _), wv.heap.size, rfl, ?_, heap_alloc_new _ _⟩
              exact fun e => absurd (HQ.out _ e.symm).2 (by have := hE.size; simp at this; omega)
            case s11 =>
              refine step_wp (fun av wv hE hS hO hD => ?_)
              have d54 : av.eval (.tmp 54) = (v) := hD.1 rfl _ rfl
              have f54 := (ev_form av 54).symm.trans d54
              have d60 : (fun u w' => ∃ b, u = .slice (some ⟨b, 0, none⟩) 1 1 ∧ some b ≠ v.ownBlock ∧ w'.heap[b]? = some (.cells ([.int .u8 x]).toArray 5 (0, 0))) (av.eval (.tmp 60)) wv := hD.2.1 rfl _ rfl
              refine ⟨rfl, ?_⟩
              obtain ⟨bS, hS1, hbS, hcS⟩ := d60
              have hown1 : wv.ownsRow (base) 5 1 (v) (t.size) (Lib.strCells t) := own_below (w := World.drew _) (HOWN.out) (hS rfl)
              refine wp_append_lies wv _ _ _ rfl (base) 5 i0 (.int .u8 0) 1 1 Tryz.underlying41 hi hz0 hz1 hz2 rfl (by decide) (v) (t.size) _ d54 hown1 ⟨bS, 0, none⟩ 1 1 ([.int .u8 x]) (by exact hS1) rfl (World.news_of_block hcS) (one_u8 _) (by decide) (by unfold maxLen; omega) (by omega) (by have := hE.size; simp at this; omega) _ rfl ?_
              intro g cap1 w2 hown2 hgrow hat hlt2
              exact ⟨_, rfl, es_sp hgrow, hown2⟩
            case s12 =>
              refine step_val (v := (.pointer (some ⟨b, 0, none⟩))) (fun av wv hE hS hO hD => ?_) (fun _ => rfl)
              have d50 : av.eval (.tmp 50) = (.pointer (some ⟨b, 0, none⟩)) := hD.1 rfl _ rfl
              have f50 := (ev_form av 50).symm.trans d50
              refine ⟨rfl, ?_⟩
              simp [go_sem, f50, y0, y1, y2, y3]
            case s13 =>
              refine step_val (v := (.pointer (some ⟨b, 0, none⟩))) (fun av wv hE hS hO hD => ?_) (fun _ => rfl)
              have d62 : av.eval (.tmp 62) = (.pointer (some ⟨b, 0, none⟩)) := hD.1 rfl _ rfl
              have f62 := (ev_form av 62).symm.trans d62
              refine ⟨rfl, ?_⟩
              simp [go_sem, f62, y0, y1, y2, y3]
            intro a' w' hE hO hall
            have hA := act_of_outer (ds := [50, 51, 52, 53, 54, 55, 56, 57, 58, 59, 60, 61, 62, 63]) rfl hO (by kernel_rfl)
            have e50 : (fun u _ => u = (.pointer (some ⟨b, 0, none⟩))) (a'.eval (.tmp 50)) w' := hall.1 _ rfl
            have e51 : (fun u _ => u = (.pointer (some ⟨b, 0, none⟩))) (a'.eval (.tmp 51)) w' := hall.2.1 _ rfl
            have e52 : (fun u _ => u = (.pointer (some ⟨b, 0, none⟩))) (a'.eval (.tmp 52)) w' := hall.2.2.1 _ rfl
            have e53 : (fun u _ => u = (.pointer (some ⟨b, 0, none⟩))) (a'.eval (.tmp 53)) w' := hall.2.2.2.1 _ rfl
            have e54 : (fun u _ => u = (v)) (a'.eval (.tmp 54)) w' := hall.2.2.2.2.1 _ rfl
            have e55 : (fun u _ => u = (.int .u64 n)) (a'.eval (.tmp 55)) w' := hall.2.2.2.2.2.1 _ rfl
            have e56 : (fun u _ => u = (.int .i64 i)) (a'.eval (.tmp 56)) w' := hall.2.2.2.2.2.2.1 _ rfl
            have e57 : (fun u _ => u = (.int .i64 (8 * (i : Int)))) (a'.eval (.tmp 57)) w' := hall.2.2.2.2.2.2.2.1 _ rfl
            have e58 : (fun u _ => u = (.int .u64 (n / 2 ^ (8 * i)))) (a'.eval (.tmp 58)) w' := hall.2.2.2.2.2.2.2.2.1 _ rfl
            have e59 : (fun u _ => u = (.int .u8 x)) (a'.eval (.tmp 59)) w' := hall.2.2.2.2.2.2.2.2.2.1 _ rfl
            have e60 : (fun u w' => ∃ b, u = .slice (some ⟨b, 0, none⟩) 1 1 ∧ some b ≠ v.ownBlock ∧ w'.heap[b]? = some (.cells ([.int .u8 x]).toArray 5 (0, 0))) (a'.eval (.tmp 60)) w' := hall.2.2.2.2.2.2.2.2.2.2.1 _ rfl
            have e61 : (fun u w' => w'.ownsRow (base) 5 1 u (t.size + 1) (Lib.strCells t ++ [.int .u8 x])) (a'.eval (.tmp 61)) w' := hall.2.2.2.2.2.2.2.2.2.2.2.1 _ rfl
            have e62 : (fun u _ => u = (.pointer (some ⟨b, 0, none⟩))) (a'.eval (.tmp 62)) w' := hall.2.2.2.2.2.2.2.2.2.2.2.2.1 _ rfl
            have e63 : (fun u _ => u = (.pointer (some ⟨b, 0, none⟩))) (a'.eval (.tmp 63)) w' := hall.2.2.2.2.2.2.2.2.2.2.2.2.2.1 _ rfl
            obtain ⟨v60, hv60⟩ : ∃ v, a'.eval (.tmp 60) = v := ⟨_, rfl⟩
            rw [hv60] at e60
            obtain ⟨v61, hv61⟩ : ∃ v, a'.eval (.tmp 61) = v := ⟨_, rfl⟩
            rw [hv61] at e61
            simp only [List.foldl_cons, List.foldl_nil, Act.put, List.setIfInBounds_toArray, List.set_cons_succ, List.set_cons_zero, e50, e51, e52, e53, e54, e55, e56, e57, e58, e59, hv60, hv61, e62, e63] at hA
            clear hO hall e50 e51 e52 e53 e54 e55 e56 e57 e58 e59 hv60 hv61 e62 e63
            subst hA
            obtain ⟨ga, gc, rfl⟩ := own_slice e61
            have hst := wr_step (s' := t ++ baL [toB x]) hbase VV2.out HOWN.out hE (by rw [baL_one]; exact e61) (by rw [strCells_app, strCells_one hx0.1 hx0.2])
            have HST := Lib.hid hst
            have hc4 := hst.1
            have hf4 := hst.2.1
            clear hst hE e61 c1 c2 c4 n1 n2 n4
            go_wp2
            go_roundg i
            case rel => exact ⟨by omega, by go_num, by rw [HT.out]; exact HST.out.2.2.1, HWK.out.trans HST.out.2.2.2⟩
            case measure => omega
  · have HX : Hid (decide (n < r.below ∨ r.below = 0) = false) := Lib.hid (decide_eq_false hx)
    have g1 : decide (r.below ≤ n) = true := by simp; omega
    have g2 : decide (0 < r.below) = true := by have := HR.out.b0; simp; omega
    have HNX := Lib.hid hx
    clear hx
    go_enter Tryz.func291, Tryz.ntmps291
    go_wp2
    go_ret
    exact ⟨ret_bool HX.out.symm, by rw [if_neg HNX.out]; exact HWR.out.below (by (repeat (first | exact Below.refl _ _ | assumption | (refine bdrew ?_) | (refine bdrewN ?_ _) | (refine balloc ?_ _) | (refine bset ?_ (by first | omega | (simp; done) | (simp; omega)) _) | (refine bnext ?_ (by assumption))))), WK.of_below (by (repeat (first | exact Below.refl _ _ | assumption | (refine bdrew ?_) | (refine bdrewN ?_ _) | (refine balloc ?_ _) | (refine bset ?_ (by first | omega | (simp; done) | (simp; omega)) _) | (refine bnext ?_ (by assumption))))) (by have := HWR.out.1; have := HWR.out.lt; omega)⟩
end Go.Proofs.YtpobhbdomldecaaGreatDoor
namespace Go.Proofs.YtpobhbdomldecaaGreatDoor
open Go.RowKit
set_option linter.unusedSimpArgs false
set_option linter.unusedVariables false
structure PTab (B : Nat) (w : World) : Prop where
  glob : 5 < B
  size : B ≤ w.heap.size
  tab : ∀ k, k < 5 → ∃ tb tq rc, tb < B ∧ w.cell? ⟨5, k, none⟩ = some (.slice (some ⟨tb, tq, none⟩) (len (hrowsP k)) rc) ∧ PRows w (some ⟨tb, tq, none⟩) (hrowsP k)
theorem PTab.keep {B B' : Nat} {w w' : World} (h : PTab B w) (hb : Below B' w w') (hB : B ≤ B') : PTab B w' := by
  refine ⟨h.glob, Nat.le_trans h.size hb.size, fun k hk => ?_⟩
  obtain ⟨tb, tq, rc, h1, h2, h3⟩ := h.tab k hk
  have e : ∀ b o, b < B → w'.cell? ⟨b, o, none⟩ = w.cell? ⟨b, o, none⟩ := fun b o hb2 => hb.cell (p := ⟨b, o, none⟩) (Nat.lt_of_lt_of_le hb2 hB)
  refine ⟨tb, tq, rc, h1, (e _ _ h.glob).trans h2, fun i hi => ?_⟩
  obtain ⟨b, off, e2, c0, c1, c2⟩ := h3 i hi
  cases e2
  exact ⟨tb, tq, rfl, (e _ _ h1).trans c0, (e _ _ h1).trans c1, (e _ _ h1).trans c2⟩
theorem rowsP_pos (k : Nat) : 0 < len (hrowsP k) := by
  unfold hrowsP; split <;> simp [len]
theorem rowsP_ok {sort : Nat} {n : Int} (h0 : 0 ≤ n) (i : Nat) (hi : i < len (hrowsP sort)) : (prth (hrowsP sort) i).Ok n := by
  have hi' : i < (hrowsP sort).length := hi
  rw [prth_eq _ i hi']
  have hm : (hrowsP sort)[i] ∈ hrowsP sort := List.getElem_mem _
  generalize (hrowsP sort)[i] = r at hm
  unfold hrowsP at hm
  split at hm <;> simp at hm
  · rcases hm with rfl | rfl <;> exact ⟨by decide, by decide, by decide, by decide, by decide, by decide, fun h => by simp at h⟩
  · rcases hm with rfl | rfl | rfl
    · exact ⟨by decide, by decide, by decide, by decide, by decide, by decide, fun _ h => by simp at h; simp; omega⟩
    · exact ⟨by decide, by decide, by decide, by decide, by decide, by decide, fun h => by simp at h⟩
    · exact ⟨by decide, by decide, by decide, by decide, by decide, by decide, fun h => by simp at h⟩
  · rcases hm with rfl | rfl
    · exact ⟨by decide, by decide, by decide, by decide, by decide, by decide, fun _ h => by simp at h; simp; omega⟩
    · exact ⟨by decide, by decide, by decide, by decide, by decide, by decide, fun h => by simp at h⟩
  · rcases hm with rfl | rfl
    · exact ⟨by decide, by decide, by decide, by decide, by decide, by decide, fun _ h => by simp at h; simp; omega⟩
    · exact ⟨by decide, by decide, by decide, by decide, by decide, by decide, fun h => by simp at h⟩
  · rcases hm with rfl | rfl | rfl | rfl | rfl
    · exact ⟨by decide, by decide, by decide, by decide, by decide, by decide, fun _ h => by simp at h; simp; omega⟩
    all_goals exact ⟨by decide, by decide, by decide, by decide, by decide, by decide, fun h => by simp at h⟩
theorem headP_at {sort i : Nat} {n : Int} (hi : i < len (hrowsP sort)) (hn : ∀ j, j < i → ¬ (n < (prth (hrowsP sort) j).below ∨ (prth (hrowsP sort) j).below = 0)) (hy : n < (prth (hrowsP sort) i).below ∨ (prth (hrowsP sort) i).below = 0) : headP sort n = rowB (prth (hrowsP sort) i) n := by
  have hi' : i < (hrowsP sort).length := hi
  have hf : (hrowsP sort).find? (fun r => decide (n < r.below ∨ r.below = 0)) = some (prth (hrowsP sort) i) := by
    rw [prth_eq _ i hi'] at hy ⊢
    rw [List.find?_eq_some_iff_getElem]
    refine ⟨by simpa using hy, i, hi', rfl, fun j hj => ?_⟩
    have := hn j hj
    rw [prth_eq _ j (by omega)] at this
    simpa using this
  unfold headP
  rw [hf]
theorem headP_end {sort : Nat} {n : Int} (hn : ∀ j, j < len (hrowsP sort) → ¬ (n < (prth (hrowsP sort) j).below ∨ (prth (hrowsP sort) j).below = 0)) : headP sort n = [] := by
  have hf : (hrowsP sort).find? (fun r => decide (n < r.below ∨ r.below = 0)) = none := by
    rw [List.find?_eq_none]
    intro x hx
    obtain ⟨j, hj, rfl⟩ := List.getElem_of_mem hx
    have := hn j hj
    rw [prth_eq _ j hj] at this
    simpa using this
  unfold headP
  rw [hf]
theorem prows_keep {w w' : World} {tb tq B B' : Nat} {l : List PRow} (h : PRows w (some ⟨tb, tq, none⟩) l) (htb : tb < B) (hb : Below B' w w') (hB : B ≤ B') : PRows w' (some ⟨tb, tq, none⟩) l := fun i hi => by
  have e : ∀ o, w'.cell? ⟨tb, o, none⟩ = w.cell? ⟨tb, o, none⟩ := fun o => hb.cell (p := ⟨tb, o, none⟩) (Nat.lt_of_lt_of_le htb hB)
  obtain ⟨b, off, e2, c0, c1, c2⟩ := h i hi
  cases e2
  exact ⟨tb, tq, rfl, (e _).trans c0, (e _).trans c1, (e _).trans c2⟩
def HeadOut (s' : ByteArray) (b base : Nat) (w : World) (e : Ending) (w' : World) : Prop := e = .returned (.tuple #[]) ∧ WrB w' b base s' ∧ WK base b w w'
set_option maxRecDepth 100000 in
set_option maxHeartbeats 4000000 in
theorem phead_any (B b base sort : Nat) (n : Int) (s : ByteArray) (w : World) (ht : PTab B w) (hB : B ≤ base) (hW : WrB w b base s) (h5 : sort < 5) (h0 : 0 ≤ n) (h1 : n ≤ 18446744073709551615) (hs : s.size ≤ 70000000000000) :
    Calls Tryz.prog 263 #[.pointer (some ⟨b, 0, none⟩), .int .i64 sort, .int .u64 n] w (HeadOut (s ++ baL (headP sort n)) b base w) := by
  have HT := Lib.hid ht
  have HWR := Lib.hid hW
  obtain ⟨tb, tq, rc, htb, hg, hrows⟩ := ht.tab sort h5
  have HROWS := Lib.hid hrows
  have HBS : Hid (base ≤ w.heap.size) := Lib.hid (by have := hW.1; have := hW.lt; omega)
  have hgl : 5 < w.heap.size := lt_of_cell hg
  have i5 : (sort : Int) < 5 := by omega
  have eg := enters_of Tryz.func291 (by kernel_rfl) rfl
  clear hrows ht hW
  obtain ⟨nr, hnr⟩ : ∃ nr, len (hrowsP sort) = nr := ⟨_, rfl⟩
  have HNR := Lib.hid hnr
  have nr5 : nr ≤ 5 := by rw [← hnr]; unfold hrowsP; split <;> simp [len]
  rw [hnr] at hg
  clear hnr
  go_enter Tryz.func263, Tryz.ntmps263
  go_wp2
  obtain ⟨bw, hbw⟩ : ∃ bw, w.heap.size = bw := ⟨_, rfl⟩
  obtain ⟨V, hV⟩ : ∃ V, (w.alloc (.cells #[.pointer (some ⟨b, 0, none⟩)] 177)).alloc (.cells #[.int .u64 n] 23) = V := ⟨_, rfl⟩
  have VW : Hid (V.heap[bw]? = some (.cells #[.pointer (some ⟨b, 0, none⟩)] 177 (0, 0))) := Lib.hid (by rw [← hV, ← hbw]; exact block_alloc (heap_alloc_new _ _) _)
  have VN : Hid (V.heap[bw + 1]? = some (.cells #[.int .u64 n] 23 (0, 0))) := Lib.hid (by rw [← hV, ← hbw]; exact alloc_new_at _ (by simp))
  have VB : Hid (Below w.heap.size w V) := Lib.hid (by rw [← hV]; (repeat (first | exact Below.refl _ _ | assumption | (refine bdrew ?_) | (refine bdrewN ?_ _) | (refine balloc ?_ _) | (refine bset ?_ (by first | omega | (simp; done) | (simp; omega)) _) | (refine bnext ?_ (by assumption)))))
  have HWV : Hid (WrB V b base s) := Lib.hid (HWR.out.below VB.out)
  have hbb : Hid (b < bw) := Lib.hid (by rw [← hbw]; exact HWR.out.lt)
  have HBV : Hid (base ≤ V.heap.size) := Lib.hid (by have := VB.out.size; have := HBS.out; omega)
  rw [hbw]
  try rw [hV]
  clear hV hbw hgl
  go_loopg [14] nr (fun g i wr => ∃ m : Nat, g + m = nr ∧ i = .int .i64 m ∧ Hid (∀ j, j < m → ¬ (n < (prth (hrowsP sort) j).below ∨ (prth (hrowsP sort) j).below = 0)) ∧ Hid (WrB wr b base s) ∧ Hid (WK base b V wr))
  case atStart => exact ⟨0, rfl, rfl, fun j hj => by omega, HWV.out, WK.refl _ _ _⟩
  case round =>
    clear HWV
    obtain ⟨m, hm, rfl, HN, HWW, HWK⟩ := hrel
    by_cases hlt : m < nr
    · have i1 : (m : Int) < nr := by omega
      obtain ⟨rb, ro, hre, c0, c1, c2⟩ := prows_keep (prows_keep HROWS.out htb VB.out (Nat.le_trans hB HBS.out)) htb HWK.out.bel hB m (by rw [HNR.out]; exact hlt)
      cases hre
      obtain ⟨r, hr⟩ : ∃ r, prth (hrowsP sort) m = r := ⟨_, rfl⟩
      have HRE := Lib.hid hr
      rw [hr] at c0 c1 c2
      clear hr
      have n8n : Not8 (.cells #[.int .u64 n] 23 (0, 0)) := not8_cells (by decide)
      have n8b : Not8 (.cells #[.pointer (some ⟨b, 0, none⟩)] 177 (0, 0)) := not8_cells (by decide)
      go_wp2_with fail
      refine (head1_any r (bw + 1) bw b base n s _ (block_alloc (HWK.out.keep _ _ VN.out (by have := hbb.out; omega) n8n) _) (block_alloc (HWK.out.keep _ _ VW.out (by have := hbb.out; omega) n8b) _) (HWW.out.below (balloc (Below.refl _ _) _)) h0 h1 (by rw [← HRE.out]; exact rowsP_ok h0 m (by rw [HNR.out]; exact hlt)) hs).mono ?_
      rintro e w6 ⟨rfl, hw6, hk6⟩
      have HK6 : Hid (WK base b V w6) := Lib.hid ((HWK.out.next (balloc (Below.refl _ _) _) HBV.out).trans hk6)
      have HW6 := Lib.hid hw6
      clear hw6 hk6 HWK HWW c0 c1 c2 n8n n8b
      by_cases hx : n < r.below ∨ r.below = 0
      · rw [decide_eq_true hx]
        rw [if_pos hx] at HW6
        have HP : Hid (headP sort n = rowB r n) := Lib.hid (by rw [← HRE.out]; exact headP_at (by rw [HNR.out]; exact hlt) HN.out (by rw [HRE.out]; exact hx))
        clear hx
        go_wp2
        refine bodyPost_ret (results_none rfl _ _ _) rfl ?_
        refine ⟨rfl, ?_, (WK.of_below VB.out HBS.out).trans HK6.out⟩
        rw [HP.out]; exact HW6.out
      · rw [decide_eq_false hx]
        rw [if_neg hx] at HW6
        have HN2 : Hid (∀ j, j < m + 1 → ¬ (n < (prth (hrowsP sort) j).below ∨ (prth (hrowsP sort) j).below = 0)) := Lib.hid (fun j hj => by
          by_cases e : j = m
          · subst e; rw [HRE.out]; exact hx
          · exact HN.out j (by omega))
        clear hx
        go_wp2
        go_roundg (nr - (m + 1))
        case rel => exact ⟨m + 1, by omega, by go_num, HN2.out, HW6.out, HK6.out⟩
        case measure => omega
    · obtain rfl : m = nr := by omega
      have i1 : ¬ (m : Int) < m := by omega
      go_wp2
      go_end0
      refine ⟨rfl, ?_, (WK.of_below VB.out HBS.out).trans HWK.out⟩
      rw [headP_end (fun j hj => HN.out j (by rw [HNR.out] at hj; exact hj))]
      have e : s ++ baL [] = s := ba_ext (by simp [baL])
      rw [e]; exact HWW.out
end Go.Proofs.YtpobhbdomldecaaGreatDoor
namespace Go.Proofs.YtpobhbdomldecaaGreatDoor
open Go.RowKit
set_option linter.unusedSimpArgs false
set_option linter.unusedVariables false
def catB : List ByteArray → ByteArray
  | [] => ByteArray.empty
  | x :: r => x ++ catB r
theorem catB_app : ∀ a b : List ByteArray, catB (a ++ b) = catB a ++ catB b
  | [], b => by simp [catB]
  | x :: r, b => by rw [List.cons_append, catB, catB_app r b, catB, ByteArray.append_assoc]
theorem catB_snoc (a : List ByteArray) (x : ByteArray) : catB (a ++ [x]) = catB a ++ x := by rw [catB_app]; simp [catB]
structure FSpec where
  key : ByteArray
  must : Bool
  empty : Bool
  may : Bool
  bytes : ByteArray
def strP (s : ByteArray) : ByteArray := laidP 2 s.size s
def binP (s : ByteArray) : ByteArray := laidP 1 s.size s
def numP (n : Int) : ByteArray := laidP 0 n ByteArray.empty
def mapP (n : Nat) : ByteArray := laidP 4 n ByteArray.empty
def fieldP (f : FSpec) : ByteArray := strP f.key ++ f.bytes
def keptF (l : List FSpec) : List FSpec := l.filter fun f => !f.empty
def layP (l : List FSpec) : ByteArray := mapP (keptF l).length ++ catB ((keptF l).map fieldP)
def allMay (l : List FSpec) : Bool := l.all fun f => f.may
def rkept (l : List (ByteArray × ByteArray)) : List (ByteArray × ByteArray) := l.filter fun p => decide (p.2.size ≠ 0)
end Go.Proofs.YtpobhbdomldecaaGreatDoor

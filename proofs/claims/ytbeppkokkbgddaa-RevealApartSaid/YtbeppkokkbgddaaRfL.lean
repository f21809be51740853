/- The reference of layer 18: New, Total, Find. -/
import Derived.Test.YtbeppkokkbgddaaRfP
namespace Go.Proofs.Ytbeppkokkbgddaa
open Go.RowKit
set_option linter.unusedSimpArgs false
set_option linter.unusedVariables false

/-- A reference's layout as it lies in the heap. -/
def RLay (w : World) (B : Nat) (Ws : List Int) (Ss : List Bool) : Prop :=
  ∃ wa sa wc sc, w.heap[B]? = some (.cells #[.slice wa (len Ws) wc, .slice sa (len Ws) sc] 88 (0, 0)) ∧ U64s w wa Ws ∧ Bls w sa Ss
theorem RLay.below {w w' : World} {B : Nat} {Ws : List Int} {Ss : List Bool} (h : RLay w B Ws Ss) (hb : Below w.heap.size w w') : RLay w' B Ws Ss := by
  obtain ⟨wa, sa, wc, sc, h1, h2, h3⟩ := h
  exact ⟨wa, sa, wc, sc, (hb.block _ (lt_of_block h1)).trans h1, h2.below hb, h3.below hb⟩

set_option maxRecDepth 100000 in
set_option maxHeartbeats 4000000 in
theorem ahead_any (B : Nat) (Ws : List Int) (Ss : List Bool) (n : Nat) (w : World) (hl : RLay w B Ws Ss) (hs : Ss.length = len Ws) (hw : Wts Ws) (hn : n ≤ len Ws) (hlen : len Ws ≤ 1000) (hsm : smK Ws Ss (len Ws) < 18446744073709551616) :
    Calls Try.prog 52 #[.pointer (some ⟨B, 0, none⟩), .int .i64 n] w fun e w' => e = .returned (.int .u64 (smK Ws Ss n)) ∧ w = w' := by
  obtain ⟨wa, sa, wc, sc, h1, h2, h3⟩ := hl
  have H2 := Lib.hid h2
  have H3 := Lib.hid h3
  have HS := Lib.hid hs
  have HW := Lib.hid hw
  have HSM := Lib.hid hsm
  have c0 := block_cell h1 0
  have c1 := block_cell h1 1
  clear h1 h2 h3 hs hw hsm
  simp only [List.getElem?_toArray, List.getElem?_cons_zero, List.getElem?_cons_succ] at c0 c1
  go_enter Try.func52, Try.ntmps52
  go_wp2
  go_loopg [5, 6] n (fun g s i wr => ∃ m : Nat, g + m = n ∧ s = .int .u64 (smK Ws Ss m) ∧ i = .int .i64 m ∧ w = wr)
  case atStart => exact ⟨0, rfl, rfl, rfl, rfl⟩
  case round =>
    obtain ⟨m, hm, rfl, rfl, rfl⟩ := hrel
    by_cases hlt : m < n
    · obtain ⟨b, off, rfl, cs⟩ := H3.out m (by have := HS.out; omega)
      obtain ⟨b2, off2, rfl, cw⟩ := H2.out m (by omega)
      have i0 : (m : Int) < n := by omega
      have i1 : (m : Int) < len Ws := by omega
      have i2 : m < len Ws := by omega
      by_cases hsg : sg Ss m = true
      · have hsg2 : Ss.getD m false = true := hsg
        rw [hsg2] at cs
        have hb1 := smK_mono HW.out Ss (j := m + 1) (k := len Ws) (by omega) (Nat.le_refl _)
        have hb0 := smK_nonneg HW.out Ss m (by omega)
        rw [smK_on hsg] at hb1
        have hb2 := HSM.out
        have hb3 := (HW.out m i2).1
        have HSG := Lib.hid hsg
        obtain ⟨s0, hs0⟩ : ∃ s0, smK Ws Ss m = s0 := ⟨_, rfl⟩
        obtain ⟨x0, hx0⟩ : ∃ x0, nth Ws m = x0 := ⟨_, rfl⟩
        rw [hs0, hx0] at hb1
        rw [hs0] at hb0
        rw [hx0] at hb3 cw
        have ew : IntKind.u64.wrap (s0 + x0) = s0 + x0 := IntWalk.u64_in _ (by omega)
        have HE : Hid (smK Ws Ss (m + 1) = s0 + x0) := Lib.hid (by rw [smK_on hsg, hs0, hx0])
        rw [hs0]
        clear hsg hsg2 hs0 hx0
        go_wp2
        go_roundg (n - (m + 1))
        case rel => exact ⟨m + 1, by omega, by rw [HE.out], by go_num, rfl⟩
        case measure => omega
      · have hsg2 : Ss.getD m false = false := by simpa [sg] using hsg
        rw [hsg2] at cs
        have HE : Hid (smK Ws Ss (m + 1) = smK Ws Ss m) := Lib.hid (smK_off (by simpa using hsg))
        clear hsg hsg2
        go_wp2
        go_roundg (n - (m + 1))
        case rel => exact ⟨m + 1, by omega, by rw [HE.out], by go_num, rfl⟩
        case measure => omega
    · obtain rfl : m = n := by omega
      have i0 : ¬ (m : Int) < m := by omega
      go_wp2
      go_ret
      exact ⟨rfl, rfl⟩
theorem rtotal_any (B : Nat) (Ws : List Int) (Ss : List Bool) (w : World) (hl : RLay w B Ws Ss) (hs : Ss.length = len Ws) (hw : Wts Ws) (hlen : len Ws ≤ 1000) (hsm : smK Ws Ss (len Ws) < 18446744073709551616) :
    Calls Try.prog 30 #[.pointer (some ⟨B, 0, none⟩)] w fun e w' => e = .returned (.int .u64 (smK Ws Ss (len Ws))) ∧ w = w' := by
  have H := Lib.hid (ahead_any B Ws Ss (len Ws) w hl hs hw (Nat.le_refl _) hlen hsm)
  obtain ⟨wa, sa, wc, sc, h1, h2, h3⟩ := hl
  have c0 := block_cell h1 0
  clear h1 h2 h3 hs hw hsm
  simp only [List.getElem?_toArray, List.getElem?_cons_zero] at c0
  go_enter Try.func30, Try.ntmps30
  go_wp2_with fail
  refine H.out.mono ?_
  rintro e w' ⟨rfl, rfl⟩
  go_wp2
  go_ret
  exact ⟨rfl, rfl⟩

set_option maxRecDepth 100000 in
set_option maxHeartbeats 4000000 in
theorem rfind_any (B : Nat) (Ws : List Int) (Ss : List Bool) (c : Int) (w : World) (hl : RLay w B Ws Ss) (hs : Ss.length = len Ws) (hw : Wts Ws) (hlen : len Ws ≤ 1000) (hc0 : 0 ≤ c) (hc1 : c < 18446744073709551616) :
    Calls Try.prog 57 #[.pointer (some ⟨B, 0, none⟩), .int .u64 c] w fun e w' => e = .returned (rfindV Ws Ss c) ∧ w = w' := by
  obtain ⟨wa, sa, wc, sc, h1, h2, h3⟩ := hl
  have H2 := Lib.hid h2
  have H3 := Lib.hid h3
  have HS := Lib.hid hs
  have HW := Lib.hid hw
  have c0 := block_cell h1 0
  have c1 := block_cell h1 1
  clear h1 h2 h3 hs hw
  simp only [List.getElem?_toArray, List.getElem?_cons_zero, List.getElem?_cons_succ] at c0 c1
  go_enter Try.func57, Try.ntmps57
  go_wp2
  go_loopg [6, 7] (len Ws) (fun g l i wr => ∃ m : Nat, ∃ q : Int, g + m = len Ws ∧ l = .int .u64 q ∧ i = .int .i64 m ∧ w = wr ∧ Hid (smK Ws Ss m + q = c ∧ 0 ≤ q))
  case atStart => exact ⟨0, c, rfl, rfl, rfl, rfl, by simp [smK], hc0⟩
  case round =>
    obtain ⟨m, q, hm, rfl, rfl, rfl, hq⟩ := hrel
    by_cases hlt : m < len Ws
    · obtain ⟨b, off, rfl, cs⟩ := H3.out m (by have := HS.out; omega)
      obtain ⟨b2, off2, rfl, cw⟩ := H2.out m (by omega)
      have i1 : (m : Int) < len Ws := by omega
      by_cases hsg : sg Ss m = true
      · have hsg2 : Ss.getD m false = true := hsg
        rw [hsg2] at cs
        have hb0 := smK_nonneg HW.out Ss m (by omega)
        have hb3 := HW.out m hlt
        have hqq := hq.out
        by_cases hlq : q < nth Ws m
        · have HF := Lib.hid (rfind_at HW.out hlt hsg (c := c) (by omega) (by omega))
          have im : IntKind.u64.wrap (m : Int) = m := IntWalk.u64_in _ (by omega)
          obtain ⟨x0, hx0⟩ : ∃ x0, nth Ws m = x0 := ⟨_, rfl⟩
          rw [hx0] at hlq cw
          clear hsg hsg2 hqq hx0 hb0 hb3 hq
          go_wp2
          go_ret2
          exact ⟨by rw [HF.out]; rfl, rfl⟩
        · have HE : Hid (smK Ws Ss (m + 1) + (q - nth Ws m) = c ∧ 0 ≤ q - nth Ws m) := Lib.hid ⟨by rw [smK_on hsg]; omega, by omega⟩
          obtain ⟨x0, hx0⟩ : ∃ x0, nth Ws m = x0 := ⟨_, rfl⟩
          rw [hx0] at hlq cw HE hb3
          have ew : IntKind.u64.wrap (q - x0) = q - x0 := IntWalk.u64_in _ (by omega)
          clear hsg hsg2 hqq hx0 hb0 hb3 hq
          go_wp2
          go_roundg (len Ws - (m + 1))
          case rel => exact ⟨m + 1, q - x0, by omega, by rfl, by go_num, rfl, HE.out⟩
          case measure => omega
      · have hsg2 : Ss.getD m false = false := by simpa [sg] using hsg
        rw [hsg2] at cs
        have HE : Hid (smK Ws Ss (m + 1) + q = c ∧ 0 ≤ q) := Lib.hid (by rw [smK_off (by simpa using hsg)]; exact hq.out)
        clear hsg hsg2 hq
        go_wp2
        go_roundg (len Ws - (m + 1))
        case rel => exact ⟨m + 1, q, by omega, by rfl, by go_num, rfl, HE.out⟩
        case measure => omega
    · obtain rfl : m = len Ws := by omega
      have i0 : ¬ ((len Ws : Nat) : Int) < len Ws := by omega
      have HF := Lib.hid (rfind_none HW.out (Ss := Ss) (c := c) (by have := hq.out; omega))
      clear hq
      go_wp2
      go_ret2
      exact ⟨by rw [HF.out]; rfl, rfl⟩

def RNewIs (Ws : List Int) (Ss : List Bool) (w : World) (e : Ending) (w' : World) : Prop :=
  ((∃ k, k ≤ len Ws ∧ 18446744073709551616 ≤ smK Ws Ss k) ∧ e = .returned (.tuple #[.pointer none, .int .i64 21]) ∧ Below w.heap.size w w') ∨
  ((∀ k, k ≤ len Ws → smK Ws Ss k < 18446744073709551616) ∧ ∃ B, e = .returned (.tuple #[.pointer (some ⟨B, 0, none⟩), .int .i64 0]) ∧ RLay w' B Ws Ss ∧ Below w.heap.size w w')

set_option maxRecDepth 100000 in
set_option maxHeartbeats 4000000 in
theorem rnew_any (a b : Option Addr) (ca cb : Nat) (Ws : List Int) (Ss : List Bool) (w : World) (ha : U64s w a Ws) (hb : Bls w b Ss) (hl : Ss.length = len Ws) (hn : len Ws ≤ 1000) (h1 : Wts Ws) :
    Calls Try.prog 28 #[.slice a (len Ws) ca, .slice b (len Ws) cb] w (RNewIs Ws Ss w) := by
  have HA := Lib.hid ha
  have HBB := Lib.hid hb
  have H1 := Lib.hid h1
  have HL := Lib.hid hl
  clear ha hb h1 hl
  go_enter Try.func28, Try.ntmps28
  go_wp2
  go_loopg [6] (len Ws) (fun g i wr => ∃ m : Nat, g + m = len Ws ∧ i = .int .i64 m ∧ w = wr)
  case atStart => exact ⟨0, rfl, rfl, rfl⟩
  case round =>
    obtain ⟨m, hm, rfl, rfl⟩ := hrel
    by_cases hlt : m < len Ws
    · obtain ⟨b2, off2, rfl, cw⟩ := HA.out m hlt
      have hb3 := (H1.out m hlt).1
      have i1 : (m : Int) < len Ws := by omega
      have e0 : (nth Ws m == 0) = false := by simp; omega
      clear hb3
      go_wp2
      go_roundg (len Ws - (m + 1))
      case rel => exact ⟨m + 1, by omega, by go_num, rfl⟩
      case measure => omega
    · obtain rfl : m = len Ws := by omega
      have i0 : ¬ ((len Ws : Nat) : Int) < len Ws := by omega
      clear hlt hm
      go_wp2
      clear i0
      go_loopg [7, 8] (len Ws) (fun g s i wr => ∃ m : Nat, g + m = len Ws ∧ s = .int .u64 (smK Ws Ss m) ∧ i = .int .i64 m ∧ w = wr ∧ Hid (∀ k, k ≤ m → smK Ws Ss k < 18446744073709551616))
      case atStart => exact ⟨0, rfl, rfl, rfl, rfl, fun k hk => by
        obtain rfl : k = 0 := by omega
        simp [smK]⟩
      case round =>
        obtain ⟨m, hm, rfl, rfl, rfl, hA⟩ := hrel
        by_cases hlt : m < len Ws
        · obtain ⟨b1, off1, rfl, cs⟩ := HBB.out m (by have := HL.out; omega)
          obtain ⟨b2, off2, rfl, cw⟩ := HA.out m (by omega)
          have i1 : (m : Int) < len Ws := by omega
          by_cases hsg : sg Ss m = true
          · have hsg2 : Ss.getD m false = true := hsg
            rw [hsg2] at cs
            have hb0 := smK_nonneg H1.out Ss m (by omega)
            have hb2 := hA.out m (Nat.le_refl _)
            have hb3 := H1.out m hlt
            have hstep := smK_on (Ws := Ws) hsg
            obtain ⟨s0, hs0⟩ : ∃ s0, smK Ws Ss m = s0 := ⟨_, rfl⟩
            obtain ⟨x0, hx0⟩ : ∃ x0, nth Ws m = x0 := ⟨_, rfl⟩
            rw [hs0] at hb0 hb2 hstep
            rw [hx0] at hb3 cw hstep
            have HST := Lib.hid hstep
            rw [hs0]
            clear hsg hsg2 hs0 hx0 hstep
            by_cases hov : s0 + x0 < 18446744073709551616
            · have ew : IntKind.u64.wrap (s0 + x0) = s0 + x0 := IntWalk.u64_in _ (by omega)
              have hnl : ¬ s0 + x0 < s0 := by omega
              have HA2 : Hid (∀ k, k ≤ m + 1 → smK Ws Ss k < 18446744073709551616) := Lib.hid (fun k hk => by
                by_cases e : k = m + 1
                · subst e; rw [HST.out]; exact hov
                · exact hA.out k (by omega))
              clear hA
              go_wp2
              go_roundg (len Ws - (m + 1))
              case rel => exact ⟨m + 1, by omega, by rw [HST.out], by go_num, rfl, HA2.out⟩
              case measure => omega
            · have ew : IntKind.u64.wrap (s0 + x0) = s0 + x0 - 18446744073709551616 := by rw [IntKind.wrap_u64]; omega
              have hnl : s0 + x0 - 18446744073709551616 < s0 := by omega
              have HX : Hid (∃ k, k ≤ len Ws ∧ 18446744073709551616 ≤ smK Ws Ss k) := Lib.hid ⟨m + 1, by omega, by rw [HST.out]; omega⟩
              clear hA
              go_wp2
              go_ret2
              exact .inl ⟨HX.out, rfl, Below.refl _ _⟩
          · have hsg2 : Ss.getD m false = false := by simpa [sg] using hsg
            rw [hsg2] at cs
            have HE : Hid (smK Ws Ss (m + 1) = smK Ws Ss m) := Lib.hid (smK_off (by simpa using hsg))
            have HA2 : Hid (∀ k, k ≤ m + 1 → smK Ws Ss k < 18446744073709551616) := Lib.hid (fun k hk => by
              by_cases e : k = m + 1
              · subst e; rw [HE.out]; exact hA.out m (Nat.le_refl _)
              · exact hA.out k (by omega))
            clear hsg hsg2 hA
            go_wp2
            go_roundg (len Ws - (m + 1))
            case rel => exact ⟨m + 1, by omega, by rw [HE.out], by go_num, rfl, HA2.out⟩
            case measure => omega
        · obtain rfl : m = len Ws := by omega
          have i0 : ¬ ((len Ws : Nat) : Int) < len Ws := by omega
          go_wp2
          go_ret2
          refine .inr ⟨hA.out, _, rfl, ⟨a, b, ca, cb, heap_alloc_new _ _, HA.out.below (balloc (Below.refl _ _) _), HBB.out.below (balloc (Below.refl _ _) _)⟩, by (repeat (first | exact Below.refl _ _ | assumption | (refine bdrew ?_) | (refine bdrewN ?_ _) | (refine balloc ?_ _) | (refine bset ?_ (by first | omega | (simp; done) | (simp; omega)) _) | (refine bnext ?_ (by assumption))))⟩
end Go.Proofs.Ytbeppkokkbgddaa

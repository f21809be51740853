/- The statement RevealKnown: the law. -/
import Derived.Test.YtbeppkokkbgddaaRvW
namespace Go.Proofs.Ytbeppkokkbgddaa
open Go.RowKit
set_option linter.unusedSimpArgs false
set_option linter.unusedVariables false

theorem choose_ok (B : Nat) (E W S coins ps rs : List Int) (a : Option Addr) (cap n : Nat) (w : World) (hc : U64s w a coins) (hlen : len coins ≤ 640) (hl : LayB w B E W S) (hew : len W = len E) (hn : len E ≤ 1000000) (hs : Ups E)
    (hall : ∀ c ∈ coins, cutN E c < len E) (hp : coins.map (fallN E W) = ps) (hr : srt (insAll ps) = rs) (hlc : len coins = n) :
    Calls Try.prog 31 #[.pointer (some ⟨B, 0, none⟩), .slice a n cap] w fun e w' => ∃ a1 c1 a2 c2, e = .returned (.tuple #[.slice a1 (len ps) c1, .slice a2 (len rs) c2, .int .i64 0]) ∧ U64s w' a1 ps ∧ U64s w' a2 rs ∧ Below w.heap.size w w' := by
  subst hlc
  refine (choose_any B E W S coins a cap w hc hlen hl hew hn hs).mono ?_
  rintro e w' h
  rcases h with ⟨-, v1, v2, rfl, o1, o2, hb⟩ | ⟨⟨c, hc1, hc2⟩, -, -⟩
  · rw [hp] at o1 o2
    rw [hr] at o2
    obtain ⟨a1, c1, h1, u1, _, _⟩ := own_u64 o1
    obtain ⟨a2, c2, h2, u2, _, _⟩ := own_u64 o2
    exact ⟨a1, c1, a2, c2, by rw [h1, h2], u1, u2, hb⟩
  · exact absurd (hall c hc1) hc2
theorem choose_bad (B : Nat) (E W S coins : List Int) (a : Option Addr) (cap n : Nat) (w : World) (hc : U64s w a coins) (hlen : len coins ≤ 640) (hl : LayB w B E W S) (hew : len W = len E) (hn : len E ≤ 1000000) (hs : Ups E)
    (hx : ∃ c ∈ coins, ¬ cutN E c < len E) (hlc : len coins = n) :
    Calls Try.prog 31 #[.pointer (some ⟨B, 0, none⟩), .slice a n cap] w (NoneIs 9 w) := by
  subst hlc
  refine (choose_any B E W S coins a cap w hc hlen hl hew hn hs).mono ?_
  rintro e w' h
  rcases h with ⟨hall, -⟩ | ⟨-, h⟩
  · obtain ⟨c, h1, h2⟩ := hx; exact absurd (hall c h1) h2
  · exact h
theorem new_ok (a b : Option Addr) (ca cb n : Nat) (Ws : List Int) (Ss : List Bool) (E W : List Int) (w : World) (ha : U64s w a Ws) (hb : Bls w b Ss) (hl : Ss.length = len Ws) (hn : len Ws ≤ 1000) (h1 : ∀ i, i < len Ws → 1 ≤ nth Ws i ∧ nth Ws i < 18446744073709551616)
    (hsm : ∀ k, k ≤ len Ws → smK Ws Ss k < 18446744073709551616) (hE : endK Ws Ss (len Ws) = E) (hW : whoK Ss (len Ws) = W) (hwn : len Ws = n) :
    Calls Try.prog 27 #[.slice a n ca, .slice b n cb] w fun e w' => ∃ B S, e = .returned (.tuple #[.pointer (some ⟨B, 0, none⟩), .int .i64 0]) ∧ LayB w' B E W S ∧ Below w.heap.size w w' := by
  subst hwn
  have h := new_any a b ca cb Ws Ss w ha hb hl hn h1
  rw [hl] at h
  refine h.mono ?_
  rintro e w' h
  rcases h with ⟨⟨k, hk, h2⟩, -, -⟩ | ⟨-, B, rfl, -, hlay, hb⟩
  · have := hsm k hk; omega
  · rw [hE, hW] at hlay
    exact ⟨B, _, rfl, hlay, hb⟩

def zu (n : Nat) : Array Value := madeCells (Value.int .u64 0).cells (n * 1)
theorem make_zu (k : Nat) (hk : k ≤ 641) (W : World) : (Instr.makeSlice 28 (.int .i64 (k : Int)) (.int .i64 (k : Int))).run Try.prog W = .ok (.slice (some ⟨W.heap.size, 0, none⟩) k k) (W.alloc (.cells (zu k) 22)) := by
  obtain ⟨i0, hi, hz0, hz1, hz2⟩ := info_parts info_u64
  have hr := run_make (P := Try.prog) W 28 22 i0 (.int .u64 0) Try.underlying28 hi hz0 .i64 .i64 k k (by omega) (Int.le_refl _) (by rw [hz2]; omega) (by omega)
  rw [hr, hz1]; rfl
theorem u64s_zu (k : Nat) (W : World) (b : Nat) {t : TypeId} {fr : Nat × Nat} (h : W.heap[b]? = some (.cells (zu k) t fr)) : U64s W (some ⟨b, 0, none⟩) (List.replicate k 0) := fun i hi => by
  have hi' : i < k := by simpa [len] using hi
  refine ⟨b, 0, rfl, ?_⟩
  rw [block_cell h]
  have e : (zu k)[0 + i]? = some (.int .u64 0) := by
    have := toList_madeCells_one (.int .u64 0) (k * 1)
    have h2 : (zu k).toList[0 + i]? = some (.int .u64 0) := by
      show (madeCells #[.int .u64 0] (k * 1)).toList[0 + i]? = _
      rw [this, List.getElem?_replicate]; simp; omega
    simpa using h2
  rw [e]
  unfold nth
  rw [List.getD_eq_getElem?_getD, List.getElem?_replicate, if_pos hi']; rfl

theorem zeros_len (k : Nat) : len (List.replicate k (0 : Int)) = k := by rw [len_eq, List.length_replicate]
theorem zeros_srt : srt (insAll (List.replicate 640 0)) = [0] := srt_of (insAll_all _).1 (by simp) (fun k => by rw [(insAll_all _).2.1, List.mem_replicate]; simp)

set_option maxRecDepth 100000 in
set_option maxHeartbeats 8000000 in
theorem known20_law (w : World) : Calls Try.prog 9 #[] w fun e w' => e = .returned (.bool true) ∧ Below w.heap.size w w' := by
  go_enter Try.func9, Try.ntmps9
  go_wp2_with fail
  obtain ⟨V, hV⟩ : ∃ V, (w.alloc (.cells #[.int .u64 5, .int .u64 3, .int .u64 2] 22)).alloc (.cells #[.bool true, .bool false, .bool true] 4) = V := ⟨_, rfl⟩
  have VB : Hid (Below w.heap.size w V) := Lib.hid (by rw [← hV]; (repeat (first | exact Below.refl _ _ | assumption | (refine bdrew ?_) | (refine bdrewN ?_ _) | (refine balloc ?_ _) | (refine bset ?_ (by first | omega | (simp; done) | (simp; omega)) _) | (refine bnext ?_ (by assumption)))))
  have V0 : Hid (V.heap[w.heap.size]? = some (.cells (List.map (Value.int .u64) [5, 3, 2]).toArray 22 (0, 0))) := Lib.hid (by rw [← hV]; exact block_alloc (heap_alloc_new _ _) _)
  have V1 : Hid (V.heap[w.heap.size + 1]? = some (.cells (List.map Value.bool [true, false, true]).toArray 4 (0, 0))) := Lib.hid (by rw [← hV]; exact alloc_new_at _ (by simp))
  try rw [hV]
  clear hV
  refine (new_ok (some ⟨w.heap.size, 0, none⟩) (some ⟨w.heap.size + 1, 0, none⟩) 3 3 3 [5, 3, 2] [true, false, true] [5, 7] [0, 2] V (u64s_lit V0.out) (bls_lit V1.out) rfl (by decide) (by decide) (by decide) (by decide) (by decide) rfl).mono ?_
  rintro e w1 ⟨B, S, rfl, hlay, hb⟩
  have LA := Lib.hid hlay
  have HB1 : Hid (Below w.heap.size w w1) := Lib.hid (bnext VB.out hb)
  clear hlay hb V0 V1 VB
  go_wp2_with fail
  obtain ⟨V2, hV2⟩ : ∃ V2, (w1.alloc (.cells #[.int .u64 5] 22)).alloc (.cells #[.bool false] 4) = V2 := ⟨_, rfl⟩
  have V2B : Hid (Below w1.heap.size w1 V2) := Lib.hid (by rw [← hV2]; exact balloc (balloc (Below.refl _ _) _) _)
  have V20 : Hid (V2.heap[w1.heap.size]? = some (.cells (List.map (Value.int .u64) [5]).toArray 22 (0, 0))) := Lib.hid (by rw [← hV2]; exact block_alloc (heap_alloc_new _ _) _)
  have V21 : Hid (V2.heap[w1.heap.size + 1]? = some (.cells (List.map Value.bool [false]).toArray 4 (0, 0))) := Lib.hid (by rw [← hV2]; exact alloc_new_at _ (by simp))
  try rw [hV2]
  clear hV2
  refine (new_ok (some ⟨w1.heap.size, 0, none⟩) (some ⟨w1.heap.size + 1, 0, none⟩) 1 1 1 [5] [false] [] [] V2 (u64s_lit V20.out) (bls_lit V21.out) rfl (by decide) (by decide) (by decide) (by decide) (by decide) rfl).mono ?_
  rintro e w2 ⟨B2, S2, rfl, hlay, hb⟩
  have LB := Lib.hid hlay
  have LA2 := Lib.hid ((LA.out.below V2B.out).below hb)
  have HB2 : Hid (Below w.heap.size w w2) := Lib.hid (bnext (bnext HB1.out V2B.out) hb)
  clear hlay hb V20 V21 V2B LA HB1
  go_wp2_with fail
  refine (choose_ok B [5, 7] [0, 2] S [] [] [] none 0 0 w2 (U64s.nil _ _) (by decide) LA2.out rfl (by decide) (ups_of (by decide)) (by simp) rfl (by simp [insAll, srt]) rfl).mono ?_
  rintro e w3 ⟨a1, c1, a2, c2, rfl, -, -, hb⟩
  have LA3 := Lib.hid (LA2.out.below hb)
  have LB3 := Lib.hid (LB.out.below hb)
  have HB3 : Hid (Below w.heap.size w w3) := Lib.hid (bnext HB2.out hb)
  clear hb LA2 LB HB2
  go_wp2_with fail
  obtain ⟨V4, hV4⟩ : ∃ V4, w3.alloc (.cells #[.int .u64 3, .int .u64 7] 22) = V4 := ⟨_, rfl⟩
  have V4B : Hid (Below w3.heap.size w3 V4) := Lib.hid (by rw [← hV4]; exact balloc (Below.refl _ _) _)
  have V40 : Hid (V4.heap[w3.heap.size]? = some (.cells (List.map (Value.int .u64) [3, 7]).toArray 22 (0, 0))) := Lib.hid (by rw [← hV4]; exact heap_alloc_new _ _)
  try rw [hV4]
  clear hV4
  refine (choose_bad B [5, 7] [0, 2] S [3, 7] (some ⟨w3.heap.size, 0, none⟩) 2 2 V4 (u64s_lit V40.out) (by decide) (LA3.out.below V4B.out) rfl (by decide) (ups_of (by decide)) ⟨7, by simp, by decide⟩ rfl).mono ?_
  rintro e w4 ⟨rfl, hb⟩
  have LA4 := Lib.hid ((LA3.out.below V4B.out).below hb)
  have LB4 := Lib.hid ((LB3.out.below V4B.out).below hb)
  have HB4 : Hid (Below w.heap.size w w4) := Lib.hid (bnext (bnext HB3.out V4B.out) hb)
  clear hb LA3 LB3 HB3 V40 V4B
  go_wp2_with fail
  refine (choose_nil none 0 0 w4).mono ?_
  rintro e w5 ⟨rfl, hb⟩
  have LA5 := Lib.hid (LA4.out.below hb)
  have LB5 := Lib.hid (LB4.out.below hb)
  have HB5 : Hid (Below w.heap.size w w5) := Lib.hid (bnext HB4.out hb)
  clear hb LA4 LB4 HB4
  have hmk : ∀ W : World, (Instr.makeSlice 28 (.int .i64 640) (.int .i64 640)).run Try.prog W = .ok (.slice (some ⟨W.heap.size, 0, none⟩) 640 640) (W.alloc (.cells (zu 640) 22)) := fun W => make_zu 640 (by omega) W
  go_wp2_with fail
  obtain ⟨V6, hV6⟩ : ∃ V6, w5.alloc (.cells (zu 640) 22) = V6 := ⟨_, rfl⟩
  have V6B : Hid (Below w5.heap.size w5 V6) := Lib.hid (by rw [← hV6]; exact balloc (Below.refl _ _) _)
  have V60 : Hid (V6.heap[w5.heap.size]? = some (.cells (zu 640) 22 (0, 0))) := Lib.hid (by rw [← hV6]; exact heap_alloc_new _ _)
  try rw [hV6]
  clear hV6 hmk
  have z1 := zeros_len 640
  refine (choose_ok B [5, 7] [0, 2] S (List.replicate 640 0) (List.replicate 640 0) [0] (some ⟨w5.heap.size, 0, none⟩) 640 640 V6 (u64s_zu 640 V6 _ V60.out) (by omega) (LA5.out.below V6B.out) rfl (by decide) (ups_of (by decide)) (fun c hc => by obtain ⟨_, rfl⟩ := List.mem_replicate.1 hc; decide) (by rw [List.map_replicate]; rfl) zeros_srt z1).mono ?_
  rintro e w6 ⟨a6, c6, b6, d6, rfl, -, u6, hb⟩
  rw [z1]
  clear z1
  have U6 := Lib.hid u6
  have LA6 := Lib.hid ((LA5.out.below V6B.out).below hb)
  have LB6 := Lib.hid ((LB5.out.below V6B.out).below hb)
  have HB6 : Hid (Below w.heap.size w w6) := Lib.hid (bnext (bnext HB5.out V6B.out) hb)
  clear hb u6 LA5 LB5 HB5 V60 V6B
  have l1 : len ([0] : List Int) = 1 := rfl
  have hmk : ∀ W : World, (Instr.makeSlice 28 (.int .i64 641) (.int .i64 641)).run Try.prog W = .ok (.slice (some ⟨W.heap.size, 0, none⟩) 641 641) (W.alloc (.cells (zu 641) 22)) := fun W => make_zu 641 (by omega) W
  go_wp2_with fail
  refine (choose_long B (some ⟨w6.heap.size, 0, none⟩) 641 641 _ (by omega)).mono ?_
  rintro e w7 ⟨rfl, hb⟩
  clear hmk
  have h67 : Below w6.heap.size w6 w7 := bnext (balloc (Below.refl _ _) _) hb
  have U7 := Lib.hid (U6.out.below h67)
  have LB7 := Lib.hid (LB6.out.below h67)
  have HB7 : Hid (Below w.heap.size w w7) := Lib.hid (bnext HB6.out h67)
  clear hb h67 LA6 LB6 HB6 U6
  go_wp2_with fail
  obtain ⟨V8, hV8⟩ : ∃ V8, w7.alloc (.cells #[.int .u64 0] 22) = V8 := ⟨_, rfl⟩
  have V8B : Hid (Below w7.heap.size w7 V8) := Lib.hid (by rw [← hV8]; exact balloc (Below.refl _ _) _)
  have V80 : Hid (V8.heap[w7.heap.size]? = some (.cells (List.map (Value.int .u64) [0]).toArray 22 (0, 0))) := Lib.hid (by rw [← hV8]; exact heap_alloc_new _ _)
  try rw [hV8]
  clear hV8
  refine (choose_bad B2 [] [] S2 [0] (some ⟨w7.heap.size, 0, none⟩) 1 1 V8 (u64s_lit V80.out) (by decide) (LB7.out.below V8B.out) rfl (by decide) (ups_of (by decide)) ⟨0, by simp, by decide⟩ rfl).mono ?_
  rintro e w8 ⟨rfl, hb⟩
  have U8 := Lib.hid ((U7.out.below V8B.out).below hb)
  have HB8 : Hid (Below w.heap.size w w8) := Lib.hid (bnext (bnext HB7.out V8B.out) hb)
  clear hb LB7 HB7 V80 V8B U7
  go_wp2_with fail
  refine (works20_any w8).mono ?_
  rintro e w9 ⟨rfl, hb⟩
  have U9 := Lib.hid (U8.out.below hb)
  have HB9 : Hid (Below w.heap.size w w9) := Lib.hid (bnext HB8.out hb)
  clear hb U8 HB8
  go_wp2_with fail
  obtain ⟨V10, hV10⟩ : ∃ V10, w9.alloc (.cells #[.int .u64 0] 22) = V10 := ⟨_, rfl⟩
  have V10B : Hid (Below w9.heap.size w9 V10) := Lib.hid (by rw [← hV10]; exact balloc (Below.refl _ _) _)
  have V100 : Hid (V10.heap[w9.heap.size]? = some (.cells (List.map (Value.int .u64) [0]).toArray 22 (0, 0))) := Lib.hid (by rw [← hV10]; exact heap_alloc_new _ _)
  try rw [hV10]
  clear hV10
  refine (numbers_any b6 (some ⟨w9.heap.size, 0, none⟩) d6 1 [0] [0] V10 (U9.out.below V10B.out) (u64s_lit V100.out) (by decide) (by decide)).mono ?_
  rintro e w10 ⟨rfl, hd⟩
  rw [show numbersB [0] [0] = true from rfl]
  have HB10 : Hid (Below w.heap.size w w10) := Lib.hid (bnext (bnext HB9.out V10B.out) (hd.below _))
  clear hd V10B V100 U9 HB9
  go_wp2_with fail
  refine (falls_any 18446744073709551615 18446744073709551615 1 _ (by decide) (by decide) (by decide) (by decide)).mono ?_
  rintro e w11 ⟨rfl, rfl⟩
  rw [show fallsB 18446744073709551615 18446744073709551615 1 = true from by decide]
  go_wp2_with fail
  refine (falls_any 18446744073709551615 18446744073709551615 0 _ (by decide) (by decide) (by decide) (by decide)).mono ?_
  rintro e w11 ⟨rfl, rfl⟩
  rw [show fallsB 18446744073709551615 18446744073709551615 0 = false from by decide]
  go_wp2_with fail
  refine (falls_any 18446744073709551615 1 18446744073709551615 _ (by decide) (by decide) (by decide) (by decide)).mono ?_
  rintro e w11 ⟨rfl, rfl⟩
  rw [show fallsB 18446744073709551615 1 18446744073709551615 = true from by decide]
  go_wp2_with fail
  refine (falls_any 18446744073709551615 0 18446744073709551615 _ (by decide) (by decide) (by decide) (by decide)).mono ?_
  rintro e w11 ⟨rfl, rfl⟩
  rw [show fallsB 18446744073709551615 0 18446744073709551615 = false from by decide]
  go_wp2_with fail
  refine (falls_any 0 1 18446744073709551615 _ (by decide) (by decide) (by decide) (by decide)).mono ?_
  rintro e w11 ⟨rfl, rfl⟩
  rw [show fallsB 0 1 18446744073709551615 = false from by decide]
  go_wp2
  go_ret
  exact ⟨rfl, HB10.out⟩
end Go.Proofs.Ytbeppkokkbgddaa

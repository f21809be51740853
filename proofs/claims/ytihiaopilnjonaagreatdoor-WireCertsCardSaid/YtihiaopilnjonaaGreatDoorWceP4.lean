/- Parts of the proof, one behind the other. -/
import Derived.Test.YtihiaopilnjonaaGreatDoorWceP3
import Derived.Deep.QuietTactic
import Derived.BigQuiet
import Derived.StillTailTactics
import Derived.Laws.BytesArg
import Derived.WalkMore
import Derived.Laws.Strings
import Derived.Shelf.Strings.Builder1
import Derived.Shelf.Strings.Builder2
import Derived.Shelf.Strings.BuilderF
import Derived.Shelf.Strings.Prefix
import Derived.Shelf.Bits.Mul64
import Derived.Shelf.Strings.Repeat
import Derived.Test.YtihiaopilnjonaaGreatDoorProg
namespace Go.Proofs.YtihiaopilnjonaaGreatDoor
open Go.RowKit
open Go.Shelf
set_option linter.unusedSimpArgs false
set_option linter.unusedVariables false
set_option maxRecDepth 100000
set_option maxHeartbeats 8000000
attribute [local go_sem] pt
theorem bsn{w:World}{b c o:Nat}{x:Obj}{v:Value}(h:w.heap[b]?=some x)(hp:b≠c):(w.setCell ⟨c,o,none⟩ v).heap[b]?=some x:=Qg h hp v
theorem Qon(m0:ByteArray)(m1:Int)(m2:Int)(m3:Int)(m4:Int)(w:World):Calls Tryz.prog 66 #[.agg #[.string m0,.int .u64 m1,.int .u64 m2,.int .u64 m3,.int .u64 m4],.nilIface] w λ e w'=>e=.returned (.tuple #[.agg #[.string m0,.int .u64 m1,.int .u64 m2,.int .u64 m3,.int .u64 m4],.nilIface])∧Below w.heap.size w w':=by
 go_enter Tryz.func66,Tryz.ntmps66
 go_wp2
 have hb:=Qb (Qb (Qb (Qb (Qb (Qi (w:=w.alloc (.cells #[.string m0,.int .u64 m1,.int .u64 m2,.int .u64 m3,.int .u64 m4] 46)) (.cells #[.string ⟨#[]⟩,.int .u64 0,.int .u64 0,.int .u64 0,.int .u64 0] 46) (Z1 _ rfl)) (o:=0) (.string m0)) (o:=1) (.int .u64 m1)) (o:=2) (.int .u64 m2)) (o:=3) (.int .u64 m3)) (o:=4) (.int .u64 m4);have d:∀o,_=_:=Qa hb
 refine bodyPost_ret (v:=.tuple #[.agg #[.string m0,.int .u64 m1,.int .u64 m2,.int .u64 m3,.int .u64 m4],.nilIface]) ?_ rfl ⟨rfl,by(repeat (first | exact Below.refl _ _ | assumption | (refine Zd ?_) | (refine Zc ?_ _) | (refine Qh ?_ _) | (refine Zs ?_ (by first | omega | (simp;done) | (simp;omega)) _) | (refine Qk ?_ (by assumption))))⟩
 simp[results,Tryz.results66,go_sem,d]
theorem Qi0(m0:ByteArray)(m1:Int)(m2:Int)(m3:Int)(m4:Int)(fb:Nat)(w:World):Calls Tryz.prog 66 #[.agg #[.string m0,.int .u64 m1,.int .u64 m2,.int .u64 m3,.int .u64 m4],.iface 127 (pt fb 0)] w λ e w'=>e=.returned (.tuple #[Qc8,.iface 127 (pt fb 0)])∧Below w.heap.size w w':=by
 go_enter Tryz.func66,Tryz.ntmps66
 go_wp2
 have hb:=Qb (Qb (Qb (Qb (Qb (Qf (Qi (w:=w.alloc (.cells #[.string m0,.int .u64 m1,.int .u64 m2,.int .u64 m3,.int .u64 m4] 46)) (.cells #[.string ⟨#[]⟩,.int .u64 0,.int .u64 0,.int .u64 0,.int .u64 0] 46) (Z1 _ rfl)) (.cells #[.string ⟨#[]⟩,.int .u64 0,.int .u64 0,.int .u64 0,.int .u64 0] 46)) (o:=0) (.string ⟨#[]⟩)) (o:=1) (.int .u64 0)) (o:=2) (.int .u64 0)) (o:=3) (.int .u64 0)) (o:=4) (.int .u64 0);have d:∀o,_=_:=Qa hb
 refine bodyPost_ret (v:=.tuple #[Qc8,.iface 127 (pt fb 0)]) ?_ rfl ⟨rfl,by(repeat (first | exact Below.refl _ _ | assumption | (refine Zd ?_) | (refine Zc ?_ _) | (refine Qh ?_ _) | (refine Zs ?_ (by first | omega | (simp;done) | (simp;omega)) _) | (refine Qk ?_ (by assumption))))⟩
 simp[results,Tryz.results66,go_sem,d]
def Q0q(s:ByteArray)(w:World)(e:Ending)(w':World):Prop:=
 Below w.heap.size w w'∧match Xg s (Zo s 0) Xl with
  | .error f=>∃fb,e=.returned (.tuple #[Qc8,.iface 127 (pt fb 0)])∧FltB w' fb f.1 f.2
  | .ok x=>Kd Xl x∧(∃rb tb,LiesPart rb tb w' x)∧e=.returned (.tuple #[.agg (Xm x),.nilIface])
theorem Qoo(B:Nat)(s:ByteArray)(w:World)(hT:Tabs B w)(hET:ErrType w)(hB:B≤w.heap.size)(hg:0<B)(hs:s.size≤9223372036854775807):
  Calls Tryz.prog 29 #[.string s] w (Q0q s w):=by
 have H:=QLh (fun (w':World) (hb:Below w.heap.size w w')=>Qm6 B s w' (hT.below hb) (hET.below hb) (Nat.le_trans hB hb.size) hg hs);clear hT hET
 go_enter Tryz.func29,Tryz.ntmps29
 go_wp2_with fail
 refine(H.out _ (Qh (Below.refl _ _) _)).mono ?_
 rintro e w1 ⟨hb1,hh⟩
 have hblk:=(hb1.block w.heap.size (by simp)).trans (heap_alloc_new w _);have HBK:=QLh hblk;have HB:=QLh (Qk (Qh (Below.refl _ _) _) hb1);clear hb1 hblk
 cases hr:Qbr s (Zo s 0) Xl 0 with
 | error f=>
  rw[hr]at hh
  obtain⟨fb,rfl,hf⟩:=hh
  have HF:=QLh hf;have HR:Hid (Xg s (Zo s 0) Xl=.error f):=QLh (by unfold Xg;rw[hr]);clear hf hr
  go_wp2_with fail
  refine(Qi0 _ _ _ _ _ fb w1).mono ?_
  rintro e w2 ⟨rfl,hb2⟩
  have hb:=(hb2.block _ (lt_of_block HBK.out)).trans HBK.out;have HB2:=QLh (Qk HB.out hb2);have HF2:=QLh (HF.out.below hb2);have HBK2:=QLh hb;have g0:∀o,w2.cell? ⟨w.heap.size,o,none⟩=_:=Qa hb;have g1:∀o,w2.frozen? ⟨w.heap.size,o,none⟩=false:=Qj hb;have g2:w.heap.size<w2.heap.size:=lt_of_block hb;clear hb2 hb
  go_wp2
  have hb:=Qb (Qb (Qb (Qb (Qb (HBK2.out) (o:=0) (.string ⟨#[]⟩)) (o:=1) (.int .u64 0)) (o:=2) (.int .u64 0)) (o:=3) (.int .u64 0)) (o:=4) (.int .u64 0);have d:∀o,_=_:=Qa hb;have hne:fb≠w.heap.size:=λ e=>by subst e;have h9:=HBK2.out.symm.trans HF2.out;cases h9
  refine bodyPost_ret (v:=.tuple #[Qc8,.iface 127 (pt fb 0)]) ?_ rfl ⟨(Zs (Zs (Zs (Zs (Zs HB2.out (Nat.le_refl _) _) (Nat.le_refl _) _) (Nat.le_refl _) _) (Nat.le_refl _) _) (Nat.le_refl _) _),?_⟩
  ·simp[results,Tryz.results29,go_sem,d]
  ·rw[HR.out]
   exact⟨fb,rfl,(bsn (bsn (bsn (bsn (bsn HF2.out hne) hne) hne) hne) hne)⟩
 | ok y=>
  rw[hr]at hh
  obtain⟨hk,hle,⟨rb,tb,hrb,hl⟩,hh⟩:=hh
  have HL:=QLh hl
  by_cases hlt:y.2<s.size
  ·rw[if_pos hlt]at hh
   obtain⟨fb,rfl,hf⟩:=hh
   have HF:=QLh hf;have HR:Hid (Xg s (Zo s 0) Xl=.error (5,y.2)):=QLh (by unfold Xg;rw[hr];exact if_pos hlt);clear hf hr hlt
   go_wp2_with fail
   refine(Qi0 _ _ _ _ _ fb w1).mono ?_
   rintro e w2 ⟨rfl,hb2⟩
   have hb:=(hb2.block _ (lt_of_block HBK.out)).trans HBK.out;have HB2:=QLh (Qk HB.out hb2);have HF2:=QLh (HF.out.below hb2);have HBK2:=QLh hb;have g0:∀o,w2.cell? ⟨w.heap.size,o,none⟩=_:=Qa hb;have g1:∀o,w2.frozen? ⟨w.heap.size,o,none⟩=false:=Qj hb;have g2:w.heap.size<w2.heap.size:=lt_of_block hb;clear hb2 hb
   go_wp2
   have hb:=Qb (Qb (Qb (Qb (Qb (HBK2.out) (o:=0) (.string ⟨#[]⟩)) (o:=1) (.int .u64 0)) (o:=2) (.int .u64 0)) (o:=3) (.int .u64 0)) (o:=4) (.int .u64 0);have d:∀o,_=_:=Qa hb;have hne:fb≠w.heap.size:=λ e=>by subst e;have h9:=HBK2.out.symm.trans HF2.out;cases h9
   refine bodyPost_ret (v:=.tuple #[Qc8,.iface 127 (pt fb 0)]) ?_ rfl ⟨(Zs (Zs (Zs (Zs (Zs HB2.out (Nat.le_refl _) _) (Nat.le_refl _) _) (Nat.le_refl _) _) (Nat.le_refl _) _) (Nat.le_refl _) _),?_⟩
   ·simp[results,Tryz.results29,go_sem,d]
   ·rw[HR.out]
    exact⟨fb,rfl,(bsn (bsn (bsn (bsn (bsn HF2.out hne) hne) hne) hne) hne)⟩
  ·rw[if_neg hlt]at hh
   subst hh
   have HR:Hid (Xg s (Zo s 0) Xl=.ok y.1):=QLh (by unfold Xg;rw[hr];exact if_neg hlt);clear hr hlt
   go_wp2_with fail
   refine(Qon _ _ _ _ _ w1).mono ?_
   rintro e w2 ⟨rfl,hb2⟩
   have hb:=(hb2.block _ (lt_of_block HBK.out)).trans HBK.out;have HB2:=QLh (Qk HB.out hb2);have HL2:=QLh (HL.out.below hb2);have HBK2:=QLh hb;have g0:∀o,w2.cell? ⟨w.heap.size,o,none⟩=_:=Qa hb;have g1:∀o,w2.frozen? ⟨w.heap.size,o,none⟩=false:=Qj hb;have g2:w.heap.size<w2.heap.size:=lt_of_block hb;clear hb2 hb
   go_wp2
   have hb:=Qb (Qb (Qb (Qb (Qb (HBK2.out) (o:=0) (.string (y.1 0).s)) (o:=1) (.int .u64 (y.1 1).n)) (o:=2) (.int .u64 (y.1 2).n)) (o:=3) (.int .u64 (y.1 3).n)) (o:=4) (.int .u64 (y.1 4).n);have d:∀o,_=_:=Qa hb
   refine bodyPost_ret (v:=.tuple #[.agg (Xm y.1),.nilIface]) ?_ rfl ⟨(Zs (Zs (Zs (Zs (Zs HB2.out (Nat.le_refl _) _) (Nat.le_refl _) _) (Nat.le_refl _) _) (Nat.le_refl _) _) (Nat.le_refl _) _),?_⟩
   ·simp[results,Tryz.results29,go_sem,d]
   ·rw[HR.out]
    exact⟨hk,⟨rb,tb,HL2.out.up (λ b h1 h2=>by
     have h3:b≠w.heap.size:=by simp at hrb;omega
     repeat rw[Below.heap_setCell _ _ _ _ h3])⟩,rfl⟩
theorem Qop(m0:Int)(m1:Bool)(m2:Int)(a3:Option Addr)(n3 c3:Nat)(a4:Option Addr)(n4 c4:Nat)(w:World):Calls Tryz.prog 76 #[.agg #[.int .u64 m0,.bool m1,.int .u64 m2,.slice a3 n3 c3,.slice a4 n4 c4],.nilIface] w λ e w'=>e=.returned (.tuple #[.agg #[.int .u64 m0,.bool m1,.int .u64 m2,.slice a3 n3 c3,.slice a4 n4 c4],.nilIface])∧Below w.heap.size w w':=by
 go_enter Tryz.func76,Tryz.ntmps76
 go_wp2
 have hb:=Qb (Qb (Qb (Qb (Qb (Qi (w:=w.alloc (.cells #[.int .u64 m0,.bool m1,.int .u64 m2,.slice a3 n3 c3,.slice a4 n4 c4] 44)) (.cells #[.int .u64 0,.bool false,.int .u64 0,.slice none 0 0,.slice none 0 0] 44) (Z1 _ rfl)) (o:=0) (.int .u64 m0)) (o:=1) (.bool m1)) (o:=2) (.int .u64 m2)) (o:=3) (.slice a3 n3 c3)) (o:=4) (.slice a4 n4 c4);have d:∀o,_=_:=Qa hb
 refine bodyPost_ret (v:=.tuple #[.agg #[.int .u64 m0,.bool m1,.int .u64 m2,.slice a3 n3 c3,.slice a4 n4 c4],.nilIface]) ?_ rfl ⟨rfl,by(repeat (first | exact Below.refl _ _ | assumption | (refine Zd ?_) | (refine Zc ?_ _) | (refine Qh ?_ _) | (refine Zs ?_ (by first | omega | (simp;done) | (simp;omega)) _) | (refine Qk ?_ (by assumption))))⟩
 simp[results,Tryz.results76,go_sem,d]
theorem Qi1(m0:Int)(m1:Bool)(m2:Int)(a3:Option Addr)(n3 c3:Nat)(a4:Option Addr)(n4 c4:Nat)(fb:Nat)(w:World):Calls Tryz.prog 76 #[.agg #[.int .u64 m0,.bool m1,.int .u64 m2,.slice a3 n3 c3,.slice a4 n4 c4],.iface 127 (pt fb 0)] w λ e w'=>e=.returned (.tuple #[Qc9,.iface 127 (pt fb 0)])∧Below w.heap.size w w':=by
 go_enter Tryz.func76,Tryz.ntmps76
 go_wp2
 have hb:=Qb (Qb (Qb (Qb (Qb (Qf (Qi (w:=w.alloc (.cells #[.int .u64 m0,.bool m1,.int .u64 m2,.slice a3 n3 c3,.slice a4 n4 c4] 44)) (.cells #[.int .u64 0,.bool false,.int .u64 0,.slice none 0 0,.slice none 0 0] 44) (Z1 _ rfl)) (.cells #[.int .u64 0,.bool false,.int .u64 0,.slice none 0 0,.slice none 0 0] 44)) (o:=0) (.int .u64 0)) (o:=1) (.bool false)) (o:=2) (.int .u64 0)) (o:=3) (.slice none 0 0)) (o:=4) (.slice none 0 0);have d:∀o,_=_:=Qa hb
 refine bodyPost_ret (v:=.tuple #[Qc9,.iface 127 (pt fb 0)]) ?_ rfl ⟨rfl,by(repeat (first | exact Below.refl _ _ | assumption | (refine Zd ?_) | (refine Zc ?_ _) | (refine Qh ?_ _) | (refine Zs ?_ (by first | omega | (simp;done) | (simp;omega)) _) | (refine Qk ?_ (by assumption))))⟩
 simp[results,Tryz.results76,go_sem,d]
def Q0r(s:ByteArray)(w:World)(e:Ending)(w':World):Prop:=
 Below w.heap.size w w'∧match Xg s (Z3 s 0) Xd with
  | .error f=>∃fb,e=.returned (.tuple #[Qc9,.iface 127 (pt fb 0)])∧FltB w' fb f.1 f.2
  | .ok x=>Kd Xd x∧∃(a3:Option Addr) (c3:Nat) (a4:Option Addr) (c4:Nat),(∃rb tb,LiesSlot rb tb w' x a3 c3 a4 c4)∧e=.returned (.tuple #[.agg (Xn x a3 c3 a4 c4),.nilIface])
theorem Qi2(B:Nat)(s:ByteArray)(w:World)(hT:Tabs B w)(hET:ErrType w)(hB:B≤w.heap.size)(hg:0<B)(hs:s.size≤9223372036854775807):
  Calls Tryz.prog 35 #[.string s] w (Q0r s w):=by
 have H:=QLh (fun (w':World) (hb:Below w.heap.size w w')=>Qm7 B s w' (hT.below hb) (hET.below hb) (Nat.le_trans hB hb.size) hg hs);clear hT hET
 go_enter Tryz.func35,Tryz.ntmps35
 go_wp2_with fail
 refine(H.out _ (Qh (Below.refl _ _) _)).mono ?_
 rintro e w1 ⟨hb1,hh⟩
 have hblk:=(hb1.block w.heap.size (by simp)).trans (heap_alloc_new w _);have HBK:=QLh hblk;have HB:=QLh (Qk (Qh (Below.refl _ _) _) hb1);clear hb1 hblk
 cases hr:Qbr s (Z3 s 0) Xd 0 with
 | error f=>
  rw[hr]at hh
  obtain⟨fb,rfl,hf⟩:=hh
  have HF:=QLh hf;have HR:Hid (Xg s (Z3 s 0) Xd=.error f):=QLh (by unfold Xg;rw[hr]);clear hf hr
  go_wp2_with fail
  refine(Qi1 _ _ _ _ _ _ _ _ _ fb w1).mono ?_
  rintro e w2 ⟨rfl,hb2⟩
  have hb:=(hb2.block _ (lt_of_block HBK.out)).trans HBK.out;have HB2:=QLh (Qk HB.out hb2);have HF2:=QLh (HF.out.below hb2);have HBK2:=QLh hb;have g0:∀o,w2.cell? ⟨w.heap.size,o,none⟩=_:=Qa hb;have g1:∀o,w2.frozen? ⟨w.heap.size,o,none⟩=false:=Qj hb;have g2:w.heap.size<w2.heap.size:=lt_of_block hb;clear hb2 hb
  go_wp2
  have hb:=Qb (Qb (Qb (Qb (Qb (HBK2.out) (o:=0) (.int .u64 0)) (o:=1) (.bool false)) (o:=2) (.int .u64 0)) (o:=3) (.slice none 0 0)) (o:=4) (.slice none 0 0);have d:∀o,_=_:=Qa hb;have hne:fb≠w.heap.size:=λ e=>by subst e;have h9:=HBK2.out.symm.trans HF2.out;cases h9
  refine bodyPost_ret (v:=.tuple #[Qc9,.iface 127 (pt fb 0)]) ?_ rfl ⟨(Zs (Zs (Zs (Zs (Zs HB2.out (Nat.le_refl _) _) (Nat.le_refl _) _) (Nat.le_refl _) _) (Nat.le_refl _) _) (Nat.le_refl _) _),?_⟩
  ·simp[results,Tryz.results35,go_sem,d]
  ·rw[HR.out]
   exact⟨fb,rfl,(bsn (bsn (bsn (bsn (bsn HF2.out hne) hne) hne) hne) hne)⟩
 | ok y=>
  rw[hr]at hh
  obtain⟨hk,hle,a3,c3,a4,c4,⟨rb,tb,hrb,hl⟩,hh⟩:=hh
  have HL:=QLh hl
  by_cases hlt:y.2<s.size
  ·rw[if_pos hlt]at hh
   obtain⟨fb,rfl,hf⟩:=hh
   have HF:=QLh hf;have HR:Hid (Xg s (Z3 s 0) Xd=.error (5,y.2)):=QLh (by unfold Xg;rw[hr];exact if_pos hlt);clear hf hr hlt
   go_wp2_with fail
   refine(Qi1 _ _ _ _ _ _ _ _ _ fb w1).mono ?_
   rintro e w2 ⟨rfl,hb2⟩
   have hb:=(hb2.block _ (lt_of_block HBK.out)).trans HBK.out;have HB2:=QLh (Qk HB.out hb2);have HF2:=QLh (HF.out.below hb2);have HBK2:=QLh hb;have g0:∀o,w2.cell? ⟨w.heap.size,o,none⟩=_:=Qa hb;have g1:∀o,w2.frozen? ⟨w.heap.size,o,none⟩=false:=Qj hb;have g2:w.heap.size<w2.heap.size:=lt_of_block hb;clear hb2 hb
   go_wp2
   have hb:=Qb (Qb (Qb (Qb (Qb (HBK2.out) (o:=0) (.int .u64 0)) (o:=1) (.bool false)) (o:=2) (.int .u64 0)) (o:=3) (.slice none 0 0)) (o:=4) (.slice none 0 0);have d:∀o,_=_:=Qa hb;have hne:fb≠w.heap.size:=λ e=>by subst e;have h9:=HBK2.out.symm.trans HF2.out;cases h9
   refine bodyPost_ret (v:=.tuple #[Qc9,.iface 127 (pt fb 0)]) ?_ rfl ⟨(Zs (Zs (Zs (Zs (Zs HB2.out (Nat.le_refl _) _) (Nat.le_refl _) _) (Nat.le_refl _) _) (Nat.le_refl _) _) (Nat.le_refl _) _),?_⟩
   ·simp[results,Tryz.results35,go_sem,d]
   ·rw[HR.out]
    exact⟨fb,rfl,(bsn (bsn (bsn (bsn (bsn HF2.out hne) hne) hne) hne) hne)⟩
  ·rw[if_neg hlt]at hh
   subst hh
   have HR:Hid (Xg s (Z3 s 0) Xd=.ok y.1):=QLh (by unfold Xg;rw[hr];exact if_neg hlt);clear hr hlt
   go_wp2_with fail
   refine(Qop _ _ _ _ _ _ _ _ _ w1).mono ?_
   rintro e w2 ⟨rfl,hb2⟩
   have hb:=(hb2.block _ (lt_of_block HBK.out)).trans HBK.out;have HB2:=QLh (Qk HB.out hb2);have HL2:=QLh (HL.out.below hb2);have HBK2:=QLh hb;have g0:∀o,w2.cell? ⟨w.heap.size,o,none⟩=_:=Qa hb;have g1:∀o,w2.frozen? ⟨w.heap.size,o,none⟩=false:=Qj hb;have g2:w.heap.size<w2.heap.size:=lt_of_block hb;clear hb2 hb
   go_wp2
   have hb:=Qb (Qb (Qb (Qb (Qb (HBK2.out) (o:=0) (.int .u64 (y.1 0).n)) (o:=1) (.bool (y.1 1).q)) (o:=2) (.int .u64 (y.1 2).n)) (o:=3) (.slice a3 (len (y.1 3).l) c3)) (o:=4) (.slice a4 (len (y.1 4).l) c4);have d:∀o,_=_:=Qa hb
   refine bodyPost_ret (v:=.tuple #[.agg (Xn y.1 a3 c3 a4 c4),.nilIface]) ?_ rfl ⟨(Zs (Zs (Zs (Zs (Zs HB2.out (Nat.le_refl _) _) (Nat.le_refl _) _) (Nat.le_refl _) _) (Nat.le_refl _) _) (Nat.le_refl _) _),?_⟩
   ·simp[results,Tryz.results35,go_sem,d]
   ·rw[HR.out]
    exact⟨hk,a3,c3,a4,c4,⟨rb,tb,HL2.out.up (λ b h1 h2=>by
     have h3:b≠w.heap.size:=by simp at hrb;omega
     repeat rw[Below.heap_setCell _ _ _ _ h3])⟩,rfl⟩
theorem Qoq(m0:ByteArray)(m1:Int)(a2:Option Addr)(n2 c2:Nat)(a3:Option Addr)(n3 c3:Nat)(a4:Option Addr)(n4 c4:Nat)(a5:Option Addr)(n5 c5:Nat)(w:World):Calls Tryz.prog 99 #[.agg #[.string m0,.int .u64 m1,.slice a2 n2 c2,.slice a3 n3 c3,.slice a4 n4 c4,.slice a5 n5 c5],.nilIface] w λ e w'=>e=.returned (.tuple #[.agg #[.string m0,.int .u64 m1,.slice a2 n2 c2,.slice a3 n3 c3,.slice a4 n4 c4,.slice a5 n5 c5],.nilIface])∧Below w.heap.size w w':=by
 go_enter Tryz.func99,Tryz.ntmps99
 go_wp2
 have hb:=Qb (Qb (Qb (Qb (Qb (Qb (Qi (w:=w.alloc (.cells #[.string m0,.int .u64 m1,.slice a2 n2 c2,.slice a3 n3 c3,.slice a4 n4 c4,.slice a5 n5 c5] 28)) (.cells #[.string ⟨#[]⟩,.int .u64 0,.slice none 0 0,.slice none 0 0,.slice none 0 0,.slice none 0 0] 28) (Z1 _ rfl)) (o:=0) (.string m0)) (o:=1) (.int .u64 m1)) (o:=2) (.slice a2 n2 c2)) (o:=3) (.slice a3 n3 c3)) (o:=4) (.slice a4 n4 c4)) (o:=5) (.slice a5 n5 c5);have d:∀o,_=_:=Qa hb
 refine bodyPost_ret (v:=.tuple #[.agg #[.string m0,.int .u64 m1,.slice a2 n2 c2,.slice a3 n3 c3,.slice a4 n4 c4,.slice a5 n5 c5],.nilIface]) ?_ rfl ⟨rfl,by(repeat (first | exact Below.refl _ _ | assumption | (refine Zd ?_) | (refine Zc ?_ _) | (refine Qh ?_ _) | (refine Zs ?_ (by first | omega | (simp;done) | (simp;omega)) _) | (refine Qk ?_ (by assumption))))⟩
 simp[results,Tryz.results99,go_sem,d]
theorem Qi3(m0:ByteArray)(m1:Int)(a2:Option Addr)(n2 c2:Nat)(a3:Option Addr)(n3 c3:Nat)(a4:Option Addr)(n4 c4:Nat)(a5:Option Addr)(n5 c5:Nat)(fb:Nat)(w:World):Calls Tryz.prog 99 #[.agg #[.string m0,.int .u64 m1,.slice a2 n2 c2,.slice a3 n3 c3,.slice a4 n4 c4,.slice a5 n5 c5],.iface 127 (pt fb 0)] w λ e w'=>e=.returned (.tuple #[Qdb,.iface 127 (pt fb 0)])∧Below w.heap.size w w':=by
 go_enter Tryz.func99,Tryz.ntmps99
 go_wp2
 have hb:=Qb (Qb (Qb (Qb (Qb (Qb (Qf (Qi (w:=w.alloc (.cells #[.string m0,.int .u64 m1,.slice a2 n2 c2,.slice a3 n3 c3,.slice a4 n4 c4,.slice a5 n5 c5] 28)) (.cells #[.string ⟨#[]⟩,.int .u64 0,.slice none 0 0,.slice none 0 0,.slice none 0 0,.slice none 0 0] 28) (Z1 _ rfl)) (.cells #[.string ⟨#[]⟩,.int .u64 0,.slice none 0 0,.slice none 0 0,.slice none 0 0,.slice none 0 0] 28)) (o:=0) (.string ⟨#[]⟩)) (o:=1) (.int .u64 0)) (o:=2) (.slice none 0 0)) (o:=3) (.slice none 0 0)) (o:=4) (.slice none 0 0)) (o:=5) (.slice none 0 0);have d:∀o,_=_:=Qa hb
 refine bodyPost_ret (v:=.tuple #[Qdb,.iface 127 (pt fb 0)]) ?_ rfl ⟨rfl,by(repeat (first | exact Below.refl _ _ | assumption | (refine Zd ?_) | (refine Zc ?_ _) | (refine Qh ?_ _) | (refine Zs ?_ (by first | omega | (simp;done) | (simp;omega)) _) | (refine Qk ?_ (by assumption))))⟩
 simp[results,Tryz.results99,go_sem,d]
def Q0s(s:ByteArray)(w:World)(e:Ending)(w':World):Prop:=
 Below w.heap.size w w'∧match Xg s (Zp s) Q7 with
  | .error f=>∃fb,e=.returned (.tuple #[Qdb,.iface 127 (pt fb 0)])∧FltB w' fb f.1 f.2
  | .ok x=>Kd Q7 x∧∃(a2:Option Addr) (c2:Nat) (a3:Option Addr) (c3:Nat) (a4:Option Addr) (c4:Nat) (a5:Option Addr) (c5:Nat),(∃rb tb,LiesCert rb tb w' x a2 c2 a3 c3 a4 c4 a5 c5)∧e=.returned (.tuple #[.agg (Zy x a2 c2 a3 c3 a4 c4 a5 c5),.nilIface])
theorem Qor(B:Nat)(s:ByteArray)(w:World)(hT:Tabs B w)(hET:ErrType w)(hB:B≤w.heap.size)(hg:0<B)(hs:s.size≤9223372036854775807):
  Calls Tryz.prog 50 #[.string s] w (Q0s s w):=by
 have H:=QLh (fun (w':World) (hb:Below w.heap.size w w')=>Qm8 B s w' (hT.below hb) (hET.below hb) (Nat.le_trans hB hb.size) hg hs);clear hT hET
 go_enter Tryz.func50,Tryz.ntmps50
 go_wp2_with fail
 refine(H.out _ (Qh (Below.refl _ _) _)).mono ?_
 rintro e w1 ⟨hb1,hh⟩
 have hblk:=(hb1.block w.heap.size (by simp)).trans (heap_alloc_new w _);have HBK:=QLh hblk;have HB:=QLh (Qk (Qh (Below.refl _ _) _) hb1);clear hb1 hblk
 cases hr:Qbr s (Zp s) Q7 0 with
 | error f=>
  rw[hr]at hh
  obtain⟨fb,rfl,hf⟩:=hh
  have HF:=QLh hf;have HR:Hid (Xg s (Zp s) Q7=.error f):=QLh (by unfold Xg;rw[hr]);clear hf hr
  go_wp2_with fail
  refine(Qi3 _ _ _ _ _ _ _ _ _ _ _ _ _ _ fb w1).mono ?_
  rintro e w2 ⟨rfl,hb2⟩
  have hb:=(hb2.block _ (lt_of_block HBK.out)).trans HBK.out;have HB2:=QLh (Qk HB.out hb2);have HF2:=QLh (HF.out.below hb2);have HBK2:=QLh hb;have g0:∀o,w2.cell? ⟨w.heap.size,o,none⟩=_:=Qa hb;have g1:∀o,w2.frozen? ⟨w.heap.size,o,none⟩=false:=Qj hb;have g2:w.heap.size<w2.heap.size:=lt_of_block hb;clear hb2 hb
  go_wp2
  have hb:=Qb (Qb (Qb (Qb (Qb (Qb (HBK2.out) (o:=0) (.string ⟨#[]⟩)) (o:=1) (.int .u64 0)) (o:=2) (.slice none 0 0)) (o:=3) (.slice none 0 0)) (o:=4) (.slice none 0 0)) (o:=5) (.slice none 0 0);have d:∀o,_=_:=Qa hb;have hne:fb≠w.heap.size:=λ e=>by subst e;have h9:=HBK2.out.symm.trans HF2.out;cases h9
  refine bodyPost_ret (v:=.tuple #[Qdb,.iface 127 (pt fb 0)]) ?_ rfl ⟨(Zs (Zs (Zs (Zs (Zs (Zs HB2.out (Nat.le_refl _) _) (Nat.le_refl _) _) (Nat.le_refl _) _) (Nat.le_refl _) _) (Nat.le_refl _) _) (Nat.le_refl _) _),?_⟩
  ·simp[results,Tryz.results50,go_sem,d]
  ·rw[HR.out]
   exact⟨fb,rfl,(bsn (bsn (bsn (bsn (bsn (bsn HF2.out hne) hne) hne) hne) hne) hne)⟩
 | ok y=>
  rw[hr]at hh
  obtain⟨hk,hle,a2,c2,a3,c3,a4,c4,a5,c5,⟨rb,tb,hrb,hl⟩,hh⟩:=hh
  have HL:=QLh hl
  by_cases hlt:y.2<s.size
  ·rw[if_pos hlt]at hh
   obtain⟨fb,rfl,hf⟩:=hh
   have HF:=QLh hf;have HR:Hid (Xg s (Zp s) Q7=.error (5,y.2)):=QLh (by unfold Xg;rw[hr];exact if_pos hlt);clear hf hr hlt
   go_wp2_with fail
   refine(Qi3 _ _ _ _ _ _ _ _ _ _ _ _ _ _ fb w1).mono ?_
   rintro e w2 ⟨rfl,hb2⟩
   have hb:=(hb2.block _ (lt_of_block HBK.out)).trans HBK.out;have HB2:=QLh (Qk HB.out hb2);have HF2:=QLh (HF.out.below hb2);have HBK2:=QLh hb;have g0:∀o,w2.cell? ⟨w.heap.size,o,none⟩=_:=Qa hb;have g1:∀o,w2.frozen? ⟨w.heap.size,o,none⟩=false:=Qj hb;have g2:w.heap.size<w2.heap.size:=lt_of_block hb;clear hb2 hb
   go_wp2
   have hb:=Qb (Qb (Qb (Qb (Qb (Qb (HBK2.out) (o:=0) (.string ⟨#[]⟩)) (o:=1) (.int .u64 0)) (o:=2) (.slice none 0 0)) (o:=3) (.slice none 0 0)) (o:=4) (.slice none 0 0)) (o:=5) (.slice none 0 0);have d:∀o,_=_:=Qa hb;have hne:fb≠w.heap.size:=λ e=>by subst e;have h9:=HBK2.out.symm.trans HF2.out;cases h9
   refine bodyPost_ret (v:=.tuple #[Qdb,.iface 127 (pt fb 0)]) ?_ rfl ⟨(Zs (Zs (Zs (Zs (Zs (Zs HB2.out (Nat.le_refl _) _) (Nat.le_refl _) _) (Nat.le_refl _) _) (Nat.le_refl _) _) (Nat.le_refl _) _) (Nat.le_refl _) _),?_⟩
   ·simp[results,Tryz.results50,go_sem,d]
   ·rw[HR.out]
    exact⟨fb,rfl,(bsn (bsn (bsn (bsn (bsn (bsn HF2.out hne) hne) hne) hne) hne) hne)⟩
  ·rw[if_neg hlt]at hh
   subst hh
   have HR:Hid (Xg s (Zp s) Q7=.ok y.1):=QLh (by unfold Xg;rw[hr];exact if_neg hlt);clear hr hlt
   go_wp2_with fail
   refine(Qoq _ _ _ _ _ _ _ _ _ _ _ _ _ _ w1).mono ?_
   rintro e w2 ⟨rfl,hb2⟩
   have hb:=(hb2.block _ (lt_of_block HBK.out)).trans HBK.out;have HB2:=QLh (Qk HB.out hb2);have HL2:=QLh (HL.out.below hb2);have HBK2:=QLh hb;have g0:∀o,w2.cell? ⟨w.heap.size,o,none⟩=_:=Qa hb;have g1:∀o,w2.frozen? ⟨w.heap.size,o,none⟩=false:=Qj hb;have g2:w.heap.size<w2.heap.size:=lt_of_block hb;clear hb2 hb
   go_wp2
   have hb:=Qb (Qb (Qb (Qb (Qb (Qb (HBK2.out) (o:=0) (.string (y.1 0).s)) (o:=1) (.int .u64 (y.1 1).n)) (o:=2) (.slice a2 (len (y.1 2).rs) c2)) (o:=3) (.slice a3 (len (y.1 3).ns) c3)) (o:=4) (.slice a4 (len (y.1 4).l) c4)) (o:=5) (.slice a5 (len (y.1 5).l) c5);have d:∀o,_=_:=Qa hb
   refine bodyPost_ret (v:=.tuple #[.agg (Zy y.1 a2 c2 a3 c3 a4 c4 a5 c5),.nilIface]) ?_ rfl ⟨(Zs (Zs (Zs (Zs (Zs (Zs HB2.out (Nat.le_refl _) _) (Nat.le_refl _) _) (Nat.le_refl _) _) (Nat.le_refl _) _) (Nat.le_refl _) _) (Nat.le_refl _) _),?_⟩
   ·simp[results,Tryz.results50,go_sem,d]
   ·rw[HR.out]
    exact⟨hk,a2,c2,a3,c3,a4,c4,a5,c5,⟨rb,tb,HL2.out.up (λ b h1 h2=>by
     have h3:b≠w.heap.size:=by simp at hrb;omega
     repeat rw[Below.heap_setCell _ _ _ _ h3])⟩,rfl⟩
abbrev CP:=Nat→Nat→Value→Prop
def StrsC(C:CP)(a:Option Addr)(l:List ByteArray):Prop:=∀i,i<len l→∃b off,a=some ⟨b,off,none⟩∧C b (off+i) (.string (sth l i))
theorem StrsC.imp{C D:CP}(h:∀b o x,C b o x→D b o x){a:Option Addr}{l:List ByteArray}(hs:StrsC C a l):StrsC D a l:=λ i hi=>by
 obtain⟨b,off,e,hc⟩:=hs i hi;exact⟨b,off,e,h _ _ _ hc⟩
structure RevCl(C:CP)(b o:Nat)(d:RevD):Prop where
 c0:C b o (.int .u64 d.pos)
 c1:C b (o+1) (.int .u64 d.L)
 c2:C b (o+2) (.bool d.signed)
 c3:C b (o+3) (.int .u64 d.idx)
 c4:∃a c,C b (o+4) (.slice a (len d.ws) c)∧StrsC C a d.ws
 c5:∃a c,C b (o+5) (.slice a (len d.ps) c)∧StrsC C a d.ps
 c6:C b (o+6) (.string d.root)
 c7:C b (o+7) (.int .u64 d.wt)
 c8:C b (o+8) (.int .u64 d.first)
 c9:C b (o+9) (.int .u64 d.life)
 c10:C b (o+10) (.int .u64 d.keys)
theorem RevCl.imp{C D:CP}(h:∀b o x,C b o x→D b o x){b o:Nat}{d:RevD}(k:RevCl C b o d):RevCl D b o d:=by
 obtain⟨a4,k4,h4,s4⟩:=k.c4
 obtain⟨a5,k5,h5,s5⟩:=k.c5
 exact⟨h _ _ _ k.c0,h _ _ _ k.c1,h _ _ _ k.c2,h _ _ _ k.c3,⟨a4,k4,h _ _ _ h4,s4.imp h⟩,⟨a5,k5,h _ _ _ h5,s5.imp h⟩,h _ _ _ k.c6,h _ _ _ k.c7,h _ _ _ k.c8,h _ _ _ k.c9,h _ _ _ k.c10⟩
def RvsC(C:CP)(a:Option Addr)(l:List RevD):Prop:=∀i,i<len l→∃b off,a=some ⟨b,off,none⟩∧RevCl C b (off+i * 11) (lth l i)
theorem RvsC.imp{C D:CP}(h:∀b o x,C b o x→D b o x){a:Option Addr}{l:List RevD}(k:RvsC C a l):RvsC D a l:=λ i hi=>by
 obtain⟨b,off,e,hc⟩:=k i hi;exact⟨b,off,e,hc.imp h⟩
def RevV(C:CP)(v:Value)(d:RevD):Prop:=∃a4 k4 a5 k5,v=.agg #[.int .u64 d.pos,.int .u64 d.L,.bool d.signed,.int .u64 d.idx,.slice a4 (len d.ws) k4,.slice a5 (len d.ps) k5,.string d.root,.int .u64 d.wt,.int .u64 d.first,.int .u64 d.life,.int .u64 d.keys]∧StrsC C a4 d.ws∧StrsC C a5 d.ps
structure RvBd(d:RevD):Prop where
 pos:X8 d.pos
 L:X8 d.L
 idx:X8 d.idx
 wt:X8 d.wt
 first:X8 d.first
 life:X8 d.life
 keys:X8 d.keys
 ws:len d.ws≤100000
 ps:len d.ps≤100000
 root:d.root.size≤9223372036854775807
def NoRow(t:Nat)(w:World):Prop:=∃cs T fr,w.heap[t]?=some (.cells cs T fr)∧T≠172
theorem NoRow.lt{t:Nat}{w:World}(h:NoRow t w):t<w.heap.size:=by obtain⟨cs,T,fr,h1,_⟩:=h;exact lt_of_block h1
theorem NoRow.below{t:Nat}{w w':World}(h:NoRow t w)(hb:Below w.heap.size w w'):NoRow t w':=by
 obtain⟨cs,T,fr,h1,h2⟩:=h;exact⟨cs,T,fr,(hb.block _ (lt_of_block h1)).trans h1,h2⟩
theorem NoRow.ne{t g:Nat}{w:World}{l:List FVal}(h:NoRow t w)(hF:FRow w g l):g≠t:=λ e=>by
 subst e
 obtain⟨cs,T,fr,h1,h2⟩:=h
 obtain⟨_,cur,h3⟩:=hF
 rw[h1]at h3;cases h3;exact h2 rfl
section
variable {B t:Nat} {w:World}
theorem Qto(sb so:Nat)(root:ByteArray)(weight first life keys:Int)(hB:B≤w.heap.size)(ht:B≤t)(hT:NoRow t w)(h0:CellOff B t w sb so (.string root))(h1:CellOff B t w sb (so+1) (.int .u64 weight))(h2:CellOff B t w sb (so+2) (.int .u64 first))(h3:CellOff B t w sb (so+3) (.int .u64 life))(h4:CellOff B t w sb (so+4) (.int .u64 keys))(hr:root.size≤9223372036854775807)(hw:X8 weight)(hf:X8 first)(hl:X8 life)(hk:X8 keys):
  Calls Tryz.prog 62 #[pt sb so] w (Qdi (FITs B t (Q5 root weight first life keys)) w):=by
 refine(Qit sb so w (λ w v=>FIT B t w v (⟨⟨#[102]⟩,false,first == 0,true,Xr first⟩)) (λ w v=>FIT B t w v (⟨⟨#[107]⟩,false,keys == 0,true,Xr keys⟩)) (λ w v=>FIT B t w v (⟨⟨#[108]⟩,false,life == 0,true,Xr life⟩)) (λ w v=>FIT B t w v (⟨⟨#[114]⟩,true,false,decide (root.size=32),Jv root⟩)) (λ w v=>FIT B t w v (⟨⟨#[119]⟩,false,weight == 0,true,Xr weight⟩))  (λ w' hb=>?p0) (X6 B t _) (λ w' hb=>?p1) (X6 B t _) (λ w' hb=>?p2) (X6 B t _) (λ w' hb=>?p3) (X6 B t _) (λ w' hb=>?p4) (X6 B t _)).mono ?_
 case p0=>exact Qc7 ⟨#[102]⟩ sb (so+2) first (by decide) (Nat.le_trans hB hb.size) ht (hT.below hb).lt (h2.below hb) hf
 case p1=>exact Qc7 ⟨#[107]⟩ sb (so+4) keys (by decide) (Nat.le_trans hB hb.size) ht (hT.below hb).lt (h4.below hb) hk
 case p2=>exact Qc7 ⟨#[108]⟩ sb (so+3) life (by decide) (Nat.le_trans hB hb.size) ht (hT.below hb).lt (h3.below hb) hl
 case p3=>exact Qwa ⟨#[114]⟩ sb (so) root (by decide) (Nat.le_trans hB hb.size) ht (hT.below hb).lt (h0.below hb) hr
 case p4=>exact Qc7 ⟨#[119]⟩ sb (so+1) weight (by decide) (Nat.le_trans hB hb.size) ht (hT.below hb).lt (h1.below hb) hw
 rintro e w' ⟨u,he,hR,hb⟩
 exact⟨u,he,hR.imp (λ l ⟨x0,x1,x2,x3,x4,hl,p0,p1,p2,p3,p4⟩=>by subst hl;exact fits5 p0 p1 p2 p3 p4),hb⟩
theorem Qwc(sb so:Nat)(idx:Int)(wots path:List ByteArray)(hB:B≤w.heap.size)(ht:B≤t)(hT:NoRow t w)(h0:CellOff B t w sb so (.int .u64 idx))(h1:∃a c,CellOff B t w sb (so+1) (.slice a (len wots) c)∧StrsC (CellOff B t w) a wots)(h2:∃a c,CellOff B t w sb (so+2) (.slice a (len path) c)∧StrsC (CellOff B t w) a path)(hi:X8 idx)(hw:len wots≤100000)(hp:len path≤100000):
  Calls Tryz.prog 108 #[pt sb so] w (Qdi (FITs B t (Zk idx wots path)) w):=by
 obtain⟨a1,k1,q1,s1⟩:=h1
 obtain⟨a2,k2,q2,s2⟩:=h2
 refine(Qka sb so w (λ w v=>FIT B t w v (⟨⟨#[105]⟩,false,idx == 0,true,Xr idx⟩)) (λ w v=>FIT B t w v (⟨⟨#[112]⟩,false,decide (len path=0),Qab path 16,Qdh path⟩)) (λ w v=>FIT B t w v (⟨⟨#[118]⟩,false,decide (len wots=0),Qab wots 67,Qdh wots⟩))  (λ w' hb=>?p0) (X6 B t _) (λ w' hb=>?p1) (X6 B t _) (λ w' hb=>?p2) (X6 B t _)).mono ?_
 case p0=>exact Qc7 ⟨#[105]⟩ sb (so) idx (by decide) (Nat.le_trans hB hb.size) ht (hT.below hb).lt (h0.below hb) hi
 case p1=>exact Qm5 ⟨#[112]⟩ sb (so+2) k2 16 a2 path (by decide) (Nat.le_trans hB hb.size) ht (hT.below hb).lt (q2.below hb) (StrsOff.below s2 hb) hp (by decide)
 case p2=>exact Qm5 ⟨#[118]⟩ sb (so+1) k1 67 a1 wots (by decide) (Nat.le_trans hB hb.size) ht (hT.below hb).lt (q1.below hb) (StrsOff.below s1 hb) hw (by decide)
 rintro e w' ⟨u,he,hR,hb⟩
 exact⟨u,he,hR.imp (λ l ⟨x0,x1,x2,hl,p0,p1,p2⟩=>by subst hl;exact Qyt p0 p1 p2),hb⟩
theorem Qtp(sb so:Nat)(L:Int)(q:Bool)(idx:Int)(wots path:List ByteArray)(hB:B≤w.heap.size)(ht:B≤t)(hT:NoRow t w)(g0:CellOff B t w sb so (.int .u64 L))(g1:CellOff B t w sb (so+1) (.bool q))(h0:CellOff B t w sb (so+2) (.int .u64 idx))(h1:∃a c,CellOff B t w sb (so+3) (.slice a (len wots) c)∧StrsC (CellOff B t w) a wots)(h2:∃a c,CellOff B t w sb (so+4) (.slice a (len path) c)∧StrsC (CellOff B t w) a path)(hL:X8 L)(hi:X8 idx)(hw:len wots≤100000)(hp:len path≤100000):
  Calls Tryz.prog 61 #[pt sb so] w (Qdi (FITs B t (Q3 L q idx wots path)) w):=by
 obtain⟨a1,k1,q1,s1⟩:=h1
 obtain⟨a2,k2,q2,s2⟩:=h2
 refine(Qiu sb so w (λ w v=>FIT B t w v (Jn ⟨#[103]⟩ (Zk idx wots path))) (λ w v=>FIT B t w v (⟨⟨#[108]⟩,false,L == 0,true,Xr L⟩)) (λ w v=>FIT B t w v (⟨⟨#[115]⟩,false,!q,true,Xr 1⟩)) (FITs B t (Zk idx wots path)) (Qd8 B t (Zk idx wots path)) (λ w' hb=>?r0) (λ w' g c l hb hF hc hR=>?p0) (X6 B t (Jn ⟨#[103]⟩ (Zk idx wots path))) (λ w' hb=>?p1) (X6 B t _) (λ w' hb=>?p2) (X6 B t _)).mono ?_
 case r0=>exact Qwc sb (so+2) idx wots path (Nat.le_trans hB hb.size) ht (hT.below hb) (h0.below hb) ⟨a1,k1,q1.below hb,StrsOff.below s1 hb⟩ ⟨a2,k2,q2.below hb,StrsOff.below s2 hb⟩ hi hw hp
 case p0=>exact Qle ⟨#[103]⟩ g c l (Zk idx wots path) (by decide) (hT.below hb).lt ((hT.below hb).ne hF) hF (by show 0<3;decide) (by show 3≤1000;decide) hR
 case p1=>exact Qc7 ⟨#[108]⟩ sb (so) L (by decide) (Nat.le_trans hB hb.size) ht (hT.below hb).lt (g0.below hb) hL
 case p2=>exact Qtn ⟨#[115]⟩ sb (so+1) q (by decide) (Nat.le_trans hB hb.size) ht (hT.below hb).lt (g1.below hb)
 rintro e w' ⟨u,he,hR,hb⟩
 exact⟨u,he,hR.imp (λ l ⟨x0,x1,x2,hl,p0,p1,p2⟩=>by subst hl;exact Qyt p0 p1 p2),hb⟩
theorem Qpw(sb so:Nat)(d:RevD)(hB:B≤w.heap.size)(ht:B≤t)(hT:NoRow t w)(h:RevCl (CellOff B t w) sb so d)(bd:RvBd d):
  Calls Tryz.prog 155 #[pt sb so] w (Qdi (FITs B t (Zh d)) w):=by
 obtain⟨a1,k1,q1,s1⟩:=h.c4
 obtain⟨a2,k2,q2,s2⟩:=h.c5
 refine(Qfx sb so w (λ w v=>FIT B t w v (⟨⟨#[112]⟩,false,d.pos == 0,true,Xr d.pos⟩)) (λ w v=>FIT B t w v (Jn ⟨#[113]⟩ (Q5 d.root d.wt d.first d.life d.keys))) (λ w v=>FIT B t w v (Jn ⟨#[115]⟩ (Q3 d.L d.signed d.idx d.ws d.ps))) (FITs B t (Q5 d.root d.wt d.first d.life d.keys)) (FITs B t (Q3 d.L d.signed d.idx d.ws d.ps)) (λ w' hb=>?p0) (X6 B t _) (Qd8 B t (Q5 d.root d.wt d.first d.life d.keys)) (λ w' hb=>?r1) (λ w' g c l hb hF hc hR=>?p1) (X6 B t (Jn ⟨#[113]⟩ (Q5 d.root d.wt d.first d.life d.keys))) (Qd8 B t (Q3 d.L d.signed d.idx d.ws d.ps)) (λ w' hb=>?r2) (λ w' g c l hb hF hc hR=>?p2) (X6 B t (Jn ⟨#[115]⟩ (Q3 d.L d.signed d.idx d.ws d.ps)))).mono ?_
 case p0=>exact Qc7 ⟨#[112]⟩ sb (so) d.pos (by decide) (Nat.le_trans hB hb.size) ht (hT.below hb).lt (h.c0.below hb) bd.pos
 case r1=>exact Qto sb (so+6) d.root d.wt d.first d.life d.keys (Nat.le_trans hB hb.size) ht (hT.below hb) (h.c6.below hb) (h.c7.below hb) (h.c8.below hb) (h.c9.below hb) (h.c10.below hb) bd.root bd.wt bd.first bd.life bd.keys
 case p1=>exact Qle ⟨#[113]⟩ g c l (Q5 d.root d.wt d.first d.life d.keys) (by decide) (hT.below hb).lt ((hT.below hb).ne hF) hF (by show 0<5;decide) (by show 5≤1000;decide) hR
 case r2=>exact Qtp sb (so+1) d.L d.signed d.idx d.ws d.ps (Nat.le_trans hB hb.size) ht (hT.below hb) (h.c1.below hb) (h.c2.below hb) (h.c3.below hb) ⟨a1,k1,q1.below hb,StrsOff.below s1 hb⟩ ⟨a2,k2,q2.below hb,StrsOff.below s2 hb⟩ bd.L bd.idx bd.ws bd.ps
 case p2=>exact Qle ⟨#[115]⟩ g c l (Q3 d.L d.signed d.idx d.ws d.ps) (by decide) (hT.below hb).lt ((hT.below hb).ne hF) hF (by show 0<3;decide) (by show 3≤1000;decide) hR
 rintro e w' ⟨u,he,hR,hb⟩
 exact⟨u,he,hR.imp (λ l ⟨x0,x1,x2,hl,p0,p1,p2⟩=>by subst hl;exact Qyt p0 p1 p2),hb⟩
theorem Qyu(pb po:Nat)(d:RevD)(hB:B≤w.heap.size)(ht:B≤t)(hT:NoRow t w)(h:RevCl (CellOff B t w) pb po d)(bd:RvBd d):
  Calls Tryz.prog 154 #[pt pb po] w λ e w'=>e=.returned (.bool (Q8 (Zh d)))∧Below w.heap.size w w':=by
 have H:=QLh (Qpw pb po d hB ht hT h bd);have HL3:Hid (len (Zh d)=3):=QLh rfl;clear h
 generalize Zh d=fs at H HL3 ⊢
 go_enter Tryz.func154,Tryz.ntmps154
 go_wp2_with fail
 refine H.out.mono ?_
 rintro e w1 ⟨u,rfl,⟨g,c,l,rfl,hc,hF,hS⟩,hb⟩
 have HF:=QLh hF;have HS:=QLh hS;have HB:=QLh hb;have HLN:Hid (len l=3):=QLh (hS.sems.1.symm.trans HL3.out);clear hF hS hb H
 go_wp2_with fail
 refine(Qod B w1 (some ⟨g,0,none⟩) c l fs w1 HF.out.flds (by have:=HLN.out;omega) HS.out.sems (Keep8.refl HS.out.1)).mono ?_
 rintro e w2 ⟨rfl,hb⟩
 have HB2:=QLh (Qk HB.out hb);clear hb
 go_wp2
 go_ret
 exact⟨rfl,HB2.out⟩
end
theorem Qtq{B b base:Nat}{w:World}(hB:B≤base)(hb:base≤b)(hs:B≤w.heap.size):Keep8 B (Qdk w b (.cells #[] 5 (0,0))) w∧Off8 (Qdk w b (.cells #[] 5 (0,0))) b:=by
 refine⟨⟨by rw[Qcr];exact hs,by rw[Qcr];exact Nat.le_refl _,λ k hk=>(Qc6 (by omega)).symm,λ k x hx hn=>?_⟩,λ x hx hn=>?_⟩
 ·have e:k≠b:=λ e=>by
   subst e
   exact hn _ _ (Qok hx)
  rw[Qc6 e]at hx;exact hx
 ·exact hn _ _ (Qok hx)
theorem Qyv(B b base pb po:Nat)(d:RevD)(s:ByteArray)(w:World)(hBw:B≤w.heap.size)(h:RevCl (CellOff B b w) pb po d)(bd:RvBd d)(hm:Q8 (Zh d)=true)(ht:PTab B w)(hB:B≤base)(hW:WrB w b base s)(hs:s.size+(Qe7 d).size≤60000000000000):
  Calls Tryz.prog 156 #[pt b 0,pt pb po] w λ e w'=>e=.returned (.tuple #[])∧WrB w' b base (s++Qe7 d)∧WK base b w w':=by
 have hbb:base≤b:=hW.1;have hNR:NoRow b w:=by obtain⟨_,v,h1,_⟩:=hW;exact⟨_,_,_,h1,by decide⟩
 have hbw:base≤w.heap.size:=by have:=hW.lt;omega
 have H:=QLh (Qpw pb po d hBw (Nat.le_trans hB hbb) hNR h bd);have HT:=QLh ht;have HW:=QLh hW;clear h ht hW hNR
 unfold Qe7 at hs ⊢
 have HL3:Hid (len (Zh d)=3):=QLh rfl
 generalize Zh d=fs at H HL3 hm hs ⊢
 have HM:=QLh hm;have HSZ:=QLh hs;clear hm hs
 go_enter Tryz.func156,Tryz.ntmps156
 go_wp2_with fail
 refine H.out.mono ?_
 rintro e w1 ⟨u,rfl,⟨g,c,l,rfl,hc,hF,hS⟩,hb⟩
 have HF:=QLh hF;have HS:=QLh hS;have HB:=QLh hb;have HT1:=QLh (HT.out.keep hb HT.out.size);have HW1:=QLh (HW.out.below hb);have HLN:Hid (len l=3):=QLh (hS.sems.1.symm.trans HL3.out);have hof:=Qtq (w:=w1) hB hbb hS.1;have HOF:=QLh hof;clear hF hS hb H hof
 go_wp2_with fail
 refine(Qof B b base g 0 c (Qdk w1 b (.cells #[] 5 (0,0))) l fs s w1 HF.out.flds (by have:=HLN.out;omega) (by have:=HLN.out;omega) (HS.out.2.2 _) HM.out HOF.out.1 HOF.out.2 HT1.out hB HW1.out HSZ.out).mono ?_
 rintro e w2 ⟨rfl,h3,h4⟩
 have H3:=QLh h3;have H4:Hid (WK base b w w2):=QLh ((WK.of_below HB.out hbw).trans h4);clear h3 h4
 go_wp2
 go_end0
 exact⟨rfl,H3.out,H4.out⟩
structure CLasts(C:World→CP):Prop where
 below:∀w w' b o x,Below w.heap.size w w'→C w b o x→C w' b o x
 cell:∀w b o x,C w b o x→w.cell? ⟨b,o,none⟩=some x
theorem Qlg(B t:Nat):CLasts (CellOff B t):=⟨λ w w' b o x hb h=>h.below hb,λ w b o x h=>h.1.cell⟩
def Q0t(C:World→CP)(w:World)(l:List RevD)(g:Nat)(lb:Array Value)(p:Nat→Bool):Prop:=
 (∀args w',(callFunc g args).run Tryz.prog w'=.ok (.enter g args) w')∧∀i,i<len l→∀w' v,Below w.heap.size w w'→RevV (C w') v (lth l i)→Calls Tryz.prog g (#[v]++lb) w' λ e w''=>e=.returned (.bool (p i))∧Below w'.heap.size w' w''
theorem Qwd(C:World→CP)(hC:CLasts C)(a:Option Addr)(c:Nat)(l:List RevD)(g:Nat)(lb:Array Value)(p:Nat→Bool)(w:World)(hl:RvsC (C w) a l)(hn:len l≤100000)(hp:Q0t C w l g lb p):
  Calls Tryz.prog 197 #[.slice a (len l) c,.func (.func g) #[] lb] w (Qpe (len l) p w):=by
 have HL:=QLh hl;have HP:=QLh hp.2;have eg:=hp.1;clear hl hp
 go_enter Tryz.func197,Tryz.ntmps197
 go_wp2
 go_loopg [8] (len l) (λ g i wr=>∃m:Nat,g+m=len l∧i=.int .i64 m∧Hid (∀i,i<m→p i=false)∧Hid (Below w.heap.size w wr))
 case atStart=>exact⟨0,rfl,rfl,λ i hi=>by omega,Below.refl _ _⟩
 case round=>
  obtain⟨m,hm,rfl,HN,HB⟩:=hrel
  by_cases hlt:m<len l
  ·obtain⟨b,off,rfl,hc⟩:=(HL.out.imp λ _ _ _ h=>hC.below _ _ _ _ _ HB.out h) m hlt
   have i1:(m:Int)<len l:=by omega
   have hcall:=HP.out m hlt wr
   obtain⟨d,hd⟩:∃d,lth l m=d:=⟨_,rfl⟩
   rw[hd]at hc hcall
   clear hd
   obtain⟨a4,k4,h4,s4⟩:=hc.c4
   obtain⟨a5,k5,h5,s5⟩:=hc.c5
   have HC:=QLh (hcall _ HB.out ⟨a4,k4,a5,k5,rfl,s4,s5⟩);have c0:=hC.cell _ _ _ _ hc.c0;have c1:=hC.cell _ _ _ _ hc.c1;have c2:=hC.cell _ _ _ _ hc.c2;have c3:=hC.cell _ _ _ _ hc.c3;have c4:=hC.cell _ _ _ _ h4;have c5:=hC.cell _ _ _ _ h5;have c6:=hC.cell _ _ _ _ hc.c6;have c7:=hC.cell _ _ _ _ hc.c7;have c8:=hC.cell _ _ _ _ hc.c8;have c9:=hC.cell _ _ _ _ hc.c9;have c10:=hC.cell _ _ _ _ hc.c10;clear hc hcall h4 h5 s4 s5
   go_wp2_with fail
   refine HC.out.mono ?_
   rintro e w1 ⟨rfl,hb⟩
   have HB1:Hid (Below w.heap.size w w1):=QLh (Qk HB.out hb);clear hb c0 c1 c2 c3 c4 c5 c6 c7 c8 c9 c10
   cases hpm:p m with
   | true=>
    go_wp2
    go_ret
    exact⟨m,rfl,.inr ⟨m,hlt,rfl,hpm,HN.out⟩,HB1.out⟩
   | false=>
    have HN2:Hid (∀i,i<m+1→p i=false):=QLh (λ i hi=>by
     by_cases e:i=m
     ·subst e;exact hpm
     ·exact HN.out i (by omega))
    clear hpm
    go_wp2
    go_roundg (len l - (m+1))
    case rel=>exact⟨m+1,by omega,by go_num,HN2.out,HB1.out⟩
    case measure=>omega
  ·obtain rfl:m=len l:=by omega
   have i1:¬((len l:Nat):Int)<len l:=by omega
   go_wp2
   go_ret
   exact⟨-1,rfl,.inl ⟨rfl,HN.out⟩,HB.out⟩
theorem Qlh(C:World→CP)(hC:CLasts C)(a:Option Addr)(c:Nat)(l:List RevD)(g:Nat)(lb:Array Value)(p:Nat→Bool)(w:World)(hl:RvsC (C w) a l)(hn:len l≤100000)(hp:Q0t C w l g lb p):
  Calls Tryz.prog 119 #[.slice a (len l) c,.func (.func g) #[] lb] w λ e w'=>∃b,e=.returned (.bool b)∧(b=true ↔ ∃i,i<len l∧p i=true)∧Below w.heap.size w w':=by
 have H:=QLh (Qwd C hC a c l g lb p w hl hn hp);clear hl hp
 go_enter Tryz.func119,Tryz.ntmps119
 go_wp2_with fail
 refine H.out.mono ?_
 rintro e w1 ⟨r,rfl,hr,hb⟩
 have HB:=QLh hb;clear hb
 rcases hr with⟨rfl,hall⟩ | ⟨k,hk,rfl,hpk,-⟩
 ·have HA:=QLh hall
  clear hall
  go_wp2
  go_ret
  exact⟨false,rfl,⟨λ h=>(by cases h),fun ⟨i,hi,h⟩=>by rw[HA.out i hi]at h;cases h⟩,HB.out⟩
 ·have HK:=QLh hpk
  clear hpk
  go_wp2
  go_ret
  exact⟨true,rfl,⟨λ _=>⟨k,hk,HK.out⟩,λ _=>rfl⟩,HB.out⟩
theorem Qos(B b9:Nat)(v:Value)(d:RevD)(w:World)(hBw:B≤w.heap.size)(hb9:B≤b9)(hT:NoRow b9 w)(h1:CellAt B w b9 0 (.func (.func 154) #[] #[]))(hv:RevV (CellOff B b9 w) v d)(bd:RvBd d):Calls Tryz.prog 229 #[v,pt b9 0] w λ e w'=>e=.returned (.bool (!Q8 (Zh d)))∧Below w.heap.size w w':=by
 have c1:=h1.cell;have l1:=h1.lt;have eg:=enters_of Tryz.func154 (by kernel_rfl) rfl
 obtain⟨a4,k4,a5,k5,rfl,s4,s5⟩:=hv
 have S4:=QLh s4;have S5:=QLh s5;have HOC:=QLh (fun (V:World) (pb:Nat) (h1:Below w.heap.size w V) (h:RevCl (CellOff B b9 V) pb 0 d)=>Qyu (B:=B) (t:=b9) (w:=V) pb 0 d (Nat.le_trans hBw h1.size) hb9 (hT.below h1) h bd)
 generalize Zh d=fs at HOC ⊢
 clear h1 s4 s5
 go_enter Tryz.func229,Tryz.ntmps229
 go_wp2_with fail
 obtain⟨V,hV⟩:∃V,w.alloc (.cells #[.int .u64 d.pos,.int .u64 d.L,.bool d.signed,.int .u64 d.idx,.slice a4 (len d.ws) k4,.slice a5 (len d.ps) k5,.string d.root,.int .u64 d.wt,.int .u64 d.first,.int .u64 d.life,.int .u64 d.keys] 48)=V:=⟨_,rfl⟩
 have hB1:Below w.heap.size w V:=by rw[←hV];exact Qh (Below.refl _ _) _
 have hN:V.heap[w.heap.size]?=some (.cells #[.int .u64 d.pos,.int .u64 d.L,.bool d.signed,.int .u64 d.idx,.slice a4 (len d.ws) k4,.slice a5 (len d.ps) k5,.string d.root,.int .u64 d.wt,.int .u64 d.first,.int .u64 d.life,.int .u64 d.keys] 48 (0,0)):=by rw[←hV];exact heap_alloc_new _ _
 try rw[hV]
 clear hV;have hne:w.heap.size≠b9:=by omega
 have C:=fun (o:Nat) (x:Value) (hx:(#[.int .u64 d.pos,.int .u64 d.L,.bool d.signed,.int .u64 d.idx,.slice a4 (len d.ws) k4,.slice a5 (len d.ps) k5,.string d.root,.int .u64 d.wt,.int .u64 d.first,.int .u64 d.life,.int .u64 d.keys]:Array Value)[o]?=some x)=>(⟨Qr hN (by decide) hx,hne⟩:CellOff B b9 V w.heap.size o x)
 refine(HOC.out V w.heap.size hB1 ⟨C 0 _ rfl,C 1 _ rfl,C 2 _ rfl,C 3 _ rfl,⟨a4,k4,C 4 _ rfl,S4.out.imp λ _ _ _ h=>h.below hB1⟩,⟨a5,k5,C 5 _ rfl,S5.out.imp λ _ _ _ h=>h.below hB1⟩,C 6 _ rfl,C 7 _ rfl,C 8 _ rfl,C 9 _ rfl,C 10 _ rfl⟩).mono ?_
 rintro e w1 ⟨rfl,hb⟩
 have HB:Hid (Below w.heap.size w w1):=QLh (Qk hB1 hb);clear hb C hN hB1 S4 S5
 go_wp2
 go_ret
 exact⟨rfl,HB.out⟩
theorem Qyw(l:List RevD):((l.all λ r=>Q8 (Zh r))=false ↔ ∃i,i<len l∧(!Q8 (Zh (lth l i)))=true):=by
 rw[List.all_eq_false]
 constructor
 ·rintro⟨x,hx,hm⟩
  obtain⟨i,hi,rfl⟩:=List.getElem_of_mem hx
  exact⟨i,hi,by rw[Jw l i hi];simpa using hm⟩
 ·rintro⟨i,hi,hm⟩
  have hi':i<l.length:=hi
  exact⟨l[i],List.getElem_mem _,by rw[Jw l i hi']at hm;simpa using hm⟩
theorem Qtr{l:List RevD}{most:Nat}(h:Qps l most=true):len l≤most∧∀i,i<len l→Q8 (Zh (lth l i))=true:=by
 obtain⟨h1,h2⟩:=(Qld l most).1 h
 exact⟨h1,λ i hi=>by rw[Jw l i hi];exact h2 _ (List.getElem_mem _)⟩
theorem Qrc(B b7 b8 b9 pb po c most:Nat)(a:Option Addr)(l:List RevD)(w:World)(h1:CellAt B w b7 0 (pt pb po))(h2:CellAt B w pb po (.slice a (len l) c))(h3:CellAt B w b8 0 (.int .i64 most))(h4:CellAt B w b9 0 (.func (.func 154) #[] #[]))
  (hBw:B≤w.heap.size) (hb9:B≤b9) (hT:NoRow b9 w) (hl:RvsC (CellOff B b9 w) a l) (hbd:∀i,i<len l→RvBd (lth l i)) (hn:len l≤100000):Calls Tryz.prog 228 #[pt b7 0,pt b8 0,pt b9 0] w λ e w'=>e=.returned (.bool (Qps l most))∧Below w.heap.size w w':=by
 have c1:=h1.cell;have c2:=h2.cell;have c3:=h3.cell;have H4:=QLh h4;have HT:=QLh hT;have HL:=QLh hl;have eg:=enters_of Tryz.func229 (by kernel_rfl) rfl;clear h1 h2 h3 h4 hl hT;have HCF:Hid (∀w',Below w.heap.size w w'→Calls Tryz.prog 119 #[.slice a (len l) c,.func (.func 229) #[] #[pt b9 0]] w' λ e w''=>∃b,e=.returned (.bool b)∧(b=true ↔ ∃i,i<len l∧(!Q8 (Zh (lth l i)))=true)∧Below w'.heap.size w' w''):=
  QLh (λ w' hb=>Qlh (CellOff B b9) (Qlg B b9) a c l _ _ (λ i=>!Q8 (Zh (lth l i))) w' (HL.out.imp λ _ _ _ h=>h.below hb) hn ⟨eg,λ i hi w'' v hb2 hv=>Qos B b9 v (lth l i) w'' (Nat.le_trans hBw (Qk hb hb2).size) hb9 (HT.out.below (Qk hb hb2)) ((H4.out.below hb).below hb2) hv (hbd i hi)⟩)
 by_cases hm:len l≤most
 ·have i1:decide (len l≤most)=true:=decide_eq_true hm
  have i2:(len l:Int)≤most:=by omega
  have HM:=QLh i1;clear i1 hm
  go_enter Tryz.func228,Tryz.ntmps228
  go_wp2_with fail
  go_still_tail 11,(by kernel_rfl)
  go_wp2_with fail
  refine(HCF.out _ (Zd (Below.refl _ _))).mono ?_
  rintro e w1 ⟨q,rfl,hq,hb⟩
  have HB:Hid (Below w.heap.size w w1):=QLh (Qk (Zd (Below.refl _ _)) hb);have HE:Hid ((!q)=Qps l most):=QLh (by
   unfold Qps
   rw[HM.out,Bool.true_and]
   have h:=Qyw l
   cases q with
   | true=>rw[h.2 (hq.1 rfl)];rfl
   | false=>
    cases hm:(l.all λ r=>Q8 (Zh r))with
    | true=>rfl
    | false=>exact absurd (hq.2 (h.1 hm)) (by decide))
  clear hb hq c1 c2 c3
  go_wp2
  go_ret
  exact⟨Z7 HE.out,HB.out⟩
 ·have i1:decide (len l≤most)=false:=decide_eq_false hm
  have HM:=QLh i1;have i2:¬(len l:Int)≤most:=by omega
  go_enter Tryz.func228,Tryz.ntmps228
  go_wp2_with fail
  go_quiet (fail)
  go_wp2
  go_ret
  exact⟨Z7 (by unfold Qps;rw[HM.out];rfl),by(repeat (first | exact Below.refl _ _ | assumption | (refine Zd ?_) | (refine Zc ?_ _) | (refine Qh ?_ _) | (refine Zs ?_ (by first | omega | (simp;done) | (simp;omega)) _) | (refine Qk ?_ (by assumption))))⟩
def Q0u(l:List RevD):ByteArray:=Z0 (len l)++Xo (l.map Qe7)
theorem Qrd(B b base b7 b10 pb po c:Nat)(a:Option Addr)(l:List RevD)(s:ByteArray)(W0 w:World)(h1:CellAt B W0 b7 0 (pt pb po))(h2:CellAt B W0 pb po (.slice a (len l) c))(h3:CellAt B W0 b10 0 (.func (.func 156) #[] #[]))
  (hl:RvsC (CellAt B W0) a l) (hbd:∀i,i<len l→RvBd (lth l i)) (hn:len l≤60000) (h32:∀i,i<len l→Q8 (Zh (lth l i))=true) (hk:Keep8 B W0 w) (hb0:Off8 W0 b)
  (ht:PTab B w) (hB:B≤base) (hW:WrB w b base s) (hs:s.size+(Q0u l).size≤60000000000000):
  Calls Tryz.prog 230 #[pt b 0,pt b7 0,pt b10 0] w λ e w'=>e=.returned (.tuple #[])∧WrB w' b base (s++Q0u l)∧WK base b w w':=by
 have H1:=QLh h1;have H2:=QLh h2;have H3:=QLh h3;have HL:=QLh hl;have H32:=QLh h32;have HK:=QLh hk;have HT:=QLh ht;have HWR:=QLh hW;have HBS:Hid (base≤w.heap.size):=QLh (by have:=hW.1;have:=hW.lt;omega);have HS:Hid (s.size+(Z0 (len l)).size+(Xo (l.map Qe7)).size≤60000000000000):=QLh (by unfold Q0u at hs;rw[ByteArray.size_append]at hs;omega);have hs0:s.size≤60000000000000:=by omega
 have c1:=(h1.keep hk).cell;have c2:=(h2.keep hk).cell;have eg:=enters_of Tryz.func156 (by kernel_rfl) rfl;clear h1 h2 h3 hl h32 hk ht hW hs
 go_enter Tryz.func230,Tryz.ntmps230
 go_wp2_with fail
 refine(Qsn B b base (len l) s w HT.out hB HWR.out (by omega) (by omega)).mono ?_
 rintro e w3 ⟨rfl,hw3,hk3⟩
 have HW3:Hid (WrB w3 b base (s++Z0 (len l)++Xo ((l.map Qe7).take 0))):=QLh (by
  have e:s++Z0 (len l)++Xo ((l.map Qe7).take 0)=s++Z0 (len l):=Xx (by simp[Xo])
  rw[e];exact hw3)
 have HK3:Hid (WK base b w w3):=QLh hk3;have hk8:=HK.out.wk hk3 hb0 hB;have d1:=(H1.out.keep hk8).cell;have d2:=(H2.out.keep hk8).cell;clear hw3 hk3 hk8 c1 c2
 go_wp2
 clear d1 d2
 go_loopg [15] (len l) (λ gg i wr=>∃m:Nat,gg+m=len l∧i=.int .i64 m∧Hid (WrB wr b base (s++Z0 (len l)++Xo ((l.map Qe7).take m)))∧Hid (WK base b w wr))
 case atStart=>exact⟨0,rfl,rfl,HW3.out,HK3.out⟩
 case round=>
  clear HW3 HK3
  obtain⟨m,hm2,rfl,HWW,HWK⟩:=hrel
  by_cases hlt:m<len l
  ·have i1:(m:Int)<len l:=by omega
   have hml:m<l.length:=hlt;have hk8:=HK.out.wk HWK.out hb0 hB;have HK8:=QLh hk8;have d1:=(H1.out.keep hk8).cell;have d2:=(H2.out.keep hk8).cell;have d3:=(H3.out.keep hk8).cell;have hBD:=hbd m hlt;have hbb:base≤b:=HWR.out.1
   obtain⟨gb,go,rfl,hcell⟩:=(HL.out.imp (D:=CellOff B b wr) λ _ _ _ h=>⟨h.keep hk8,CellOff.of h hb0 (Nat.le_trans hB hbb)⟩) m hlt
   have HCL:=QLh hcell;have hsn:(l.map Qe7).take (m+1)=(l.map Qe7).take m++[Qe7 (lth l m)]:=by
    rw[List.take_succ_eq_append_getElem (by simpa using hml),List.getElem_map,Jw l m hml]
   have hct:=Qfw (L:=l.map Qe7) (t:=m) (by simpa using hml);have hfm:(l.map Qe7)[m]'(by simpa using hml)=Qe7 (lth l m):=by rw[List.getElem_map,Jw l m hml]
   rw[hfm]at hct
   have h32m:=H32.out m hlt
   obtain⟨x,hx⟩:∃x,lth l m=x:=⟨_,rfl⟩
   rw[hx]at hsn hct h32m HCL hBD
   obtain⟨s1,hs1⟩:∃s1,s++Z0 (len l)++Xo ((l.map Qe7).take m)=s1:=⟨_,rfl⟩
   rw[hs1]at HWW
   have hs1s:s1.size+(Qe7 x).size≤60000000000000:=by
    rw[←hs1,ByteArray.size_append,ByteArray.size_append]
    have:=HS.out
    omega
   have HSN:Hid (s++Z0 (len l)++Xo ((l.map Qe7).take (m+1))=s1++Qe7 x):=QLh (by
    rw[hsn,Qfs,←hs1];simp only[ByteArray.append_assoc])
   have HTR:Hid (PTab B wr):=QLh (HT.out.keep HWK.out.bel hB);have hbr:base≤wr.heap.size:=by have:=HWK.out.bel.size;have:=HBS.out;omega
   have HBR:=QLh hbr;clear hk8 hcell hsn hct hfm hx hs1 hbr
   go_upto_region 4 with fail
   go_still_tail 7,(by kernel_rfl)
   go_wp2_with fail
   refine(Qyv B b base gb (go+m * 11) x s1 _ (Nat.le_trans HTR.out.size (Zd (Below.refl _ _)).size) (HCL.out.imp λ _ _ _ h=>h.below (Zd (Below.refl _ _))) hBD h32m (HTR.out.keep (Zd (Below.refl _ _)) HTR.out.size) hB (HWW.out.below (Zd (Below.refl _ _))) hs1s).mono ?_
   rintro e w5 ⟨rfl,hw5,hk5⟩
   have HW5:Hid (WrB w5 b base (s++Z0 (len l)++Xo ((l.map Qe7).take (m+1)))):=QLh (by rw[HSN.out];exact hw5);have HK5:Hid (WK base b w w5):=QLh ((HWK.out.trans (WK.of_below (Zd (Below.refl _ _)) HBR.out)).trans hk5);clear hw5 hk5 HWW HWK d1 d2 d3 HCL
   go_wp2
   go_roundg (len l - (m+1))
   case rel=>exact⟨m+1,by omega,by go_num,HW5.out,HK5.out⟩
   case measure=>omega
  ·obtain rfl:m=len l:=by omega
   have i1:¬((len l:Nat):Int)<len l:=by omega
   go_wp2
   go_end0
   refine⟨rfl,?_,HWK.out⟩
   have h:=HWW.out
   rw[List.take_of_length_le (by rw[List.length_map];exact Nat.le_refl _),ByteArray.append_assoc]at h
   exact h
theorem Qts(B:Nat)(key:ByteArray)(pb po c most:Nat)(a:Option Addr)(l:List RevD)(w:World)(hk:key.size<65536)(hBw:B≤w.heap.size)(hc:CellAt B w pb po (.slice a (len l) c))(hl:RvsC (CellAt B w) a l)(hn:len l≤100000)(hbd:∀i,i<len l→RvBd (lth l i))(hm:most≤60000):
  Calls Tryz.prog 153 #[.string key,pt pb po,.int .i64 most,.func (.func 154) #[] #[],.func (.func 156) #[] #[],.func (.func 157) #[] #[]] w λ e w'=>∃v:FVal,e=.returned v.val∧FSem B w' v ⟨key,false,decide (len l=0),Qps l most,Q0u l⟩∧Below w.heap.size w w':=by
 refine(Qj7 key pb po most w).mono ?_
 rintro e V ⟨v,rfl,⟨bx,hlo,hM,rfl⟩,hb⟩
 have C0:CellAt B V bx 0 (pt pb po):=Qr hM.b0 (by decide) rfl;have C1:CellAt B V (bx+1) 0 (.int .i64 most):=Qr hM.b1 (by decide) rfl;have C2:CellAt B V (bx+1+1) 0 (.func (.func 154) #[] #[]):=Qr hM.b2 (by decide) rfl;have C3:CellAt B V (bx+1+1+1) 0 (.func (.func 156) #[] #[]):=Qr hM.b3 (by decide) rfl;have CP:CellAt B V pb po (.slice a (len l) c):=hc.below hb;have SL:RvsC (CellAt B V) a l:=hl.imp λ _ _ _ h=>h.below hb;have HN:NoRow (bx+1+1) V:=⟨_,_,_,hM.b2,by decide⟩
 refine⟨_,rfl,?_,hb⟩
 refine⟨rfl,rfl,hk,enters_of Tryz.func227 (by kernel_rfl) rfl,enters_of Tryz.func228 (by kernel_rfl) rfl,enters_of Tryz.func230 (by kernel_rfl) rfl,λ w' hw=>Qkc B bx pb po (len l) c a w' (C0.keep hw) (CP.keep hw),λ w' hw=>?_,λ hm1 he w' b base s hw hb ht hB hW hs=>Qrd B b base bx (bx+1+1+1) pb po c a l s V w' C0 CP C3 SL hbd (by have:=(Qtr hm1).1;omega) (Qtr hm1).2 hw hb ht hB hW hs⟩
 exact Qrc B bx (bx+1) (bx+1+1) pb po c most a l w' (C0.keep hw) (CP.keep hw) (C1.keep hw) (C2.keep hw) (by have:=hw.s0;have:=hw.s1;omega) (by omega) ⟨_,_,_,hw.keep _ _ hM.b2 (Xj (by decide)),by decide⟩ (hl.imp λ b o x h=>⟨(h.below hb).keep hw,by have:=h.lt;omega⟩) hbd hn
theorem Qas(n:Int)(k:Nat):(baL ((hiL n k).map toB)).size=k:=by rw[Qbm,List.length_map,Qdo]
theorem Qhv(n:Int)(w:World)(h0:0≤n)(h1:n≤255):Calls Tryz.prog 232 #[.int .u64 n] w λ e w'=>e=.returned (.string (baL [toB n]))∧Below w.heap.size w w':=by
 have y0:IntKind.u8.wrap n=n:=IntWalk.u8_in _ (by omega);have y1:n % 256=n:=by omega
 have hc:(convert 106 9 (.slice (some ⟨w.heap.size,0,none⟩) 1 1)).run Tryz.prog (w.alloc (.cells #[.int .u8 n] 5))=.ok (.string (baL [toB n])) (w.alloc (.cells #[.int .u8 n] 5)):=
  run_convert_bytes_arg (P:=Tryz.prog) _ 106 5 Tryz.underlying106 Tryz.underlying5 w.heap.size 0 1 1 [n] rfl (λ i hi=>by
   obtain rfl:i=0:=by omega
   exact Qa (heap_alloc_new _ _) 0) 9 Tryz.underlying9
 go_enter Tryz.func232,Tryz.ntmps232
 go_wp2
 go_ret
 exact⟨rfl,by(repeat (first | exact Below.refl _ _ | assumption | (refine Zd ?_) | (refine Zc ?_ _) | (refine Qh ?_ _) | (refine Zs ?_ (by first | omega | (simp;done) | (simp;omega)) _) | (refine Qk ?_ (by assumption))))⟩
theorem Jm(n:Int)(k:Nat)(w:World)(hk:k≤8)(h0:0≤n)(h1:n≤18446744073709551615):Calls Tryz.prog 233 #[.int .u64 n,.int .i64 k] w λ e w'=>e=.returned (.string (baL ((hiL n k).map toB)))∧Below w.heap.size w w':=by
 go_enter Tryz.func233,Tryz.ntmps233
 go_wp2
 go_loopg [0,5,6] k (λ g nn s i wr=>∃j:Nat,∃N:Int,∃b:ByteArray,g+j=k∧nn=.int .u64 N∧s=.string b∧i=.int .i64 j∧Hid (N=n / 256 ^ j∧0≤N∧N≤18446744073709551615)∧Hid (b=baL ((hiL n j).map toB))∧Hid (Below w.heap.size w wr))
 case atStart=>exact⟨0,n,_,rfl,rfl,rfl,rfl,⟨by simp,h0,h1⟩,rfl,Below.refl _ _⟩
 case round=>
  obtain⟨j,N,b,hj,rfl,rfl,rfl,HN,HS,HB⟩:=hrel
  by_cases hlt:j<k
  ·have i1:(j:Int)<k:=by omega
   have hn0:=HN.out.2.1;have hn1:=HN.out.2.2
   obtain⟨x,hx⟩:∃x,N % 256=x:=⟨_,rfl⟩
   have hx0:0≤x∧x≤255:=by omega
   have y0:N.tmod 256=x:=by rw[Int.tmod_eq_emod_of_nonneg hn0];exact hx
   have y1:IntKind.u8.wrap x=x:=IntWalk.u8_in _ (by omega);have y2:N.tdiv 256=N / 256:=Int.tdiv_eq_ediv_of_nonneg hn0;have y3:x % 256=x:=by omega
   obtain⟨M,hM⟩:∃M,N / 256=M:=⟨_,rfl⟩
   have hM0:0≤M∧M≤18446744073709551615:=by omega
   have HM:Hid (M=n / 256 ^ (j+1)):=QLh (by
    have hp:(0:Int)<256 ^ j:=Int.pow_pos (by decide)
    rw[←hM,HN.out.1,Int.pow_succ,Int.ediv_ediv,if_neg (by omega),Int.sub_zero])
   have HX:Hid (baL ((hiL n (j+1)).map toB)=baL [toB x]++b):=QLh (by
    rw[hiL,List.map_cons,HS.out,←Qn7,←HN.out.1,hx];rfl)
   have hbs:b.size=j:=by rw[HS.out,Qas]
   have hbz:(baL [toB x]).size=1:=rfl;have hc:=run_convert_bytes_arg (P:=Tryz.prog) (wr.alloc (.cells #[.int .u8 x] 5)) 106 5 Tryz.underlying106 Tryz.underlying5 wr.heap.size 0 1 1 [x] rfl (λ i hi=>by
    obtain rfl:i=0:=by omega
    exact Qa (heap_alloc_new _ _) 0) 9 Tryz.underlying9
   rw[show strOfNums [x]=baL [toB x]from rfl]at hc
   have HBB:Hid (Below w.heap.size w (wr.alloc (.cells #[.int .u8 x] 5))):=QLh (Qh HB.out _)
   obtain⟨z,hz⟩:∃z,baL [toB x]=z:=⟨_,rfl⟩
   rw[hz]at hc hbz HX
   rw[hM]at y2
   clear hz HN HS
   go_wp2
   go_roundg (k - (j+1))
   case rel=>exact⟨j+1,M,z++b,by omega,by first | rfl | simp[hM],rfl,by go_num,⟨HM.out,hM0⟩,HX.out.symm,HBB.out⟩
   case measure=>omega
  ·obtain rfl:j=k:=by omega
   have i1:¬(j:Int)<j:=by omega
   go_wp2
   go_ret
   exact⟨by rw[HS.out];rfl,HB.out⟩
theorem Qtt(n:Int)(w:World)(h0:0≤n)(h1:n≤18446744073709551615):Calls Tryz.prog 158 #[.int .u64 n] w λ e w'=>e=.returned (.string (baL (Xu 0 n)))∧Below w.heap.size w w':=by
 have EQ:=QLh (Qxn n)
 by_cases c1:n<128
 ·have EQ:Hid (Xu 0 n=[toB n]):=QLh (by rw[EQ.out,if_pos c1])
  go_enter Tryz.func158,Tryz.ntmps158
  go_wp2_with fail
  refine(Qhv (n) w (by omega) (by omega)).mono ?_
  rintro e w1 ⟨rfl,hb⟩
  have HB:=QLh hb;clear hb
  go_wp2
  go_ret
  exact⟨congrArg (λ s=>Ending.returned (.string s)) (Xx (by rw[EQ.out])),HB.out⟩
 by_cases c2:n<256
 ·have EQ:Hid (Xu 0 n=toB 204 :: (hiL n 1).map toB):=QLh (by rw[EQ.out,if_neg c1,if_pos c2])
  go_enter Tryz.func158,Tryz.ntmps158
  have zz:=Qas n 1
  go_wp2_with fail
  refine(Jm n 1 w (by decide) h0 h1).mono ?_
  rintro e w1 ⟨rfl,hb⟩
  have HB:=QLh hb;clear hb
  go_wp2
  go_ret
  exact⟨congrArg (λ s=>Ending.returned (.string s)) (Xx (by rw[EQ.out];simp[baL];rfl)),HB.out⟩
 by_cases c3:n<65536
 ·have EQ:Hid (Xu 0 n=toB 205 :: (hiL n 2).map toB):=QLh (by rw[EQ.out,if_neg c1,if_neg c2,if_pos c3])
  go_enter Tryz.func158,Tryz.ntmps158
  have zz:=Qas n 2
  go_wp2_with fail
  refine(Jm n 2 w (by decide) h0 h1).mono ?_
  rintro e w1 ⟨rfl,hb⟩
  have HB:=QLh hb;clear hb
  go_wp2
  go_ret
  exact⟨congrArg (λ s=>Ending.returned (.string s)) (Xx (by rw[EQ.out];simp[baL];rfl)),HB.out⟩
 by_cases c4:n<4294967296
 ·have EQ:Hid (Xu 0 n=toB 206 :: (hiL n 4).map toB):=QLh (by rw[EQ.out,if_neg c1,if_neg c2,if_neg c3,if_pos c4])
  go_enter Tryz.func158,Tryz.ntmps158
  have zz:=Qas n 4
  go_wp2_with fail
  refine(Jm n 4 w (by decide) h0 h1).mono ?_
  rintro e w1 ⟨rfl,hb⟩
  have HB:=QLh hb;clear hb
  go_wp2
  go_ret
  exact⟨congrArg (λ s=>Ending.returned (.string s)) (Xx (by rw[EQ.out];simp[baL];rfl)),HB.out⟩
 have EQ:Hid (Xu 0 n=toB 207 :: (hiL n 8).map toB):=QLh (by rw[EQ.out,if_neg c1,if_neg c2,if_neg c3,if_neg c4])
 go_enter Tryz.func158,Tryz.ntmps158
 have zz:=Qas n 8
 go_wp2_with fail
 refine(Jm n 8 w (by decide) h0 h1).mono ?_
 rintro e w1 ⟨rfl,hb⟩
 have HB:=QLh hb;clear hb
 go_wp2
 go_ret
 exact⟨congrArg (λ s=>Ending.returned (.string s)) (Xx (by rw[EQ.out];simp[baL];rfl)),HB.out⟩
theorem Qm9(sort:Nat)(n:Int)(w:World)(hs1:1≤sort)(hs5:sort<5)(h0:0≤n)(hn:n<65536):Calls Tryz.prog 159 #[.int .i64 sort,.int .u64 n] w λ e w'=>e=.returned (.string (baL (Xu sort n)))∧Below w.heap.size w w':=by
 have h1:n≤18446744073709551615:=by omega
 have hs:sort=1 ∨ sort=2 ∨ sort=3 ∨ sort=4:=by omega
 rcases hs with rfl | rfl | rfl | rfl
 ·have EQ:=QLh (Qxo hn)
  by_cases c1:n<256
  ·have EQ:Hid (Xu 1 n=toB 196 :: (hiL n 1).map toB):=QLh (by rw[EQ.out,if_pos c1])
   show Calls Tryz.prog 159 #[.int .i64 1,.int .u64 n] w _
   go_enter Tryz.func159,Tryz.ntmps159
   have zz:=Qas n 1
   go_wp2_with fail
   refine(Jm n 1 w (by decide) h0 h1).mono ?_
   rintro e w1 ⟨rfl,hb⟩
   have HB:=QLh hb;clear hb
   go_wp2
   go_ret
   exact⟨congrArg (λ s=>Ending.returned (.string s)) (Xx (by rw[EQ.out];simp[baL];rfl)),HB.out⟩
  have EQ:Hid (Xu 1 n=toB 197 :: (hiL n 2).map toB):=QLh (by rw[EQ.out,if_neg c1])
  show Calls Tryz.prog 159 #[.int .i64 1,.int .u64 n] w _
  go_enter Tryz.func159,Tryz.ntmps159
  have zz:=Qas n 2
  go_wp2_with fail
  refine(Jm n 2 w (by decide) h0 h1).mono ?_
  rintro e w1 ⟨rfl,hb⟩
  have HB:=QLh hb;clear hb
  go_wp2
  go_ret
  exact⟨congrArg (λ s=>Ending.returned (.string s)) (Xx (by rw[EQ.out];simp[baL];rfl)),HB.out⟩
 ·have EQ:=QLh (Qxp hn)
  by_cases c1:n<32
  ·have EQ:Hid (Xu 2 n=[toB (160+n)]):=QLh (by rw[EQ.out,if_pos c1])
   show Calls Tryz.prog 159 #[.int .i64 2,.int .u64 n] w _
   go_enter Tryz.func159,Tryz.ntmps159
   go_wp2_with fail
   refine(Qhv (160+n) w (by omega) (by omega)).mono ?_
   rintro e w1 ⟨rfl,hb⟩
   have HB:=QLh hb;clear hb
   go_wp2
   go_ret
   exact⟨congrArg (λ s=>Ending.returned (.string s)) (Xx (by rw[EQ.out])),HB.out⟩
  by_cases c2:n<256
  ·have EQ:Hid (Xu 2 n=toB 217 :: (hiL n 1).map toB):=QLh (by rw[EQ.out,if_neg c1,if_pos c2])
   show Calls Tryz.prog 159 #[.int .i64 2,.int .u64 n] w _
   go_enter Tryz.func159,Tryz.ntmps159
   have zz:=Qas n 1
   go_wp2_with fail
   refine(Jm n 1 w (by decide) h0 h1).mono ?_
   rintro e w1 ⟨rfl,hb⟩
   have HB:=QLh hb;clear hb
   go_wp2
   go_ret
   exact⟨congrArg (λ s=>Ending.returned (.string s)) (Xx (by rw[EQ.out];simp[baL];rfl)),HB.out⟩
  have EQ:Hid (Xu 2 n=toB 218 :: (hiL n 2).map toB):=QLh (by rw[EQ.out,if_neg c1,if_neg c2])
  show Calls Tryz.prog 159 #[.int .i64 2,.int .u64 n] w _
  go_enter Tryz.func159,Tryz.ntmps159
  have zz:=Qas n 2
  go_wp2_with fail
  refine(Jm n 2 w (by decide) h0 h1).mono ?_
  rintro e w1 ⟨rfl,hb⟩
  have HB:=QLh hb;clear hb
  go_wp2
  go_ret
  exact⟨congrArg (λ s=>Ending.returned (.string s)) (Xx (by rw[EQ.out];simp[baL];rfl)),HB.out⟩
 ·have EQ:=QLh (Qxq hn)
  by_cases c1:n<16
  ·have EQ:Hid (Xu 3 n=[toB (144+n)]):=QLh (by rw[EQ.out,if_pos c1])
   show Calls Tryz.prog 159 #[.int .i64 3,.int .u64 n] w _
   go_enter Tryz.func159,Tryz.ntmps159
   go_wp2_with fail
   refine(Qhv (144+n) w (by omega) (by omega)).mono ?_
   rintro e w1 ⟨rfl,hb⟩
   have HB:=QLh hb;clear hb
   go_wp2
   go_ret
   exact⟨congrArg (λ s=>Ending.returned (.string s)) (Xx (by rw[EQ.out])),HB.out⟩
  have EQ:Hid (Xu 3 n=toB 220 :: (hiL n 2).map toB):=QLh (by rw[EQ.out,if_neg c1])
  show Calls Tryz.prog 159 #[.int .i64 3,.int .u64 n] w _
  go_enter Tryz.func159,Tryz.ntmps159
  have zz:=Qas n 2
  go_wp2_with fail
  refine(Jm n 2 w (by decide) h0 h1).mono ?_
  rintro e w1 ⟨rfl,hb⟩
  have HB:=QLh hb;clear hb
  go_wp2
  go_ret
  exact⟨congrArg (λ s=>Ending.returned (.string s)) (Xx (by rw[EQ.out];simp[baL];rfl)),HB.out⟩
 ·have EQ:=QLh (Qxr hn)
  by_cases c1:n<16
  ·have EQ:Hid (Xu 4 n=[toB (128+n)]):=QLh (by rw[EQ.out,if_pos c1])
   show Calls Tryz.prog 159 #[.int .i64 4,.int .u64 n] w _
   go_enter Tryz.func159,Tryz.ntmps159
   go_wp2_with fail
   refine(Qhv (128+n) w (by omega) (by omega)).mono ?_
   rintro e w1 ⟨rfl,hb⟩
   have HB:=QLh hb;clear hb
   go_wp2
   go_ret
   exact⟨congrArg (λ s=>Ending.returned (.string s)) (Xx (by rw[EQ.out])),HB.out⟩
  have EQ:Hid (Xu 4 n=toB 222 :: (hiL n 2).map toB):=QLh (by rw[EQ.out,if_neg c1])
  show Calls Tryz.prog 159 #[.int .i64 4,.int .u64 n] w _
  go_enter Tryz.func159,Tryz.ntmps159
  have zz:=Qas n 2
  go_wp2_with fail
  refine(Jm n 2 w (by decide) h0 h1).mono ?_
  rintro e w1 ⟨rfl,hb⟩
  have HB:=QLh hb;clear hb
  go_wp2
  go_ret
  exact⟨congrArg (λ s=>Ending.returned (.string s)) (Xx (by rw[EQ.out];simp[baL];rfl)),HB.out⟩
def Qyx(b:ByteArray)(w:World)(e:Ending)(w':World):Prop:=e=.returned (.tuple #[.string b,.int .i64 0])∧Below w.heap.size w w'
theorem Qhc(n:Int)(t:ByteArray)(w:World)(h0:0≤n)(h1:n≤18446744073709551615):Calls Tryz.prog 97 #[.int .i64 0,.int .u64 n,.string t] w (Qyx (Xr n) w):=by
 have H:=QLh (Qtt n w h0 h1);have e:Xr n=baL (Xu 0 n):=by unfold Xr Qa7;exact Xx (by simp)
 rw[e]
 clear e
 go_enter Tryz.func97,Tryz.ntmps97
 go_wp2_with fail
 refine H.out.mono ?_
 rintro e w1 ⟨rfl,hb⟩
 have HB:=QLh hb;clear hb
 go_wp2
 go_ret2
 exact⟨rfl,HB.out⟩
theorem Qf0(sort:Nat)(n:Int)(t:ByteArray)(w:World)(hs:sort=1 ∨ sort=2)(ht:t.size<65536):Calls Tryz.prog 97 #[.int .i64 sort,.int .u64 n,.string t] w (Qyx (Qa7 sort t.size t) w):=by
 have H:=QLh (Qm9 sort t.size w (by omega) (by omega) (by omega) (by omega));have e:Qa7 sort t.size t=baL (Xu sort t.size)++t:=by
  unfold Qa7;rw[if_pos hs]
 rw[e]
 have hl:=Qfr sort t.size;have hz:(baL (Xu sort t.size)).size≤9:=by rw[Qbm];exact hl
 have hw:IntKind.u64.wrap (t.size:Int)=t.size:=IntWalk.u64_in _ (by omega)
 obtain⟨z,hzz⟩:∃z,baL (Xu sort t.size)=z:=⟨_,rfl⟩
 rw[hzz]at H hz ⊢
 have hd:decide ((65536:Int)≤(t.size:Int))=false:=decide_eq_false (by omega);have hi:(t.size:Int)≤70000:=by omega
 clear e hl hzz ht
 rcases hs with rfl | rfl
 ·show Calls Tryz.prog 97 #[.int .i64 1,.int .u64 n,.string t] w _
  go_enter Tryz.func97,Tryz.ntmps97
  go_wp2_with fail
  refine H.out.mono ?_
  rintro e w1 ⟨rfl,hb⟩
  have HB:=QLh hb;clear hb
  go_wp2
  go_ret2
  exact⟨rfl,HB.out⟩
 ·show Calls Tryz.prog 97 #[.int .i64 2,.int .u64 n,.string t] w _
  go_enter Tryz.func97,Tryz.ntmps97
  go_wp2_with fail
  refine H.out.mono ?_
  rintro e w1 ⟨rfl,hb⟩
  have HB:=QLh hb;clear hb
  go_wp2
  go_ret2
  exact⟨rfl,HB.out⟩
theorem Qf1(sort n:Nat)(t:ByteArray)(w:World)(hs:sort=3 ∨ sort=4)(hn:n<65536):Calls Tryz.prog 97 #[.int .i64 sort,.int .u64 n,.string t] w (Qyx (Qa7 sort n ByteArray.empty) w):=by
 have H:=QLh (Qm9 sort n w (by omega) (by omega) (by omega) (by omega));have e:Qa7 sort n ByteArray.empty=baL (Xu sort n):=by
  unfold Qa7;rw[if_neg (by omega)];exact Xx (by simp)
 rw[e]
 have hw:IntKind.i64.wrap (n:Int)=n:=IntWalk.i64_in _ (by omega);have hd:decide ((65536:Int)≤(n:Int))=false:=decide_eq_false (by omega);clear e hn
 rcases hs with rfl | rfl
 ·show Calls Tryz.prog 97 #[.int .i64 3,.int .u64 n,.string t] w _
  go_enter Tryz.func97,Tryz.ntmps97
  go_wp2_with fail
  refine H.out.mono ?_
  rintro e w1 ⟨rfl,hb⟩
  have HB:=QLh hb;clear hb
  go_wp2
  go_ret2
  exact⟨rfl,HB.out⟩
 ·show Calls Tryz.prog 97 #[.int .i64 4,.int .u64 n,.string t] w _
  go_enter Tryz.func97,Tryz.ntmps97
  go_wp2_with fail
  refine H.out.mono ?_
  rintro e w1 ⟨rfl,hb⟩
  have HB:=QLh hb;clear hb
  go_wp2
  go_ret2
  exact⟨rfl,HB.out⟩
abbrev BPs:=List (ByteArray × ByteArray)
def Qfa(ps:BPs):ByteArray:=Xo ((Qao ps).map λ p=>Qpd p.1++p.2)
def LyB(w:World)(b:Nat)(ps:BPs):Prop:=w.heap[b]?=some (.cells #[.int .u64 ((Qao ps).length:Nat),.string (Qfa ps)] 141 (0,0))
theorem LyB.below{w w':World}{b:Nat}{ps:BPs}(h:LyB w b ps)(hb:Below w.heap.size w w'):LyB w' b ps:=by
 unfold LyB;rw[hb.block b (lt_of_block h)];exact h
theorem Qea(ps:BPs)(key:ByteArray)(v:ByteArray)(h:v.size=0):Qao (ps++[(key,v)])=Qao ps:=by
 unfold Qao;rw[List.filter_append,List.filter_cons_of_neg (by simp[h])];simp
theorem Qke(ps:BPs)(key:ByteArray)(v:ByteArray)(h:v.size≠0):Qao (ps++[(key,v)])=Qao ps++[(key,v)]:=by
 unfold Qao;rw[List.filter_append,List.filter_cons_of_pos (by simp[h])];simp
theorem Qna(ps:BPs)(key:ByteArray)(v:ByteArray)(h:v.size≠0):Qfa (ps++[(key,v)])=Qfa ps++Qpd key++v:=by
 unfold Qfa;rw[Qke ps key v h,List.map_append,Qd2];simp[Xo,ByteArray.append_assoc]
theorem Qkf{b:Nat}{w w1:World}(h:Below w.heap.size w w1):Jg (some b) w w1:=⟨h.os,h.tape,h.output,h.size,λ i hi _=>h.block i hi⟩
theorem Qpx{b:Nat}{w w1:World}(h:Jg (some b) w w1)(o:Nat)(v:Value):Jg (some b) w (w1.setCell ⟨b,o,none⟩ v):=by
 refine⟨h.os,h.tape,h.output,by rw[show(w1.setCell ⟨b,o,none⟩ v).heap.size=w1.heap.size by simp];exact h.size,λ i hi hne=>?_⟩
 rw[Below.heap_setCell _ _ _ _ (by rintro e;exact hne (by rw[e]))];exact h.block i hi hne
theorem Jb{b n:Nat}{w w1:World}(h:Jg (some b) w w1)(hn:n≤b)(hw:n≤w.heap.size):Below n w w1:=⟨h.os,h.tape,h.output,h.size,λ i hi=>h.block i (by omega) (by rintro e;cases e;omega)⟩
theorem full5{t:ByteArray}(h:t.size≠0):t.toList.isEmpty=false:=by
 rw[ByteArray.toList_eq];cases t with | mk d=>simp_all [ByteArray.size]
theorem Jc(b:Nat)(ps:BPs)(key v:ByteArray)(w:World)(h:LyB w b ps)(hk:key.size<65536)(hn:ps.length≤1000)(hs:(Qfa ps).size≤30000000000000)(hv:v.size≤10000000000000):
  Calls Tryz.prog 81 #[pt b 0,.string key,.string v] w λ e w'=>e=.returned (.tuple #[])∧Jg (some b) w w'∧LyB w' b (ps++[(key,v)]):=by
 have H:=QLh h;have HN:=QLh hn
 by_cases h0:v.size=0
 ·have hv0:v=⟨#[]⟩:=by
   have:v=ByteArray.empty:=Xx (by have:=Qg9 v;rw[h0]at this;rw[List.length_eq_zero_iff.1 this];rfl)
   exact this
  have HV0:=QLh h0;clear h0
  subst hv0
  clear h hn
  go_enter Tryz.func81,Tryz.ntmps81
  go_wp2
  refine bodyPost_ret (results_none rfl _ _ _) rfl ?_
  exact⟨rfl,Qkf (by(repeat (first | exact Below.refl _ _ | assumption | (refine Zd ?_) | (refine Zc ?_ _) | (refine Qh ?_ _) | (refine Zs ?_ (by first | omega | (simp;done) | (simp;omega)) _) | (refine Qk ?_ (by assumption))))),by unfold LyB Qfa;rw[Qea _ _ _ rfl];exact H.out.below (by(repeat (first | exact Below.refl _ _ | assumption | (refine Zd ?_) | (refine Zc ?_ _) | (refine Qh ?_ _) | (refine Zs ?_ (by first | omega | (simp;done) | (simp;omega)) _) | (refine Qk ?_ (by assumption)))))⟩
 ·have e1:v.toList.isEmpty=false:=full5 h0
  have HV:=QLh h0;have HL:=QLh (Qf0 2 0 key w (.inr rfl) hk)
  obtain⟨K,hK⟩:∃K,Qa7 2 key.size key=K:=⟨_,rfl⟩
  have hKs:K.size≤70000:=by
   rw[←hK];unfold Qa7;rw[if_pos (.inr rfl)]
   have:=Qfr 2 key.size
   rw[ByteArray.size_append,Qbm];omega
  have HKK:Hid (Qpd key=K):=QLh hK
  rw[hK]at HL
  obtain⟨C,hC⟩:∃C,Qfa ps=C:=⟨_,rfl⟩
  have HC:=QLh hC
  rw[hC]at hs
  have hr:(Qao ps).length≤1000:=Nat.le_trans (List.length_filter_le _ _) hn
  obtain⟨m,hm⟩:∃m,(Qao ps).length=m:=⟨_,rfl⟩
  have HM:=QLh hm
  rw[hm]at hr
  have yy:IntKind.u64.wrap ((m:Int)+1)=((m+1:Nat):Int):=by rw[IntWalk.u64_in _ (by omega)];omega
  clear h hn h0 hk hK hC hm
  go_enter Tryz.func81,Tryz.ntmps81
  go_wp2_with fail
  refine HL.out.mono ?_
  rintro e w1 ⟨rfl,hb⟩
  have HB:=QLh hb;have hblk:=H.out.below hb
  unfold LyB at hblk
  rw[HC.out,HM.out]at hblk
  have c0:w1.cell? ⟨b,0,none⟩=some (.int .u64 m):=Qa hblk 0;have c1:w1.cell? ⟨b,1,none⟩=some (.string C):=Qa hblk 1;have f0:∀o,w1.frozen? ⟨b,o,none⟩=false:=Qj hblk;have HBK:=QLh hblk;clear hb hblk
  go_wp2_with fail
  go_upto_region 3 with fail
  obtain⟨V,hV⟩:∃V,w1.setCell ⟨b,1,none⟩ (.string (C++K++v))=V:=⟨_,rfl⟩
  have hVb:V.heap[b]?=some (.cells #[.int .u64 m,.string (C++K++v)] 141 (0,0)):=by rw[←hV];exact Qb HBK.out _
  have HVE:Hid (Jg (some b) w V):=QLh (by rw[←hV];exact Qpx (Qkf HB.out) _ _);have c0:V.cell? ⟨b,0,none⟩=some (.int .u64 m):=Qa hVb 0;have f0:∀o,V.frozen? ⟨b,o,none⟩=false:=Qj hVb;have HBK:=QLh hVb
  rw[hV]
  clear hV hVb
  go_wp2
  go_end0
  refine⟨rfl,Qpx HVE.out _ _,?_⟩
  unfold LyB
  rw[Qke _ _ _ HV.out,Qna _ _ _ HV.out,HC.out,HKK.out,List.length_append,HM.out]
  exact Qb HBK.out _
theorem Zu(sort:Nat)(n:Int)(t:ByteArray):(Qa7 sort n t).size≤9+t.size:=by
 unfold Qa7
 have:=Qfr sort n
 rw[ByteArray.size_append,Qbm]
 split
 ·omega
 ·show _+0≤_;omega
theorem Qbs(b:Nat)(ps:BPs)(w:World)(h:LyB w b ps)(hn:ps.length≤1000)(hs:(Qfa ps).size≤30000000000000):
  Calls Tryz.prog 84 #[pt b 0] w λ e w'=>e=.returned (.string (Zw ps))∧Below w.heap.size w w':=by
 have H:=QLh h;have hr:(Qao ps).length≤1000:=Nat.le_trans (List.length_filter_le _ _) hn;have HE:Hid (Zw ps=Qhs (Qao ps).length++Qfa ps):=QLh rfl
 obtain⟨m,hm⟩:∃m,(Qao ps).length=m:=⟨_,rfl⟩
 obtain⟨C,hC⟩:∃C,Qfa ps=C:=⟨_,rfl⟩
 unfold LyB at h
 rw[hm,hC]at h HE
 rw[hm]at hr
 rw[hC]at hs
 have c0:w.cell? ⟨b,0,none⟩=some (.int .u64 m):=Qa h 0;have c1:w.cell? ⟨b,1,none⟩=some (.string C):=Qa h 1;have HL:=QLh (Qf1 4 m ⟨#[]⟩ w (.inr rfl) (by omega));have hz:(Qhs m).size≤9:=Zu 4 m ByteArray.empty;have HE2:=QLh HE.out
 unfold Qhs at HE hz
 obtain⟨K,hK⟩:∃K,Qa7 4 m ByteArray.empty=K:=⟨_,rfl⟩
 rw[hK]at HL HE hz
 have hzi:(K.size:Int)≤9:=by omega
 clear h H hm hC HE2 hK hr
 go_enter Tryz.func84,Tryz.ntmps84
 go_wp2_with fail
 refine HL.out.mono ?_
 rintro e w1 ⟨rfl,hb⟩
 have HB:=QLh hb;have c1':w1.cell? ⟨b,1,none⟩=some (.string C):=(hb.cell (Qw c1)).trans c1;clear hb c0 c1
 go_wp2
 go_ret
 exact⟨by rw[HE.out];rfl,HB.out⟩
def Qbb(n:Int):ByteArray:=if n=0 then⟨#[]⟩else Xr n
theorem Qbq(n:Int)(w:World)(h0:0≤n)(h1:n≤18446744073709551615):Calls Tryz.prog 82 #[.int .u64 n] w λ e w'=>e=.returned (.string (Qbb n))∧Below w.heap.size w w':=by
 by_cases hz:n=0
 ·subst hz
  go_enter Tryz.func82,Tryz.ntmps82
  go_wp2
  go_ret
  exact⟨rfl,by(repeat (first | exact Below.refl _ _ | assumption | (refine Zd ?_) | (refine Zc ?_ _) | (refine Qh ?_ _) | (refine Zs ?_ (by first | omega | (simp;done) | (simp;omega)) _) | (refine Qk ?_ (by assumption))))⟩
 ·have HL:=QLh (Qhc n ⟨#[]⟩ w h0 h1)
  have HE:Hid (Qbb n=Xr n):=QLh (by unfold Qbb;rw[if_neg hz])
  obtain⟨K,hK⟩:∃K,Xr n=K:=⟨_,rfl⟩
  rw[hK]at HL HE
  have hz':decide (n=0)=false:=decide_eq_false hz;have hz2:(n == 0)=false:=by simp[hz]
  clear hz hK
  go_enter Tryz.func82,Tryz.ntmps82
  go_wp2_with fail
  refine HL.out.mono ?_
  rintro e w1 ⟨rfl,hb⟩
  have HB:=QLh hb;clear hb
  go_wp2
  go_ret
  exact⟨by rw[HE.out];rfl,HB.out⟩
theorem Qli(s:ByteArray)(w:World)(hs:s.size<65536):Calls Tryz.prog 83 #[.string s] w λ e w'=>e=.returned (.string (Jv s))∧Below w.heap.size w w':=by
 have HL:=QLh (Qf0 1 0 s w (.inl rfl) hs);have HE:Hid (Jv s=Qa7 1 s.size s):=QLh rfl
 obtain⟨K,hK⟩:∃K,Qa7 1 s.size s=K:=⟨_,rfl⟩
 rw[hK]at HL HE
 clear hs hK
 go_enter Tryz.func83,Tryz.ntmps83
 go_wp2_with fail
 refine HL.out.mono ?_
 rintro e w1 ⟨rfl,hb⟩
 have HB:=QLh hb;clear hb
 go_wp2
 go_ret
 exact⟨by rw[HE.out];rfl,HB.out⟩
theorem Qi4(n:Nat)(w:World)(hn:n<65536):Calls Tryz.prog 96 #[.int .i64 n] w λ e w'=>e=.returned (.string (Z0 n))∧Below w.heap.size w w':=by
 have HL:=QLh (Qf1 3 n ⟨#[]⟩ w (.inl rfl) hn);have HE:Hid (Z0 n=Qa7 3 n ByteArray.empty):=QLh rfl
 obtain⟨K,hK⟩:∃K,Qa7 3 n ByteArray.empty=K:=⟨_,rfl⟩
 rw[hK]at HL HE
 have hw:IntKind.u64.wrap (n:Int)=n:=IntWalk.u64_in _ (by omega);clear hn hK
 go_enter Tryz.func96,Tryz.ntmps96
 go_wp2_with fail
 refine HL.out.mono ?_
 rintro e w1 ⟨rfl,hb⟩
 have HB:=QLh hb;clear hb
 go_wp2
 go_ret
 exact⟨by rw[HE.out];rfl,HB.out⟩
def Jr(s:ByteArray):ByteArray:=if s=⟨#[128]⟩then⟨#[]⟩else s
theorem Qkg(s:ByteArray)(w:World):Calls Tryz.prog 138 #[.string s] w λ e w'=>e=.returned (.string (Jr s))∧Below w.heap.size w w':=by
 by_cases hz:s=⟨#[128]⟩
 ·subst hz
  go_enter Tryz.func138,Tryz.ntmps138
  go_wp2
  go_ret
  exact⟨rfl,by(repeat (first | exact Below.refl _ _ | assumption | (refine Zd ?_) | (refine Zc ?_ _) | (refine Qh ?_ _) | (refine Zs ?_ (by first | omega | (simp;done) | (simp;omega)) _) | (refine Qk ?_ (by assumption))))⟩
 ·have HE:Hid (Jr s=s):=QLh (by unfold Jr;rw[if_neg hz])
  have hz2:(s.toList == [128])=false:=by
   rw[ByteArray.toList_eq];exact beq_false_of_ne (λ h=>hz (Xx h))
  clear hz
  go_enter Tryz.func138,Tryz.ntmps138
  go_wp2
  go_ret
  exact⟨by rw[HE.out];rfl,by(repeat (first | exact Below.refl _ _ | assumption | (refine Zd ?_) | (refine Zc ?_ _) | (refine Qh ?_ _) | (refine Zs ?_ (by first | omega | (simp;done) | (simp;omega)) _) | (refine Qk ?_ (by assumption))))⟩
theorem Qdc(s:ByteArray)(w:World)(hs:s.size≤9223372036854775807):Calls Tryz.prog 64 #[.string s] w λ e w'=>e=.returned (.bool (decide (s.size=32)))∧Below w.heap.size w w':=by
 have h1:((s.size:Int) == 32)=decide (s.size=32):=by
  by_cases h:s.size=32
  ·rw[decide_eq_true h,h];rfl
  ·rw[decide_eq_false h];simp;omega
 go_enter Tryz.func64,Tryz.ntmps64
 go_wp2
 go_ret
 exact⟨by simp,by(repeat (first | exact Below.refl _ _ | assumption | (refine Zd ?_) | (refine Zc ?_ _) | (refine Qh ?_ _) | (refine Zs ?_ (by first | omega | (simp;done) | (simp;omega)) _) | (refine Qk ?_ (by assumption))))⟩
theorem Qhw(B:Nat)(a:Option Addr)(c most:Nat)(l:List ByteArray)(w:World)(hl:Strs B w a l)(hn:len l≤100000)(hm:most≤100000)(hz:∀i,i<len l→(sth l i).size≤9223372036854775807):
  Calls Tryz.prog 94 #[.slice a (len l) c,.int .i64 most] w λ e w'=>e=.returned (.bool (Qab l most))∧Below w.heap.size w w':=by
 have HL:=QLh hl;have HZ:=QLh hz;clear hl hz
 go_enter Tryz.func94,Tryz.ntmps94
 go_wp2
 go_loopg [5] (len l) (λ g i wr=>∃m:Nat,g+m=len l∧i=.int .i64 m∧Hid (∀i,i<m→(sth l i).size=32)∧Hid (Below w.heap.size w wr))
 case atStart=>exact⟨0,rfl,rfl,λ i hi=>by omega,Below.refl _ _⟩
 case round=>
  obtain⟨m,hg,rfl,HN,HB⟩:=hrel
  by_cases hlt:m<len l
  ·obtain⟨b,off,rfl,hc⟩:=(HL.out.below HB.out) m hlt
   have c0:=hc.cell;have i1:(m:Int)<len l:=by omega
   have hzm:=HZ.out m hlt;have HD:=QLh (Qdc (sth l m) wr hzm);clear hc
   by_cases h32:(sth l m).size=32
   ·have HN2:Hid (∀i,i<m+1→(sth l i).size=32):=QLh (λ i hi=>by
     by_cases e:i=m
     ·subst e;exact h32
     ·exact HN.out i (by omega))
    have hd:decide ((sth l m).size=32)=true:=decide_eq_true h32
    rw[hd]at HD
    generalize sth l m=v at c0 HD
    clear hzm h32 hd
    go_wp2_with fail
    refine HD.out.mono ?_
    rintro e w1 ⟨rfl,hb⟩
    have HB1:Hid (Below w.heap.size w w1):=QLh (Qk HB.out hb);clear hb c0
    go_wp2
    go_roundg (len l - (m+1))
    case rel=>exact⟨m+1,by omega,by go_num,HN2.out,HB1.out⟩
    case measure=>omega
   ·have HF:Hid (Qab l most=false):=QLh (by
     cases hc:Qab l most with
     | false=>rfl
     | true=>exact absurd ((Qbv hc).2 m hlt) h32)
    have hd:decide ((sth l m).size=32)=false:=decide_eq_false h32
    rw[hd]at HD
    generalize sth l m=v at c0 HD
    clear hzm h32 hd
    go_wp2_with fail
    refine HD.out.mono ?_
    rintro e w1 ⟨rfl,hb⟩
    have HB1:Hid (Below w.heap.size w w1):=QLh (Qk HB.out hb);clear hb c0
    go_wp2
    go_ret
    exact⟨by rw[HF.out];rfl,HB1.out⟩
  ·obtain rfl:m=len l:=by omega
   have i1:¬((len l:Nat):Int)<(len l:Nat):=by omega
   have hall:(l.all λ x=>decide (x.size=32))=true:=by
    cases hc:(l.all λ x=>decide (x.size=32))with
    | true=>rfl
    | false=>
     obtain⟨i,hi,h⟩:=(Qmv l).1 hc
     rw[decide_eq_true (HN.out i hi)]at h
     exact absurd h (by decide)
   have HE:Hid (Qab l most=decide (len l≤most)):=QLh (by
    unfold Qab
    rw[hall,Bool.and_true])
   clear hall
   go_wp2
   go_ret
   exact⟨by rw[HE.out];simp,HB.out⟩
theorem Qot(B:Nat)(idx:Int)(a1 a2:Option Addr)(k1 k2:Nat)(wots path:List ByteArray)(w:World)(hs1:Strs B w a1 wots)(hs2:Strs B w a2 path)(hw:len wots≤100000)(hp:len path≤100000)(hz1:∀i,i<len wots→(sth wots i).size≤9223372036854775807)(hz2:∀i,i<len path→(sth path i).size≤9223372036854775807):
  Calls Tryz.prog 74 #[.agg #[.int .u64 idx,.slice a1 (len wots) k1,.slice a2 (len path) k2]] w λ e w'=>e=.returned (.bool (Qab path 16 && Qab wots 67))∧Below w.heap.size w w':=by
 have HS1:=QLh hs1;have HS2:=QLh hs2;have HZ1:=QLh hz1;have HZ2:=QLh hz2;clear hs1 hs2 hz1 hz2
 go_enter Tryz.func74,Tryz.ntmps74
 go_wp2_with fail
 obtain⟨V,hV⟩:∃V,w.alloc (.cells #[.int .u64 idx,.slice a1 (len wots) k1,.slice a2 (len path) k2] 42)=V:=⟨_,rfl⟩
 have HB:Hid (Below w.heap.size w V):=QLh (by rw[←hV];(repeat (first | exact Below.refl _ _ | assumption | (refine Zd ?_) | (refine Zc ?_ _) | (refine Qh ?_ _) | (refine Zs ?_ (by first | omega | (simp;done) | (simp;omega)) _) | (refine Qk ?_ (by assumption)))))
 have hblk:V.heap[w.heap.size]?=some (.cells #[.int .u64 idx,.slice a1 (len wots) k1,.slice a2 (len path) k2] 42 (0,0)):=by rw[←hV];exact heap_alloc_new _ _
 try rw[hV]
 clear hV
 refine(Qhw B a2 k2 16 path V (HS2.out.below HB.out) hp (by decide) HZ2.out).mono ?_
 rintro e w1 ⟨rfl,hb⟩
 have HB1:Hid (Below w.heap.size w w1):=QLh (Qk HB.out hb);have c1:w1.cell? ⟨w.heap.size,1,none⟩=some (.slice a1 (len wots) k1):=(hb.cell (lt_of_block hblk)).trans (Qa hblk 1);clear hb hblk
 cases hm:Qab path 16 with
 | false=>
  have HM:=QLh hm;clear hm
  go_wp2
  go_ret
  exact⟨by rw[HM.out];rfl,HB1.out⟩
 | true=>
  have HM:=QLh hm;clear hm
  go_wp2_with fail
  refine(Qhw B a1 k1 67 wots w1 (HS1.out.below HB1.out) hw (by decide) HZ1.out).mono ?_
  rintro e w2 ⟨rfl,hb⟩
  have HB2:Hid (Below w.heap.size w w2):=QLh (Qk HB1.out hb);clear hb c1
  go_wp2
  go_ret
  exact⟨by rw[HM.out];rfl,HB2.out⟩
def Qds(l:List ByteArray):ByteArray:=if len l=0 then⟨#[]⟩else Qdh l
theorem Qyy(f:ByteArray→ByteArray)(l:List ByteArray)(m:Nat)(h:m<len l):Xo ((l.take (m+1)).map f)=Xo ((l.take m).map f)++f (sth l m):=by
 rw[Qcl l m h,List.take_succ_eq_append_getElem h,List.map_append,Qd2]
 simp[Xo]
theorem Qtu(f:ByteArray→ByteArray)(M:Nat):∀l:List ByteArray,(∀x ∈ l,(f x).size≤M)→(Xo (l.map f)).size≤l.length * M
 | [],_=>by simp[Xo]
 | x :: r,h=>by
  have ih:=Qtu f M r (λ y hy=>h y (List.mem_cons_of_mem _ hy));have h0:=h x List.mem_cons_self
  rw[List.map_cons,Xo,ByteArray.size_append,List.length_cons,Nat.succ_mul]
  omega
theorem Qwe(l:List ByteArray)(h:∀i,i<len l→(sth l i).size<65536):(Qdh l).size≤9+len l * 65544:=by
 unfold Qdh
 have h1:(Z0 (len l)).size≤9:=Zu 3 _ ByteArray.empty;have h2:=Qtu Jv 65544 l (λ x hx=>by
  obtain⟨i,hi,rfl⟩:=List.getElem_of_mem hx
  have:=h i hi
  rw[Qcl l i hi]at this
  have h3:(Jv l[i]).size≤9+l[i].size:=Zu 1 _ _
  omega)
 rw[ByteArray.size_append]
 have:l.length=len l:=rfl
 omega
theorem Qeb(l:List ByteArray)(h:∀i,i<len l→(sth l i).size<65536)(hn:len l≤60000):(Qds l).size≤4000000000:=by
 unfold Qds
 split
 ·decide
 ·have:=Qwe l h
  omega
theorem Qb7(B:Nat)(a:Option Addr)(c:Nat)(l:List ByteArray)(w:World)(hl:Strs B w a l)(hn:len l≤60000)(hz:∀i,i<len l→(sth l i).size<65536):
  Calls Tryz.prog 95 #[.slice a (len l) c] w λ e w'=>e=.returned (.string (Qds l))∧Below w.heap.size w w':=by
 have HL:=QLh hl;have HZ:=QLh hz
 by_cases h0:len l=0
 ·have HE:Hid (Qds l=⟨#[]⟩):=QLh (by unfold Qds;rw[if_pos h0])
  rw[h0]
  clear hl hz hn h0
  go_enter Tryz.func95,Tryz.ntmps95
  go_wp2
  go_ret
  exact⟨by rw[HE.out];rfl,by(repeat (first | exact Below.refl _ _ | assumption | (refine Zd ?_) | (refine Zc ?_ _) | (refine Qh ?_ _) | (refine Zs ?_ (by first | omega | (simp;done) | (simp;omega)) _) | (refine Qk ?_ (by assumption))))⟩
 have HE:Hid (Qds l=Z0 (len l)++Xo (l.map Jv)):=QLh (by unfold Qds;rw[if_neg h0];rfl);have HLP:=QLh (Qi4 (len l) w (by omega))
 obtain⟨K,hK⟩:∃K,Z0 (len l)=K:=⟨_,rfl⟩
 have hKs:K.size≤9:=by rw[←hK];exact Zu 3 _ ByteArray.empty
 rw[hK]at HLP HE
 have h0':(len l == 0)=false:=by simp[h0]
 have hd0:decide (len l=0)=false:=decide_eq_false h0;have HN:=QLh hn;clear hl hz hK h0
 go_enter Tryz.func95,Tryz.ntmps95
 go_wp2_with fail
 refine HLP.out.mono ?_
 rintro e w1 ⟨rfl,hb⟩
 have HB:=QLh hb;clear hb h0' hd0
 go_wp2
 go_loopg [3,4] (len l) (λ g s i wr=>∃m:Nat,∃t:ByteArray,g+m=len l∧s=.string t∧i=.int .i64 m∧Hid (t=K++Xo ((l.take m).map Jv)∧t.size≤9+m * 65544)∧Hid (Below w.heap.size w wr))
 case atStart=>exact⟨0,K,rfl,rfl,rfl,⟨by simp[Xo],by omega⟩,HB.out⟩
 case round=>
  obtain⟨m,t,hg,rfl,rfl,HT,HW⟩:=hrel
  by_cases hlt:m<len l
  ·obtain⟨b,off,rfl,hc⟩:=(HL.out.below HW.out) m hlt
   have c0:=hc.cell;have i1:(m:Int)<len l:=by omega
   have hzm:=HZ.out m hlt;have HD:=QLh (Qli (sth l m) wr hzm);have hts:=HT.out.2;have hbs:(Jv (sth l m)).size≤9+(sth l m).size:=Zu 1 _ _;have HT2:Hid (t++Jv (sth l m)=K++Xo ((l.take (m+1)).map Jv)):=QLh (by
    rw[Qyy _ _ _ hlt,←ByteArray.append_assoc,←HT.out.1])
   obtain⟨z,hzz⟩:∃z,Jv (sth l m)=z:=⟨_,rfl⟩
   rw[hzz]at HD HT2 hbs
   have hbz:z.size≤65544:=by omega
   have hmN:m≤60000:=by have:=HN.out;omega
   have hti:(t.size:Int)≤5000000000:=by omega
   have hzi:(z.size:Int)≤65544:=by omega
   generalize sth l m=v at c0 HD
   clear hc hzz hzm hbs
   go_wp2_with fail
   refine HD.out.mono ?_
   rintro e w2 ⟨rfl,hb⟩
   have HB1:Hid (Below w.heap.size w w2):=QLh (Qk HW.out hb);clear hb c0
   go_wp2
   go_roundg (len l - (m+1))
   case rel=>exact⟨m+1,t++z,by omega,rfl,by go_num,⟨HT2.out,by rw[ByteArray.size_append];omega⟩,HB1.out⟩
   case measure=>omega
  ·obtain rfl:m=len l:=by omega
   have i1:¬((len l:Nat):Int)<(len l:Nat):=by omega
   have HT2:Hid (t=K++Xo (l.map Jv)):=QLh (by rw[HT.out.1,show l.take (len l)=l from List.take_length]);clear HT
   go_wp2
   go_ret
   exact⟨by rw[HE.out,←HT2.out];rfl,HW.out⟩
theorem Qba(ps:BPs)(k v:ByteArray):(Qfa (ps++[(k,v)])).size≤(Qfa ps).size+k.size+9+v.size:=by
 by_cases h:v.size=0
 ·unfold Qfa;rw[Qea _ _ _ h];omega
 ·rw[Qna _ _ _ h,ByteArray.size_append,ByteArray.size_append]
  have:(Qpd k).size≤9+k.size:=Zu 2 _ _
  omega
theorem Qjp{j:Nat}{ps:BPs}{k v:ByteArray}(h:Hid ((Qfa ps).size≤j * 25000000000))(hk:k.size=1)(hv:v.size≤24900000000):Hid ((Qfa (ps++[(k,v)])).size≤(j+1) * 25000000000):=QLh (by
 have h1:=h.out;have h2:=Qba ps k v
 omega)
theorem Z6(n:Int):(Qbb n).size≤9:=by
 unfold Qbb
 split
 ·decide
 ·exact Zu 0 n ByteArray.empty
theorem Qdd(s:ByteArray):(Jv s).size≤9+s.size:=Zu 1 _ _
def Qdt(root:ByteArray)(weight first life keys:Int):BPs:=[(⟨#[102]⟩,Qbb first),(⟨#[107]⟩,Qbb keys),(⟨#[108]⟩,Qbb life),(⟨#[114]⟩,Jv root),(⟨#[119]⟩,Qbb weight)]
def Qav(idx:Int)(wots path:List ByteArray):BPs:=[(⟨#[105]⟩,Qbb idx),(⟨#[112]⟩,Qds path),(⟨#[118]⟩,Qds wots)]
def Jz(L:Int)(q:Bool)(idx:Int)(wots path:List ByteArray):BPs:=[(⟨#[103]⟩,Jr (Zw (Qav idx wots path))),(⟨#[108]⟩,Qbb L),(⟨#[115]⟩,if q then Xr 1 else⟨#[]⟩)]
theorem Qnb(root:ByteArray)(weight first life keys:Int)(w:World)(hr:root.size<65536)(hw:X8 weight)(hf:X8 first)(hl:X8 life)(hk:X8 keys):
  Calls Tryz.prog 65 #[.agg #[.string root,.int .u64 weight,.int .u64 first,.int .u64 life,.int .u64 keys]] w λ e w'=>e=.returned (.string (Zw (Qdt root weight first life keys)))∧Below w.heap.size w w':=by
 have HR:=QLh hr;clear hr
 go_enter Tryz.func65,Tryz.ntmps65
 go_upto_region 2 with fail
 obtain⟨V,hV⟩:∃V,(w.alloc (.cells #[.string root,.int .u64 weight,.int .u64 first,.int .u64 life,.int .u64 keys] 46)).alloc (.cells #[.int .u64 0,.string ⟨#[]⟩] 141)=V:=⟨_,rfl⟩
 have HB:Hid (Below w.heap.size w V):=QLh (by rw[←hV];(repeat (first | exact Below.refl _ _ | assumption | (refine Zd ?_) | (refine Zc ?_ _) | (refine Qh ?_ _) | (refine Zs ?_ (by first | omega | (simp;done) | (simp;omega)) _) | (refine Qk ?_ (by assumption)))))
 have HP:Hid (V.heap[w.heap.size]?=some (.cells #[.string root,.int .u64 weight,.int .u64 first,.int .u64 life,.int .u64 keys] 46 (0,0))):=QLh (by rw[←hV];exact Qf (heap_alloc_new _ _) _);have HY:Hid (LyB V (w.heap.size+1) []):=QLh (by rw[←hV];exact Qi _ (by simp));have cP:∀o,V.cell? ⟨w.heap.size,o,none⟩=_:=Qa HP.out
 rw[hV]
 clear hV;have HZ:Hid ((Qfa []).size≤0 * 25000000000):=QLh (by decide)
 go_wp2_with fail
 refine(Qbq first V hf.1 hf.2).mono ?_
 rintro e w1 ⟨rfl,hb⟩
 have HP:=QLh ((hb.block _ (lt_of_block HP.out)).trans HP.out);have HY:=QLh (HY.out.below hb);have HB:=QLh (Qk HB.out hb);clear hb
 try clear cP
 go_wp2_with fail
 refine(Jc _ _ ⟨#[102]⟩ (Qbb first) w1 HY.out (by decide) (by simp) (by have:=HZ.out;omega) (by have:=Z6 first;omega)).mono ?_
 rintro e w2 ⟨rfl,hx,hl⟩
 have HZ:=Qjp (k:=⟨#[102]⟩) (v:=Qbb first) HZ rfl (by have:=Z6 first;omega);have HP:=QLh (Qn hx (by simp) HP.out);have HY:=QLh hl;have HB:=QLh (HB.out.trans (Jb hx (by omega) HB.out.size));have cP:∀o,World.cell? w2 ⟨w.heap.size,o,none⟩=_:=Qa HP.out;clear hx hl
 go_wp2_with fail
 refine(Qbq keys w2 hk.1 hk.2).mono ?_
 rintro e w3 ⟨rfl,hb⟩
 have HP:=QLh ((hb.block _ (lt_of_block HP.out)).trans HP.out);have HY:=QLh (HY.out.below hb);have HB:=QLh (Qk HB.out hb);clear hb
 try clear cP
 go_wp2_with fail
 refine(Jc _ _ ⟨#[107]⟩ (Qbb keys) w3 HY.out (by decide) (by simp) (by have:=HZ.out;omega) (by have:=Z6 keys;omega)).mono ?_
 rintro e w4 ⟨rfl,hx,hl⟩
 have HZ:=Qjp (k:=⟨#[107]⟩) (v:=Qbb keys) HZ rfl (by have:=Z6 keys;omega);have HP:=QLh (Qn hx (by simp) HP.out);have HY:=QLh hl;have HB:=QLh (HB.out.trans (Jb hx (by omega) HB.out.size));have cP:∀o,World.cell? w4 ⟨w.heap.size,o,none⟩=_:=Qa HP.out;clear hx hl
 go_wp2_with fail
 refine(Qbq life w4 hl.1 hl.2).mono ?_
 rintro e w5 ⟨rfl,hb⟩
 have HP:=QLh ((hb.block _ (lt_of_block HP.out)).trans HP.out);have HY:=QLh (HY.out.below hb);have HB:=QLh (Qk HB.out hb);clear hb
 try clear cP
 go_wp2_with fail
 refine(Jc _ _ ⟨#[108]⟩ (Qbb life) w5 HY.out (by decide) (by simp) (by have:=HZ.out;omega) (by have:=Z6 life;omega)).mono ?_
 rintro e w6 ⟨rfl,hx,hl⟩
 have HZ:=Qjp (k:=⟨#[108]⟩) (v:=Qbb life) HZ rfl (by have:=Z6 life;omega);have HP:=QLh (Qn hx (by simp) HP.out);have HY:=QLh hl;have HB:=QLh (HB.out.trans (Jb hx (by omega) HB.out.size));have cP:∀o,World.cell? w6 ⟨w.heap.size,o,none⟩=_:=Qa HP.out;clear hx hl
 go_wp2_with fail
 refine(Qli root w6 HR.out).mono ?_
 rintro e w7 ⟨rfl,hb⟩
 have HP:=QLh ((hb.block _ (lt_of_block HP.out)).trans HP.out);have HY:=QLh (HY.out.below hb);have HB:=QLh (Qk HB.out hb);clear hb
 try clear cP
 go_wp2_with fail
 have hbl:(Jv root).size≤65545:=by have:=Qdd root;have:=HR.out;omega
 refine(Jc _ _ ⟨#[114]⟩ (Jv root) w7 HY.out (by decide) (by simp) (by have:=HZ.out;omega) (by have:=hbl;omega)).mono ?_
 rintro e w8 ⟨rfl,hx,hl⟩
 have HZ:=Qjp (k:=⟨#[114]⟩) (v:=Jv root) HZ rfl (by have:=hbl;omega);have HP:=QLh (Qn hx (by simp) HP.out);have HY:=QLh hl;have HB:=QLh (HB.out.trans (Jb hx (by omega) HB.out.size));have cP:∀o,World.cell? w8 ⟨w.heap.size,o,none⟩=_:=Qa HP.out;clear hx hl
 go_wp2_with fail
 refine(Qbq weight w8 hw.1 hw.2).mono ?_
 rintro e w9 ⟨rfl,hb⟩
 have HP:=QLh ((hb.block _ (lt_of_block HP.out)).trans HP.out);have HY:=QLh (HY.out.below hb);have HB:=QLh (Qk HB.out hb);clear hb
 try clear cP
 go_wp2_with fail
 refine(Jc _ _ ⟨#[119]⟩ (Qbb weight) w9 HY.out (by decide) (by simp) (by have:=HZ.out;omega) (by have:=Z6 weight;omega)).mono ?_
 rintro e w10 ⟨rfl,hx,hl⟩
 have HZ:=Qjp (k:=⟨#[119]⟩) (v:=Qbb weight) HZ rfl (by have:=Z6 weight;omega);have HP:=QLh (Qn hx (by simp) HP.out);have HY:=QLh hl;have HB:=QLh (HB.out.trans (Jb hx (by omega) HB.out.size));have cP:∀o,World.cell? w10 ⟨w.heap.size,o,none⟩=_:=Qa HP.out;clear hx hl
 go_wp2_with fail
 refine(Qbs _ _ w10 HY.out (by simp) (by have:=HZ.out;omega)).mono ?_
 rintro e w11 ⟨rfl,hb⟩
 have HB:=QLh (Qk HB.out hb);clear hb cP
 go_wp2
 go_ret
 exact⟨rfl,HB.out⟩
def Qhk(l:List ByteArray):Prop:=len l≤60000∧∀i,i<len l→(sth l i).size<65536
theorem Qi5(B:Nat)(idx:Int)(a1 a2:Option Addr)(k1 k2:Nat)(wots path:List ByteArray)(w:World)(hi:X8 idx)(hs1:Strs B w a1 wots)(hs2:Strs B w a2 path)(hw:Qhk wots)(hp:Qhk path):
  Calls Tryz.prog 139 #[.agg #[.int .u64 idx,.slice a1 (len wots) k1,.slice a2 (len path) k2]] w λ e w'=>e=.returned (.string (Zw (Qav idx wots path)))∧Below w.heap.size w w':=by
 have HS1:=QLh hs1;have HS2:=QLh hs2;have hd1:=Qeb wots hw.2 hw.1;have hd2:=Qeb path hp.2 hp.1;have HW:=QLh hw;have HPA:=QLh hp;clear hs1 hs2 hw hp
 go_enter Tryz.func139,Tryz.ntmps139
 go_upto_region 2 with fail
 obtain⟨V,hV⟩:∃V,(w.alloc (.cells #[.int .u64 idx,.slice a1 (len wots) k1,.slice a2 (len path) k2] 42)).alloc (.cells #[.int .u64 0,.string ⟨#[]⟩] 141)=V:=⟨_,rfl⟩
 have HB:Hid (Below w.heap.size w V):=QLh (by rw[←hV];(repeat (first | exact Below.refl _ _ | assumption | (refine Zd ?_) | (refine Zc ?_ _) | (refine Qh ?_ _) | (refine Zs ?_ (by first | omega | (simp;done) | (simp;omega)) _) | (refine Qk ?_ (by assumption)))))
 have HP:Hid (V.heap[w.heap.size]?=some (.cells #[.int .u64 idx,.slice a1 (len wots) k1,.slice a2 (len path) k2] 42 (0,0))):=QLh (by rw[←hV];exact Qf (heap_alloc_new _ _) _);have HY:Hid (LyB V (w.heap.size+1) []):=QLh (by rw[←hV];exact Qi _ (by simp));have cP:∀o,V.cell? ⟨w.heap.size,o,none⟩=_:=Qa HP.out
 rw[hV]
 clear hV;have HZ:Hid ((Qfa []).size≤0 * 25000000000):=QLh (by decide)
 go_wp2_with fail
 refine(Qbq idx V hi.1 hi.2).mono ?_
 rintro e w1 ⟨rfl,hb⟩
 have HP:=QLh ((hb.block _ (lt_of_block HP.out)).trans HP.out);have HY:=QLh (HY.out.below hb);have HB:=QLh (Qk HB.out hb);clear hb
 try clear cP
 go_wp2_with fail
 refine(Jc _ _ ⟨#[105]⟩ (Qbb idx) w1 HY.out (by decide) (by simp) (by have:=HZ.out;omega) (by have:=Z6 idx;omega)).mono ?_
 rintro e w2 ⟨rfl,hx,hl⟩
 have HZ:=Qjp (k:=⟨#[105]⟩) (v:=Qbb idx) HZ rfl (by have:=Z6 idx;omega);have HP:=QLh (Qn hx (by simp) HP.out);have HY:=QLh hl;have HB:=QLh (HB.out.trans (Jb hx (by omega) HB.out.size));have cP:∀o,World.cell? w2 ⟨w.heap.size,o,none⟩=_:=Qa HP.out;clear hx hl
 go_wp2_with fail
 refine(Qb7 B a2 k2 path w2 (HS2.out.below HB.out) HPA.out.1 HPA.out.2).mono ?_
 rintro e w3 ⟨rfl,hb⟩
 have HP:=QLh ((hb.block _ (lt_of_block HP.out)).trans HP.out);have HY:=QLh (HY.out.below hb);have HB:=QLh (Qk HB.out hb);clear hb
 try clear cP
 go_wp2_with fail
 refine(Jc _ _ ⟨#[112]⟩ (Qds path) w3 HY.out (by decide) (by simp) (by have:=HZ.out;omega) (by have:=hd2;omega)).mono ?_
 rintro e w4 ⟨rfl,hx,hl⟩
 have HZ:=Qjp (k:=⟨#[112]⟩) (v:=Qds path) HZ rfl (by have:=hd2;omega);have HP:=QLh (Qn hx (by simp) HP.out);have HY:=QLh hl;have HB:=QLh (HB.out.trans (Jb hx (by omega) HB.out.size));have cP:∀o,World.cell? w4 ⟨w.heap.size,o,none⟩=_:=Qa HP.out;clear hx hl
 go_wp2_with fail
 refine(Qb7 B a1 k1 wots w4 (HS1.out.below HB.out) HW.out.1 HW.out.2).mono ?_
 rintro e w5 ⟨rfl,hb⟩
 have HP:=QLh ((hb.block _ (lt_of_block HP.out)).trans HP.out);have HY:=QLh (HY.out.below hb);have HB:=QLh (Qk HB.out hb);clear hb
 try clear cP
 go_wp2_with fail
 refine(Jc _ _ ⟨#[118]⟩ (Qds wots) w5 HY.out (by decide) (by simp) (by have:=HZ.out;omega) (by have:=hd1;omega)).mono ?_
 rintro e w6 ⟨rfl,hx,hl⟩
 have HZ:=Qjp (k:=⟨#[118]⟩) (v:=Qds wots) HZ rfl (by have:=hd1;omega);have HP:=QLh (Qn hx (by simp) HP.out);have HY:=QLh hl;have HB:=QLh (HB.out.trans (Jb hx (by omega) HB.out.size));have cP:∀o,World.cell? w6 ⟨w.heap.size,o,none⟩=_:=Qa HP.out;clear hx hl
 go_wp2_with fail
 refine(Qbs _ _ w6 HY.out (by simp) (by have:=HZ.out;omega)).mono ?_
 rintro e w11 ⟨rfl,hb⟩
 have HB:=QLh (Qk HB.out hb);clear hb cP
 go_wp2
 go_ret
 exact⟨rfl,HB.out⟩
theorem Qi6(ps:BPs):(Zw ps).size≤9+(Qfa ps).size:=by
 show(Qhs _++Qfa _).size≤_
 rw[ByteArray.size_append]
 have:(Qhs (Qao ps).length).size≤9:=Zu 4 _ ByteArray.empty
 omega
theorem Qnc(idx:Int){wots path:List ByteArray}(hw:Qhk wots)(hp:Qhk path):(Zw (Qav idx wots path)).size≤9000000000:=by
 have h0:=Qi6 (Qav idx wots path);have h1:(Qfa (Qav idx wots path)).size≤_:=Qba ([]++[(⟨#[105]⟩,Qbb idx)]++[(⟨#[112]⟩,Qds path)]) ⟨#[118]⟩ (Qds wots);have h2:=Qba ([]++[(⟨#[105]⟩,Qbb idx)]) ⟨#[112]⟩ (Qds path);have h3:=Qba [] ⟨#[105]⟩ (Qbb idx);have h4:=Z6 idx;have h5:=Qeb wots hw.2 hw.1;have h6:=Qeb path hp.2 hp.1;have e0:(Qfa []).size=0:=rfl;have e1:(⟨#[105]⟩:ByteArray).size=1:=rfl;have e2:(⟨#[112]⟩:ByteArray).size=1:=rfl;have e3:(⟨#[118]⟩:ByteArray).size=1:=rfl
 omega
theorem Qg0{s:ByteArray}{n:Nat}(h:s.size≤n):(Jr s).size≤n:=by
 unfold Jr;split
 ·exact Nat.zero_le _
 ·exact h
theorem Qhd(B:Nat)(L:Int)(q:Bool)(idx:Int)(a1 a2:Option Addr)(k1 k2:Nat)(wots path:List ByteArray)(w:World)(hi:X8 idx)(hL:X8 L)(hs1:Strs B w a1 wots)(hs2:Strs B w a2 path)(hw:Qhk wots)(hp:Qhk path):
  Calls Tryz.prog 75 #[.agg #[.int .u64 L,.bool q,.int .u64 idx,.slice a1 (len wots) k1,.slice a2 (len path) k2]] w λ e w'=>e=.returned (.string (Zw (Jz L q idx wots path)))∧Below w.heap.size w w':=by
 have HS1:=QLh hs1;have HS2:=QLh hs2;have hd1:(Jr (Zw (Qav idx wots path))).size≤9000000000:=Qg0 (Qnc idx hw hp);have HW:=QLh hw;have HPA:=QLh hp;clear hs1 hs2 hw hp
 go_enter Tryz.func75,Tryz.ntmps75
 go_upto_region 2 with fail
 obtain⟨V,hV⟩:∃V,(w.alloc (.cells #[.int .u64 L,.bool q,.int .u64 idx,.slice a1 (len wots) k1,.slice a2 (len path) k2] 44)).alloc (.cells #[.int .u64 0,.string ⟨#[]⟩] 141)=V:=⟨_,rfl⟩
 have HB:Hid (Below w.heap.size w V):=QLh (by rw[←hV];(repeat (first | exact Below.refl _ _ | assumption | (refine Zd ?_) | (refine Zc ?_ _) | (refine Qh ?_ _) | (refine Zs ?_ (by first | omega | (simp;done) | (simp;omega)) _) | (refine Qk ?_ (by assumption)))))
 have HP:Hid (V.heap[w.heap.size]?=some (.cells #[.int .u64 L,.bool q,.int .u64 idx,.slice a1 (len wots) k1,.slice a2 (len path) k2] 44 (0,0))):=QLh (by rw[←hV];exact Qf (heap_alloc_new _ _) _);have HY:Hid (LyB V (w.heap.size+1) []):=QLh (by rw[←hV];exact Qi _ (by simp));have cP:∀o,V.cell? ⟨w.heap.size,o,none⟩=_:=Qa HP.out
 rw[hV]
 clear hV;have HZ:Hid ((Qfa []).size≤0 * 25000000000):=QLh (by decide)
 go_wp2_with fail
 refine(Qi5 B idx a1 a2 k1 k2 wots path V hi (HS1.out.below HB.out) (HS2.out.below HB.out) HW.out HPA.out).mono ?_
 rintro e w1 ⟨rfl,hb⟩
 have HP:=QLh ((hb.block _ (lt_of_block HP.out)).trans HP.out);have HY:=QLh (HY.out.below hb);have HB:=QLh (Qk HB.out hb);clear hb
 try clear cP
 go_wp2_with fail
 refine(Qkg _ w1).mono ?_
 rintro e w1b ⟨rfl,hb⟩
 have HP:=QLh ((hb.block _ (lt_of_block HP.out)).trans HP.out);have HY:=QLh (HY.out.below hb);have HB:=QLh (Qk HB.out hb);clear hb
 try clear cP
 go_wp2_with fail
 refine(Jc _ _ ⟨#[103]⟩ (Jr (Zw (Qav idx wots path))) w1b HY.out (by decide) (by simp) (by have:=HZ.out;omega) (by have:=hd1;omega)).mono ?_
 rintro e w2 ⟨rfl,hx,hl⟩
 have HZ:=Qjp (k:=⟨#[103]⟩) (v:=Jr (Zw (Qav idx wots path))) HZ rfl (by have:=hd1;omega);have HP:=QLh (Qn hx (by simp) HP.out);have HY:=QLh hl;have HB:=QLh (HB.out.trans (Jb hx (by omega) HB.out.size));have cP:∀o,World.cell? w2 ⟨w.heap.size,o,none⟩=_:=Qa HP.out;clear hx hl
 go_wp2_with fail
 refine(Qbq L w2 hL.1 hL.2).mono ?_
 rintro e w3 ⟨rfl,hb⟩
 have HP:=QLh ((hb.block _ (lt_of_block HP.out)).trans HP.out);have HY:=QLh (HY.out.below hb);have HB:=QLh (Qk HB.out hb);clear hb
 try clear cP
 go_wp2_with fail
 refine(Jc _ _ ⟨#[108]⟩ (Qbb L) w3 HY.out (by decide) (by simp) (by have:=HZ.out;omega) (by have:=Z6 L;omega)).mono ?_
 rintro e w4 ⟨rfl,hx,hl⟩
 have HZ:=Qjp (k:=⟨#[108]⟩) (v:=Qbb L) HZ rfl (by have:=Z6 L;omega);have HP:=QLh (Qn hx (by simp) HP.out);have HY:=QLh hl;have HB:=QLh (HB.out.trans (Jb hx (by omega) HB.out.size));have cP:∀o,World.cell? w4 ⟨w.heap.size,o,none⟩=_:=Qa HP.out;clear hx hl
 cases q with
 | true=>
  go_wp2_with fail
  refine(Qbq 1 w4 (by decide) (by decide)).mono ?_
  rintro e w5 ⟨rfl,hb⟩
  have HP:=QLh ((hb.block _ (lt_of_block HP.out)).trans HP.out);have HY:=QLh (HY.out.below hb);have HB:=QLh (Qk HB.out hb);clear hb
  try clear cP
  go_wp2_with fail
  refine(Jc _ _ ⟨#[115]⟩ (Qbb 1) w5 HY.out (by decide) (by simp) (by have:=HZ.out;omega) (by have:=Z6 1;omega)).mono ?_
  rintro e w6 ⟨rfl,hx,hl⟩
  have HZ:=Qjp (k:=⟨#[115]⟩) (v:=Qbb 1) HZ rfl (by have:=Z6 1;omega);have HP:=QLh (Qn hx (by simp) HP.out);have HY:=QLh hl;have HB:=QLh (HB.out.trans (Jb hx (by omega) HB.out.size));have cP:∀o,World.cell? w6 ⟨w.heap.size,o,none⟩=_:=Qa HP.out;clear hx hl
  go_wp2_with fail
  refine(Qbs _ _ w6 HY.out (by simp) (by have:=HZ.out;omega)).mono ?_
  rintro e w11 ⟨rfl,hb⟩
  have HB:=QLh (Qk HB.out hb);clear hb cP
  go_wp2
  go_ret
  exact⟨rfl,HB.out⟩
 | false=>
  have HY2:Hid (LyB w4 (w.heap.size+1) (Jz L false idx wots path)):=QLh (by
   have e:Qao (Jz L false idx wots path)=Qao ([]++[((⟨#[103]⟩:ByteArray),Jr (Zw (Qav idx wots path)))]++[((⟨#[108]⟩:ByteArray),Qbb L)]):=
    Qea ([]++[((⟨#[103]⟩:ByteArray),Jr (Zw (Qav idx wots path)))]++[((⟨#[108]⟩:ByteArray),Qbb L)]) ⟨#[115]⟩ ⟨#[]⟩ rfl
   unfold LyB Qfa
   rw[e]
   exact HY.out)
  have hz2:(Qfa (Jz L false idx wots path)).size≤3 * 25000000000:=by
   have:=Qba ([]++[((⟨#[103]⟩:ByteArray),Jr (Zw (Qav idx wots path)))]++[((⟨#[108]⟩:ByteArray),Qbb L)]) ⟨#[115]⟩ ⟨#[]⟩;have h0:=HZ.out;have e3:(⟨#[115]⟩:ByteArray).size=1:=rfl;have e4:(⟨#[]⟩:ByteArray).size=0:=rfl
   exact Nat.le_trans this (by omega)
  go_wp2_with fail
  refine(Qbs _ _ w4 HY2.out (by simp[Jz]) (by omega)).mono ?_
  rintro e w11 ⟨rfl,hb⟩
  have HB:=QLh (Qk HB.out hb);clear hb
  go_wp2
  go_ret
  exact⟨rfl,HB.out⟩
def FPs:List FSpec→BPs→Prop
 | [],[]=>True
 | f :: l,p :: r=>(f.key=p.1∧(f.empty=true ↔ p.2.size=0)∧(f.empty=false→f.bytes=p.2))∧FPs l r
 | _,_=>False
theorem Qi7:∀(l:List FSpec) (r:BPs),FPs l r→l.length=r.length∧∀i (h:i<l.length) (h':i<r.length),l[i].key=r[i].1∧(l[i].empty=true ↔ r[i].2.size=0)∧(l[i].empty=false→l[i].bytes=r[i].2)
 | [],[],_=>⟨rfl,λ i h=>absurd h (by simp)⟩
 | [],_ :: _,h=>h.elim
 | _ :: _,[],h=>h.elim
 | f :: l,p :: r,h=>by
  obtain⟨h1,h2⟩:=h
  obtain⟨h3,h4⟩:=Qi7 l r h2
  refine⟨by simp[h3],λ i hi hi'=>?_⟩
  cases i with
  | zero=>exact h1
  | succ j=>exact h4 j (by simpa using hi) (by simpa using hi')
theorem Qlj{l:List FSpec}{r:BPs}(h:FPs l r):Qbj l=Zw r:=Qym (Qi7 l r h).1 (Qi7 l r h).2
theorem Qlk{l:List FSpec}{r:BPs}(h:FPs l r):(J6 l).length=(Qao r).length:=(Qkz l r (Qi7 l r h).1 (Qi7 l r h).2).1
theorem Qwf(sort:Nat)(n:Int)(h:sort<5)(h1:sort≠0→n<65536):0<(Xu sort n).length:=by
 have hs:sort=0 ∨ sort=1 ∨ sort=2 ∨ sort=3 ∨ sort=4:=by omega
 rcases hs with rfl | rfl | rfl | rfl | rfl
 ·rw[Qxn];repeat (first | split | simp)
 ·rw[Qxo (h1 (by decide))];repeat (first | split | simp)
 ·rw[Qxp (h1 (by decide))];repeat (first | split | simp)
 ·rw[Qxq (h1 (by decide))];repeat (first | split | simp)
 ·rw[Qxr (h1 (by decide))];repeat (first | split | simp)
theorem Qb8(sort:Nat)(n:Int)(t:ByteArray)(h:sort<5)(h1:sort≠0→n<65536):0<(Qa7 sort n t).size:=by
 unfold Qa7
 rw[ByteArray.size_append,Qbm]
 have:=Qwf sort n h h1
 omega
theorem Qg1(ps:BPs)(hn:ps.length≤1000)(hk:∀p ∈ ps,p.1.size<65536):Zw ps=⟨#[128]⟩ ↔ (Qao ps).length=0:=by
 constructor
 ·intro h
  have hz:(Zw ps).size=1:=by rw[h];rfl
  cases hr:Qao ps with
  | nil=>rfl
  | cons p r=>
   exfalso
   unfold Zw at hz
   rw[hr,List.map_cons,Xo]at hz
   rw[ByteArray.size_append,ByteArray.size_append,ByteArray.size_append]at hz
   have h1:0<(Qhs (p :: r).length).size:=Qb8 4 _ _ (by decide) (λ _=>by
    have:(Qao ps).length≤ps.length:=List.length_filter_le _ _
    rw[hr]at this;omega)
   have hp:p ∈ ps:=(List.mem_filter.1 (show p ∈ Qao ps by rw[hr];exact List.mem_cons_self)).1;have h2:0<(Qpd p.1).size:=Qb8 2 _ _ (by decide) (λ _=>by have:=hk p hp;omega)
   omega
 ·intro h
  have hr:Qao ps=[]:=List.eq_nil_of_length_eq_zero h
  unfold Zw
  rw[hr]
  rfl
theorem Qi8(l:List FSpec):(l.all λ f=>f.empty)=true ↔ (J6 l).length=0:=by
 unfold J6
 rw[List.length_eq_zero_iff,List.filter_eq_nil_iff,List.all_eq_true]
 constructor
 ·intro h f hf;rw[h f hf];decide
 ·intro h f hf
  have:=h f hf
  cases he:f.empty with
  | true=>rfl
  | false=>rw[he]at this;exact absurd rfl this
theorem Qtv{l:List FSpec}{r:BPs}(h:FPs l r)(hn:r.length≤1000)(hk:∀p ∈ r,p.1.size<65536):
  ((l.all λ f=>f.empty)=true ↔ (Jr (Zw r)).size=0)∧((l.all λ f=>f.empty)=false→Qbj l=Jr (Zw r)):=by
 have h1:=Qi8 l;have h2:=Qlk h;have h3:=Qg1 r hn hk;have hp:0<(Zw r).size:=by
  unfold Zw
  rw[ByteArray.size_append]
  have:0<(Qhs (Qao r).length).size:=Qb8 4 _ _ (by decide) (λ _=>by
   have:(Qao r).length≤r.length:=List.length_filter_le _ _
   omega)
  omega
 by_cases hc:Zw r=⟨#[128]⟩
 ·have e:Jr (Zw r)=⟨#[]⟩:=by unfold Jr;rw[if_pos hc]
  have ha:(l.all λ f=>f.empty)=true:=h1.2 (by rw[h2];exact h3.1 hc)
  rw[ha,e]
  exact⟨⟨λ _=>rfl,λ _=>rfl⟩,λ h=>absurd h (by decide)⟩
 ·have e:Jr (Zw r)=Zw r:=by unfold Jr;rw[if_neg hc]
  have ha:(l.all λ f=>f.empty)=false:=by
   cases hx:(l.all λ f=>f.empty)with
   | false=>rfl
   | true=>exact absurd (h3.2 (by rw[←h2];exact h1.1 hx)) hc
  rw[ha,e]
  exact⟨⟨λ h=>absurd h (by decide),λ h=>by omega⟩,λ _=>Qlj h⟩
theorem Qf2(key:ByteArray)(n:Int):((n == 0)=true ↔ (Qbb n).size=0)∧((n == 0)=false→Xr n=Qbb n):=by
 unfold Qbb
 by_cases h:n=0
 ·rw[if_pos h,h]
  exact⟨⟨λ _=>rfl,λ _=>rfl⟩,λ h=>absurd h (by decide)⟩
 ·rw[if_neg h]
  have e:(n == 0)=false:=by simp[h]
  rw[e]
  have h1:0<(Xr n).size:=Qb8 0 n ByteArray.empty (by decide) (λ h=>absurd rfl h)
  exact⟨⟨λ h=>absurd h (by decide),λ h=>by omega⟩,λ _=>rfl⟩
theorem Qpy(l:List ByteArray)(hn:len l<65536):(decide (len l=0)=true ↔ (Qds l).size=0)∧(decide (len l=0)=false→Qdh l=Qds l):=by
 unfold Qds
 by_cases h:len l=0
 ·rw[if_pos h,decide_eq_true h]
  exact⟨⟨λ _=>rfl,λ _=>rfl⟩,λ h=>absurd h (by decide)⟩
 ·rw[if_neg h,decide_eq_false h]
  have h1:0<(Qdh l).size:=by
   unfold Qdh
   rw[ByteArray.size_append]
   have:0<(Z0 (len l)).size:=Qb8 3 _ ByteArray.empty (by decide) (λ _=>by omega)
   omega
  exact⟨⟨λ h=>absurd h (by decide),λ h=>by omega⟩,λ _=>rfl⟩
theorem Qxz(s:ByteArray)(hs:s.size<65536):(false=true ↔ (Jv s).size=0)∧(false=false→Jv s=Jv s):=by
 have:0<(Jv s).size:=Qb8 1 _ _ (by decide) (λ _=>by omega)
 exact⟨⟨λ h=>absurd h (by decide),λ h=>by omega⟩,λ _=>rfl⟩
theorem Qtw(root:ByteArray)(weight first life keys:Int)(hr:root.size<65536):Qbj (Q5 root weight first life keys)=Zw (Qdt root weight first life keys):=
 Qlj ⟨⟨rfl,Qf2 ⟨#[]⟩ first⟩,⟨rfl,Qf2 ⟨#[]⟩ keys⟩,⟨rfl,Qf2 ⟨#[]⟩ life⟩,⟨rfl,Qxz root hr⟩,⟨rfl,Qf2 ⟨#[]⟩ weight⟩,trivial⟩
theorem Qll(idx:Int)(wots path:List ByteArray)(hw:len wots<65536)(hp:len path<65536):FPs (Zk idx wots path) (Qav idx wots path):=
 ⟨⟨rfl,Qf2 ⟨#[]⟩ idx⟩,⟨rfl,Qpy path hp⟩,⟨rfl,Qpy wots hw⟩,trivial⟩
theorem Qx0(q:Bool):((!q)=true ↔ (if q then Xr 1 else(⟨#[]⟩:ByteArray)).size=0)∧((!q)=false→Xr 1=if q then Xr 1 else(⟨#[]⟩:ByteArray)):=by
 cases q with
 | true=>exact⟨⟨λ h=>absurd h (by decide),λ h=>absurd h (by decide)⟩,λ _=>rfl⟩
 | false=>exact⟨⟨λ _=>rfl,λ _=>rfl⟩,λ h=>absurd h (by decide)⟩
theorem Qwg(L:Int)(q:Bool)(idx:Int)(wots path:List ByteArray):Q8 (Q3 L q idx wots path)=(Qab path 16 && Qab wots 67):=by
 show(Q8 (Zk idx wots path) && (true && (true && true)))=_
 show((true && (Qab path 16 && (Qab wots 67 && true))) && (true && (true && true)))=_
 cases Qab path 16 <;> cases Qab wots 67 <;> rfl
theorem Qwh(root:ByteArray)(weight first life keys:Int):Q8 (Q5 root weight first life keys)=decide (root.size=32):=by
 show(true && (true && (true && (decide (root.size=32) && (true && true)))))=_
 cases decide (root.size=32) <;> rfl
theorem Qpz{l:List ByteArray}{n:Nat}(h:Qab l n=true)(hn:n≤60000):Qhk l:=⟨by have:=(Qbv h).1;omega,λ i hi=>by rw[(Qbv h).2 i hi];decide⟩
theorem Qtx{B:Nat}{w:World}{x0 x1 x2 x3 x4 x5:FVal}{S0 S1 S2 S3 S4 S5:FSpec}(p0:FIn B w x0 S0)(p1:FIn B w x1 S1)(p2:FIn B w x2 S2)(p3:FIn B w x3 S3)(p4:FIn B w x4 S4)(p5:FIn B w x5 S5):FSems B w [x0,x1,x2,x3,x4,x5] [S0,S1,S2,S3,S4,S5]:=
 ⟨rfl,λ i hi=>by
  have hi:i<6:=by simpa [len] using hi
  match i,hi with
  | 0,_=>exact p0.2
  | 1,_=>exact p1.2
  | 2,_=>exact p2.2
  | 3,_=>exact p3.2
  | 4,_=>exact p4.2
  | 5,_=>exact p5.2⟩
structure CtBd(root:ByteArray)(sg:Int)(rs:List RevD)(cs:List Int)(sp pp:List ByteArray):Prop where
 root:root.size≤9223372036854775807
 sg:X8 sg
 rl:len rs≤100000
 rs:∀i,i<len rs→RvBd (lth rs i)
 cl:len cs≤100000
 cs:∀i,i<len cs→X8 (nth cs i)
 sp:len sp≤100000
 pp:len pp≤100000
theorem Qre(B sb so:Nat)(root:ByteArray)(sg:Int)(rs:List RevD)(cs:List Int)(sp pp:List ByteArray)(a2 a3 a4 a5:Option Addr)(k2 k3 k4 k5:Nat)(w:World)(hB:B≤w.heap.size)
  (c0:CellAt B w sb so (.string root)) (c1:CellAt B w sb (so+1) (.int .u64 sg)) (c2:CellAt B w sb (so+2) (.slice a2 (len rs) k2)) (c3:CellAt B w sb (so+3) (.slice a3 (len cs) k3)) (c4:CellAt B w sb (so+4) (.slice a4 (len sp) k4)) (c5:CellAt B w sb (so+5) (.slice a5 (len pp) k5))
  (s2:RvsC (CellAt B w) a2 rs) (s3:Nms B w a3 cs) (s4:Strs B w a4 sp) (s5:Strs B w a5 pp) (bd:CtBd root sg rs cs sp pp):
  Calls Tryz.prog 93 #[pt sb so] w (Qoh B (Za root sg rs cs sp pp) w):=by
 refine(Qiv sb so w (λ w v=>FIn B w v ⟨⟨#[80]⟩,false,decide (len pp=0),Qab pp 10240,Qdh pp⟩) (λ w v=>FIn B w v ⟨⟨#[83]⟩,false,decide (len sp=0),Qab sp 10240,Qdh sp⟩) (λ w v=>FIn B w v ⟨⟨#[99]⟩,true,false,decide (root.size=32),Jv root⟩) (λ w v=>FIn B w v ⟨⟨#[112]⟩,false,decide (len cs=0),decide (len cs≤640),Q0m cs⟩) (λ w v=>FIn B w v ⟨⟨#[114]⟩,false,decide (len rs=0),Qps rs 640,Q0u rs⟩) (λ w v=>FIn B w v ⟨⟨#[119]⟩,false,sg == 0,true,Xr sg⟩)
  (λ w' hb=>?p0) (Jj B _) (λ w' hb=>?p1) (Jj B _) (λ w' hb=>?p2) (Jj B _) (λ w' hb=>?p3) (Jj B _) (λ w' hb=>?p4) (Jj B _) (λ w' hb=>?p5) (Jj B _)).mono ?_
 case p0=>exact(Qb5 B ⟨#[80]⟩ sb (so+5) k5 10240 a5 pp w' (by decide) (Nat.le_trans hB hb.size) (c5.below hb) (s5.below hb) bd.pp (by decide)).mono (λ e w'' hh=>Qbw (Nat.le_trans hB hb.size) hh)
 case p1=>exact(Qb5 B ⟨#[83]⟩ sb (so+4) k4 10240 a4 sp w' (by decide) (Nat.le_trans hB hb.size) (c4.below hb) (s4.below hb) bd.sp (by decide)).mono (λ e w'' hh=>Qbw (Nat.le_trans hB hb.size) hh)
 case p2=>exact(Qc3 B ⟨#[99]⟩ sb so root w' (by decide) (Nat.le_trans hB hb.size) (c0.below hb) bd.root).mono (λ e w'' hh=>Qbw (Nat.le_trans hB hb.size) hh)
 case p3=>exact(Qte B ⟨#[112]⟩ sb (so+3) k3 640 a3 cs w' (by decide) (Nat.le_trans hB hb.size) (c3.below hb) (s3.below hb) bd.cl bd.cs (by decide)).mono (λ e w'' hh=>Qbw (Nat.le_trans hB hb.size) hh)
 case p4=>exact(Qts B ⟨#[114]⟩ sb (so+2) k2 640 a2 rs w' (by decide) (Nat.le_trans hB hb.size) (c2.below hb) (s2.imp λ _ _ _ h=>h.below hb) bd.rl bd.rs (by decide)).mono (λ e w'' hh=>Qbw (Nat.le_trans hB hb.size) hh)
 case p5=>exact(Qap B ⟨#[119]⟩ sb (so+1) sg w' (by decide) (Nat.le_trans hB hb.size) (c1.below hb) bd.sg.1 bd.sg.2).mono (λ e w'' hh=>Qbw (Nat.le_trans hB hb.size) hh)
 rintro e w' ⟨u,rfl,⟨g,c,l,rfl,hc,hF,⟨x0,x1,x2,x3,x4,x5,rfl,p0,p1,p2,p3,p4,p5⟩⟩,hb⟩
 exact⟨g,c,[x0,x1,x2,x3,x4,x5],rfl,hF,Qtx p0 p1 p2 p3 p4 p5,hb⟩
theorem Qrf(B:Nat)(root:ByteArray)(sg:Int)(rs:List RevD)(cs:List Int)(sp pp:List ByteArray)(a2 a3 a4 a5:Option Addr)(k2 k3 k4 k5:Nat)(w:World)(ht:PTab B w)
  (s2:RvsC (CellAt B w) a2 rs) (s3:Nms B w a3 cs) (s4:Strs B w a4 sp) (s5:Strs B w a5 pp) (bd:CtBd root sg rs cs sp pp)
  (hsz:Q8 (Za root sg rs cs sp pp)=true→(Qbj (Za root sg rs cs sp pp)).size≤60000000000000):
  Calls Tryz.prog 48 #[.agg #[.string root,.int .u64 sg,.slice a2 (len rs) k2,.slice a3 (len cs) k3,.slice a4 (len sp) k4,.slice a5 (len pp) k5]] w (LaidIs (Za root sg rs cs sp pp) w):=by
 have HT:=QLh ht;have HBD:=QLh bd;have S2:=QLh s2;have S3:=QLh s3;have S4:=QLh s4;have S5:=QLh s5;clear ht bd s2 s3 s4 s5
 obtain⟨fs,hfs⟩:∃fs,Za root sg rs cs sp pp=fs:=⟨_,rfl⟩
 have HL6:Hid (len fs=6):=QLh (by rw[←hfs];rfl);have HO:Hid (∀(sb:Nat) (V:World),B≤V.heap.size→Below w.heap.size w V→V.heap[sb]?=some (.cells #[.string root,.int .u64 sg,.slice a2 (len rs) k2,.slice a3 (len cs) k3,.slice a4 (len sp) k4,.slice a5 (len pp) k5] 28 (0,0))→Calls Tryz.prog 93 #[pt sb 0] V (Qoh B fs V)):=QLh (λ sb V hV hb h=>by
  rw[←hfs]
  exact Qre B sb 0 root sg rs cs sp pp a2 a3 a4 a5 k2 k3 k4 k5 V hV (Qr h (by decide) rfl) (Qr h (by decide) rfl) (Qr h (by decide) rfl) (Qr h (by decide) rfl) (Qr h (by decide) rfl) (Qr h (by decide) rfl) (S2.out.imp λ _ _ _ h=>h.below hb) (S3.out.below hb) (S4.out.below hb) (S5.out.below hb) HBD.out)
 rw[hfs]at hsz ⊢
 clear hfs;have HSZ:=QLh hsz;clear hsz
 generalize len rs=n2 at HO ⊢
 generalize len cs=n3 at HO ⊢
 generalize len sp=n4 at HO ⊢
 generalize len pp=n5 at HO ⊢
 go_enter Tryz.func48,Tryz.ntmps48
 go_wp2_with fail
 obtain⟨V,hV⟩:∃V,w.alloc (.cells #[.string root,.int .u64 sg,.slice a2 n2 k2,.slice a3 n3 k3,.slice a4 n4 k4,.slice a5 n5 k5] 28)=V:=⟨_,rfl⟩
 have HB:Hid (Below w.heap.size w V):=QLh (by rw[←hV];exact Qh (Below.refl _ _) _);have hblk:V.heap[w.heap.size]?=some (.cells #[.string root,.int .u64 sg,.slice a2 n2 k2,.slice a3 n3 k3,.slice a4 n4 k4,.slice a5 n5 k5] 28 (0,0)):=by rw[←hV];exact heap_alloc_new _ _
 have HBK:=QLh hblk;have HTV:=QLh (HT.out.keep HB.out HT.out.size)
 try rw[hV]
 clear hV hblk HT
 refine(HO.out w.heap.size V HTV.out.size HB.out HBK.out).mono ?_
 rintro e w1 ⟨g,c,l,rfl,hF,hS,hb⟩
 have HF:=QLh hF;have HS:=QLh hS;have HB1:Hid (Below w.heap.size w w1):=QLh (Qk HB.out hb);have HT1:=QLh (HTV.out.keep hb HTV.out.size);have HL:Hid (len l=6):=QLh (hS.1.symm.trans HL6.out);clear hF hS hb HTV HO
 go_wp2_with fail
 refine(Qd6 B g 0 c w1 l fs w1 HF.out.flds (by rw[HL.out];decide) (by rw[HL.out];decide) HS.out (Keep8.refl HT1.out.size) HT1.out HSZ.out).mono ?_
 rintro e w2 ⟨rfl,hb2⟩
 have HB2:Hid (Below w.heap.size w w2):=QLh (Qk HB1.out hb2);clear hb2
 cases hm:Q8 fs with
 | true=>
  have HM:=QLh hm;clear hm
  rw[if_pos rfl]
  go_wp2
  go_ret2
  exact⟨by rw[HM.out];rfl,HB2.out⟩
 | false=>
  have HM:=QLh hm;clear hm
  rw[if_neg (by decide)]
  go_wp2
  go_ret2
  exact⟨by rw[HM.out];rfl,HB2.out⟩
theorem X7{α:Type}(f:α→ByteArray)(M:Nat):∀l:List α,(∀x ∈ l,(f x).size≤M)→(Xo (l.map f)).size≤l.length * M
 | [],_=>by simp[Xo]
 | x :: r,h=>by
  rw[List.map_cons,Xo,ByteArray.size_append,List.length_cons,Nat.succ_mul]
  have h1:=h x (List.mem_cons_self ..);have h2:=X7 f M r (λ y hy=>h y (List.mem_cons_of_mem _ hy))
  omega
theorem Qdu(fs:List FSpec)(M:Nat)(h:∀f ∈ fs,f.key.size≤1∧f.bytes.size≤M):(Qbj fs).size≤9+fs.length * (M+10):=by
 unfold Qbj
 rw[ByteArray.size_append]
 have h1:(Qhs (J6 fs).length).size≤9:=Zu 4 _ ByteArray.empty;have h2:=X7 Jh (M+10) (J6 fs) (λ f hf=>by
  obtain⟨h3,h4⟩:=h f (List.mem_filter.1 hf).1
  unfold Jh
  rw[ByteArray.size_append]
  have h5:(Qpd f.key).size≤9+f.key.size:=Zu 2 _ _
  omega)
 have h3:=Nat.mul_le_mul_right (M+10) (Qtl fs)
 omega
theorem Qbd{l:List ByteArray}{n:Nat}(h:Qab l n=true):(Qdh l).size≤9+n * 41:=by
 obtain⟨h1,h2⟩:=(Qlc l n).1 h
 unfold Qdh
 rw[ByteArray.size_append]
 have h3:(Z0 (len l)).size≤9:=Zu 3 _ ByteArray.empty;have h4:=X7 Jv 41 l (λ x hx=>by have:=Qdd x;rw[h2 x hx]at this;exact this);have h5:=Nat.mul_le_mul_right 41 h1
 rw[Zm]at h5
 omega
theorem Xb(n:Int):(Xr n).size≤9:=Zu 0 _ ByteArray.empty
theorem X9{fs:List FSpec}(h:Q8 fs=true):∀f ∈ fs,f.may=true:=List.all_eq_true.1 h
theorem Qx1{root:ByteArray}{weight first life keys:Int}(h:Q8 (Q5 root weight first life keys)=true):(Qbj (Q5 root weight first life keys)).size≤300:=by
 have hr:root.size=32:=of_decide_eq_true (X9 h ⟨⟨#[114]⟩,true,false,decide (root.size=32),Jv root⟩ (by unfold Q5;simp));have hb:=Qdd root
 refine Nat.le_trans (Qdu _ 41 λ f hf=>?_) (by decide:9+5 * 51≤300)
 unfold Q5 at hf
 simp only[List.mem_cons,List.not_mem_nil,or_false]at hf
 rcases hf with rfl | rfl | rfl | rfl | rfl
 ·exact⟨Nat.le_refl _,Nat.le_trans (Xb _) (by decide)⟩
 ·exact⟨Nat.le_refl _,Nat.le_trans (Xb _) (by decide)⟩
 ·exact⟨Nat.le_refl _,Nat.le_trans (Xb _) (by decide)⟩
 ·exact⟨Nat.le_refl _,by show(Jv root).size≤41;omega⟩
 ·exact⟨Nat.le_refl _,Nat.le_trans (Xb _) (by decide)⟩
theorem sigSz{idx:Int}{ws ps:List ByteArray}(h:Q8 (Zk idx ws ps)=true):(Qbj (Zk idx ws ps)).size≤9000:=by
 have h1:=X9 h ⟨⟨#[112]⟩,false,decide (len ps=0),Qab ps 16,Qdh ps⟩ (by unfold Zk;simp);have h2:=X9 h ⟨⟨#[118]⟩,false,decide (len ws=0),Qab ws 67,Qdh ws⟩ (by unfold Zk;simp)
 refine Nat.le_trans (Qdu _ 2756 λ f hf=>?_) (by decide:9+3 * 2766≤9000)
 unfold Zk at hf
 simp only[List.mem_cons,List.not_mem_nil,or_false]at hf
 rcases hf with rfl | rfl | rfl
 ·exact⟨Nat.le_refl _,Nat.le_trans (Xb _) (by decide)⟩
 ·exact⟨Nat.le_refl _,Nat.le_trans (Qbd h1) (by decide)⟩
 ·exact⟨Nat.le_refl _,Nat.le_trans (Qbd h2) (by decide)⟩
theorem Q0v{L:Int}{q:Bool}{idx:Int}{ws ps:List ByteArray}(h:Q8 (Q3 L q idx ws ps)=true):(Qbj (Q3 L q idx ws ps)).size≤28000:=by
 have h1:Q8 (Zk idx ws ps)=true:=X9 h (Jn ⟨#[103]⟩ (Zk idx ws ps)) (by unfold Q3;simp)
 refine Nat.le_trans (Qdu _ 9000 λ f hf=>?_) (by decide:9+3 * 9010≤28000)
 unfold Q3 at hf
 simp only[List.mem_cons,List.not_mem_nil,or_false]at hf
 rcases hf with rfl | rfl | rfl
 ·exact⟨Nat.le_refl _,sigSz h1⟩
 ·exact⟨Nat.le_refl _,Nat.le_trans (Xb _) (by decide)⟩
 ·exact⟨Nat.le_refl _,Nat.le_trans (Xb _) (by decide)⟩
theorem revSz{d:RevD}(h:Q8 (Zh d)=true):(Qe7 d).size≤90000:=by
 have h1:Q8 (Q5 d.root d.wt d.first d.life d.keys)=true:=X9 h (Jn ⟨#[113]⟩ (Q5 d.root d.wt d.first d.life d.keys)) (by unfold Zh;simp);have h2:Q8 (Q3 d.L d.signed d.idx d.ws d.ps)=true:=X9 h (Jn ⟨#[115]⟩ (Q3 d.L d.signed d.idx d.ws d.ps)) (by unfold Zh;simp)
 refine Nat.le_trans (Qdu _ 28000 λ f hf=>?_) (by decide:9+3 * 28010≤90000)
 unfold Zh at hf
 simp only[List.mem_cons,List.not_mem_nil,or_false]at hf
 rcases hf with rfl | rfl | rfl
 ·exact⟨Nat.le_refl _,Nat.le_trans (Xb _) (by decide)⟩
 ·exact⟨Nat.le_refl _,Nat.le_trans (Qx1 h1) (by decide)⟩
 ·exact⟨Nat.le_refl _,Q0v h2⟩
theorem Q0w{root:ByteArray}{sg:Int}{rs:List RevD}{cs:List Int}{sp pp:List ByteArray}(h:Q8 (Za root sg rs cs sp pp)=true):(Qbj (Za root sg rs cs sp pp)).size≤400000000:=by
 have h1:=X9 h ⟨⟨#[80]⟩,false,decide (len pp=0),Qab pp 10240,Qdh pp⟩ (by unfold Za;simp);have h2:=X9 h ⟨⟨#[83]⟩,false,decide (len sp=0),Qab sp 10240,Qdh sp⟩ (by unfold Za;simp);have hr:root.size=32:=of_decide_eq_true (X9 h ⟨⟨#[99]⟩,true,false,decide (root.size=32),Jv root⟩ (by unfold Za;simp));have h3:len cs≤640:=of_decide_eq_true (X9 h ⟨⟨#[112]⟩,false,decide (len cs=0),decide (len cs≤640),Z0 (len cs)++Xo (cs.map Xr)⟩ (by unfold Za;simp));have h4:=(Qld rs 640).1 (X9 h ⟨⟨#[114]⟩,false,decide (len rs=0),Qps rs 640,Z0 (len rs)++Xo (rs.map Qe7)⟩ (by unfold Za;simp));have hb:=Qdd root
 refine Nat.le_trans (Qdu _ 57600009 λ f hf=>?_) (by decide:9+6 * 57600019≤400000000)
 unfold Za at hf
 simp only[List.mem_cons,List.not_mem_nil,or_false]at hf
 rcases hf with rfl | rfl | rfl | rfl | rfl | rfl
 ·exact⟨Nat.le_refl _,Nat.le_trans (Qbd h1) (by decide)⟩
 ·exact⟨Nat.le_refl _,Nat.le_trans (Qbd h2) (by decide)⟩
 ·exact⟨Nat.le_refl _,by show(Jv root).size≤57600009;omega⟩
 ·refine⟨Nat.le_refl _,?_⟩
  show(Z0 (len cs)++Xo (cs.map Xr)).size≤57600009
  rw[ByteArray.size_append]
  have q1:(Z0 (len cs)).size≤9:=Zu 3 _ ByteArray.empty;have q2:=X7 Xr 9 cs (λ x _=>Xb x)
  rw[Zm]at h3
  omega
 ·refine⟨Nat.le_refl _,?_⟩
  show(Z0 (len rs)++Xo (rs.map Qe7)).size≤57600009
  rw[ByteArray.size_append]
  have q1:(Z0 (len rs)).size≤9:=Zu 3 _ ByteArray.empty;have q2:=X7 Qe7 90000 rs (λ x hx=>revSz (h4.2 x hx));have q3:=h4.1
  rw[Zm]at q3
  omega
 ·exact⟨Nat.le_refl _,Nat.le_trans (Xb _) (by decide)⟩
theorem Xf{VO:Nat→Option Nat}{w w1:World}(h:ExtS VO w.drew w1){b o:Nat}(hn:∀j,VO j≠some b){v:Value}(hc:w.cell? ⟨b,o,none⟩=some v):w1.cell? ⟨b,o,none⟩=some v:=by
 rw[World.cell?_of_block (w:=w) (h.block b (Qw hc) hn)];exact hc
theorem Qty(w:World):Calls Tryz.prog 31 #[.nilIface,.agg #[.int .i64 0,.int .i64 0]] w λ e w'=>e=.returned (.bool true)∧Below w.heap.size w w':=by
 go_enter Tryz.func31,Tryz.ntmps31
 go_wp2
 go_ret
 exact⟨rfl,by(repeat (first | exact Below.refl _ _ | assumption | (refine Zd ?_) | (refine Zc ?_ _) | (refine Qh ?_ _) | (refine Zs ?_ (by first | omega | (simp;done) | (simp;omega)) _) | (refine Qk ?_ (by assumption))))⟩
theorem Qbt(fb:Nat)(k:Int)(a:Nat)(w:World)(het:ErrType w)(h:FltB w fb k a)(hk:k≠0)(hg:0<w.heap.size):Calls Tryz.prog 31 #[.iface 127 (pt fb 0),.agg #[.int .i64 k,.int .i64 a]] w λ e w'=>e=.returned (.bool true)∧Below w.heap.size w w':=by
 have H:=QLh h;have HET0:=QLh het;have hk1:(k == 0)=false:=by simpa using hk
 have hfl:=lt_of_block h;clear h het hk
 go_enter Tryz.func31,Tryz.ntmps31
 go_upto_region 4 with fail
 obtain⟨b3,hb3⟩:∃b3,w.heap.size=b3:=⟨_,rfl⟩
 obtain⟨W,hW⟩:∃W,(w.alloc (.cells #[.int .i64 k,.int .i64 a] 63)).alloc (.cells #[.pointer none] 127)=W:=⟨_,rfl⟩
 have WB:Hid (Below w.heap.size w W):=QLh (by rw[←hW];exact Qh (Qh (Below.refl _ _) _) _);have W3:Hid (W.heap[b3]?=some (.cells #[.int .i64 k,.int .i64 a] 63 (0,0))):=QLh (by rw[←hW,←hb3];exact Qf (heap_alloc_new _ _) _)
 obtain⟨gb,hgb⟩:∃gb,b3+1=gb:=⟨_,rfl⟩
 have WG:Hid (W.heap[gb]?=some (.cells #[.pointer none] 127 (0,0))):=QLh (by rw[←hW,←hgb];exact Qi _ (by simp[hb3]))
 try rw[hW]
 try simp only[hb3,hgb]
 have hyg:fb≠gb:=by omega
 have hzg:b3≠gb:=by omega
 have hgg:0≠gb:=by omega
 have HET:Hid (ErrType W):=QLh (HET0.out.below WB.out);have y0:W.cell? ⟨fb,0,none⟩=some (.int .i64 k):=Qa (H.out.below WB.out) 0;have y1:W.cell? ⟨fb,1,none⟩=some (.int .i64 a):=Qa (H.out.below WB.out) 1;have z0:W.cell? ⟨b3,0,none⟩=some (.int .i64 k):=Qa W3.out 0;have z1:W.cell? ⟨b3,1,none⟩=some (.int .i64 a):=Qa W3.out 1;have HGB:Hid (w.heap.size≤gb):=QLh (by omega);clear hW hb3 hgb
 obtain⟨VO,hVO⟩:∃VO:Nat→Option Nat,VO=λ j=>if j=2 then some (gb)else none:=⟨_,rfl⟩
 have vok:VO 2=some (gb):=by rw[hVO];rfl
 have von:∀j,j≠2→VO j=none:=λ j h1=>by rw[hVO];simp[h1]
 have vob:∀j b,b≠gb→VO j≠some b:=λ j b hb=>by
  by_cases h:j=2
  ·subst h;rw[vok];simp;exact λ e=>hb e.symm
  ·rw[von j h];simp
 clear hVO;have xrefl:∀j w,(fun (_:Nat) (w1 w2:World)=>w1.heap[gb]?=some (.cells #[pt fb 0] 127 (0,0))→w2.heap[gb]?=some (.cells #[pt fb 0] 127 (0,0))) j w w:=λ j w h=>h;have voi:∀i j b,VO i=some b→VO j=some b→i=j:=λ i j b h1 h2=>by
  by_cases e1:i=2
  ·by_cases e2:j=2
   ·rw[e1,e2]
   ·rw[von j e2]at h2;cases h2
  ·rw[von i e1]at h1;cases h1
 refine Qar 17 VO voi (fun (_:Nat) (w1 w2:World)=>w1.heap[gb]?=some (.cells #[pt fb 0] 127 (0,0))→w2.heap[gb]?=some (.cells #[pt fb 0] 127 (0,0))) (λ _=>True) (λ _ _ _ _ _=>True) xrefl trivial (Qaw [λ u _=>u=(.iface 127 (pt fb 0)),λ u _=>u=(.iface 129 (pt gb 0)),λ u w'=>u=.bool true∧w'.heap[gb]?=some (.cells #[pt fb 0] 127 (0,0)),λ u w'=>u=.bool true∧w'.heap[gb]?=some (.cells #[pt fb 0] 127 (0,0)),λ u _=>u=(pt fb 0),λ u _=>u=(pt fb 0),λ u _=>u=(.agg #[.int .i64 k,.int .i64 a]),λ u _=>u=(.agg #[.int .i64 k,.int .i64 a]),λ u _=>u=(.bool true),λ u _=>u=(.bool true),λ u _=>u=(.bool true),λ u _=>u=(.iface 127 (pt fb 0)),λ u _=>u=(pt b3 0),λ u _=>u=(.int .i64 k),λ u _=>u=(.iface 30 (.int .i64 k)),λ u _=>u=(.bool true),λ u _=>u=(.bool true)]) rfl (by kernel_rfl) (by kernel_rfl) (Qhu ⟨Zl,Zl,?m2,?m3,Zl,Zl,Zl,Zl,Zl,Zl,Zl,Zl,Zl,Zl,Zl,Zl,Zl,trivial⟩) (λ _ _ _ _ _=>trivial) (λ _ _ _ _ _ _ _ _ _ _ _=>trivial) (Qfz 17 ⟨?s0,?s1,?s2,?s3,?s4,?s5,?s6,?s7,?s8,?s9,?s10,?s11,?s12,?s13,?s14,?s15,?s16,trivial⟩) ?_
 case m2=>
  exact λ j hj u w1 w2 he ⟨h1,h2⟩=>⟨h1,he.2 h2⟩
 case m3=>
  exact λ j hj u w1 w2 he ⟨h1,h2⟩=>⟨h1,he.2 h2⟩
 case s0=>
  refine Ze (v:=(.iface 127 (pt fb 0))) xrefl (λ _ _ _ _=>⟨trivial,trivial⟩) (λ D av wv hE hO hD=>?_) (λ _=>rfl)
  have f0:=QEf av 0 (.iface 127 (pt fb 0)) (hO.2.2 0 rfl)
  refine⟨rfl,?_⟩
  simp[go_sem,f0]
 case s1=>
  refine Ze (v:=(.iface 129 (pt gb 0))) xrefl (λ _ _ _ _=>⟨trivial,trivial⟩) (λ D av wv hE hO hD=>?_) (λ _=>rfl)
  have f5:=QEf av 5 (pt gb 0) (hO.2.2 5 rfl)
  refine⟨rfl,?_⟩
  simp[go_sem,f5]
 case s2=>
  refine Qbp (λ D av wv hPP hE hO hD=>?_)
  have f20:=QEf av 20 (.iface 127 (pt fb 0)) (hD.1 rfl _ rfl);have f21:=QEf av 21 (.iface 129 (pt gb 0)) (hD.2.1 rfl _ rfl)
  refine⟨rfl,?_⟩
  have hg0:wv.heap[gb]?=some (.cells #[.pointer none] 127 (0,0)):=(hE.own gb vok (lt_of_block WG.out)).trans WG.out;have het:ErrType wv:=Xf hE.ext (λ j=>vob j _ hgg) HET.out
  refine Xq (f:=71) (args:=#[.iface 127 (pt fb 0),.iface 129 (pt gb 0)]) (R:=λ u w2=>(u=.bool true∧w2.heap[gb]?=some (.cells #[pt fb 0] 127 (0,0)))∧Jg (some gb) wv w2) (by simp[go_sem,f20,f21]) ((Qpb fb gb none wv het hg0).mono (λ e w2 ⟨h1,h2,h3⟩=>⟨_,h1,⟨rfl,h3⟩,h2⟩)) (λ u w2 ⟨h1,h2⟩=>⟨u,rfl,⟨by rw[vok];exact h2,λ _=>h1.2⟩,h1,λ _ _ _ _ _=>⟨trivial,trivial⟩⟩)
 case s3=>
  refine Qbp (λ D av wv hPP hE hO hD=>?_)
  have d22:(λ u w'=>u=.bool true∧w'.heap[gb]?=some (.cells #[pt fb 0] 127 (0,0))) (av.eval (.tmp 22)) wv:=hD.1 rfl _ rfl
  refine⟨rfl,?_⟩
  obtain⟨g1,g2⟩:=d22
  have f22:=(Qq av 22).symm.trans g1
  exact Zn (v:=.bool true) (by simp[go_sem,f22]) ⟨_,rfl,Qcs (Zr _) (xrefl 0 _),⟨rfl,g2⟩,λ _ _ _ _ _=>⟨trivial,trivial⟩⟩
 case s4=>
  refine Ze (v:=(pt fb 0)) xrefl (λ _ _ _ _=>⟨trivial,trivial⟩) (λ D av wv hE hO hD=>?_) (λ _=>rfl)
  have f5:=QEf av 5 (pt gb 0) (hO.2.2 5 rfl);have d23:(λ u w'=>u=.bool true∧w'.heap[gb]?=some (.cells #[pt fb 0] 127 (0,0))) (av.eval (.tmp 23)) wv:=hD.1 rfl _ rfl;have g23:av.eval (.tmp 23)=.bool true:=d23.1;have f23:=(Qq av 23).symm.trans g23;have y0:=Xf hE.ext (λ j=>vob j _ hyg) y0;have y1:=Xf hE.ext (λ j=>vob j _ hyg) y1;have z0:=Xf hE.ext (λ j=>vob j _ hzg) z0;have z1:=Xf hE.ext (λ j=>vob j _ hzg) z1
  refine⟨(Qs (d:=23) (b:=true) (want:=true) rfl rfl rfl g23),?_⟩
  have q0:wv.cell? ⟨gb,0,none⟩=some (pt fb 0):=Qa d23.2 0
  simp[go_sem,f5,q0]
 case s5=>
  refine Ze (v:=(pt fb 0)) xrefl (λ _ _ _ _=>⟨trivial,trivial⟩) (λ D av wv hE hO hD=>?_) (λ _=>rfl)
  have f24:=QEf av 24 (pt fb 0) (hD.1 rfl _ rfl);have d23:(λ u w'=>u=.bool true∧w'.heap[gb]?=some (.cells #[pt fb 0] 127 (0,0))) (av.eval (.tmp 23)) wv:=hD.2.1 rfl _ rfl;have g23:av.eval (.tmp 23)=.bool true:=d23.1;have f23:=(Qq av 23).symm.trans g23
  refine⟨(Qs (d:=23) (b:=true) (want:=true) rfl rfl rfl g23),?_⟩
  simp[go_sem,f24,f23]
 case s6=>
  refine Ze (v:=(.agg #[.int .i64 k,.int .i64 a])) xrefl (λ _ _ _ _=>⟨trivial,trivial⟩) (λ D av wv hE hO hD=>?_) (λ _=>rfl)
  have f25:=QEf av 25 (pt fb 0) (hD.1 rfl _ rfl);have d23:(λ u w'=>u=.bool true∧w'.heap[gb]?=some (.cells #[pt fb 0] 127 (0,0))) (av.eval (.tmp 23)) wv:=hD.2.1 rfl _ rfl;have g23:av.eval (.tmp 23)=.bool true:=d23.1;have f23:=(Qq av 23).symm.trans g23;have y0:=Xf hE.ext (λ j=>vob j _ hyg) y0;have y1:=Xf hE.ext (λ j=>vob j _ hyg) y1;have z0:=Xf hE.ext (λ j=>vob j _ hzg) z0;have z1:=Xf hE.ext (λ j=>vob j _ hzg) z1
  refine⟨(Qs (d:=23) (b:=true) (want:=true) rfl rfl rfl g23),?_⟩
  simp[go_sem,f25,f23,y0,y1,z0,z1]
 case s7=>
  refine Ze (v:=(.agg #[.int .i64 k,.int .i64 a])) xrefl (λ _ _ _ _=>⟨trivial,trivial⟩) (λ D av wv hE hO hD=>?_) (λ _=>rfl)
  have f3:=QEf av 3 (pt b3 0) (hO.2.2 3 rfl);have d23:(λ u w'=>u=.bool true∧w'.heap[gb]?=some (.cells #[pt fb 0] 127 (0,0))) (av.eval (.tmp 23)) wv:=hD.1 rfl _ rfl;have g23:av.eval (.tmp 23)=.bool true:=d23.1;have f23:=(Qq av 23).symm.trans g23;have y0:=Xf hE.ext (λ j=>vob j _ hyg) y0;have y1:=Xf hE.ext (λ j=>vob j _ hyg) y1;have z0:=Xf hE.ext (λ j=>vob j _ hzg) z0;have z1:=Xf hE.ext (λ j=>vob j _ hzg) z1
  refine⟨(Qs (d:=23) (b:=true) (want:=true) rfl rfl rfl g23),?_⟩
  simp[go_sem,f3,f23,y0,y1,z0,z1]
 case s8=>
  refine Ze (v:=(.bool true)) xrefl (λ _ _ _ _=>⟨trivial,trivial⟩) (λ D av wv hE hO hD=>?_) (λ _=>rfl)
  have f26:=QEf av 26 (.agg #[.int .i64 k,.int .i64 a]) (hD.1 rfl _ rfl);have f27:=QEf av 27 (.agg #[.int .i64 k,.int .i64 a]) (hD.2.1 rfl _ rfl);have d23:(λ u w'=>u=.bool true∧w'.heap[gb]?=some (.cells #[pt fb 0] 127 (0,0))) (av.eval (.tmp 23)) wv:=hD.2.2.1 rfl _ rfl;have g23:av.eval (.tmp 23)=.bool true:=d23.1;have f23:=(Qq av 23).symm.trans g23
  refine⟨(Qs (d:=23) (b:=true) (want:=true) rfl rfl rfl g23),?_⟩
  simp[go_sem,f26,f27,f23]
 case s9=>
  refine Ze (v:=(.bool true)) xrefl (λ _ _ _ _=>⟨trivial,trivial⟩) (λ D av wv hE hO hD=>?_) (λ _=>rfl)
  have d23:(λ u w'=>u=.bool true∧w'.heap[gb]?=some (.cells #[pt fb 0] 127 (0,0))) (av.eval (.tmp 23)) wv:=hD.1 rfl _ rfl;have f23:=QEf av 23 (.bool true) (d23.1);have f28:=QEf av 28 (.bool true) (hD.2.1 rfl _ rfl)
  refine⟨rfl,?_⟩
  simp[go_sem,f23,f28]
 case s10=>
  refine Ze (v:=(.bool true)) xrefl (λ _ _ _ _=>⟨trivial,trivial⟩) (λ D av wv hE hO hD=>?_) (λ _=>rfl)
  have f29:=QEf av 29 (.bool true) (hD.1 rfl _ rfl)
  refine⟨rfl,?_⟩
  simp[go_sem,f29]
 case s11=>
  refine Ze (v:=(.iface 127 (pt fb 0))) xrefl (λ _ _ _ _=>⟨trivial,trivial⟩) (λ D av wv hE hO hD=>?_) (λ _=>rfl)
  have f0:=QEf av 0 (.iface 127 (pt fb 0)) (hO.2.2 0 rfl);have d30:av.eval (.tmp 30)=(.bool true):=hD.1 rfl _ rfl;have f30:=(Qq av 30).symm.trans d30
  refine⟨(Qs (d:=30) (b:=true) (want:=true) rfl rfl rfl d30),?_⟩
  simp[go_sem,f0,f30]
 case s12=>
  refine Ze (v:=(pt b3 0)) xrefl (λ _ _ _ _=>⟨trivial,trivial⟩) (λ D av wv hE hO hD=>?_) (λ _=>rfl)
  have f3:=QEf av 3 (pt b3 0) (hO.2.2 3 rfl);have d30:av.eval (.tmp 30)=(.bool true):=hD.1 rfl _ rfl;have f30:=(Qq av 30).symm.trans d30
  refine⟨(Qs (d:=30) (b:=true) (want:=true) rfl rfl rfl d30),?_⟩
  simp[go_sem,f3,f30]
 case s13=>
  refine Ze (v:=(.int .i64 k)) xrefl (λ _ _ _ _=>⟨trivial,trivial⟩) (λ D av wv hE hO hD=>?_) (λ _=>rfl)
  have f32:=QEf av 32 (pt b3 0) (hD.1 rfl _ rfl);have d30:av.eval (.tmp 30)=(.bool true):=hD.2.1 rfl _ rfl;have f30:=(Qq av 30).symm.trans d30;have y0:=Xf hE.ext (λ j=>vob j _ hyg) y0;have y1:=Xf hE.ext (λ j=>vob j _ hyg) y1;have z0:=Xf hE.ext (λ j=>vob j _ hzg) z0;have z1:=Xf hE.ext (λ j=>vob j _ hzg) z1
  refine⟨(Qs (d:=30) (b:=true) (want:=true) rfl rfl rfl d30),?_⟩
  simp[go_sem,f32,f30,y0,y1,z0,z1]
 case s14=>
  refine Ze (v:=(.iface 30 (.int .i64 k))) xrefl (λ _ _ _ _=>⟨trivial,trivial⟩) (λ D av wv hE hO hD=>?_) (λ _=>rfl)
  have f33:=QEf av 33 (.int .i64 k) (hD.1 rfl _ rfl);have d30:av.eval (.tmp 30)=(.bool true):=hD.2.1 rfl _ rfl;have f30:=(Qq av 30).symm.trans d30
  refine⟨(Qs (d:=30) (b:=true) (want:=true) rfl rfl rfl d30),?_⟩
  simp[go_sem,f33,f30]
 case s15=>
  refine Qbp (λ D av wv hPP hE hO hD=>?_)
  have f31:=QEf av 31 (.iface 127 (pt fb 0)) (hD.1 rfl _ rfl);have f34:=QEf av 34 (.iface 30 (.int .i64 k)) (hD.2.1 rfl _ rfl);have d30:av.eval (.tmp 30)=(.bool true):=hD.2.2.1 rfl _ rfl;have f30:=(Qq av 30).symm.trans d30
  refine⟨(Qs (d:=30) (b:=true) (want:=true) rfl rfl rfl d30),?_⟩
  refine Xq (f:=72) (args:=#[.iface 127 (pt fb 0),.iface 30 (.int .i64 k)]) (R:=λ u w2=>u=.bool true∧w2=wv) (by simp[go_sem,f31,f34]) ((Qpa fb k k wv (Xf hE.ext (λ j=>vob j _ hyg) y0)).mono (λ e w2 ⟨h1,h2⟩=>⟨_,h1,by simp,h2⟩)) (λ u w2 ⟨h1,h2⟩=>⟨u,rfl,Qcs (by rw[h2];exact Zr _) (by rw[h2];exact xrefl 0 _),h1,λ _ _ _ _ _=>⟨trivial,trivial⟩⟩)
 case s16=>
  refine Ze (v:=(.bool true)) xrefl (λ _ _ _ _=>⟨trivial,trivial⟩) (λ D av wv hE hO hD=>?_) (λ _=>rfl)
  have f30:=QEf av 30 (.bool true) (hD.1 rfl _ rfl);have f35:=QEf av 35 (.bool true) (hD.2.1 rfl _ rfl)
  refine⟨rfl,?_⟩
  simp[go_sem,f30,f35]
 intro a' w' hE _ hO hall _
 have hA:=Ql (ds:=[20,21,22,23,24,25,26,27,28,29,30,31,32,33,34,35,36]) rfl hO (by kernel_rfl)
 obtain⟨j0,j1,j2,j3,j4,j5,j6,j7,j8,j9,j10,j11,j12,j13,j14,j15,j16,_⟩:=hall
 have e20:a'.eval (.tmp 20)=(.iface 127 (pt fb 0)):=j0 _ rfl;have e21:a'.eval (.tmp 21)=(.iface 129 (pt gb 0)):=j1 _ rfl;have e22:(λ u w'=>u=.bool true∧w'.heap[gb]?=some (.cells #[pt fb 0] 127 (0,0))) (a'.eval (.tmp 22)) w':=j2 _ rfl;have e23:(λ u w'=>u=.bool true∧w'.heap[gb]?=some (.cells #[pt fb 0] 127 (0,0))) (a'.eval (.tmp 23)) w':=j3 _ rfl;have e24:a'.eval (.tmp 24)=(pt fb 0):=j4 _ rfl;have e25:a'.eval (.tmp 25)=(pt fb 0):=j5 _ rfl;have e26:a'.eval (.tmp 26)=(.agg #[.int .i64 k,.int .i64 a]):=j6 _ rfl;have e27:a'.eval (.tmp 27)=(.agg #[.int .i64 k,.int .i64 a]):=j7 _ rfl;have e28:a'.eval (.tmp 28)=(.bool true):=j8 _ rfl;have e29:a'.eval (.tmp 29)=(.bool true):=j9 _ rfl;have e30:a'.eval (.tmp 30)=(.bool true):=j10 _ rfl;have e31:a'.eval (.tmp 31)=(.iface 127 (pt fb 0)):=j11 _ rfl;have e32:a'.eval (.tmp 32)=(pt b3 0):=j12 _ rfl;have e33:a'.eval (.tmp 33)=(.int .i64 k):=j13 _ rfl;have e34:a'.eval (.tmp 34)=(.iface 30 (.int .i64 k)):=j14 _ rfl;have e35:a'.eval (.tmp 35)=(.bool true):=j15 _ rfl;have e36:a'.eval (.tmp 36)=(.bool true):=j16 _ rfl
 obtain⟨v22,hv22⟩:∃v,a'.eval (.tmp 22)=v:=⟨_,rfl⟩
 rw[hv22]at e22
 obtain⟨v23,hv23⟩:∃v,a'.eval (.tmp 23)=v:=⟨_,rfl⟩
 rw[hv23]at e23
 simp only[List.foldl_cons,List.foldl_nil,Act.put,List.setIfInBounds_toArray,List.set_cons_succ,List.set_cons_zero,e20,e21,hv22,hv23,e24,e25,e26,e27,e28,e29,e30,e31,e32,e33,e34,e35,e36]at hA
 clear hO j0 j1 j2 j3 j4 j5 j6 j7 j8 j9 j10 j11 j12 j13 j14 j15 j16 e20 e21 hv22 hv23 e24 e25 e26 e27 e28 e29 e30 e31 e32 e33 e34 e35 e36
 subst hA
 have HX:Hid (ExtS VO W w'):=QLh ⟨hE.os,hE.tape,hE.output,hE.size,hE.block⟩;have HV:Hid (∀j b,b≠gb→VO j≠some b):=QLh vob;clear hE vob von vok voi xrefl y0 y1 z0 z1
 go_wp2
 go_ret
 exact⟨rfl,HX.out.os.trans WB.out.os,HX.out.tape.trans WB.out.tape,HX.out.output.trans WB.out.output,Nat.le_trans WB.out.size HX.out.size,λ i hi=>(HX.out.block i (Nat.lt_of_lt_of_le hi WB.out.size) (λ j=>HV.out j i (by have:=HGB.out;omega))).trans (WB.out.block i hi)⟩
end Go.Proofs.YtihiaopilnjonaaGreatDoor
namespace Go.Proofs
open Go.Shelf
def Tryz.lays105_ren : Go.Shelf.Ren := ⟨fun | 105 => 102 | 212 => 164 | 99 => 165 | 165 => 166 | 166 => 167 | 170 => 168 | 169 => 169 | 263 => 234 | 264 => 235 | 206 => 236 | 240 => 237 | 241 => 238 | 276 => 257 | 277 => 258 | n => n, fun | 9 => 9 | 3 => 3 | 4 => 4 | 20 => 20 | 0 => 0 | 46 => 251 | 109 => 252 | 5 => 5 | 72 => 257 | 76 => 259 | 51 => 315 | 146 => 316 | 53 => 23 | 148 => 318 | 70 => 255 | 37 => 106 | 75 => 59 | 127 => 320 | 164 => 211 | 80 => 144 | n => n, fun | n => n⟩
theorem Tryz.lays105:Go.Proofs.Lays.n105 Tryz.prog Tryz.lays105_ren:={
 mixed:=by kernel_rfl
 f99:=Tryz.func165.trans (congrArg some (by kernel_rfl))
 f105:=Tryz.func102.trans (congrArg some (by kernel_rfl))
 f165:=Tryz.func166.trans (congrArg some (by kernel_rfl))
 f166:=Tryz.func167.trans (congrArg some (by kernel_rfl))
 f169:=Tryz.func169.trans (congrArg some (by kernel_rfl))
 f170:=Tryz.func168.trans (congrArg some (by kernel_rfl))
 f206:=Tryz.func236.trans (congrArg some (by kernel_rfl))
 f212:=Tryz.func164.trans (congrArg some (by kernel_rfl))
 f240:=Tryz.func237.trans (congrArg some (by kernel_rfl))
 f241:=Tryz.func238.trans (congrArg some (by kernel_rfl))
 f263:=Tryz.func234.trans (congrArg some (by kernel_rfl))
 f264:=Tryz.func235.trans (congrArg some (by kernel_rfl))
 f276:=Tryz.func257.trans (congrArg some (by kernel_rfl))
 f277:=Tryz.func258.trans (congrArg some (by kernel_rfl))
 t0:=Tryz.underlying0
 a0:=Tryz.isAgg0
 z0:=Tryz.sizeOf0
 v0:=Tryz.zeroValue0
 t3:=Tryz.underlying3
 a3:=Tryz.isAgg3
 z3:=Tryz.sizeOf3
 v3:=Tryz.zeroValue3
 t4:=Tryz.underlying4
 a4:=Tryz.isAgg4
 z4:=Tryz.sizeOf4
 v4:=Tryz.zeroValue4
 t5:=Tryz.underlying5
 a5:=Tryz.isAgg5
 z5:=Tryz.sizeOf5
 v5:=Tryz.zeroValue5
 t9:=Tryz.underlying9
 a9:=Tryz.isAgg9
 z9:=Tryz.sizeOf9
 v9:=Tryz.zeroValue9
 t20:=Tryz.underlying20
 a20:=Tryz.isAgg20
 z20:=Tryz.sizeOf20
 v20:=Tryz.zeroValue20
 t37:=Tryz.underlying106
 a37:=Tryz.isAgg106
 z37:=Tryz.sizeOf106
 v37:=Tryz.zeroValue106
 t46:=Tryz.underlying251
 a46:=Tryz.isAgg251
 z46:=Tryz.sizeOf251
 v46:=Tryz.zeroValue251
 t51:=Tryz.underlying315
 a51:=Tryz.isAgg315
 z51:=Tryz.sizeOf315
 v51:=Tryz.zeroValue315
 t53:=Tryz.underlying23
 a53:=Tryz.isAgg23
 z53:=Tryz.sizeOf23
 v53:=Tryz.zeroValue23
 t70:=Tryz.underlying255
 a70:=Tryz.isAgg255
 z70:=Tryz.sizeOf255
 v70:=Tryz.zeroValue255
 t72:=Tryz.underlying257
 a72:=Tryz.isAgg257
 z72:=Tryz.sizeOf257
 v72:=Tryz.zeroValue257
 t75:=Tryz.underlying59
 a75:=Tryz.isAgg59
 z75:=Tryz.sizeOf59
 v75:=Tryz.zeroValue59
 t76:=Tryz.underlying259
 a76:=Tryz.isAgg259
 z76:=Tryz.sizeOf259
 v76:=Tryz.zeroValue259
 t109:=Tryz.underlying252
 a109:=Tryz.isAgg252
 z109:=Tryz.sizeOf252
 v109:=Tryz.zeroValue252
 t127:=Tryz.underlying320
 a127:=Tryz.isAgg320
 z127:=Tryz.sizeOf320
 v127:=Tryz.zeroValue320
 t146:=Tryz.underlying316
 a146:=Tryz.isAgg316
 z146:=Tryz.sizeOf316
 v146:=Tryz.zeroValue316
 t148:=Tryz.underlying318
 a148:=Tryz.isAgg318
 z148:=Tryz.sizeOf318
 v148:=Tryz.zeroValue318
 t164:=Tryz.underlying211
 a164:=Tryz.isAgg211
 z164:=Tryz.sizeOf211
 v164:=Tryz.zeroValue211 }
theorem Tryz.Builder_Extra_105:Builder.Extra Tryz.prog Tryz.lays105_ren:={
 sizeBuilder:=by kernel_rfl
 liesBuilder:=by kernel_rfl
 t5:=Tryz.underlying5
 a5:=Tryz.isAgg5
 z5:=Tryz.sizeOf5
 v5:=Tryz.zeroValue5
 infoByte:=by kernel_rfl
 cellsByte:=by kernel_rfl
 sizeByte:=by kernel_rfl
 neB5:=by decide }
open Go.RowKit Go.Lib in
theorem Tryz.strings_Repeat(s:ByteArray)(c:Nat)(w:World)(hc:c≤9223372036854775807)(hlen:s.size * c≤140737488355328):
  Calls Tryz.prog 102 #[.string s,.int .i64 c] w λ e w'=>e=.returned (.string ⟨(Lib.repeatL s.data.toList c).toArray⟩)∧Below w.heap.size w w':=Any.strings_Repeat Tryz.lays105 Tryz.Builder_Extra_105 s c w hc hlen
end Go.Proofs
namespace Go.Proofs.YtihiaopilnjonaaGreatDoor
open Go.RowKit
set_option linter.unusedSimpArgs false
set_option linter.unusedVariables false
set_option maxRecDepth 100000
set_option maxHeartbeats 8000000
attribute [local go_sem] pt
def fullR:ByteArray:=⟨(Go.Lib.repeatL [114] 32).toArray⟩
theorem Qwi(w:World):Calls Tryz.prog 54 #[.string ⟨#[114]⟩] w λ e w'=>e=.returned (.string fullR)∧Below w.heap.size w w':=by
 go_enter Tryz.func54,Tryz.ntmps54
 go_wp2_with fail
 refine(Tryz.strings_Repeat ⟨#[114]⟩ 32 _ (by decide) (by decide)).mono ?_
 rintro e w1 ⟨rfl,hb⟩
 go_wp2
 go_ret
 exact⟨rfl,hb⟩
theorem Qct(w:World)(B n cap:Nat)(h:∀j,j<n→∃v,w.cell? ⟨B,j,none⟩=some (.int .u8 v)):∃t:ByteArray,t.size=n∧(convert 106 9 (.slice (some ⟨B,0,none⟩) n cap)).run Tryz.prog w=.ok (.string t) w:=by
 have h':∀j,∃v,j<n→w.cell? ⟨B,j,none⟩=some (.int .u8 v):=λ j=>by
  by_cases hj:j<n
  ·obtain⟨v,hv⟩:=h j hj;exact⟨v,λ _=>hv⟩
  ·exact⟨0,λ h=>absurd h hj⟩
 let f:Nat→Int:=λ j=>Classical.choose (h' j)
 have hf:∀j,j<n→w.cell? ⟨B,j,none⟩=some (.int .u8 (f j)):=λ j=>Classical.choose_spec (h' j)
 refine⟨strOfNums ((List.range n).map f),by rw[strOfNums_size];simp,?_⟩
 exact run_convert_bytes_arg (P:=Tryz.prog) w 106 5 Tryz.underlying106 Tryz.underlying5 B 0 n cap ((List.range n).map f) (by simp) (λ i hi=>by
  rw[Nat.zero_add,hf i hi]
  simp[hi]) 9 Tryz.underlying9
theorem Qhe(w:World)(e:TypeId)(s:ByteArray):Below w.heap.size w (Lib.bytesWorld w e s):=by
 have h:Below w.heap.size w (w.drew.alloc (.cells (Lib.bytesCells w e s) e)):=((Below.refl _ _).drew).alloc (by simp) _
 exact⟨h.os,h.tape,h.output,by rw[Lib.bytesWorld_size];omega,λ i hi=>Lib.bytesWorld_at_old _ _ _ _ hi⟩
theorem Qrg(s:ByteArray)(a y st:Int)(w:World)(ha:0≤a∧a≤65535)(hy:0≤y∧y≤255)(hs:s.size≤140737488355328):Calls Tryz.prog 28 #[.string s,.agg #[.int .u16 a,.int .u8 y,.int .i64 st]] w λ e w'=>∃t:ByteArray,e=.returned (.string t)∧t.size≤s.size∧Below w.heap.size w w':=by
 obtain⟨tb,htb⟩:∃tb,w.heap.size=tb:=⟨_,rfl⟩
 obtain⟨n,hn⟩:∃n,s.size=n:=⟨_,rfl⟩
 go_enter Tryz.func28,Tryz.ntmps28
 go_upto_region 1 with fail
 obtain⟨V,hV⟩:∃V,w.alloc (.cells #[.int .u16 a,.int .u8 y,.int .i64 st] 55)=V:=⟨_,rfl⟩
 rw[hV]
 have VB:Hid (Below w.heap.size w V):=QLh (by rw[←hV];exact Qh (Below.refl _ _) _);have VT:Hid (V.heap[tb]?=some (.cells #[.int .u16 a,.int .u8 y,.int .i64 st] 55 (0,0))):=QLh (by rw[←hV,←htb];exact heap_alloc_new _ _);have VS:Hid (V.heap.size=tb+1):=QLh (by rw[←hV,←htb];simp);clear hV;have hc:=Lib.run_convert_string_bytes (P:=Tryz.prog) V 9 106 5 s Tryz.underlying9 Tryz.underlying106 Tryz.underlying5
 go_upto_region 2 with fail
 obtain⟨cap,hcap⟩:∃cap,grownCap V n 0 5=cap:=⟨_,rfl⟩
 obtain⟨W,hW⟩:∃W,Lib.bytesWorld V 5 s=W:=⟨_,rfl⟩
 obtain⟨B,hB⟩:∃B,V.heap.size=B:=⟨_,rfl⟩
 obtain⟨cs,hcs⟩:∃cs,Lib.bytesCells V 5 s=cs:=⟨_,rfl⟩
 have HBK0:=Lib.bytesWorld_at_new V 5 s;have HCE0:=λ j (hj:j<s.size)=>Lib.bytesWorld_cell V 5 s j hj;have WB:Hid (Below w.heap.size w W):=QLh (by rw[←hW];exact Qk VB.out (Qhe V 5 s));have WT:Hid (W.heap[tb]?=some (.cells #[.int .u16 a,.int .u8 y,.int .i64 st] 55 (0,0))):=QLh (by rw[←hW];exact((Qhe V 5 s).block tb (by have:=VS.out;omega)).trans VT.out);have CAP:Hid (n≤cap):=QLh (by rw[←hcap];exact grownCap_ge _ _ _ _)
 simp only[hcap,hW,hB]
 rw[hW,hB]at HBK0
 rw[hcs]at HBK0
 have HCE:Hid (∀j,j<s.size→cs[j]?=some (.int .u8 (Qai s j))):=QLh (λ j hj=>by have:=HCE0 j hj;rw[hW,hB]at this;exact(Qa HBK0 j).symm.trans this)
 obtain⟨fr,hfr⟩:∃fr,(cs.size,cs.size+1)=fr:=⟨_,rfl⟩
 rw[hfr]at HBK0
 have HFR:Hid (fr=(cs.size,cs.size+1)):=QLh hfr.symm;have HBK:=QLh HBK0;have htB:tb≠B:=by have:=VS.out;omega
 have HWB:Hid (w.heap.size≤B):=QLh (by have:=VS.out;omega);clear HBK0 HCE0 hc hW hcs hcap hfr
 rw[hn]at HCE
 have HN:=QLh hn;clear hn
 by_cases h0:n=0
 ·have hpos:decide (0<n)=false:=by simp;omega
  have H0:=QLh h0;clear h0
  go_upto_region 4 with fail
  obtain⟨W2,hW2⟩:∃W2,W=W2:=⟨_,rfl⟩
  rw[hW2]at WB WT ⊢
  have W2B:=WB;have HT:=QLh (Qa WT.out 2);have HC:Hid (∀j,j<n→∃v,W2.cell? ⟨B,j,none⟩=some (.int .u8 v)):=QLh (λ j hj=>absurd hj (by have:=H0.out;omega));clear hW2
  rcases Int.lt_or_le st 0 with c1 | c1
  ·have b1:decide (0≤st)=false:=by simp;omega
   obtain⟨t,ht,hcv⟩:=Qct W2 B n cap HC.out
   have HCV:=QLh ht;have q2:=HT.out;clear ht
   go_wp2
   go_ret
   exact⟨t,rfl,by rw[HCV.out,HN.out];exact Nat.le_refl _,by have:=W2B.out;exact this⟩
  ·obtain⟨m,rfl⟩:=Int.eq_ofNat_of_zero_le c1
   have b1:decide (0≤(m:Int))=true:=by simp
   by_cases c2:m<n
   ·have b2:decide (m<n)=true:=by simp;exact c2
    obtain⟨t,ht,hcv⟩:=Qct W2 B m cap (λ j hj=>HC.out j (Nat.lt_trans hj c2))
    have HCV:=QLh ht;have q2:=HT.out;have c3:m≤cap:=by have:=CAP.out;omega
    have c4:(cap<m)=False:=by simp;omega
    clear ht
    go_wp2
    go_ret
    exact⟨t,rfl,by rw[HCV.out,HN.out];omega,by have:=W2B.out;exact this⟩
   ·have b2:decide (m<n)=false:=by simp;omega
    obtain⟨t,ht,hcv⟩:=Qct W2 B n cap HC.out
    have HCV:=QLh ht;have q2:=HT.out;clear ht
    go_wp2
    go_ret
    exact⟨t,rfl,by rw[HCV.out,HN.out];exact Nat.le_refl _,by have:=W2B.out;exact this⟩
 ·have hpos:decide (0<n)=true:=by simp;omega
  obtain⟨k,hk⟩:∃k:Nat,a.toNat % n=k:=⟨_,rfl⟩
  have hkn:k<n:=by rw[←hk];exact Nat.mod_lt _ (by omega)
  have KK:Hid (a.tmod (n:Int)=(k:Int)):=QLh (by rw[←hk];exact(congrArg (λ z=>Int.tmod z (n:Int)) (Int.toNat_of_nonneg ha.1).symm).trans (Int.ofNat_tmod _ _).symm)
  obtain⟨x,hx⟩:∃x,Qai s k=x:=⟨_,rfl⟩
  have QK:Hid (cs[k]?=some (.int .u8 x)):=QLh (by rw[←hx];exact HCE.out k hkn);have FZ:Hid (W.frozen? ⟨B,k,none⟩=false):=QLh (by unfold World.frozen?;rw[HBK.out];have:=(Array.getElem?_eq_some_iff.1 QK.out).1;rw[HFR.out];simp;omega);have hBl:B<W.heap.size:=lt_of_block HBK.out;have y0:W.cell? ⟨tb,0,none⟩=some (.int .u16 a):=Qa WT.out 0;have y1:W.cell? ⟨tb,1,none⟩=some (.int .u8 y):=Qa WT.out 1
  obtain⟨z,r4⟩:∃z:Int,bits BinOp.xor IntKind.u8 x y=z:=⟨_,rfl⟩
  have q0:W.cell? ⟨B,k,none⟩=some (.int .u8 x):=(Qa HBK.out k).trans QK.out;have r0:IntKind.i64.wrap a=a:=wrap_small a ha.1 (by omega);have r1:(n=0)=False:=by simp[h0]
  have r2:a.tmod (n:Int)=(k:Int):=KK.out;have r3:(n≤k)=False:=by simp;omega
  go_upto_region 3 with fail
  refine Qp 13 1000 (none) (Qaw [λ u _=>u=(.slice (some ⟨B,0,none⟩) n cap),λ u _=>u=(pt tb 0),λ u _=>u=(.int .u16 a),λ u _=>u=(.int .i64 a),λ u _=>u=(.slice (some ⟨B,0,none⟩) n cap),λ u _=>u=(.int .i64 n),λ u _=>u=(.int .i64 k),λ u _=>u=(pt B k),λ u _=>u=(.int .u8 x),λ u _=>u=(pt tb 1),λ u _=>u=(.int .u8 y),λ u _=>u=(.int .u8 z),λ u _=>u=(pt B k)]) rfl (by kernel_rfl) (by kernel_rfl) (Zb ⟨Qe,Qe,Qe,Qe,Qe,Qe,Qe,Qe,Qe,Qe,Qe,Qe,Qe,trivial⟩) (Q6 13 ⟨?s0,?s1,?s2,?s3,?s4,?s5,?s6,?s7,?s8,?s9,?s10,?s11,?s12,trivial⟩) ?_
  case s0=>
   refine Qc (v:=(.slice (some ⟨B,0,none⟩) n cap)) (λ av wv hE hS hO hD=>?_) (λ _=>rfl)
   have f5:=QEf av 5 (.slice (some ⟨B,0,none⟩) n cap) (hO.2.2 5 rfl)
   refine⟨rfl,?_⟩
   simp[go_sem,f5,r0,r1,r2,r3,r4]
  case s1=>
   refine Qc (v:=(pt tb 0)) (λ av wv hE hS hO hD=>?_) (λ _=>rfl)
   have f3:=QEf av 3 (pt tb 0) (hO.2.2 3 rfl)
   refine⟨rfl,?_⟩
   simp[go_sem,f3,r0,r1,r2,r3,r4]
  case s2=>
   refine Qc (v:=(.int .u16 a)) (λ av wv hE hS hO hD=>?_) (λ _=>rfl)
   have f12:=QEf av 12 (pt tb 0) (hD.1 rfl _ rfl);have y0:=Qd hE (by simp) y0;have y1:=Qd hE (by simp) y1;have q0:=Qd hE (by simp) q0
   refine⟨rfl,?_⟩
   simp[go_sem,f12,y0,y1,q0,r0,r1,r2,r3,r4]
  case s3=>
   refine Qc (v:=(.int .i64 a)) (λ av wv hE hS hO hD=>?_) (λ _=>rfl)
   have f13:=QEf av 13 (.int .u16 a) (hD.1 rfl _ rfl)
   refine⟨rfl,?_⟩
   simp[go_sem,f13,r0,r1,r2,r3,r4]
  case s4=>
   refine Qc (v:=(.slice (some ⟨B,0,none⟩) n cap)) (λ av wv hE hS hO hD=>?_) (λ _=>rfl)
   have f5:=QEf av 5 (.slice (some ⟨B,0,none⟩) n cap) (hO.2.2 5 rfl)
   refine⟨rfl,?_⟩
   simp[go_sem,f5,r0,r1,r2,r3,r4]
  case s5=>
   refine Qc (v:=(.int .i64 n)) (λ av wv hE hS hO hD=>?_) (λ _=>rfl)
   have f15:=QEf av 15 (.slice (some ⟨B,0,none⟩) n cap) (hD.1 rfl _ rfl)
   refine⟨rfl,?_⟩
   simp[go_sem,f15,r0,r1,r2,r3,r4]
  case s6=>
   refine Qc (v:=(.int .i64 k)) (λ av wv hE hS hO hD=>?_) (λ _=>rfl)
   have f14:=QEf av 14 (.int .i64 a) (hD.1 rfl _ rfl);have f16:=QEf av 16 (.int .i64 n) (hD.2.1 rfl _ rfl)
   refine⟨rfl,?_⟩
   simp[go_sem,f14,f16,r0,r1,r2,r3,r4]
  case s7=>
   refine Qc (v:=(pt B k)) (λ av wv hE hS hO hD=>?_) (λ _=>rfl)
   have f11:=QEf av 11 (.slice (some ⟨B,0,none⟩) n cap) (hD.1 rfl _ rfl);have f17:=QEf av 17 (.int .i64 k) (hD.2.1 rfl _ rfl)
   refine⟨rfl,?_⟩
   simp[go_sem,f11,f17,r0,r1,r2,r3,r4]
  case s8=>
   refine Qc (v:=(.int .u8 x)) (λ av wv hE hS hO hD=>?_) (λ _=>rfl)
   have f18:=QEf av 18 (pt B k) (hD.1 rfl _ rfl);have y0:=Qd hE (by simp) y0;have y1:=Qd hE (by simp) y1;have q0:=Qd hE (by simp) q0
   refine⟨rfl,?_⟩
   simp[go_sem,f18,y0,y1,q0,r0,r1,r2,r3,r4]
  case s9=>
   refine Qc (v:=(pt tb 1)) (λ av wv hE hS hO hD=>?_) (λ _=>rfl)
   have f3:=QEf av 3 (pt tb 0) (hO.2.2 3 rfl)
   refine⟨rfl,?_⟩
   simp[go_sem,f3,r0,r1,r2,r3,r4]
  case s10=>
   refine Qc (v:=(.int .u8 y)) (λ av wv hE hS hO hD=>?_) (λ _=>rfl)
   have f20:=QEf av 20 (pt tb 1) (hD.1 rfl _ rfl);have y0:=Qd hE (by simp) y0;have y1:=Qd hE (by simp) y1;have q0:=Qd hE (by simp) q0
   refine⟨rfl,?_⟩
   simp[go_sem,f20,y0,y1,q0,r0,r1,r2,r3,r4]
  case s11=>
   refine Qc (v:=(.int .u8 z)) (λ av wv hE hS hO hD=>?_) (λ _=>rfl)
   have f19:=QEf av 19 (.int .u8 x) (hD.1 rfl _ rfl);have f21:=QEf av 21 (.int .u8 y) (hD.2.1 rfl _ rfl)
   refine⟨rfl,?_⟩
   simp[go_sem,f19,f21,r0,r1,r2,r3,r4]
  case s12=>
   refine Qc (v:=(pt B k)) (λ av wv hE hS hO hD=>?_) (λ _=>rfl)
   have f11:=QEf av 11 (.slice (some ⟨B,0,none⟩) n cap) (hD.1 rfl _ rfl);have f17:=QEf av 17 (.int .i64 k) (hD.2.1 rfl _ rfl)
   refine⟨rfl,?_⟩
   simp[go_sem,f11,f17,r0,r1,r2,r3,r4]
  intro a' w' hE hO hall
  have hA:=Ql (ds:=[11,12,13,14,15,16,17,18,19,20,21,22,23]) rfl hO (by kernel_rfl);have e11:a'.eval (.tmp 11)=(.slice (some ⟨B,0,none⟩) n cap):=hall.1 _ rfl;have e12:a'.eval (.tmp 12)=(pt tb 0):=hall.2.1 _ rfl;have e13:a'.eval (.tmp 13)=(.int .u16 a):=hall.2.2.1 _ rfl;have e14:a'.eval (.tmp 14)=(.int .i64 a):=hall.2.2.2.1 _ rfl;have e15:a'.eval (.tmp 15)=(.slice (some ⟨B,0,none⟩) n cap):=hall.2.2.2.2.1 _ rfl;have e16:a'.eval (.tmp 16)=(.int .i64 n):=hall.2.2.2.2.2.1 _ rfl;have e17:a'.eval (.tmp 17)=(.int .i64 k):=hall.2.2.2.2.2.2.1 _ rfl;have e18:a'.eval (.tmp 18)=(pt B k):=hall.2.2.2.2.2.2.2.1 _ rfl;have e19:a'.eval (.tmp 19)=(.int .u8 x):=hall.2.2.2.2.2.2.2.2.1 _ rfl;have e20:a'.eval (.tmp 20)=(pt tb 1):=hall.2.2.2.2.2.2.2.2.2.1 _ rfl;have e21:a'.eval (.tmp 21)=(.int .u8 y):=hall.2.2.2.2.2.2.2.2.2.2.1 _ rfl;have e22:a'.eval (.tmp 22)=(.int .u8 z):=hall.2.2.2.2.2.2.2.2.2.2.2.1 _ rfl;have e23:a'.eval (.tmp 23)=(pt B k):=hall.2.2.2.2.2.2.2.2.2.2.2.2.1 _ rfl
  simp only[List.foldl_cons,List.foldl_nil,Act.put,List.setIfInBounds_toArray,List.set_cons_succ,List.set_cons_zero,e11,e12,e13,e14,e15,e16,e17,e18,e19,e20,e21,e22,e23]at hA
  clear hO hall e11 e12 e13 e14 e15 e16 e17 e18 e19 e20 e21 e22 e23
  subst hA
  have hE':=Qx hE;clear y0 y1 q0 r0 r1 r2 r3 r4 hE;have HE:=QLh hE';have HB1:Hid (w'.heap[B]?=some (.cells cs 5 fr)):=QLh ((hE'.block B hBl).trans HBK.out);have p0:w'.cell? ⟨B,k,none⟩=some (.int .u8 x):=(Qa HB1.out k).trans QK.out;have p1:w'.frozen? ⟨B,k,none⟩=false:=by have:=FZ.out;unfold World.frozen? at this ⊢;rw[HB1.out];rw[HBK.out]at this;exact this
  clear hE'
  go_upto_region 4 with fail
  obtain⟨W2,hW2⟩:∃W2,w'.setCell ⟨B,k,none⟩ (.int .u8 z)=W2:=⟨_,rfl⟩
  rw[hW2]
  have W2B:Hid (Below w.heap.size w W2):=QLh (by rw[←hW2];exact Zs (Qk WB.out HE.out) HWB.out _);have HT:=QLh (Qa (show W2.heap[tb]?=_ by rw[←hW2];exact Qg ((HE.out.block tb (lt_of_block WT.out)).trans WT.out) htB _) 2);have HC:Hid (∀j,j<n→∃v,W2.cell? ⟨B,j,none⟩=some (.int .u8 v)):=QLh (λ j hj=>by
   have e:=Qa (show W2.heap[B]?=_ by rw[←hW2];exact Qb HB1.out _) j
   rw[e,Array.getElem?_setIfInBounds]
   by_cases h:k=j
   ·subst h
    have:=(Array.getElem?_eq_some_iff.1 QK.out).1
    simp[this]
   ·rw[if_neg h];exact⟨_,HCE.out j hj⟩)
  clear hW2 p0 p1
  rcases Int.lt_or_le st 0 with c1 | c1
  ·have b1:decide (0≤st)=false:=by simp;omega
   obtain⟨t,ht,hcv⟩:=Qct W2 B n cap HC.out
   have HCV:=QLh ht;have q2:=HT.out;clear ht
   go_wp2
   go_ret
   exact⟨t,rfl,by rw[HCV.out,HN.out];exact Nat.le_refl _,by have:=W2B.out;exact this⟩
  ·obtain⟨m,rfl⟩:=Int.eq_ofNat_of_zero_le c1
   have b1:decide (0≤(m:Int))=true:=by simp
   by_cases c2:m<n
   ·have b2:decide (m<n)=true:=by simp;exact c2
    obtain⟨t,ht,hcv⟩:=Qct W2 B m cap (λ j hj=>HC.out j (Nat.lt_trans hj c2))
    have HCV:=QLh ht;have q2:=HT.out;have c3:m≤cap:=by have:=CAP.out;omega
    have c4:(cap<m)=False:=by simp;omega
    clear ht
    go_wp2
    go_ret
    exact⟨t,rfl,by rw[HCV.out,HN.out];omega,by have:=W2B.out;exact this⟩
   ·have b2:decide (m<n)=false:=by simp;omega
    obtain⟨t,ht,hcv⟩:=Qct W2 B n cap HC.out
    have HCV:=QLh ht;have q2:=HT.out;clear ht
    go_wp2
    go_ret
    exact⟨t,rfl,by rw[HCV.out,HN.out];exact Nat.le_refl _,by have:=W2B.out;exact this⟩
theorem Qyz:Q8 (Q5 fullR 300 0 2 3)=true:=by kernel_rfl
theorem Qtz:Qbj (Q5 fullR 300 0 2 3)=⟨#[132,161,107,3,161,108,2,161,114,196,32,114,114,114,114,114,114,114,114,114,114,114,114,114,114,114,114,114,114,114,114,114,114,114,114,114,114,114,114,114,114,114,114,161,119,205,1,44]⟩:=by kernel_rfl
theorem Qwj:((⟨#[132,161,107,3,161,108,2,161,114,196,32,114,114,114,114,114,114,114,114,114,114,114,114,114,114,114,114,114,114,114,114,114,114,114,114,114,114,114,114,114,114,114,114,161,119,205,1,44]⟩:ByteArray).toList == ((⟨#[132,161,107,3,161,108,2,161,114,196,32]⟩:ByteArray)++fullR++⟨#[161,119,205,1,44]⟩).toList)=true:=by kernel_rfl
theorem Qy0:Q8 (Q3 0 false 0 [] [])=true:=by kernel_rfl
theorem Qt0:Qbj (Q3 0 false 0 [] [])=⟨#[128]⟩:=by kernel_rfl
theorem Qy1:Q8 (Q3 5 true 0 [] [])=true:=by kernel_rfl
theorem Qt1:Qbj (Q3 5 true 0 [] [])=⟨#[130,161,108,5,161,115,1]⟩:=by kernel_rfl
theorem Qy2:Q8 (Q5 (fullR.extract 1 fullR.size) 0 0 0 0)=false:=by kernel_rfl
theorem Qy3:Q8 (Qc4 ⟨#[]⟩ ⟨#[]⟩ 0 0 0 0)=false:=by kernel_rfl
theorem Q0x:Xg ⟨#[128]⟩ (Z3 ⟨#[128]⟩ 0) Xd=.ok Xd:=by kernel_rfl
theorem Q0y:Xg ⟨#[129,161,108,0]⟩ (Z3 ⟨#[129,161,108,0]⟩ 0) Xd=.error (5,0):=by kernel_rfl
theorem Q0z:Xg ⟨#[130,161,115,1,161,108,5]⟩ (Z3 ⟨#[130,161,115,1,161,108,5]⟩ 0) Xd=.error (5,0):=by kernel_rfl
theorem Q00:Xg ⟨#[129,161,115,2]⟩ (Z3 ⟨#[129,161,115,2]⟩ 0) Xd=.error (5,0):=by kernel_rfl
theorem Q01:Xg ⟨#[128,128]⟩ (Z3 ⟨#[128,128]⟩ 0) Xd=.error (5,1):=by kernel_rfl
theorem Q02:Xg ⟨#[128]⟩ (Zo ⟨#[128]⟩ 0) Xl=.error (5,0):=by kernel_rfl
theorem Q03:Xg ⟨#[]⟩ (Zo ⟨#[]⟩ 0) Xl=.error (4,0):=by kernel_rfl
theorem Q04:Xg ⟨#[129,161,119,204,5]⟩ (Zo ⟨#[129,161,119,204,5]⟩ 0) Xl=.error (5,3):=by kernel_rfl
def bdS:Nat→ByteArray
 | 0=>⟨#[129,161,108,0]⟩
 | 1=>⟨#[130,161,115,1,161,108,5]⟩
 | _=>⟨#[129,161,115,2]⟩
theorem Q05(m:Nat):Xg (bdS m) (Z3 (bdS m) 0) Xd=.error (5,0):=by
 match m with
 | 0=>exact Q0y
 | 1=>exact Q0z
 | _+2=>exact Q00
theorem Qwk(m:Nat):(bdS m).size≤9223372036854775807:=by
 match m with
 | 0=>decide
 | 1=>decide
 | _+2=>exact(show(4:Nat)≤9223372036854775807 by decide)
theorem Q06(m:Nat)(h:m<3):(#[Value.string ⟨#[129,161,108,0]⟩,.string ⟨#[130,161,115,1,161,108,5]⟩,.string ⟨#[129,161,115,2]⟩]:Array Value)[m]?=some (.string (bdS m)):=by
 match m,h with
 | 0,_=>rfl
 | 1,_=>rfl
 | 2,_=>rfl
structure TE7(B:Nat)(w:World):Prop where
 p:PTab B w
 t:Tabs B w
 e:ErrType w
 s:B≤w.heap.size
 g:0<B
theorem TE7.below{B:Nat}{w w':World}(h:TE7 B w)(hb:Below w.heap.size w w'):TE7 B w':=⟨h.p.keep hb h.s,h.t.below hb,h.e.below hb,Nat.le_trans h.s hb.size,h.g⟩
theorem Qi9(B:Nat)(s:ByteArray)(k:Int)(a:Nat)(w:World)(h:TE7 B w)(hs:s.size≤9223372036854775807)(hr:Xg s (Z3 s 0) Xd=.error (k,a)):
  Calls Tryz.prog 35 #[.string s] w λ e w'=>∃fb,e=.returned (.tuple #[Qc9,.iface 127 (pt fb 0)])∧FltB w' fb k a∧Below w.heap.size w w':=by
 refine(Qi2 B s w h.t h.e h.s h.g hs).mono ?_
 rintro e w' ⟨hb,hh⟩
 rw[hr]at hh
 obtain⟨fb,he,hf⟩:=hh
 exact⟨fb,he,hf,hb⟩
theorem Qfb(B:Nat)(s:ByteArray)(k:Int)(a:Nat)(w:World)(h:TE7 B w)(hs:s.size≤9223372036854775807)(hr:Xg s (Zo s 0) Xl=.error (k,a)):
  Calls Tryz.prog 29 #[.string s] w λ e w'=>∃fb,e=.returned (.tuple #[Qc8,.iface 127 (pt fb 0)])∧FltB w' fb k a∧Below w.heap.size w w':=by
 refine(Qoo B s w h.t h.e h.s h.g hs).mono ?_
 rintro e w' ⟨hb,hh⟩
 rw[hr]at hh
 obtain⟨fb,he,hf⟩:=hh
 exact⟨fb,he,hf,hb⟩
theorem Qlm{fs:List FSpec}{s:ByteArray}(h1:Q8 fs=true)(h2:Qbj fs=s){w w':World}{e:Ending}(h:LaidIs fs w e w'):e=.returned (.tuple #[.string s,.int .i64 0])∧Below w.heap.size w w':=by
 obtain⟨h3,h4⟩:=h;rw[h1,if_pos rfl,h2]at h3;exact⟨h3,h4⟩
theorem Qt2{fs:List FSpec}(h1:Q8 fs=false){w w':World}{e:Ending}(h:LaidIs fs w e w'):e=.returned (.tuple #[.string ⟨#[]⟩,.int .i64 2])∧Below w.heap.size w w':=by
 obtain⟨h3,h4⟩:=h;rw[h1,if_neg (by decide)]at h3;exact⟨h3,h4⟩
theorem Qrh(B:Nat)(w:World)(h:TE7 B w):Calls Tryz.prog 32 #[] w λ e w'=>e=.returned (.bool true)∧Below w.heap.size w w':=by
 have HE:=QLh h;clear h;have hfs:(1:Int)≤(fullR.size:Int):=by decide
 have hfn:(1≤fullR.size)=True:=by decide
 go_enter Tryz.func32,Tryz.ntmps32
 go_wp2_with fail
 refine(Qwi w).mono ?_
 rintro e w1 ⟨rfl,hb⟩
 have HB:=QLh hb;have HE:=QLh (HE.out.below hb);clear hb
 go_wp2_with fail
 refine(Qm2 B fullR 300 0 2 3 w1 HE.out.p (by decide) ⟨by decide,by decide⟩ ⟨by decide,by decide⟩ ⟨by decide,by decide⟩ ⟨by decide,by decide⟩ (by rw[Qtz];decide)).mono ?_
 rintro e w2 hh
 obtain⟨S1,hS1⟩:∃S,Qbj (Q5 fullR 300 0 2 3)=S:=⟨_,rfl⟩
 have HS1:=QLh (hS1.symm.trans Qtz)
 obtain⟨rfl,hb⟩:=Qlm Qyz hS1 hh
 clear hS1;have tS:(S1.toList == ((⟨#[132,161,107,3,161,108,2,161,114,196,32]⟩:ByteArray)++fullR++⟨#[161,119,205,1,44]⟩).toList)=true:=by rw[HS1.out];exact Qwj
 have HB:=QLh (Qk HB.out hb);have HE:=QLh (HE.out.below hb);clear hb hh
 go_wp2_with fail
 refine(Qm1 B 0 false 0 none none 0 0 [] [] w2 HE.out.p (λ i hi=>absurd hi (by simp[len])) (λ i hi=>absurd hi (by simp[len])) (by decide) (by decide) (by decide) (by decide) (by decide) (by decide) (by rw[Qt0];decide)).mono ?_
 rintro e w3 hh
 obtain⟨rfl,hb⟩:=Qlm Qy0 Qt0 hh
 have HB:=QLh (Qk HB.out hb);have HE:=QLh (HE.out.below hb);clear hb hh
 go_wp2_with fail
 refine(Qm1 B 5 true 0 none none 0 0 [] [] w3 HE.out.p (λ i hi=>absurd hi (by simp[len])) (λ i hi=>absurd hi (by simp[len])) (by decide) (by decide) (by decide) (by decide) (by decide) (by decide) (by rw[Qt1];decide)).mono ?_
 rintro e w4 hh
 obtain⟨rfl,hb⟩:=Qlm Qy1 Qt1 hh
 have HB:=QLh (Qk HB.out hb);have HE:=QLh (HE.out.below hb);clear hb hh
 go_wp2_with fail
 refine(Qm2 B (fullR.extract 1 fullR.size) 0 0 0 0 w4 HE.out.p (by decide) ⟨by decide,by decide⟩ ⟨by decide,by decide⟩ ⟨by decide,by decide⟩ ⟨by decide,by decide⟩ (by decide)).mono ?_
 rintro e w5 hh
 obtain⟨rfl,hb⟩:=Qt2 Qy2 hh
 have HB:=QLh (Qk HB.out hb);have HE:=QLh (HE.out.below hb);clear hb hh
 go_wp2_with fail
 refine(Qtd B ⟨#[]⟩ ⟨#[]⟩ 0 0 0 0 w5 HE.out.p (by decide) (by decide) ⟨by decide,by decide⟩ ⟨by decide,by decide⟩ ⟨by decide,by decide⟩ ⟨by decide,by decide⟩ (by decide)).mono ?_
 rintro e w6 hh
 obtain⟨rfl,hb⟩:=Qt2 Qy3 hh
 have HB:=QLh (Qk HB.out hb);have HE:=QLh (HE.out.below hb);clear hb hh
 go_wp2_with fail
 refine(Qi2 B ⟨#[128]⟩ w6 HE.out.t HE.out.e HE.out.s HE.out.g (by decide)).mono ?_
 rintro e w7 ⟨hb,hh⟩
 rw[Q0x]at hh
 obtain⟨-,a3,c3,a4,c4,-,rfl⟩:=hh
 have HB:=QLh (Qk HB.out hb);have HE:=QLh (HE.out.below hb);clear hb tS
 go_wp2_with fail
 obtain⟨sb,hsb⟩:∃sb,w7.heap.size+1=sb:=⟨_,rfl⟩
 obtain⟨W,hW⟩:∃W,(w7.alloc (.cells #[.int .u64 0,.bool false,.int .u64 (Xd 2).n,.slice a3 (len (Xd 3).l) c3,.slice a4 (len (Xd 4).l) c4] 44)).alloc (.cells #[.string ⟨#[129,161,108,0]⟩,.string ⟨#[130,161,115,1,161,108,5]⟩,.string ⟨#[129,161,115,2]⟩] 9)=W:=⟨_,rfl⟩
 have HB:Hid (Below w.heap.size w W):=QLh (by rw[←hW];exact Qh (Qh HB.out _) _);have HE:Hid (TE7 B W):=QLh (by rw[←hW];exact HE.out.below (Qh (Qh (Below.refl _ _) _) _));have HS:Hid (W.heap[sb]?=some (.cells #[.string ⟨#[129,161,108,0]⟩,.string ⟨#[130,161,115,1,161,108,5]⟩,.string ⟨#[129,161,115,2]⟩] 9 (0,0))):=QLh (by rw[←hW,←hsb];exact Qi _ (by simp))
 rw[hW,hsb]
 clear hW hsb
 go_loopg [15] 3 (λ g i wr=>∃m:Nat,g+m=3∧i=.int .i64 m∧Hid (Below W.heap.size W wr))
 case atStart=>exact⟨0,rfl,rfl,Below.refl _ _⟩
 case round=>
  obtain⟨m,hg,rfl,HW⟩:=hrel
  by_cases hlt:m<3
  ·have c0:wr.cell? ⟨sb,m,none⟩=some (.string (bdS m)):=(Qa ((HW.out.block sb (lt_of_block HS.out)).trans HS.out) m).trans (Q06 m hlt)
   have i1:decide (m<3)=true:=by simp;exact hlt
   have i2:(m:Int)<3:=by omega
   have HEr:=QLh (HE.out.below HW.out);have HR:=QLh (λ w' (h:TE7 B w')=>Qi9 B (bdS m) 5 0 w' h (Qwk m) (Q05 m))
   generalize bdS m=v at c0 HR
   go_wp2_with fail
   refine(HR.out _ HEr.out).mono ?_
   rintro e w8 ⟨fb,rfl,hf,hb⟩
   have HF:=QLh hf;have HB8:=QLh hb;have HE8:=QLh (HEr.out.below hb);clear hb c0 hf
   go_wp2_with fail
   have HE9:=QLh (HE8.out.below (Qh (Below.refl _ _) (.cells #[.int .u64 0,.bool false,.int .u64 0,.slice none 0 0,.slice none 0 0] 44)));have HF9:=QLh (HF.out.below (Qh (Below.refl _ _) (.cells #[.int .u64 0,.bool false,.int .u64 0,.slice none 0 0,.slice none 0 0] 44)));have HB9:=QLh (Qh (Qk HW.out HB8.out) (.cells #[.int .u64 0,.bool false,.int .u64 0,.slice none 0 0,.slice none 0 0] 44))
   refine(Qbt fb 5 0 _ HE9.out.e HF9.out (by decide) (Nat.lt_of_lt_of_le HE9.out.g HE9.out.s)).mono ?_
   rintro e w9 ⟨rfl,hb⟩
   have HB9:=QLh (Qk HB9.out hb);clear hb
   go_wp2
   go_roundg (2 - m)
   case rel=>exact⟨m+1,by omega,by go_num,HB9⟩
   case measure=>omega
  ·obtain rfl:m=3:=by omega
   have HB:=QLh (Qk HB.out HW.out);have HE:=QLh (HE.out.below HW.out);clear HW
   go_wp2_with fail
   refine(Qi9 B ⟨#[128,128]⟩ 5 1 _ HE.out (by decide) Q01).mono ?_
   rintro e x1 ⟨f1,rfl,hf,hb⟩
   have HB:=QLh (Qh (Qk HB.out hb) (.cells #[.int .u64 0,.bool false,.int .u64 0,.slice none 0 0,.slice none 0 0] 44));have HE:=QLh (HE.out.below (Qh hb (.cells #[.int .u64 0,.bool false,.int .u64 0,.slice none 0 0,.slice none 0 0] 44)));have HF1:=QLh (hf.below (Qh (Below.refl _ _) (.cells #[.int .u64 0,.bool false,.int .u64 0,.slice none 0 0,.slice none 0 0] 44)));clear hb hf
   go_wp2_with fail
   refine(Qfb B ⟨#[128]⟩ 5 0 _ HE.out (by decide) Q02).mono ?_
   rintro e x2 ⟨f2,rfl,hf,hb⟩
   have HB:=QLh (Qh (Qk HB.out hb) (.cells #[.string ⟨#[]⟩,.int .u64 0,.int .u64 0,.int .u64 0,.int .u64 0] 46));have hb':=Qh hb (.cells #[.string ⟨#[]⟩,.int .u64 0,.int .u64 0,.int .u64 0,.int .u64 0] 46);have HE:=QLh (HE.out.below hb');have HF1:=QLh (HF1.out.below hb');have HF2:=QLh (hf.below (Qh (Below.refl _ _) (.cells #[.string ⟨#[]⟩,.int .u64 0,.int .u64 0,.int .u64 0,.int .u64 0] 46)));clear hb hf hb'
   go_wp2_with fail
   refine(Qfb B ⟨#[]⟩ 4 0 _ HE.out (by decide) Q03).mono ?_
   rintro e x3 ⟨f3,rfl,hf,hb⟩
   have HB:=QLh (Qh (Qk HB.out hb) (.cells #[.string ⟨#[]⟩,.int .u64 0,.int .u64 0,.int .u64 0,.int .u64 0] 46));have hb':=Qh hb (.cells #[.string ⟨#[]⟩,.int .u64 0,.int .u64 0,.int .u64 0,.int .u64 0] 46);have HE:=QLh (HE.out.below hb');have HF1:=QLh (HF1.out.below hb');have HF2:=QLh (HF2.out.below hb');have HF3:=QLh (hf.below (Qh (Below.refl _ _) (.cells #[.string ⟨#[]⟩,.int .u64 0,.int .u64 0,.int .u64 0,.int .u64 0] 46)));clear hb hf hb'
   go_wp2_with fail
   refine(Qfb B ⟨#[129,161,119,204,5]⟩ 5 3 _ HE.out (by decide) Q04).mono ?_
   rintro e x4 ⟨f4,rfl,hf,hb⟩
   have HB:=QLh (Qh (Qk HB.out hb) (.cells #[.string ⟨#[]⟩,.int .u64 0,.int .u64 0,.int .u64 0,.int .u64 0] 46));have hb':=Qh hb (.cells #[.string ⟨#[]⟩,.int .u64 0,.int .u64 0,.int .u64 0,.int .u64 0] 46);have HE:=QLh (HE.out.below hb');have HF1:=QLh (HF1.out.below hb');have HF2:=QLh (HF2.out.below hb');have HF3:=QLh (HF3.out.below hb');have HF4:=QLh (hf.below (Qh (Below.refl _ _) (.cells #[.string ⟨#[]⟩,.int .u64 0,.int .u64 0,.int .u64 0,.int .u64 0] 46)));clear hb hf hb'
   go_wp2_with fail
   refine(Qbt f1 5 1 _ HE.out.e HF1.out (by decide) (Nat.lt_of_lt_of_le HE.out.g HE.out.s)).mono ?_
   rintro e y1 ⟨rfl,hb⟩
   have HB:=QLh (Qk HB.out hb);have HE:=QLh (HE.out.below hb);have HF2:=QLh (HF2.out.below hb);have HF3:=QLh (HF3.out.below hb);have HF4:=QLh (HF4.out.below hb);clear hb
   go_wp2_with fail
   refine(Qbt f2 5 0 _ HE.out.e HF2.out (by decide) (Nat.lt_of_lt_of_le HE.out.g HE.out.s)).mono ?_
   rintro e y2 ⟨rfl,hb⟩
   have HB:=QLh (Qk HB.out hb);have HE:=QLh (HE.out.below hb);have HF3:=QLh (HF3.out.below hb);have HF4:=QLh (HF4.out.below hb);clear hb
   go_wp2_with fail
   refine(Qbt f3 4 0 _ HE.out.e HF3.out (by decide) (Nat.lt_of_lt_of_le HE.out.g HE.out.s)).mono ?_
   rintro e y3 ⟨rfl,hb⟩
   have HB:=QLh (Qk HB.out hb);have HE:=QLh (HE.out.below hb);have HF4:=QLh (HF4.out.below hb);clear hb
   go_wp2_with fail
   refine(Qbt f4 5 3 _ HE.out.e HF4.out (by decide) (Nat.lt_of_lt_of_le HE.out.g HE.out.s)).mono ?_
   rintro e y4 ⟨rfl,hb⟩
   have HB:=QLh (Qk HB.out hb);clear hb
   go_wp2
   go_ret
   exact⟨rfl,HB.out⟩
def Q4(sort:Nat)(c:Int):Int × Int × Int:=match (Xv sort).find? (λ r=>decide (r.lo≤c) && decide (c≤r.hi))with
 | none=>(-1,0,0)
 | some r=>(r.size,if r.size=0 then c - r.lo else 0,r.least)
theorem Qwl(c:Int)(w:World)(c0:0≤c)(c1:c≤255):
  Calls Tryz.prog 246 #[.int .i64 0,.int .i64 c] w λ e w'=>e=.returned (.tuple #[.int .i64 (Q4 0 c).1,.int .u64 (Q4 0 c).2.1,.int .u64 (Q4 0 c).2.2])∧w'=w:=by
 by_cases h0:0≤c∧c≤127
 ·obtain⟨l0,u0⟩:=h0
  have E:Hid (Q4 0 c=(0,c,0)):=QLh (by unfold Q4;rw[show Xv 0=Qa2 from rfl];unfold Qa2;rw[List.find?_cons_of_pos (by simp;omega)];simp);have i1:IntKind.u64.wrap c=c:=IntWalk.u64_in _ (by omega)
  go_enter Tryz.func246,Tryz.ntmps246
  go_wp2
  all_goals
   go_ret3
   rw[E.out]
   exact⟨rfl,rfl⟩
 by_cases h1:c=204
 ·subst h1
  have E:Hid (Q4 0 204=(1,0,128)):=QLh (by decide)
  go_enter Tryz.func246,Tryz.ntmps246
  go_wp2
  all_goals
   go_ret3
   rw[E.out]
   exact⟨rfl,rfl⟩
 have q1:(c == 204)=false:=by simpa using h1
 by_cases h2:c=205
 ·subst h2
  have E:Hid (Q4 0 205=(2,0,256)):=QLh (by decide)
  go_enter Tryz.func246,Tryz.ntmps246
  go_wp2
  all_goals
   go_ret3
   rw[E.out]
   exact⟨rfl,rfl⟩
 have q2:(c == 205)=false:=by simpa using h2
 by_cases h3:c=206
 ·subst h3
  have E:Hid (Q4 0 206=(4,0,65536)):=QLh (by decide)
  go_enter Tryz.func246,Tryz.ntmps246
  go_wp2
  all_goals
   go_ret3
   rw[E.out]
   exact⟨rfl,rfl⟩
 have q3:(c == 206)=false:=by simpa using h3
 by_cases h4:c=207
 ·subst h4
  have E:Hid (Q4 0 207=(8,0,4294967296)):=QLh (by decide)
  go_enter Tryz.func246,Tryz.ntmps246
  go_wp2
  all_goals
   go_ret3
   rw[E.out]
   exact⟨rfl,rfl⟩
 have q4:(c == 207)=false:=by simpa using h4
 have E:Hid (Q4 0 c=(-1,0,0)):=QLh (by unfold Q4;rw[show Xv 0=Qa2 from rfl];unfold Qa2;rw[List.find?_cons_of_neg (by simp;omega),List.find?_cons_of_neg (by simp;omega),List.find?_cons_of_neg (by simp;omega),List.find?_cons_of_neg (by simp;omega),List.find?_cons_of_neg (by simp;omega),List.find?_nil])
 go_enter Tryz.func246,Tryz.ntmps246
 go_wp2
 all_goals
  go_ret3
  rw[E.out]
  exact⟨rfl,rfl⟩
theorem Qwm(c:Int)(w:World)(c0:0≤c)(c1:c≤255):
  Calls Tryz.prog 246 #[.int .i64 1,.int .i64 c] w λ e w'=>e=.returned (.tuple #[.int .i64 (Q4 1 c).1,.int .u64 (Q4 1 c).2.1,.int .u64 (Q4 1 c).2.2])∧w'=w:=by
 by_cases h0:c=196
 ·subst h0
  have E:Hid (Q4 1 196=(1,0,0)):=QLh (by decide)
  go_enter Tryz.func246,Tryz.ntmps246
  go_wp2
  all_goals
   go_ret3
   rw[E.out]
   exact⟨rfl,rfl⟩
 have q0:(c == 196)=false:=by simpa using h0
 by_cases h1:c=197
 ·subst h1
  have E:Hid (Q4 1 197=(2,0,256)):=QLh (by decide)
  go_enter Tryz.func246,Tryz.ntmps246
  go_wp2
  all_goals
   go_ret3
   rw[E.out]
   exact⟨rfl,rfl⟩
 have q1:(c == 197)=false:=by simpa using h1
 have E:Hid (Q4 1 c=(-1,0,0)):=QLh (by unfold Q4;rw[show Xv 1=Ql6 from rfl];unfold Ql6;rw[List.find?_cons_of_neg (by simp;omega),List.find?_cons_of_neg (by simp;omega),List.find?_nil])
 go_enter Tryz.func246,Tryz.ntmps246
 go_wp2
 all_goals
  go_ret3
  rw[E.out]
  exact⟨rfl,rfl⟩
theorem Qwn(c:Int)(w:World)(c0:0≤c)(c1:c≤255):
  Calls Tryz.prog 246 #[.int .i64 2,.int .i64 c] w λ e w'=>e=.returned (.tuple #[.int .i64 (Q4 2 c).1,.int .u64 (Q4 2 c).2.1,.int .u64 (Q4 2 c).2.2])∧w'=w:=by
 by_cases h0:160≤c∧c≤191
 ·obtain⟨l0,u0⟩:=h0
  have E:Hid (Q4 2 c=(0,c - 160,0)):=QLh (by unfold Q4;rw[show Xv 2=Qjq from rfl];unfold Qjq;rw[List.find?_cons_of_pos (by simp;omega)];simp);have i1:IntKind.u64.wrap (c - 160)=c - 160:=IntWalk.u64_in _ (by omega);have i2:IntKind.i64.wrap (c - 160)=c - 160:=IntWalk.i64_in _ (by omega)
  go_enter Tryz.func246,Tryz.ntmps246
  go_wp2
  all_goals
   go_ret3
   rw[E.out]
   exact⟨rfl,rfl⟩
 by_cases h1:c=217
 ·subst h1
  have E:Hid (Q4 2 217=(1,0,32)):=QLh (by decide)
  go_enter Tryz.func246,Tryz.ntmps246
  go_wp2
  all_goals
   go_ret3
   rw[E.out]
   exact⟨rfl,rfl⟩
 have q1:(c == 217)=false:=by simpa using h1
 by_cases h2:c=218
 ·subst h2
  have E:Hid (Q4 2 218=(2,0,256)):=QLh (by decide)
  go_enter Tryz.func246,Tryz.ntmps246
  go_wp2
  all_goals
   go_ret3
   rw[E.out]
   exact⟨rfl,rfl⟩
 have q2:(c == 218)=false:=by simpa using h2
 have E:Hid (Q4 2 c=(-1,0,0)):=QLh (by unfold Q4;rw[show Xv 2=Qjq from rfl];unfold Qjq;rw[List.find?_cons_of_neg (by simp;omega),List.find?_cons_of_neg (by simp;omega),List.find?_cons_of_neg (by simp;omega),List.find?_nil])
 go_enter Tryz.func246,Tryz.ntmps246
 go_wp2
 all_goals
  go_ret3
  rw[E.out]
  exact⟨rfl,rfl⟩
theorem Qwo(c:Int)(w:World)(c0:0≤c)(c1:c≤255):
  Calls Tryz.prog 246 #[.int .i64 3,.int .i64 c] w λ e w'=>e=.returned (.tuple #[.int .i64 (Q4 3 c).1,.int .u64 (Q4 3 c).2.1,.int .u64 (Q4 3 c).2.2])∧w'=w:=by
 by_cases h0:144≤c∧c≤159
 ·obtain⟨l0,u0⟩:=h0
  have E:Hid (Q4 3 c=(0,c - 144,0)):=QLh (by unfold Q4;rw[show Xv 3=Qeh from rfl];unfold Qeh;rw[List.find?_cons_of_pos (by simp;omega)];simp);have i1:IntKind.u64.wrap (c - 144)=c - 144:=IntWalk.u64_in _ (by omega);have i2:IntKind.i64.wrap (c - 144)=c - 144:=IntWalk.i64_in _ (by omega)
  go_enter Tryz.func246,Tryz.ntmps246
  go_wp2
  all_goals
   go_ret3
   rw[E.out]
   exact⟨rfl,rfl⟩
 by_cases h1:c=220
 ·subst h1
  have E:Hid (Q4 3 220=(2,0,16)):=QLh (by decide)
  go_enter Tryz.func246,Tryz.ntmps246
  go_wp2
  all_goals
   go_ret3
   rw[E.out]
   exact⟨rfl,rfl⟩
 have q1:(c == 220)=false:=by simpa using h1
 have E:Hid (Q4 3 c=(-1,0,0)):=QLh (by unfold Q4;rw[show Xv 3=Qeh from rfl];unfold Qeh;rw[List.find?_cons_of_neg (by simp;omega),List.find?_cons_of_neg (by simp;omega),List.find?_nil])
 go_enter Tryz.func246,Tryz.ntmps246
 go_wp2
 all_goals
  go_ret3
  rw[E.out]
  exact⟨rfl,rfl⟩
theorem Qwp(c:Int)(w:World)(c0:0≤c)(c1:c≤255):
  Calls Tryz.prog 246 #[.int .i64 4,.int .i64 c] w λ e w'=>e=.returned (.tuple #[.int .i64 (Q4 4 c).1,.int .u64 (Q4 4 c).2.1,.int .u64 (Q4 4 c).2.2])∧w'=w:=by
 by_cases h0:128≤c∧c≤143
 ·obtain⟨l0,u0⟩:=h0
  have E:Hid (Q4 4 c=(0,c - 128,0)):=QLh (by unfold Q4;rw[show Xv 4=Qei from rfl];unfold Qei;rw[List.find?_cons_of_pos (by simp;omega)];simp);have i1:IntKind.u64.wrap (c - 128)=c - 128:=IntWalk.u64_in _ (by omega);have i2:IntKind.i64.wrap (c - 128)=c - 128:=IntWalk.i64_in _ (by omega)
  go_enter Tryz.func246,Tryz.ntmps246
  go_wp2
  all_goals
   go_ret3
   rw[E.out]
   exact⟨rfl,rfl⟩
 by_cases h1:c=222
 ·subst h1
  have E:Hid (Q4 4 222=(2,0,16)):=QLh (by decide)
  go_enter Tryz.func246,Tryz.ntmps246
  go_wp2
  all_goals
   go_ret3
   rw[E.out]
   exact⟨rfl,rfl⟩
 have q1:(c == 222)=false:=by simpa using h1
 have E:Hid (Q4 4 c=(-1,0,0)):=QLh (by unfold Q4;rw[show Xv 4=Qei from rfl];unfold Qei;rw[List.find?_cons_of_neg (by simp;omega),List.find?_cons_of_neg (by simp;omega),List.find?_nil])
 go_enter Tryz.func246,Tryz.ntmps246
 go_wp2
 all_goals
  go_ret3
  rw[E.out]
  exact⟨rfl,rfl⟩
theorem Qri(sort:Nat)(h5:sort<5)(c:Int)(w:World)(c0:0≤c)(c1:c≤255):
  Calls Tryz.prog 246 #[.int .i64 sort,.int .i64 c] w λ e w'=>e=.returned (.tuple #[.int .i64 (Q4 sort c).1,.int .u64 (Q4 sort c).2.1,.int .u64 (Q4 sort c).2.2])∧w'=w:=by
 rcases(by omega:sort=0 ∨ sort=1 ∨ sort=2 ∨ sort=3 ∨ sort=4)with rfl | rfl | rfl | rfl | rfl
 ·exact Qwl c w c0 c1
 ·exact Qwm c w c0 c1
 ·exact Qwn c w c0 c1
 ·exact Qwo c w c0 c1
 ·exact Qwp c w c0 c1
def Qy4(w:World)(b:Nat)(s:ByteArray)(a:Nat)(most:Int):Prop:=w.heap[b]?=some (.cells #[.string s,.int .i64 a,.int .i64 most] 210 (0,0))
def Qt3(res:Except Int (Int × ByteArray × Nat))(b:Nat)(s:ByteArray)(most:Int)(a:Nat)(w:World)(e:Ending)(w':World):Prop:=
 Jg (some b) w w'∧match res with
  | .ok x=>e=.returned (.tuple #[.int .u64 x.1,.string x.2.1,.int .i64 0])∧Qy4 w' b s x.2.2 most
  | .error k=>e=.returned (.tuple #[.int .u64 0,.string ⟨#[]⟩,.int .i64 k])∧Qy4 w' b s a most
theorem Qt4(sort:Nat):∀i,(Ja (Xv sort) i).Ok:=by
 unfold Xv
 split
 ·exact Qho
 ·exact Qhp
 ·exact Qfm
 ·exact Qfn
 ·exact Qfl
theorem Qt5(sort:Nat)(t:ByteArray)(h:0<t.size):
  (Q4 sort (Qai t 0)=(-1,0,0)∧Xa t (Xv sort)=.error 5) ∨
  (∃r:URow,∃q:Nat,r.Ok∧r.lo≤Qai t 0∧r.size=q∧q≤8∧Q4 sort (Qai t 0)=((q:Int),J8 t r 0,r.least)∧
   Xa t (Xv sort)=if(t.size:Int)<1+q then .error 4 else if J8 t r q<r.least then .error 5 else .ok (J8 t r q,t.extract (1+q) t.size)):=by
 unfold Q4
 cases hf:(Xv sort).find? (λ r=>decide (r.lo≤Qai t 0) && decide (Qai t 0≤r.hi))with
 | none=>
  refine .inl ⟨rfl,?_⟩
  unfold Xa
  rw[if_neg (by omega),hf]
 | some r=>
  have hp:=List.find?_some hf
  obtain⟨i,hi,he⟩:=List.getElem_of_mem (List.mem_of_find?_eq_some hf)
  have ok:=Qt4 sort i
  rw[Qeu _ i hi,he]at ok
  simp only[Bool.and_eq_true,decide_eq_true_eq]at hp
  have k1:=ok.sz0;have k2:=ok.sz1
  obtain⟨q,hq⟩:∃q:Nat,r.size=q:=⟨r.size.toNat,by omega⟩
  refine .inr ⟨r,q,ok,hp.1,hq,by omega,?_,?_⟩
  ·show(r.size,_,_)=_
   rw[hq]
   unfold J8
   by_cases h0:r.size=0
   ·rw[if_pos (by omega),if_pos h0]
   ·rw[if_neg (by omega),if_neg h0];rfl
  ·rw[Qo8 h hf]
   unfold J8
   rw[hq]
   simp only[Int.toNat_natCast]
theorem Qy5(t:ByteArray)(i n:Nat)(h:i+n≤t.size):(t.extract i t.size).extract 0 n=t.extract i (i+n):=by
 apply ByteArray.ext
 apply Array.ext'
 rw[Lib.extract_data,Lib.extract_data,Lib.extract_data,List.drop_zero,List.take_take]
 congr 1
 omega
theorem Qln{w w1:World}{b:Nat}(h:Jg (some b) w w1)(v:Value):Jg (some b) w (w1.setCell ⟨b,1,none⟩ v):=
 ⟨h.os,h.tape,h.output,by simpa using h.size,λ i hi hn=>by rw[Below.heap_setCell _ _ _ _ (by show i≠b;exact λ e=>hn (by rw[e]))];exact h.block i hi hn⟩
theorem Qy6(t:ByteArray)(j:Nat)(h:j+1<t.size):(t[j+1].toNat:Int)=Qai t (1+j):=by
 unfold Qai
 rw[Nat.add_comm 1 j,List.getD_eq_getElem?_getD,List.getElem?_eq_getElem (by simpa using h)];rfl
theorem Qou(w:World)(b:Nat)(s:ByteArray)(a:Nat)(most:Int)(sort:Nat)(h:Qy4 w b s a most)(ha:a≤s.size)(hs:s.size≤140737488355328)(hm0:0≤most)(hm1:most≤9223372036854775807)(h5:sort<5):
  Calls Tryz.prog 209 #[pt b 0,.int .i64 sort] w (Qt3 (Xk sort s a most) b s most a w):=by
 have H:=QLh h;have c0:w.cell? ⟨b,0,none⟩=some (.string s):=Qa h 0;have c1:w.cell? ⟨b,1,none⟩=some (.int .i64 a):=Qa h 1;have i1:(a:Int)≤s.size:=by omega
 have i2:0≤(a:Int):=by omega
 have i3:a≤s.size:=ha;clear h
 go_enter Tryz.func209,Tryz.ntmps209
 go_wp2
 refine Z9 1000 (none) (Qaw [λ u _=>u=(pt b 0),λ u _=>u=(pt b 0),λ u _=>u=(pt b 0),λ u _=>u=(.string s),λ u _=>u=(pt b 0),λ u _=>u=(pt b 0),λ u _=>u=(pt b 1),λ u _=>u=(.int .i64 a),λ u _=>u=(.string (s.extract a s.size)),λ u _=>u=(.string (s.extract a s.size))]) rfl (by kernel_rfl) (Zb ⟨Qe,Qe,Qe,Qe,Qe,Qe,Qe,Qe,Qe,Qe,trivial⟩) (Q6 10 ⟨?s0,?s1,?s2,?s3,?s4,?s5,?s6,?s7,?s8,?s9,trivial⟩) ?_
 case s0=>
  refine Qc (v:=(pt b 0)) (λ av wv hE hS hO hD=>?_) (λ _=>rfl)
  have f0:=QEf av 0 (pt b 0) (hO.2.2 0 rfl)
  refine⟨rfl,?_⟩
  simp[go_sem,f0,i1,i2,i3]
 case s1=>
  refine Qc (v:=(pt b 0)) (λ av wv hE hS hO hD=>?_) (λ _=>rfl)
  have f13:=QEf av 13 (pt b 0) (hD.1 rfl _ rfl)
  refine⟨rfl,?_⟩
  simp[go_sem,f13,i1,i2,i3]
 case s2=>
  refine Qc (v:=(pt b 0)) (λ av wv hE hS hO hD=>?_) (λ _=>rfl)
  have f14:=QEf av 14 (pt b 0) (hD.1 rfl _ rfl)
  refine⟨rfl,?_⟩
  simp[go_sem,f14,i1,i2,i3]
 case s3=>
  refine Qc (v:=(.string s)) (λ av wv hE hS hO hD=>?_) (λ _=>rfl)
  have f15:=QEf av 15 (pt b 0) (hD.1 rfl _ rfl);have c0:=Qd hE (by simp) c0;have c1:=Qd hE (by simp) c1
  refine⟨rfl,?_⟩
  simp[go_sem,f15,c0,c1,i1,i2,i3]
 case s4=>
  refine Qc (v:=(pt b 0)) (λ av wv hE hS hO hD=>?_) (λ _=>rfl)
  have f0:=QEf av 0 (pt b 0) (hO.2.2 0 rfl)
  refine⟨rfl,?_⟩
  simp[go_sem,f0,i1,i2,i3]
 case s5=>
  refine Qc (v:=(pt b 0)) (λ av wv hE hS hO hD=>?_) (λ _=>rfl)
  have f17:=QEf av 17 (pt b 0) (hD.1 rfl _ rfl)
  refine⟨rfl,?_⟩
  simp[go_sem,f17,i1,i2,i3]
 case s6=>
  refine Qc (v:=(pt b 1)) (λ av wv hE hS hO hD=>?_) (λ _=>rfl)
  have f18:=QEf av 18 (pt b 0) (hD.1 rfl _ rfl)
  refine⟨rfl,?_⟩
  simp[go_sem,f18,i1,i2,i3]
 case s7=>
  refine Qc (v:=(.int .i64 a)) (λ av wv hE hS hO hD=>?_) (λ _=>rfl)
  have f19:=QEf av 19 (pt b 1) (hD.1 rfl _ rfl);have c0:=Qd hE (by simp) c0;have c1:=Qd hE (by simp) c1
  refine⟨rfl,?_⟩
  simp[go_sem,f19,c0,c1,i1,i2,i3]
 case s8=>
  refine Qc (v:=(.string (s.extract a s.size))) (λ av wv hE hS hO hD=>?_) (λ _=>rfl)
  have f16:=QEf av 16 (.string s) (hD.1 rfl _ rfl);have f20:=QEf av 20 (.int .i64 a) (hD.2.1 rfl _ rfl)
  refine⟨rfl,?_⟩
  simp[go_sem,f16,f20,i1,i2,i3]
 case s9=>
  refine Qc (v:=(.string (s.extract a s.size))) (λ av wv hE hS hO hD=>?_) (λ _=>rfl)
  have f21:=QEf av 21 (.string (s.extract a s.size)) (hD.1 rfl _ rfl)
  refine⟨rfl,?_⟩
  simp[go_sem,f21,i1,i2,i3]
 intro a' w' hE hO hall
 have hA:=Ql (ds:=[13,14,15,16,17,18,19,20,21,7]) rfl hO (by kernel_rfl);have e13:a'.eval (.tmp 13)=(pt b 0):=hall.1 _ rfl;have e14:a'.eval (.tmp 14)=(pt b 0):=hall.2.1 _ rfl;have e15:a'.eval (.tmp 15)=(pt b 0):=hall.2.2.1 _ rfl;have e16:a'.eval (.tmp 16)=(.string s):=hall.2.2.2.1 _ rfl;have e17:a'.eval (.tmp 17)=(pt b 0):=hall.2.2.2.2.1 _ rfl;have e18:a'.eval (.tmp 18)=(pt b 0):=hall.2.2.2.2.2.1 _ rfl;have e19:a'.eval (.tmp 19)=(pt b 1):=hall.2.2.2.2.2.2.1 _ rfl;have e20:a'.eval (.tmp 20)=(.int .i64 a):=hall.2.2.2.2.2.2.2.1 _ rfl;have e21:a'.eval (.tmp 21)=(.string (s.extract a s.size)):=hall.2.2.2.2.2.2.2.2.1 _ rfl;have e7:a'.eval (.tmp 7)=(.string (s.extract a s.size)):=hall.2.2.2.2.2.2.2.2.2.1 _ rfl
 simp only[List.foldl_cons,List.foldl_nil,Act.put,List.setIfInBounds_toArray,List.set_cons_succ,List.set_cons_zero,e13,e14,e15,e16,e17,e18,e19,e20,e21,e7]at hA
 clear hO hall e13 e14 e15 e16 e17 e18 e19 e20 e21 e7
 subst hA
 have B1:=QLh (Qx hE);have HB:=QLh (Qn hE (by simp) H.out);clear hE c0 c1 i1 i2 i3 H
 obtain⟨t,ht⟩:∃t,s.extract a s.size=t:=⟨_,rfl⟩
 have hts:t.size=s.size - a:=by rw[←ht,ByteArray.size_extract];omega
 rw[ht]
 have HTT:=QLh ht;clear ht
 by_cases h0:t.size=0
 ·have he:=Qkw h0
  have E:Hid (Xk sort s a most=.error 4):=QLh (by unfold Xk Xa;rw[HTT.out,if_pos h0]);clear hts h0
  go_wp2
  go_ret3
  rw[E.out]
  exact⟨X2 B1.out b,rfl,HB.out⟩
 ·have he:=Qn3 h0
  have h1:0<t.size:=by omega
  have hbb:=Qev t 0;have hz':(t[0].toNat:Int)=Qai t 0:=Qz6 t h1
  obtain⟨z,hz⟩:∃z,Qai t 0=z:=⟨_,rfl⟩
  have HTS:=QLh hts;have RC:=QLh (Qt5 sort t h1);clear hts h0
  rw[hz]at hbb hz'
  have HZ:=QLh hz;clear hz;have hzt:z.toNat<256:=by omega
  go_wp2_with fail
  refine(Qri sort h5 z _ hbb.1 hbb.2).mono ?_
  rintro e w2 ⟨rfl,rfl⟩
  rcases RC.out with⟨r1,r2⟩ | ⟨r,q,ok,hlo,hq,hq8,r1,r2⟩
  ·rw[HZ.out]at r1
   rw[r1]
   have E:Hid (Xk sort s a most=.error 5):=QLh (by unfold Xk;rw[HTT.out,r2]);clear r1 r2
   go_wp2
   go_ret3
   rw[E.out]
   exact⟨X2 B1.out b,rfl,HB.out⟩
  ·rw[HZ.out]at r1
   rw[r1]
   have R2:=QLh r2;have HQ:=QLh hq;have HLO:=QLh hlo;clear r1 r2 hq hlo
   by_cases hsz:(t.size:Int)<1+q
   ·have E:Hid (Xk sort s a most=.error 4):=QLh (by unfold Xk;rw[HTT.out,R2.out,if_pos hsz])
    go_wp2
    go_ret3
    rw[E.out]
    exact⟨X2 B1.out b,rfl,HB.out⟩
   ·obtain⟨v0,hv0⟩:∃v0,J8 t r 0=v0:=⟨_,rfl⟩
    rw[hv0]
    have HV0:=QLh hv0;clear hv0
    go_wp2
    go_loopg [9,11] q (λ g n i wx=>∃j:Nat,g+j=q∧i=.int .i64 (j+1)∧n=.int .u64 (J8 t r j)∧wx=w2)
    case atStart=>exact⟨0,rfl,rfl,by rw[HV0.out],rfl⟩
    case round=>
     obtain⟨j,hj,rfl,rfl,rfl⟩:=hrel
     have vb:=Qhm (s:=t) (r:=r) (j:=j) (by omega) ok HLO.out
     by_cases hjq:j<q
     ·have b0:(j:Int)+1≤q:=by omega
      have b1:j+1<t.size:=by omega
      have b2:(j:Int)+1<t.size:=by omega
      have vs:=QLh (Qgq t r j (by have:=HQ.out;omega));have vb2:=Qkt (s:=t) (r:=r) (j:=j) (by omega) ok HLO.out;have cb:=Qev t (1+j);have hx:=Qy6 t j b1
      obtain⟨c,hc⟩:∃c,Qai t (1+j)=c:=⟨_,rfl⟩
      obtain⟨v,hv⟩:∃v,J8 t r j=v:=⟨_,rfl⟩
      rw[hc]at cb hx
      rw[hv]at vb vb2 ⊢
      have HC:=QLh hc;have HV:=QLh hv;clear hc hv
      go_wp2
      go_roundg (gk - 1)
      case rel=>exact⟨j+1,by omega,by go_num,(by rw[vs.out,HV.out,HC.out,Int.mul_comm v 256]),rfl⟩
      case measure=>omega
     ·obtain rfl:j=q:=by omega
      have hts:=HTS.out;have hr2:(t.extract (1+j) t.size).size=t.size - (1+j):=by rw[ByteArray.size_extract];omega
      have HO:Xa (s.extract a s.size) (Xv sort)=if J8 t r j<r.least then .error 5 else .ok (J8 t r j,t.extract (1+j) t.size):=by rw[HTT.out,R2.out,if_neg (by omega)]
      obtain⟨v,hv⟩:∃v,J8 t r j=v:=⟨_,rfl⟩
      rw[hv]at HO vb ⊢
      have d1:wr.cell? ⟨b,1,none⟩=some (.int .i64 a):=Qa HB.out 1;have d2:wr.cell? ⟨b,2,none⟩=some (.int .i64 most):=Qa HB.out 2;have d3:wr.frozen? ⟨b,1,none⟩=false:=Qj HB.out 1;have im:IntKind.u64.wrap most=most:=IntWalk.u64_in _ (by omega);have HHO:=QLh HO;have HR2:=QLh hr2;clear hv HO hr2 HV0 RC R2
      by_cases hvl:v<r.least
      ·have E:Hid (Xk sort s a most=.error 5):=QLh (by unfold Xk;rw[HHO.out,if_pos hvl])
       go_wp2
       go_ret3
       rw[E.out]
       exact⟨X2 B1.out b,rfl,HB.out⟩
      ·have HO2:Hid (Xa (s.extract a s.size) (Xv sort)=.ok (v,t.extract (1+j) t.size)):=QLh (by rw[HHO.out,if_neg hvl])
       by_cases q0:sort=0
       ·have s0:((sort:Int) != 0)=false:=by simp;omega
        have s1:((sort:Int) != 1)=true:=by simp;omega
        have s2:((sort:Int) != 2)=true:=by simp;omega
        have E:Hid (Xk sort s a most=.ok (v,⟨#[]⟩,s.size - (t.extract (1+j) t.size).size)):=QLh (by
         unfold Xk;rw[HO2.out]
         show(if sort≠0∧most<v then _ else _)=_
         rw[if_neg (λ e=>e.1 q0),if_neg (by omega)])
        clear q0
        go_wp2
        go_ret3
        rw[E.out]
        refine⟨Qln (X2 B1.out b) _,rfl,?_⟩
        have h:=Qb HB.out (o:=1) (.int .i64 ((a:Int)+1+j))
        show _=some (Obj.cells #[_,.int .i64 ((s.size - (t.extract (1+j) t.size).size:Nat):Int),_] _ _)
        rw[HR2.out,show((s.size - (t.size - (1+j)):Nat):Int)=(a:Int)+1+j by omega]
        exact h
       ·have s0:((sort:Int) != 0)=true:=by simp;omega
        by_cases q1:most<v
        ·have E:Hid (Xk sort s a most=.error 3):=QLh (by
          unfold Xk;rw[HO2.out]
          show(if sort≠0∧most<v then _ else _)=_
          rw[if_pos ⟨q0,q1⟩])
         go_wp2
         go_ret3
         rw[E.out]
         exact⟨X2 B1.out b,rfl,HB.out⟩
        ·by_cases q2:sort=1 ∨ sort=2
         ·have k0:IntKind.u64.wrap ((t.size:Int) - 1 - j)=(t.size:Int) - 1 - j:=IntWalk.u64_in _ (by omega)
          have Q2:=QLh q2
          by_cases hr:(t.size:Int) - 1 - j<v
          ·have E:Hid (Xk sort s a most=.error 4):=QLh (by
            unfold Xk;rw[HO2.out]
            show(if sort≠0∧most<v then _ else _)=_
            have:=HR2.out
            rw[if_neg (λ e=>q1 e.2),if_pos q2,if_pos (by omega)])
           clear q0
           rcases q2 with e | e
           ·have s1:((sort:Int) != 1)=false:=by simp;omega
            clear e
            go_wp2
            go_ret3
            rw[E.out]
            exact⟨X2 B1.out b,rfl,HB.out⟩
           ·have s1:((sort:Int) != 1)=true:=by simp;omega
            have s2:((sort:Int) != 2)=false:=by simp;omega
            clear e
            go_wp2
            go_ret3
            rw[E.out]
            exact⟨X2 B1.out b,rfl,HB.out⟩
          ·have E:Hid (Xk sort s a most=.ok (v,(t.extract (1+j) t.size).extract 0 v.toNat,s.size - ((t.extract (1+j) t.size).size - v.toNat))):=QLh (by
            unfold Xk;rw[HO2.out]
            show(if sort≠0∧most<v then _ else _)=_
            have:=HR2.out
            rw[if_neg (λ e=>q1 e.2),if_pos q2,if_neg (by omega)])
           have iv:IntKind.i64.wrap v=v:=IntWalk.i64_in _ (by omega);have k1:IntKind.i64.wrap (1+(j:Int))=1+j:=IntWalk.i64_in _ (by omega);have k2:1+(j:Int)≤1+j+v:=by omega
           have k3:1+(j:Int)+v≤t.size:=by omega
           have k4:(1+(j:Int)).toNat=1+j:=by omega
           have k5:(1+(j:Int)+v).toNat=1+j+v.toNat:=by omega
           have k6:0≤1+(j:Int)+v:=by omega
           have k7:0≤1+(j:Int):=by omega
           have fin:∀W2:World,Below (wr.setCell ⟨b,1,none⟩ (.int .i64 ((a:Int)+(1+j+v)))).heap.size (wr.setCell ⟨b,1,none⟩ (.int .i64 ((a:Int)+(1+j+v)))) W2→Qt3 (Xk sort s a most) b s most a w (.returned (.tuple #[.int .u64 v,.string (t.extract (1+j) (1+j+v.toNat)),.int .i64 0])) W2:=λ W2 hW2=>by
            rw[E.out]
            refine⟨Qdx _ _ _ _ (Qln (X2 B1.out b) _) (X2 hW2 b),?_,?_⟩
            ·show _=Ending.returned (.tuple #[_,.string ((t.extract (1+j) t.size).extract 0 v.toNat),_])
             rw[Qy5 t (1+j) v.toNat (by omega)]
            ·have h:=(hW2.block b (by simp;exact lt_of_block HB.out)).trans (Qb HB.out (o:=1) (.int .i64 ((a:Int)+(1+j+v))))
             show _=some (Obj.cells #[_,.int .i64 ((s.size - ((t.extract (1+j) t.size).size - v.toNat):Nat):Int),_] _ _)
             rw[HR2.out,show((s.size - ((t.size - (1+j)) - v.toNat):Nat):Int)=(a:Int)+(1+j+v)by omega]
             exact h
           have FIN:=QLh fin;clear fin E q0
           rcases q2 with e | e
           ·have s1:((sort:Int) != 1)=false:=by simp;omega
            clear e
            go_wp2
            refine Z9 1000 (none) (Qaw [λ u _=>u=(.int .u64 v),λ u _=>u=(.string t),λ u _=>u=(.int .i64 j),λ u _=>u=(.int .i64 (1+j)),λ u _=>u=(.int .i64 (1+j+v)),λ u _=>u=(.string (t.extract (1+j) (1+j+v.toNat))),λ u _=>u=(.int .u64 v),λ u _=>u=(.string (t.extract (1+j) (1+j+v.toNat))),λ u _=>u=(.int .i64 0)]) rfl (by kernel_rfl) (Zb ⟨Qe,Qe,Qe,Qe,Qe,Qe,Qe,Qe,Qe,trivial⟩) (Q6 9 ⟨?s0,?s1,?s2,?s3,?s4,?s5,?s6,?s7,?s8,trivial⟩) ?_
            case s0=>
             refine Qc (v:=(.int .u64 v)) (λ av wv hE hS hO hD=>?_) (λ _=>rfl)
             have f9:=QEf av 9 (.int .u64 v) (hO.2.2 9 rfl)
             refine⟨rfl,?_⟩
             simp[go_sem,f9,k1,k2,k3,k4,k5,k6,k7]
            case s1=>
             refine Qc (v:=(.string t)) (λ av wv hE hS hO hD=>?_) (λ _=>rfl)
             have f7:=QEf av 7 (.string t) (hO.2.2 7 rfl)
             refine⟨rfl,?_⟩
             simp[go_sem,f7,k1,k2,k3,k4,k5,k6,k7]
            case s2=>
             refine Qc (v:=(.int .i64 j)) (λ av wv hE hS hO hD=>?_) (λ _=>rfl)
             have f8:=QEf av 8 (.int .i64 j) (hO.2.2 8 rfl)
             refine⟨rfl,?_⟩
             simp[go_sem,f8,k1,k2,k3,k4,k5,k6,k7]
            case s3=>
             refine Qc (v:=(.int .i64 (1+j))) (λ av wv hE hS hO hD=>?_) (λ _=>rfl)
             have f107:=QEf av 107 (.int .i64 j) (hD.1 rfl _ rfl)
             refine⟨rfl,?_⟩
             simp[go_sem,f107,k1,k2,k3,k4,k5,k6,k7]
            case s4=>
             refine Qc (v:=(.int .i64 (1+j+v))) (λ av wv hE hS hO hD=>?_) (λ _=>rfl)
             have f12:=QEf av 12 (.int .i64 (1+j+v)) (hO.2.2 12 rfl)
             refine⟨rfl,?_⟩
             simp[go_sem,f12,k1,k2,k3,k4,k5,k6,k7]
            case s5=>
             refine Qc (v:=(.string (t.extract (1+j) (1+j+v.toNat)))) (λ av wv hE hS hO hD=>?_) (λ _=>rfl)
             have f106:=QEf av 106 (.string t) (hD.1 rfl _ rfl);have f108:=QEf av 108 (.int .i64 (1+j)) (hD.2.1 rfl _ rfl);have f109:=QEf av 109 (.int .i64 (1+j+v)) (hD.2.2.1 rfl _ rfl)
             refine⟨rfl,?_⟩
             simp[go_sem,f106,f108,f109,k1,k2,k3,k4,k5,k6,k7]
            case s6=>
             refine Qc (v:=(.int .u64 v)) (λ av wv hE hS hO hD=>?_) (λ _=>rfl)
             have f105:=QEf av 105 (.int .u64 v) (hD.1 rfl _ rfl)
             refine⟨rfl,?_⟩
             simp[go_sem,f105,k1,k2,k3,k4,k5,k6,k7]
            case s7=>
             refine Qc (v:=(.string (t.extract (1+j) (1+j+v.toNat)))) (λ av wv hE hS hO hD=>?_) (λ _=>rfl)
             have f110:=QEf av 110 (.string (t.extract (1+j) (1+j+v.toNat))) (hD.1 rfl _ rfl)
             refine⟨rfl,?_⟩
             simp[go_sem,f110,k1,k2,k3,k4,k5,k6,k7]
            case s8=>
             refine Qc (v:=(.int .i64 0)) (λ av wv hE hS hO hD=>?_) (λ _=>rfl)
             refine⟨rfl,?_⟩
             simp[go_sem,k1,k2,k3,k4,k5,k6,k7]
            intro a' w' hE hO hall
            have hA:=Ql (ds:=[105,106,107,108,109,110,4,5,6]) rfl hO (by kernel_rfl);have e105:a'.eval (.tmp 105)=(.int .u64 v):=hall.1 _ rfl;have e106:a'.eval (.tmp 106)=(.string t):=hall.2.1 _ rfl;have e107:a'.eval (.tmp 107)=(.int .i64 j):=hall.2.2.1 _ rfl;have e108:a'.eval (.tmp 108)=(.int .i64 (1+j)):=hall.2.2.2.1 _ rfl;have e109:a'.eval (.tmp 109)=(.int .i64 (1+j+v)):=hall.2.2.2.2.1 _ rfl;have e110:a'.eval (.tmp 110)=(.string (t.extract (1+j) (1+j+v.toNat))):=hall.2.2.2.2.2.1 _ rfl;have e4:a'.eval (.tmp 4)=(.int .u64 v):=hall.2.2.2.2.2.2.1 _ rfl;have e5:a'.eval (.tmp 5)=(.string (t.extract (1+j) (1+j+v.toNat))):=hall.2.2.2.2.2.2.2.1 _ rfl;have e6:a'.eval (.tmp 6)=(.int .i64 0):=hall.2.2.2.2.2.2.2.2.1 _ rfl
            simp only[List.foldl_cons,List.foldl_nil,Act.put,List.setIfInBounds_toArray,List.set_cons_succ,List.set_cons_zero,e105,e106,e107,e108,e109,e110,e4,e5,e6]at hA
            clear hO hall e105 e106 e107 e108 e109 e110 e4 e5 e6
            subst hA
            have Y:=QLh (Qx hE);clear hE
            go_wp2
            go_ret3
            exact FIN.out _ Y.out
           ·have s1:((sort:Int) != 1)=true:=by simp;omega
            have s2:((sort:Int) != 2)=false:=by simp;omega
            clear e
            go_wp2
            refine Z9 1000 (none) (Qaw [λ u _=>u=(.int .u64 v),λ u _=>u=(.string t),λ u _=>u=(.int .i64 j),λ u _=>u=(.int .i64 (1+j)),λ u _=>u=(.int .i64 (1+j+v)),λ u _=>u=(.string (t.extract (1+j) (1+j+v.toNat))),λ u _=>u=(.int .u64 v),λ u _=>u=(.string (t.extract (1+j) (1+j+v.toNat))),λ u _=>u=(.int .i64 0)]) rfl (by kernel_rfl) (Zb ⟨Qe,Qe,Qe,Qe,Qe,Qe,Qe,Qe,Qe,trivial⟩) (Q6 9 ⟨?s0,?s1,?s2,?s3,?s4,?s5,?s6,?s7,?s8,trivial⟩) ?_
            case s0=>
             refine Qc (v:=(.int .u64 v)) (λ av wv hE hS hO hD=>?_) (λ _=>rfl)
             have f9:=QEf av 9 (.int .u64 v) (hO.2.2 9 rfl)
             refine⟨rfl,?_⟩
             simp[go_sem,f9,k1,k2,k3,k4,k5,k6,k7]
            case s1=>
             refine Qc (v:=(.string t)) (λ av wv hE hS hO hD=>?_) (λ _=>rfl)
             have f7:=QEf av 7 (.string t) (hO.2.2 7 rfl)
             refine⟨rfl,?_⟩
             simp[go_sem,f7,k1,k2,k3,k4,k5,k6,k7]
            case s2=>
             refine Qc (v:=(.int .i64 j)) (λ av wv hE hS hO hD=>?_) (λ _=>rfl)
             have f8:=QEf av 8 (.int .i64 j) (hO.2.2 8 rfl)
             refine⟨rfl,?_⟩
             simp[go_sem,f8,k1,k2,k3,k4,k5,k6,k7]
            case s3=>
             refine Qc (v:=(.int .i64 (1+j))) (λ av wv hE hS hO hD=>?_) (λ _=>rfl)
             have f107:=QEf av 107 (.int .i64 j) (hD.1 rfl _ rfl)
             refine⟨rfl,?_⟩
             simp[go_sem,f107,k1,k2,k3,k4,k5,k6,k7]
            case s4=>
             refine Qc (v:=(.int .i64 (1+j+v))) (λ av wv hE hS hO hD=>?_) (λ _=>rfl)
             have f12:=QEf av 12 (.int .i64 (1+j+v)) (hO.2.2 12 rfl)
             refine⟨rfl,?_⟩
             simp[go_sem,f12,k1,k2,k3,k4,k5,k6,k7]
            case s5=>
             refine Qc (v:=(.string (t.extract (1+j) (1+j+v.toNat)))) (λ av wv hE hS hO hD=>?_) (λ _=>rfl)
             have f106:=QEf av 106 (.string t) (hD.1 rfl _ rfl);have f108:=QEf av 108 (.int .i64 (1+j)) (hD.2.1 rfl _ rfl);have f109:=QEf av 109 (.int .i64 (1+j+v)) (hD.2.2.1 rfl _ rfl)
             refine⟨rfl,?_⟩
             simp[go_sem,f106,f108,f109,k1,k2,k3,k4,k5,k6,k7]
            case s6=>
             refine Qc (v:=(.int .u64 v)) (λ av wv hE hS hO hD=>?_) (λ _=>rfl)
             have f105:=QEf av 105 (.int .u64 v) (hD.1 rfl _ rfl)
             refine⟨rfl,?_⟩
             simp[go_sem,f105,k1,k2,k3,k4,k5,k6,k7]
            case s7=>
             refine Qc (v:=(.string (t.extract (1+j) (1+j+v.toNat)))) (λ av wv hE hS hO hD=>?_) (λ _=>rfl)
             have f110:=QEf av 110 (.string (t.extract (1+j) (1+j+v.toNat))) (hD.1 rfl _ rfl)
             refine⟨rfl,?_⟩
             simp[go_sem,f110,k1,k2,k3,k4,k5,k6,k7]
            case s8=>
             refine Qc (v:=(.int .i64 0)) (λ av wv hE hS hO hD=>?_) (λ _=>rfl)
             refine⟨rfl,?_⟩
             simp[go_sem,k1,k2,k3,k4,k5,k6,k7]
            intro a' w' hE hO hall
            have hA:=Ql (ds:=[105,106,107,108,109,110,4,5,6]) rfl hO (by kernel_rfl);have e105:a'.eval (.tmp 105)=(.int .u64 v):=hall.1 _ rfl;have e106:a'.eval (.tmp 106)=(.string t):=hall.2.1 _ rfl;have e107:a'.eval (.tmp 107)=(.int .i64 j):=hall.2.2.1 _ rfl;have e108:a'.eval (.tmp 108)=(.int .i64 (1+j)):=hall.2.2.2.1 _ rfl;have e109:a'.eval (.tmp 109)=(.int .i64 (1+j+v)):=hall.2.2.2.2.1 _ rfl;have e110:a'.eval (.tmp 110)=(.string (t.extract (1+j) (1+j+v.toNat))):=hall.2.2.2.2.2.1 _ rfl;have e4:a'.eval (.tmp 4)=(.int .u64 v):=hall.2.2.2.2.2.2.1 _ rfl;have e5:a'.eval (.tmp 5)=(.string (t.extract (1+j) (1+j+v.toNat))):=hall.2.2.2.2.2.2.2.1 _ rfl;have e6:a'.eval (.tmp 6)=(.int .i64 0):=hall.2.2.2.2.2.2.2.2.1 _ rfl
            simp only[List.foldl_cons,List.foldl_nil,Act.put,List.setIfInBounds_toArray,List.set_cons_succ,List.set_cons_zero,e105,e106,e107,e108,e109,e110,e4,e5,e6]at hA
            clear hO hall e105 e106 e107 e108 e109 e110 e4 e5 e6
            subst hA
            have Y:=QLh (Qx hE);clear hE
            go_wp2
            go_ret3
            exact FIN.out _ Y.out
         ·have s1:((sort:Int) != 1)=true:=by simp;omega
          have s2:((sort:Int) != 2)=true:=by simp;omega
          have E:Hid (Xk sort s a most=.ok (v,⟨#[]⟩,s.size - (t.extract (1+j) t.size).size)):=QLh (by
           unfold Xk;rw[HO2.out]
           show(if sort≠0∧most<v then _ else _)=_
           rw[if_neg (λ e=>q1 e.2),if_neg q2])
          clear q0 q2
          go_wp2
          go_ret3
          rw[E.out]
          refine⟨Qln (X2 B1.out b) _,rfl,?_⟩
          have h:=Qb HB.out (o:=1) (.int .i64 ((a:Int)+1+j))
          show _=some (Obj.cells #[_,.int .i64 ((s.size - (t.extract (1+j) t.size).size:Nat):Int),_] _ _)
          rw[HR2.out,show((s.size - (t.size - (1+j)):Nat):Int)=(a:Int)+1+j by omega]
          exact h
abbrev Cst:=Except Flt Nat
def Cst.flt:Cst→Flt
 | .ok _=>(0,0)
 | .error f=>f
def CurB(w:World)(cb rb:Nat)(f:Flt):Prop:=w.heap[cb]?=some (.cells #[pt rb 0,.int .i64 f.1,.int .i64 f.2] 205 (0,0))
structure CurIs(w:World)(cb rb:Nat)(s:ByteArray)(σ:Cst):Prop where
 c:CurB w cb rb σ.flt
 ne:cb≠rb
 sz:s.size≤140737488355328
 st:match σ with | .ok a=>Qy4 w rb s a 10240∧a≤s.size | .error f=>f.1≠0∧∃a,Qy4 w rb s a 10240∧a≤s.size
theorem CurIs.below{w w':World}{cb rb:Nat}{s:ByteArray}{σ:Cst}(h:CurIs w cb rb s σ)(hb:Below w.heap.size w w'):CurIs w' cb rb s σ:=by
 refine⟨(hb.block _ (lt_of_block h.c)).trans h.c,h.ne,h.sz,?_⟩
 have hs:=h.st
 cases σ with
 | ok a=>exact⟨(hb.block _ (lt_of_block hs.1)).trans hs.1,hs.2⟩
 | error f=>obtain⟨h1,a,h2,h3⟩:=hs;exact⟨h1,a,(hb.block _ (lt_of_block h2)).trans h2,h3⟩
theorem CurIs.rd{w:World}{cb rb:Nat}{s:ByteArray}{σ:Cst}(h:CurIs w cb rb s σ):∃a,Qy4 w rb s a 10240∧a≤s.size:=by
 have hs:=h.st
 cases σ with
 | ok a=>exact⟨a,hs⟩
 | error f=>exact hs.2
theorem CurIs.flt0{w:World}{cb rb:Nat}{s:ByteArray}{f:Flt}(h:CurIs w cb rb s (.error f)):f.1≠0:=h.st.1
def Qy7(v:Value)(σ:Cst)(cb rb:Nat)(s:ByteArray)(w:World)(e:Ending)(w':World):Prop:=e=.returned v∧CurIs w' cb rb s σ∧Chg rb cb w w'
theorem CurIs.set{w:World}{cb rb:Nat}{s:ByteArray}{σ:Cst}(h:CurIs w cb rb s σ)(f:Flt)(hf:f.1≠0):CurIs ((w.setCell ⟨cb,1,none⟩ (.int .i64 f.1)).setCell ⟨cb,2,none⟩ (.int .i64 f.2)) cb rb s (.error f):=by
 obtain⟨a,h1,h2⟩:=h.rd
 exact⟨Qb (Qb h.c _) _,h.ne,h.sz,hf,a,Qg (Qg h1 (by exact λ e=>h.ne e.symm) _) (by exact λ e=>h.ne e.symm) _,h2⟩
def Qb0:Cst→Bool
 | .ok _=>false
 | .error _=>true
theorem Qb1(cb rb:Nat)(s:ByteArray)(σ:Cst)(w:World)(h:CurIs w cb rb s σ):Calls Tryz.prog 127 #[pt cb 0] w λ e w'=>e=.returned (.bool (Qb0 σ))∧w'=w:=by
 cases σ with
 | ok a=>
  have c1:w.cell? ⟨cb,1,none⟩=some (.int .i64 0):=Qa h.c 1;clear h
  go_enter Tryz.func127,Tryz.ntmps127
  go_wp2
  go_ret
  exact⟨rfl,rfl⟩
 | error f=>
  have c1:w.cell? ⟨cb,1,none⟩=some (.int .i64 f.1):=Qa h.c 1;have h0:(f.1 != 0)=true:=by simpa using h.flt0
  clear h
  go_enter Tryz.func127,Tryz.ntmps127
  go_wp2
  go_ret
  exact⟨rfl,rfl⟩
def Xy(b:Bool)(k:Int):Cst→Cst
 | .ok a=>if b then .error (k,0)else .ok a
 | .error f=>.error f
theorem Jf(cb rb:Nat)(s:ByteArray)(σ:Cst)(b:Bool)(k:Int)(w:World)(h:CurIs w cb rb s σ)(hk:k≠0):Calls Tryz.prog 131 #[pt cb 0,.bool b,.int .i64 k] w (Qy7 (.tuple #[]) (Xy b k σ) cb rb s w):=by
 have H:=QLh h;have HB:=QLh (Qb1 cb rb s σ w h);have q0:∀o,w.cell? ⟨cb,o,none⟩=_:=Qa h.c;have q1:∀o,w.frozen? ⟨cb,o,none⟩=false:=Qj h.c;have l0:cb<w.heap.size:=lt_of_block h.c;clear h
 cases b with
 | false=>
  go_enter Tryz.func131,Tryz.ntmps131
  go_wp2
  go_end0
  refine⟨rfl,?_,Chg.refl _ _ _⟩
  cases σ <;> exact H.out
 | true=>
  go_enter Tryz.func131,Tryz.ntmps131
  go_wp2_with fail
  refine HB.out.mono ?_
  rintro e w1 ⟨rfl,rfl⟩
  cases σ with
  | error f=>
   simp only[Qb0]
   go_wp2
   go_end0
   exact⟨rfl,H.out,Chg.refl _ _ _⟩
  | ok a=>
   simp only[Qb0]
   go_wp2
   go_end0
   exact⟨rfl,H.out.set (k,0) hk,((Chg.refl rb cb w1).set 1 _).set 2 _⟩
def tkS(sort:Nat)(s:ByteArray):Cst→(Int × ByteArray) × Cst
 | .error f=>((0,⟨#[]⟩),.error f)
 | .ok a=>match tkR sort s a with
  | .error f=>((0,⟨#[]⟩),.error f)
  | .ok x=>((x.1,x.2.1),.ok x.2.2)
theorem CurIs.sz2{w:World}{cb rb:Nat}{s:ByteArray}{σ:Cst}(h:CurIs w cb rb s σ):s.size≤9223372036854775807:=by have:=h.sz;omega
theorem Qb2(cb rb:Nat)(s:ByteArray)(σ:Cst)(sort:Nat)(w:World)(h:CurIs w cb rb s σ)(h5:sort<5):
  Calls Tryz.prog 142 #[pt cb 0,.int .i64 sort] w (Qy7 (.tuple #[.int .u64 (tkS sort s σ).1.1,.string (tkS sort s σ).1.2]) (tkS sort s σ).2 cb rb s w):=by
 have H:=QLh h;have HB:=QLh (Qb1 cb rb s σ w h);have c0:w.cell? ⟨cb,0,none⟩=some (pt rb 0):=Qa h.c 0;clear h
 go_enter Tryz.func142,Tryz.ntmps142
 go_wp2_with fail
 refine HB.out.mono ?_
 rintro e w1 ⟨rfl,rfl⟩
 cases σ with
 | error f=>
  simp only[Qb0]
  go_wp2
  go_ret2
  exact⟨rfl,H.out,Chg.refl _ _ _⟩
 | ok a=>
  simp only[Qb0]
  have hst:=H.out.st
  go_wp2_with fail
  refine(Qou w1 rb s a 10240 sort hst.1 hst.2 H.out.sz (by decide) (by decide) h5).mono ?_
  rintro e w2 ⟨hE,hh⟩
  have hne:=H.out.ne;have hcb:CurB w2 cb rb (0,0):=(hE.block _ (lt_of_block H.out.c) (by simpa using hne)).trans H.out.c;have HE:=QLh hE;have HCB:=QLh hcb
  cases hr:Xk sort s a 10240 with
  | ok x=>
   rw[hr]at hh
   obtain⟨rfl,hrd⟩:=hh
   have hle:=Ql8 hr;have HR:Hid (tkS sort s (.ok a)=((x.1,x.2.1),.ok x.2.2)):=QLh (by simp only[tkS,tkR,hr]);have HRD:=QLh hrd;clear hE hcb hr hrd
   go_wp2
   go_ret2
   rw[HR.out]
   exact⟨rfl,⟨HCB.out,hne,H.out.sz,HRD.out,hle⟩,Chg.of_ext HE.out⟩
  | error k=>
   rw[hr]at hh
   obtain⟨rfl,hrd⟩:=hh
   have hk:=Qqm hr;have hk2:(k != 0)=true:=by simpa using hk
   have HR:Hid (tkS sort s (.ok a)=((0,⟨#[]⟩),.error (k,a))):=QLh (by simp only[tkS,tkR,hr]);have HRD:=QLh hrd;have d0:∀o,w2.cell? ⟨cb,o,none⟩=_:=Qa hcb;have d1:∀o,w2.frozen? ⟨cb,o,none⟩=false:=Qj hcb;have d2:∀o,w2.cell? ⟨rb,o,none⟩=_:=Qa hrd;have l0:cb<w2.heap.size:=lt_of_block hcb;clear hE hcb hr hrd c0
   go_wp2
   go_ret2
   rw[HR.out]
   have hcur:CurIs w2 cb rb s (.ok a):=⟨HCB.out,hne,H.out.sz,HRD.out,hst.2⟩
   exact⟨rfl,hcur.set (k,a) hk,((Chg.of_ext HE.out).set 1 _).set 2 _⟩
def Qay(s:ByteArray)(σ:Cst):Int × Cst:=((tkS 4 s σ).1.1,(tkS 4 s σ).2)
theorem Qcu(cb rb:Nat)(s:ByteArray)(σ:Cst)(w:World)(h:CurIs w cb rb s σ):
  Calls Tryz.prog 126 #[pt cb 0] w (Qy7 (.int .u64 (Qay s σ).1) (Qay s σ).2 cb rb s w):=by
 have H:=QLh (Qb2 cb rb s σ 4 w h (by decide));clear h
 go_enter Tryz.func126,Tryz.ntmps126
 go_wp2_with fail
 refine H.out.mono ?_
 rintro e w1 ⟨rfl,hc,hg⟩
 have HC:=QLh hc;have HG:=QLh hg;clear hc hg
 go_wp2
 go_ret
 exact⟨rfl,HC.out,HG.out⟩
def Qcd(s:ByteArray)(σ:Cst):Int × Cst:=((tkS 0 s σ).1.1,Xy ((tkS 0 s σ).1.1 == 0) 5 (tkS 0 s σ).2)
theorem Qb9(cb rb:Nat)(s:ByteArray)(σ:Cst)(w:World)(h:CurIs w cb rb s σ):
  Calls Tryz.prog 129 #[pt cb 0] w (Qy7 (.int .u64 (Qcd s σ).1) (Qcd s σ).2 cb rb s w):=by
 have h1:=Qb2 cb rb s σ 0 w h (by decide);clear h
 unfold Qcd
 generalize tkS 0 s σ=z at h1 ⊢
 obtain⟨⟨n,t⟩,σ1⟩:=z
 have H:=QLh h1;clear h1
 go_enter Tryz.func129,Tryz.ntmps129
 go_wp2_with fail
 refine H.out.mono ?_
 rintro e w1 ⟨rfl,hc,hg⟩
 have HG:=QLh hg;have HF:=QLh (Jf cb rb s σ1 (n == 0) 5 w1 hc (by decide));clear hc hg
 go_wp2_with fail
 refine HF.out.mono ?_
 rintro e w2 ⟨rfl,hc,hg⟩
 have HC:=QLh hc;have HG2:=QLh hg;clear hc hg
 go_wp2
 go_ret
 exact⟨rfl,HC.out,HG.out.trans HG2.out⟩
def Qep(s:ByteArray)(σ:Cst):ByteArray × Cst:=((tkS 1 s σ).1.2,Xy (!decide ((tkS 1 s σ).1.2.size=32)) 5 (tkS 1 s σ).2)
def Xe(s:ByteArray)(most:Int)(σ:Cst):Int × Cst:=((tkS 3 s σ).1.1,Xy ((tkS 3 s σ).1.1 == 0) 5 (Xy (decide (most<(tkS 3 s σ).1.1)) 3 (tkS 3 s σ).2))
theorem Qja(cb rb:Nat)(s:ByteArray)(most:Int)(σ:Cst)(w:World)(h:CurIs w cb rb s σ):
  Calls Tryz.prog 162 #[pt cb 0,.int .u64 most] w (Qy7 (.int .u64 (Xe s most σ).1) (Xe s most σ).2 cb rb s w):=by
 have h1:=Qb2 cb rb s σ 3 w h (by decide);clear h
 unfold Xe
 generalize tkS 3 s σ=z at h1 ⊢
 obtain⟨⟨n,t⟩,σ1⟩:=z
 have H:=QLh h1;clear h1
 go_enter Tryz.func162,Tryz.ntmps162
 go_wp2_with fail
 refine H.out.mono ?_
 rintro e w1 ⟨rfl,hc,hg⟩
 have HG:=QLh hg;have HF:=QLh (Jf cb rb s σ1 (decide (most<n)) 3 w1 hc (by decide));clear hc hg
 go_wp2_with fail
 refine HF.out.mono ?_
 rintro e w2 ⟨rfl,hc,hg⟩
 have HG2:=QLh (HG.out.trans hg);have HF2:=QLh (Jf cb rb s _ (n == 0) 5 w2 hc (by decide));clear hc hg
 go_wp2_with fail
 refine HF2.out.mono ?_
 rintro e w3 ⟨rfl,hc,hg⟩
 have HC:=QLh hc;have HG3:=QLh (HG2.out.trans hg);clear hc hg
 go_wp2
 go_ret
 exact⟨rfl,HC.out,HG3.out⟩
theorem Q07{sort:Nat}{s:ByteArray}{σ:Cst}(h5:sort<5):(tkS sort s σ).1.2.size≤s.size:=by
 cases σ with
 | error f=>exact Nat.zero_le _
 | ok a=>
  cases h:tkR sort s a with
  | error f=>simp only[tkS,h];exact Nat.zero_le _
  | ok x=>simp only[tkS,h];exact(Qck h5 h).2.2.2.2
theorem Qlo(cb rb:Nat)(s:ByteArray)(σ:Cst)(w:World)(h:CurIs w cb rb s σ):
  Calls Tryz.prog 130 #[pt cb 0] w (Qy7 (.string (Qep s σ).1) (Qep s σ).2 cb rb s w):=by
 have h1:=Qb2 cb rb s σ 1 w h (by decide);have hsz:(tkS 1 s σ).1.2.size≤9223372036854775807:=Nat.le_trans (Q07 (by decide)) h.sz2;clear h
 unfold Qep
 generalize tkS 1 s σ=z at h1 hsz ⊢
 obtain⟨⟨n,t⟩,σ1⟩:=z
 have H:=QLh h1;clear h1
 go_enter Tryz.func130,Tryz.ntmps130
 go_wp2_with fail
 refine H.out.mono ?_
 rintro e w1 ⟨rfl,hc,hg⟩
 have HG:=QLh hg;have HC1:=QLh hc;clear hc hg
 go_wp2_with fail
 refine(Qdc t w1 hsz).mono ?_
 rintro e w2 ⟨rfl,hb⟩
 have HG1:=QLh (HG.out.next hb);have HF:=QLh (Jf cb rb s σ1 (!decide (t.size=32)) 5 w2 (HC1.out.below hb) (by decide));clear hb
 go_wp2_with fail
 refine HF.out.mono ?_
 rintro e w3 ⟨rfl,hc,hg⟩
 have HC:=QLh hc;have HG2:=QLh hg;clear hc hg
 go_wp2
 go_ret
 exact⟨rfl,HC.out,HG1.out.trans HG2.out⟩
def Qdj(all k:ByteArray)(n:Nat):Bool:=(List.range n).any λ i=>(all.extract i (i+1)).toList == k.toList
theorem Qkh(all k:ByteArray)(n:Nat):Qdj all k (n+1)=(Qdj all k n || (all.extract n (n+1)).toList == k.toList):=by
 unfold Qdj
 rw[List.range_succ,List.any_append];simp
def leB(a b:ByteArray):Bool:=Op.bytesLess a.toList b.toList || a.toList == b.toList
def Qaz(s all last:ByteArray)(σ:Cst):ByteArray × Cst:=((tkS 2 s σ).1.2,Xy (!Qdj all (tkS 2 s σ).1.2 all.size || leB (tkS 2 s σ).1.2 last) 5 (tkS 2 s σ).2)
theorem Qf3(cb rb:Nat)(s all last:ByteArray)(σ:Cst)(w:World)(h:CurIs w cb rb s σ)(ha:all.size≤1000):
  Calls Tryz.prog 128 #[pt cb 0,.string all,.string last] w (Qy7 (.string (Qaz s all last σ).1) (Qaz s all last σ).2 cb rb s w):=by
 have h1:=Qb2 cb rb s σ 2 w h (by decide);clear h
 unfold Qaz
 generalize tkS 2 s σ=z at h1 ⊢
 obtain⟨⟨n,k⟩,σ1⟩:=z
 have H:=QLh h1;clear h1
 go_enter Tryz.func128,Tryz.ntmps128
 go_wp2_with fail
 refine H.out.mono ?_
 rintro e w1 ⟨rfl,hc,hg⟩
 have HC:=QLh hc;have HG:=QLh hg;clear hc hg
 go_wp2
 go_loopg [9,10] all.size (λ gg is i wr=>∃m:Nat,gg+m=all.size∧i=.int .i64 m∧is=.bool (Qdj all k m)∧wr=w1)
 case atStart=>exact⟨0,by omega,rfl,rfl,rfl⟩
 case round=>
  obtain⟨m,hm,rfl,rfl,rfl⟩:=hrel
  by_cases hlt:m<all.size
  ·obtain⟨g',rfl⟩:∃g',gk=g'+1:=⟨gk - 1,by omega⟩
   have i1:(m:Int)<all.size:=by omega
   have i2:IntKind.i64.wrap ((m:Int)+1)=(m:Int)+1:=IntWalk.i64_in _ (by omega);have i3:(0:Int)≤m:=by omega
   have i4:(m:Int)≤(m:Int)+1:=by omega
   have i5:(m:Int)+1≤all.size:=by omega
   have i6:((m:Int)+1).toNat=m+1:=by omega
   cases hk:Qdj all k m with
   | true=>
    have HK:Hid (true=Qdj all k (m+1)):=QLh (by rw[Qkh,hk];rfl);clear hk
    go_wp2
    go_roundg g'
    case rel=>exact⟨m+1,by omega,by go_num,by rw[HK.out],rfl⟩
    case measure=>omega
   | false=>
    have HK:Hid (((all.extract m (m+1)).toList == k.toList)=Qdj all k (m+1)):=QLh (by rw[Qkh,hk];rfl);clear hk
    go_wp2
    go_roundg g'
    case rel=>exact⟨m+1,by omega,by go_num,by rw[HK.out],rfl⟩
    case measure=>omega
  ·obtain rfl:m=all.size:=by omega
   have i1:¬((all.size:Nat):Int)<all.size:=by omega
   cases hk:Qdj all k all.size with
   | true=>
    have HF:=QLh (Jf cb rb s σ1 (leB k last) 5 wr HC.out (by decide));have HE:Hid (Xy (!Qdj all k all.size || leB k last) 5 σ1=Xy (leB k last) 5 σ1):=QLh (by rw[hk];rfl)
    clear hk
    go_wp2_with fail
    refine HF.out.mono ?_
    rintro e w3 ⟨rfl,hc,hg⟩
    have HC3:=QLh hc;have HG3:=QLh (HG.out.trans hg);clear hc hg
    go_wp2
    go_ret
    rw[HE.out]
    exact⟨rfl,HC3.out,HG3.out⟩
   | false=>
    have HF:=QLh (Jf cb rb s σ1 true 5 wr HC.out (by decide));have HE:Hid (Xy (!Qdj all k all.size || leB k last) 5 σ1=Xy true 5 σ1):=QLh (by rw[hk];rfl)
    clear hk
    go_wp2_with fail
    refine HF.out.mono ?_
    rintro e w3 ⟨rfl,hc,hg⟩
    have HC3:=QLh hc;have HG3:=QLh (HG.out.trans hg);clear hc hg
    go_wp2
    go_ret
    rw[HE.out]
    exact⟨rfl,HC3.out,HG3.out⟩
def Qhx(s:ByteArray):Nat→Cst→List ByteArray→List ByteArray × Cst
 | 0,σ,l=>(l,σ)
 | n+1,.error f,l=>(l,.error f)
 | n+1,.ok a,l=>Qhx s n (Qep s (.ok a)).2 (l++[(Qep s (.ok a)).1])
theorem Qec(s:ByteArray)(f:Flt):∀(n:Nat) (l:List ByteArray),Qhx s n (.error f) l=(l,.error f)
 | 0,l=>rfl
 | n+1,l=>rfl
def Qbh(s:ByteArray)(most:Int)(σ:Cst):List ByteArray × Cst:=Qhx s (Xe s most σ).1.toNat (Xe s most σ).2 []
def DgR(l:List ByteArray)(σ:Cst)(cb rb:Nat)(s:ByteArray)(w:World)(e:Ending)(w':World):Prop:=
 ∃v,e=.returned v∧(∀r t,r<w.heap.size→t<w.heap.size→HoldsD r t w' v (.strs l))∧CurIs w' cb rb s σ∧Chg rb cb w w'
theorem Qf4{s:ByteArray}{most:Int}{σ:Cst}:0≤(Xe s most σ).1∧(Xe s most σ).1≤10240:=by
 unfold Xe
 cases σ with
 | error f=>exact⟨Int.le_refl 0,show(0:Int)≤10240 by decide⟩
 | ok a=>
  cases h:tkR 3 s a with
  | error f=>simp only[tkS,h];exact⟨by decide,by decide⟩
  | ok x=>simp only[tkS,h];have:=Qck (by decide) h;exact⟨this.2.1,this.2.2.1 (by decide)⟩
theorem Qf5(cb rb:Nat)(s:ByteArray)(most:Int)(σ:Cst)(w:World)(h:CurIs w cb rb s σ):
  Calls Tryz.prog 161 #[pt cb 0,.int .u64 most] w (DgR (Qbh s most σ).1 (Qbh s most σ).2 cb rb s w):=by
 have h1:=Qja cb rb s most σ w h;have hbd:=Qf4 (s:=s) (most:=most) (σ:=σ);have hcs:cb<w.heap.size:=lt_of_block h.c;have hrs:rb<w.heap.size:=by obtain⟨a,h2,-⟩:=h.rd;exact lt_of_block h2
 unfold Qbh
 generalize Xe s most σ=z at h1 hbd ⊢
 obtain⟨k0,σ1⟩:=z
 obtain⟨k,rfl⟩:∃k:Nat,k0=k:=⟨k0.toNat,by have:=hbd.1;simp only at this ⊢;omega⟩
 have hk:k≤10240:=by have:=hbd.2;simp only at this;omega
 have H:=QLh h1
 obtain⟨i0,hi,hz0,hz1,hz2⟩:=info_parts Qky
 clear h1 h hbd
 go_enter Tryz.func161,Tryz.ntmps161
 go_wp2_with fail
 refine H.out.mono ?_
 rintro e w1 ⟨rfl,hc,hg⟩
 have HC1:=QLh hc;have HG1:=QLh hg;clear hc hg
 go_wp2
 go_loopg [6,7] k (λ gg lv i wr=>∃(m:Nat) (τ:Cst) (acc:List ByteArray),gg+m=k∧i=.int .u64 m∧Hid (Qhx s k σ1 []=Qhx s gg τ acc)∧Hid (len acc=m)∧Hid (CurIs wr cb rb s τ)∧Hid (Chg rb cb w wr)∧Hid (wr.ownsRow w.heap.size 9 1 lv m (acc.map Value.string))∧Hid (m=0→lv=.slice none 0 0))
 case atStart=>exact⟨0,σ1,[],rfl,rfl,rfl,rfl,HC1.out,HG1.out,World.ownsRow_nil _ _ _ _,λ _=>rfl⟩
 case round=>
  clear HC1 HG1
  obtain⟨m,τ,acc,hm,rfl,HD,HL,HC,HG,HO,H0⟩:=hrel
  by_cases hlt:m<k
  ·obtain⟨g',rfl⟩:∃g',gk=g'+1:=⟨gk - 1,by omega⟩
   have i1:(m:Int)<k:=by omega
   have HB:=QLh (Qb1 cb rb s τ _ HC.out)
   go_wp2_with fail
   refine HB.out.mono ?_
   rintro e w3 ⟨rfl,rfl⟩
   cases τ with
   | error f=>
    simp only[Qb0]
    have HE:Hid (Qhx s k σ1 []=(acc,.error f)):=QLh (by rw[HD.out,Qec]);clear HB HD
    go_wp2
    go_ret
    rw[Int.toNat_natCast,HE.out]
    exact⟨_,rfl,λ r t hr ht=>Qss HO.out hr ht H0.out,HC.out,HG.out⟩
   | ok a=>
    simp only[Qb0]
    have HDD:=QLh (Qlo cb rb s (.ok a) w3 HC.out);have HE:Hid (Qhx s k σ1 []=Qhx s g' (Qep s (.ok a)).2 (acc++[(Qep s (.ok a)).1])):=QLh HD.out;clear HB HD
    go_wp2_with fail
    refine HDD.out.mono ?_
    rintro e w4 ⟨rfl,hc,hg⟩
    have HC4:=QLh hc;have HG4:=QLh (HG.out.trans hg);have HO4:=QLh (Qvt HO.out hg hrs hcs);have hws:w.heap.size≤w4.heap.size:=HG4.out.size;clear hc hg HDD
    generalize Qep s (.ok a)=z at HE HC4
    obtain⟨d,τ⟩:=z
    go_wp2_with (at_builtin;refine wpList_append_own _ rfl _ _ 26 rfl w.heap.size 9 i0 (.string ⟨#[]⟩) 1 16 Tryz.underlying26 hi hz0 hz1 hz2 rfl (by decide) _ _ _ rfl (HO4.out.alloc _) ⟨w4.heap.size,0,none⟩ 1 1 [.string d] rfl rfl ?c1 ?c2 ?c3 ?c4 ?c5 ?_)
    case c1=>exact World.news_of_block (heap_alloc_new _ _)
    case c2=>intro u hu;simp at hu;subst hu;rfl
    case c3=>unfold maxLen;omega
    case c4=>omega
    case c5=>simp;omega
    intro v' w5 hown' hgrow hnil
    have hB5:Below w.heap.size w4 w5:=by
     have h9:=HO4.out.lt
     refine⟨hgrow.os,hgrow.tape,hgrow.output,by have:=hgrow.size;simp at this;omega,λ i hi=>?_⟩
     rw[hgrow.block i (by simp;omega) (λ e=>by have:=(h9 i e.symm).1;omega)]
     exact Below.heap_alloc _ _ _ (by omega)
    have HO5:Hid (w5.ownsRow w.heap.size 9 1 v' (m+1) ((acc++[d]).map Value.string)):=QLh (by rw[List.map_append];exact hown');have HC5:Hid (CurIs w5 cb rb s τ):=QLh (by
     have h7:=HC4.out;have e1:∀i,i<w.heap.size→w5.heap[i]?=w4.heap[i]?:=λ i hi=>hB5.block i hi
     refine⟨(e1 cb hcs).trans h7.c,h7.ne,h7.sz,?_⟩
     have hst:=h7.st
     cases τ with
     | ok a=>exact⟨(e1 rb hrs).trans hst.1,hst.2⟩
     | error f=>obtain⟨h1,a,h2,h3⟩:=hst;exact⟨h1,a,(e1 rb hrs).trans h2,h3⟩)
    have HG5:Hid (Chg rb cb w w5):=QLh ⟨hB5.os.trans HG4.out.os,hB5.tape.trans HG4.out.tape,hB5.output.trans HG4.out.output,Nat.le_trans HG4.out.size hB5.size,λ i hi h1 h2=>(hB5.block i hi).trans (HG4.out.block i hi h1 h2)⟩;clear hown' hgrow hB5
    go_wp2
    go_roundg g'
    case rel=>exact⟨m+1,τ,acc++[d],by omega,by go_num,HE.out,QLh (by have:=HL.out;simp only[len,List.length_append,List.length_singleton]at this ⊢;omega),HC5.out,HG5.out,HO5.out,λ h0=>by omega⟩
    case measure=>omega
  ·obtain rfl:m=k:=by omega
   have i1:¬((m:Nat):Int)<m:=by omega
   obtain rfl:gk=0:=by omega
   have HE:Hid (Qhx s m σ1 []=(acc,τ)):=QLh HD.out
   go_wp2
   go_ret
   rw[HE.out]
   exact⟨_,rfl,λ r t hr ht=>Qss HO.out hr ht H0.out,HC.out,HG.out⟩
abbrev Jk:=Rcd→Cst→Rcd × Cst
def sw:List (UInt8 × Jk)→ByteArray→Jk
 | [],_,x,σ=>(x,σ)
 | p :: r,k,x,σ=>if k.toList == [p.1]then p.2 x σ else sw r k x σ
def Q0(s all:ByteArray)(specs:List (UInt8 × Jk)):Nat→ByteArray→Rcd→Cst→Rcd × Cst
 | 0,_,x,σ=>(x,σ)
 | n+1,last,x,.error f=>(x,.error f)
 | n+1,last,x,.ok a=>Q0 s all specs n (Qaz s all last (.ok a)).1 (sw specs (Qaz s all last (.ok a)).1 x (Qaz s all last (.ok a)).2).1 (sw specs (Qaz s all last (.ok a)).1 x (Qaz s all last (.ok a)).2).2
theorem Jd(s all:ByteArray)(specs:List (UInt8 × Jk))(x:Rcd)(f:Flt):∀(n:Nat) (last:ByteArray),Q0 s all specs n last x (.error f)=(x,.error f)
 | 0,_=>rfl
 | n+1,_=>rfl
def Qhf(s all:ByteArray)(specs:List (UInt8 × Jk))(x0:Rcd)(σ:Cst):Rcd × Cst:=Q0 s all specs (Qay s σ).1.toNat ⟨#[]⟩ x0 (Qay s σ).2
theorem Qcv{s:ByteArray}{σ:Cst}:0≤(Qay s σ).1∧(Qay s σ).1≤10240:=by
 unfold Qay
 cases σ with
 | error f=>exact⟨Int.le_refl 0,show(0:Int)≤10240 by decide⟩
 | ok a=>
  cases h:tkR 4 s a with
  | error f=>simp only[tkS,h];exact⟨by decide,by decide⟩
  | ok x=>simp only[tkS,h];have:=Qck (by decide) h;exact⟨this.2.1,this.2.2.1 (by decide)⟩
theorem HoldsD.keep2{rb tb:Nat}{w w':World}{v:Value}{d:DV}(h:HoldsD rb tb w v d)(hu:∀b,rb<b→tb<b→b<w.heap.size→w'.heap[b]?=w.heap[b]?):HoldsD rb tb w' v d:=by
 have kt:∀{a:Option Addr} {l:List ByteArray},Tx w a l→Off rb tb a→Tx w' a l:=λ h ho=>h.keep λ b off cs e h2=>hu b (ho b off e).1 (ho b off e).2 (lt_of_block h2)
 cases d with
 | num n=>exact h
 | flag q=>exact h
 | str s=>exact h
 | strs l=>obtain⟨a,c,h1,h2,h3,h4⟩:=h;exact⟨a,c,h1,h2,h3,kt h4 h3⟩
 | nums l=>obtain⟨a,c,h1,h2,h3,h4⟩:=h;exact⟨a,c,h1,h2,h3,h4.keep λ b off cs e h5=>hu b (h3 b off e).1 (h3 b off e).2 (lt_of_block h5)⟩
 | revs l=>
  obtain⟨a,c,h1,h2,h3,rs,h4,h5,h6⟩:=h
  refine⟨a,c,h1,h2,h3,rs,h4,λ i hi=>?_,λ i hi=>?_⟩
  ·obtain⟨b,off,rfl,hc⟩:=h5 i hi
   have e:∀q,w'.cell? ⟨b,q,none⟩=w.cell? ⟨b,q,none⟩:=λ q=>World.cell?_of_block (w:=w) (hu b (h3 b off rfl).1 (h3 b off rfl).2 (Qw hc.c0))
   obtain⟨c0,c1,c2,c3,c4,c5,c6,c7,c8,c9,c10⟩:=hc
   exact⟨b,off,rfl,by constructor <;> (rw[e];assumption)⟩
  ·have h:=h6 i hi
   exact⟨h.pos,h.L,h.signed,h.idx,h.wn,kt h.ws h.wo,h.wo,h.pn,kt h.ps h.po,h.po,h.root,h.wt,h.first,h.life,h.keys⟩
theorem RecAt.cur{rb cb tb:Nat}{T:TypeId}{n:Nat}{w w':World}{x:Rcd}(h:RecAt rb tb T n w x)(hc:Chg rb cb w w')(h1:cb<tb)(h2:rb<tb):RecAt rb tb T n w' x:=by
 obtain⟨cs,h3,h4,h5⟩:=h
 refine⟨cs,(hc.block tb (lt_of_block h3) (by omega) (by omega)).trans h3,h4,λ i hi=>?_⟩
 obtain⟨v,h6,h7⟩:=h5 i hi
 exact⟨v,h6,h7.keep2 (λ b hb1 hb2 hb3=>hc.block b hb3 (by omega) (by omega))⟩
theorem CurIs.keep{w w':World}{cb rb:Nat}{s:ByteArray}{σ:Cst}(h:CurIs w cb rb s σ)(h1:w'.heap[cb]?=w.heap[cb]?)(h2:w'.heap[rb]?=w.heap[rb]?):CurIs w' cb rb s σ:=by
 refine⟨h1.trans h.c,h.ne,h.sz,?_⟩
 have hst:=h.st
 cases σ with
 | ok a=>exact⟨h2.trans hst.1,hst.2⟩
 | error f=>obtain⟨h3,a,h4,h5⟩:=hst;exact⟨h3,a,h2.trans h4,h5⟩
theorem CurIs.setOff{w:World}{cb rb b o:Nat}{s:ByteArray}{σ:Cst}(h:CurIs w cb rb s σ)(h1:cb<b)(h2:rb<b)(v:Value):CurIs (w.setCell ⟨b,o,none⟩ v) cb rb s σ:=
 h.keep (Below.heap_setCell _ _ _ _ (by omega:cb≠b)) (Below.heap_setCell _ _ _ _ (by omega:rb≠b))
theorem CurIs.clt{w:World}{cb rb:Nat}{s:ByteArray}{σ:Cst}(h:CurIs w cb rb s σ):cb<w.heap.size:=lt_of_block h.c
theorem CurIs.rlt{w:World}{cb rb:Nat}{s:ByteArray}{σ:Cst}(h:CurIs w cb rb s σ):rb<w.heap.size:=by obtain⟨a,h2,-⟩:=h.rd;exact lt_of_block h2
structure StepOk(x0:Rcd)(g:GSpec)(f:Jk):Prop where
 good:∀x a,Qsp x0 g x→match g.read x a with
  | .error e=>(f x (.ok a)).2=.error e
  | .ok y=>if g.empty y.1=true then(f x (.ok a)).2=.error (5,0)else f x (.ok a)=(y.1,.ok y.2)
 bad:∀x e,(f x (.error e)).2=.error e
theorem Qca{x0:Rcd}(s key:ByteArray)(o:Nat):StepOk x0 (Qbl s key o) (λ x σ=>(upd x o (.num (Qcd s σ).1),(Qcd s σ).2)):=by
 refine⟨λ x a hf=>?_,λ x e=>rfl⟩
 cases h:tkR 0 s a with
 | error e=>
  have h1:(Qbl s key o).read x a=.error e:=by simp only[Qbl,Qib,h]
  rw[h1]
  simp only[Qcd,tkS,h,Xy]
 | ok y=>
  have h1:(Qbl s key o).read x a=.ok (upd x o (.num y.1),y.2.2):=by simp only[Qbl,Qib,h]
  rw[h1]
  simp only[Qbl,Xc,Qae,Qcd,tkS,h,Xy]
  by_cases hz:(y.1 == 0)=true
  ·rw[if_pos hz,if_pos hz]
  ·rw[if_neg hz,if_neg hz]
theorem Qp0{x0:Rcd}(s key:ByteArray)(o:Nat):StepOk x0 (Qb4 s key o) (λ x σ=>(upd x o (.str (Qep s σ).1),(Qep s σ).2)):=by
 refine⟨λ x a hf=>?_,λ x e=>rfl⟩
 cases h:tkR 1 s a with
 | error e=>
  have h1:(Qb4 s key o).read x a=.error e:=by simp only[Qb4,Qfp,h]
  rw[h1]
  simp only[Qep,tkS,h,Xy]
 | ok y=>
  by_cases hz:y.2.1.size=32
  ·have h1:(Qb4 s key o).read x a=.ok (upd x o (.str y.2.1),y.2.2):=by simp only[Qb4,Qfp,h,hz,if_true]
   rw[h1]
   simp only[Qb4,Qep,tkS,h,Xy,hz,decide_true,Bool.not_true,Bool.false_eq_true,if_false]
  ·have h1:(Qb4 s key o).read x a=.error (5,0):=by simp only[Qb4,Qfp,h,hz,if_false]
   rw[h1]
   simp only[Qep,tkS,h,Xy,hz,decide_false,Bool.not_false,if_true]
def rth(l:List (UInt8 × Jk))(i:Nat):UInt8 × Jk:=l.getD i (0,λ x σ=>(x,σ))
theorem Q08(l:List (UInt8 × Jk))(i:Nat)(h:i<l.length):rth l i=l[i]:=by unfold rth;rw[List.getD_eq_getElem?_getD,List.getElem?_eq_getElem h];rfl
structure SpecsOk(x0:Rcd)(all:ByteArray)(specs:List (UInt8 × Jk))(gs:List GSpec):Prop where
 len:specs.length=gs.length
 keys:∀i,i<gs.length→(gth gs i).key.toList=[(rth specs i).1]
 all:∀k:ByteArray,Qdj all k all.size=true ↔ ∃i,i<gs.length∧k.toList=[(rth specs i).1]
 rise:∀i j,i<j→j<gs.length→(rth specs i).1<(rth specs j).1
 steps:∀i,i<gs.length→StepOk x0 (gth gs i) (rth specs i).2
theorem Qov:∀{l:List (UInt8 × Jk)} {k:ByteArray} {x:Rcd} {σ:Cst},(∀i,i<l.length→k.toList≠[(rth l i).1])→sw l k x σ=(x,σ)
 | [],k,x,σ,h=>rfl
 | p :: r,k,x,σ,h=>by
  have h0:=h 0 (by simp);have h1:(k.toList == [p.1])=false:=by simpa [rth] using h0
  rw[sw,h1]
  exact Qov λ i hi=>h (i+1) (by simpa using hi)
theorem Qt6:∀{l:List (UInt8 × Jk)} {k:ByteArray} {x:Rcd} {σ:Cst} {i:Nat},i<l.length→k.toList=[(rth l i).1]→(∀j,j<i→(rth l j).1≠(rth l i).1)→sw l k x σ=(rth l i).2 x σ
 | p :: r,k,x,σ,0,hi,hk,hn=>by
  have h1:(k.toList == [p.1])=true:=by simpa [rth] using hk
  rw[sw,h1];rfl
 | p :: r,k,x,σ,i+1,hi,hk,hn=>by
  have h0:=hn 0 (by omega);have h1:(k.toList == [p.1])=false:=by
   rw[hk]
   have:(rth (p :: r) (i+1)).1≠p.1:=λ e=>h0 e.symm
   simpa using this
  rw[sw,h1]
  exact Qt6 (i:=i) (by simpa using hi) hk (λ j hj=>hn (j+1) (by omega))
def Qnd(specs:List (UInt8 × Jk))(fr:Nat)(last:ByteArray):Prop:=last.toList=if fr=0 then []else [(rth specs (fr - 1)).1]
theorem Qwq{s all last:ByteArray}{a:Nat}{e:Flt}(h:tkR 2 s a=.error e):(Qaz s all last (.ok a)).1=⟨#[]⟩∧(Qaz s all last (.ok a)).2=.error e:=by
 unfold Qaz
 simp only[tkS,h]
 first | exact⟨rfl,rfl⟩ | exact⟨trivial,rfl⟩ | rfl
theorem Qy8{s all last:ByteArray}{a:Nat}{z:Int × ByteArray × Nat}(h:tkR 2 s a=.ok z):(Qaz s all last (.ok a)).1=z.2.1∧(Qaz s all last (.ok a)).2=if(!Qdj all z.2.1 all.size || leB z.2.1 last)=true then .error (5,0)else .ok z.2.2:=by
 unfold Qaz
 simp only[tkS,h]
 first | exact⟨rfl,rfl⟩ | exact⟨trivial,rfl⟩ | rfl
theorem Q09(a b:UInt8):Op.bytesLess [a] [b]=decide (a<b):=by simp[Op.bytesLess]
theorem Qt7{k last:ByteArray}{a b:UInt8}(h1:k.toList=[a])(h2:last.toList=[b]):leB k last=decide (a≤b):=by
 unfold leB
 rw[h1,h2,Q09]
 by_cases h:a<b
 ·simp[h,UInt8.le_of_lt h]
 ·by_cases e:a=b
  ·subst e;simp
  ·have:¬a≤b:=λ h'=>by rcases UInt8.lt_or_eq_of_le h' with h'' | h'' <;> contradiction
   simp[h,e,this]
theorem Qy9{k last:ByteArray}{a:UInt8}(h1:k.toList=[a])(h2:last.toList=[]):leB k last=false:=by
 unfold leB;rw[h1,h2];rfl
section
variable {x0:Rcd} {s all:ByteArray} {specs:List (UInt8 × Jk)} {gs:List GSpec}
theorem SpecsOk.inj(h:SpecsOk x0 all specs gs){i j:Nat}(hi:i<gs.length)(hj:j<gs.length)(e:(rth specs i).1=(rth specs j).1):i=j:=by
 rcases Nat.lt_trichotomy i j with h1 | h1 | h1
 ·have:=h.rise i j h1 hj;rw[e]at this;exact absurd this (UInt8.lt_irrefl _)
 ·exact h1
 ·have:=h.rise j i h1 hi;rw[e]at this;exact absurd this (UInt8.lt_irrefl _)
theorem Qt8(h:SpecsOk x0 all specs gs)(hk:Qj5 gs){fr i:Nat}{k:ByteArray}(hi:i<gs.length)(hfr:fr≤i)(e:k.toList=[(rth specs i).1]):Jt gs fr k=some (i - fr):=by
 have hi':fr+(i - fr)=i:=by omega
 refine Qid (by omega) (by rw[hi',h.keys i hi,e];simp) λ j hj=>?_
 rw[h.keys (fr+j) (by omega),e]
 have:(rth specs (fr+j)).1≠(rth specs i).1:=λ e2=>by have:=h.inj (by omega) hi e2;omega
 simpa using this
theorem Qki(h:SpecsOk x0 all specs gs){fr:Nat}{k:ByteArray}(hn:∀i,fr≤i→i<gs.length→k.toList≠[(rth specs i).1]):Jt gs fr k=none:=
 Qic λ i hi=>by
  rw[h.keys (fr+i) (by omega)]
  have:=hn (fr+i) (by omega) (by omega)
  simpa using λ e=>this e.symm
theorem Qne(h:SpecsOk x0 all specs gs)(hk:Qj5 gs)(hd:Qyq gs)(hf:∀g ∈ gs,g.Frames):∀(n fr:Nat) (last:ByteArray) (x:Rcd) (seen:List Nat) (a:Nat),fr≤gs.length→Qnd specs fr last→(∀i,fr≤i→i<gs.length→Qsp x0 (gth gs i) x)→
  match Qy s gs n fr x seen a with
  | .error e=>(Q0 s all specs n last x (.ok a)).2=.error e
  | .ok y=>Q0 s all specs n last x (.ok a)=(y.1,.ok y.2.2)
 | 0,fr,last,x,seen,a,hfr,hl,hfs=>rfl
 | n+1,fr,last,x,seen,a,hfr,hl,hfs=>by
  have hlen:=h.len
  rw[Q0]
  cases hz:tkR 2 s a with
  | error e=>
   obtain⟨e1,e2⟩:=Qwq (all:=all) (last:=last) hz
   have e3:Qy s gs (n+1) fr x seen a=.error e:=by rw[Qy,hz]
   have e4:∀σ,sw specs (⟨#[]⟩:ByteArray) x σ=(x,σ):=λ σ=>Qov λ i hi hh=>by simp[ByteArray.toList_eq]at hh
   rw[e3,e1,e2,e4]
   show(Q0 s all specs n ⟨#[]⟩ x (.error e)).2=.error e
   rw[Jd]
  | ok z=>
   obtain⟨e1,e2⟩:=Qy8 (all:=all) (last:=last) hz
   rw[e1,e2]
   by_cases hex:∃i,i<gs.length∧z.2.1.toList=[(rth specs i).1]
   ·obtain⟨i,hi,hki⟩:=hex
    have hia:Qdj all z.2.1 all.size=true:=(h.all z.2.1).2 ⟨i,hi,hki⟩;have hsw:∀σ,sw specs z.2.1 x σ=(rth specs i).2 x σ:=λ σ=>Qt6 (by omega) hki (λ j hj e=>by have:=h.inj (by omega) hi e;omega);have hst:=h.steps i hi
    by_cases hle:fr≤i
    ·have hlb:leB z.2.1 last=false:=by
      unfold Qnd at hl
      by_cases h0:fr=0
      ·rw[if_pos h0]at hl;exact Qy9 hki hl
      ·rw[if_neg h0]at hl
       rw[Qt7 hki hl]
       have:=h.rise (fr - 1) i (by omega) hi
       rw[decide_eq_false_iff_not]
       exact λ h'=>absurd (UInt8.lt_of_lt_of_le this h') (UInt8.lt_irrefl _)
     have hki2:=Qt8 h hk hi hle hki;have hfi:fr+(i - fr)=i:=by omega
     rw[hia,hlb]
     simp only[Bool.not_true,Bool.or_self,Bool.false_eq_true,if_false]
     rw[hsw]
     have hg:=hst.good x z.2.2 (hfs i hle hi)
     cases hr:(gth gs i).read x z.2.2 with
     | error e=>
      rw[hr]at hg
      have e3:Qy s gs (n+1) fr x seen a=.error e:=Qil hz hki2 (by rw[hfi];exact hr)
      rw[e3]
      show(Q0 s all specs n z.2.1 ((rth specs i).2 x (.ok z.2.2)).1 ((rth specs i).2 x (.ok z.2.2)).2).2=.error e
      have hg':((rth specs i).2 x (.ok z.2.2)).2=.error e:=hg
      rw[hg',Jd]
     | ok y=>
      rw[hr]at hg
      by_cases hem:(gth gs i).empty y.1=true
      ·have e3:Qy s gs (n+1) fr x seen a=.error (5,0):=Qfv hz hki2 (by rw[hfi];exact hr) (by rw[hfi];exact hem)
       rw[e3]
       have hg':((rth specs i).2 x (.ok z.2.2)).2=.error (5,0):=by simpa [hem] using hg
       show(Q0 s all specs n z.2.1 ((rth specs i).2 x (.ok z.2.2)).1 ((rth specs i).2 x (.ok z.2.2)).2).2=.error (5,0)
       rw[hg',Jd]
      ·have hem':(gth gs i).empty y.1=false:=by simpa using hem
       have hg':(rth specs i).2 x (.ok z.2.2)=(y.1,.ok y.2):=by simpa [hem'] using hg
       have e3:Qy s gs (n+1) fr x seen a=Qy s gs n (i+1) y.1 (i :: seen) y.2:=by
        have:=Qha (seen:=seen) (g:=n) hz hki2 (by rw[hfi];exact hr) (by rw[hfi];exact hem')
        rw[hfi]at this;exact this
       rw[e3,hg']
       refine Qne h hk hd hf n (i+1) z.2.1 y.1 (i :: seen) y.2 (by omega) ?_ λ j hj1 hj2 o ho=>?_
       ·unfold Qnd;rw[if_neg (by omega),hki];rfl
       ·have hfr2:=hf (gth gs i) (by rw[Qax gs i hi];exact List.getElem_mem _) x z.2.2 y hr o (λ hin=>hd j i hj2 hi (by omega) o ho hin)
        rw[hfr2]
        exact hfs j (by omega) hj2 o ho
    ·have hlb:leB z.2.1 last=true:=by
      unfold Qnd at hl
      rw[if_neg (by omega)]at hl
      rw[Qt7 hki hl,decide_eq_true_iff]
      by_cases e:i=fr - 1
      ·rw[←e];exact UInt8.le_refl _
      ·exact UInt8.le_of_lt (h.rise i (fr - 1) (by omega) (by omega))
     have hki2:Jt gs fr z.2.1=none:=Qki h λ j hj1 hj2 e=>by
      rw[hki]at e
      have:=h.inj hi hj2 (by simpa using e)
      omega
     have e3:Qy s gs (n+1) fr x seen a=.error (5,0):=Qd5 hz hki2
     rw[e3,hlb]
     simp only[Bool.or_true,if_true]
     rw[hsw]
     show(Q0 s all specs n z.2.1 ((rth specs i).2 x (.error (5,0))).1 ((rth specs i).2 x (.error (5,0))).2).2=.error (5,0)
     rw[hst.bad,Jd]
   ·have hia:Qdj all z.2.1 all.size=false:=by
     cases hh:Qdj all z.2.1 all.size with
     | false=>rfl
     | true=>exact absurd ((h.all z.2.1).1 hh) hex
    have hsw:∀σ,sw specs z.2.1 x σ=(x,σ):=λ σ=>Qov λ i hi e=>hex ⟨i,by omega,e⟩;have hki2:Jt gs fr z.2.1=none:=Qki h λ j hj1 hj2 e=>hex ⟨j,hj2,e⟩;have e3:Qy s gs (n+1) fr x seen a=.error (5,0):=Qd5 hz hki2
    rw[e3,hia]
    simp only[Bool.not_false,Bool.true_or,if_true]
    rw[hsw]
    show(Q0 s all specs n z.2.1 x (.error (5,0))).2=.error (5,0)
    rw[Jd]
end
def Qdv(s:ByteArray)(o:Nat):Jk:=λ x σ=>(upd x o (.num (Qcd s σ).1),(Qcd s σ).2)
def Qt9(s:ByteArray)(o:Nat):Jk:=λ x σ=>(upd x o (.str (Qep s σ).1),(Qep s σ).2)
def Z5(s:ByteArray):List (UInt8 × Jk):=[(102,Qdv s 2),(107,Qdv s 4),(108,Qdv s 3),(114,Qt9 s 0),(119,Qdv s 1)]
abbrev Qf6(x:Rcd):Bool:=(x 0).s.toList.isEmpty
def Qfc(s:ByteArray)(σ:Cst):Rcd × Cst:=((Qhf s ⟨#[102,107,108,114,119]⟩ (Z5 s) Xl σ).1,Xy (Qf6 (Qhf s ⟨#[102,107,108,114,119]⟩ (Z5 s) Xl σ).1) 5 (Qhf s ⟨#[102,107,108,114,119]⟩ (Z5 s) Xl σ).2)
theorem Qua(cb rb:Nat)(s:ByteArray)(σ:Cst)(w:World)(h:CurIs w cb rb s σ):
  Calls Tryz.prog 69 #[pt cb 0] w (λ e w'=>e=.returned (.agg (Xm (Qfc s σ).1))∧Kd Xl (Qfc s σ).1∧CurIs w' cb rb s (Qfc s σ).2∧Chg rb cb w w'):=by
 have hcs:=h.clt;have hrs:=h.rlt;have h1:=fun (w':World) (hb:Below w.heap.size w w')=>Qcu cb rb s σ w' (h.below hb);have hbd:=Qcv (s:=s) (σ:=σ)
 unfold Qfc Qhf
 generalize Qay s σ=z at h1 hbd ⊢
 obtain⟨k0,σ1⟩:=z
 obtain⟨N,rfl⟩:∃k:Nat,k0=k:=⟨k0.toNat,by have:=hbd.1;simp only at this ⊢;omega⟩
 have hN:N≤10240:=by have:=hbd.2;simp only at this;omega
 have H:=QLh h1;clear h1 h hbd
 simp only[Int.toNat_natCast]
 go_enter Tryz.func69,Tryz.ntmps69
 go_upto_region 2 with fail
 obtain⟨b0,hb0⟩:∃b0,w.heap.size=b0:=⟨_,rfl⟩
 obtain⟨V,hV⟩:∃V,(w.alloc (.cells #[.string ⟨#[]⟩,.int .u64 0,.int .u64 0,.int .u64 0,.int .u64 0] 46)).alloc (.cells #[.string ⟨#[]⟩,.int .u64 0,.int .u64 0,.int .u64 0,.int .u64 0] 46)=V:=⟨_,rfl⟩
 have HV:Hid (Below w.heap.size w V):=QLh (by rw[←hV];exact Qh (Qh (Below.refl _ _) _) _);have V0:Hid (V.heap[b0]?=some (.cells #[.string ⟨#[]⟩,.int .u64 0,.int .u64 0,.int .u64 0,.int .u64 0] 46 (0,0))):=QLh (by rw[←hV,←hb0];exact Qf (heap_alloc_new _ _) _);have V1:Hid (V.heap[b0+1]?=some (.cells #[.string ⟨#[]⟩,.int .u64 0,.int .u64 0,.int .u64 0,.int .u64 0] 46 (0,0))):=QLh (by rw[←hV];exact Qi _ (by simp[hb0]));have REC:Hid (RecAt rb (b0+1) 46 5 V Xl):=QLh (Qbo V1.out rfl (λ i hi=>by
  match i,hi with
  | 0,_=>exact⟨_,rfl,rfl⟩
  | 1,_=>exact⟨_,rfl,rfl⟩
  | 2,_=>exact⟨_,rfl,rfl⟩
  | 3,_=>exact⟨_,rfl,rfl⟩
  | 4,_=>exact⟨_,rfl,rfl⟩))
 have HB0:=QLh hb0;have hcb:cb<b0:=by omega
 have hrb:rb<b0:=by omega
 try rw[hV]
 try simp only[hb0]
 clear hV hb0
 go_wp2_with fail
 refine(H.out V HV.out).mono ?_
 rintro e w1 ⟨rfl,hc,hg⟩
 have HC1:=QLh hc;have HG1:Hid (Chg rb cb w w1):=QLh ((Chg.of_below HV.out).trans hg);have RES1:Hid (w1.heap[b0]?=some (.cells #[.string ⟨#[]⟩,.int .u64 0,.int .u64 0,.int .u64 0,.int .u64 0] 46 (0,0))):=QLh ((hg.block _ (lt_of_block V0.out) (by omega) (by omega)).trans V0.out);have REC1:Hid (RecAt rb (b0+1) 46 5 w1 Xl):=QLh (REC.out.cur hg (by omega) (by omega));clear hc hg H V0 V1 REC
 go_wp2
 go_loopg [5,6] N (λ gg lv i wr=>∃(m:Nat) (τ:Cst) (x:Rcd) (last:ByteArray),gg+m=N∧i=.int .u64 m∧lv=.string last∧Hid (Q0 s ⟨#[102,107,108,114,119]⟩ (Z5 s) N ⟨#[]⟩ Xl σ1=Q0 s ⟨#[102,107,108,114,119]⟩ (Z5 s) gg last x τ)∧Hid (CurIs wr cb rb s τ)∧Hid (Chg rb cb w wr)∧Hid (RecAt rb (b0+1) 46 5 wr x)∧Hid (Kd Xl x)∧Hid (wr.heap[b0]?=some (.cells #[.string ⟨#[]⟩,.int .u64 0,.int .u64 0,.int .u64 0,.int .u64 0] 46 (0,0))))
 case atStart=>exact⟨0,σ1,Xl,⟨#[]⟩,rfl,rfl,rfl,rfl,HC1.out,HG1.out,REC1.out,λ i=>rfl,RES1.out⟩
 case round=>
  clear HC1 HG1 RES1 REC1
  obtain⟨m,τ,x,last,hm,rfl,rfl,HD,HC,HG,REC,HK,RES⟩:=hrel
  by_cases hlt:m<N
  ·obtain⟨g',rfl⟩:∃g',gk=g'+1:=⟨gk - 1,by omega⟩
   have i1:(m:Int)<N:=by omega
   have HB:=QLh (Qb1 cb rb s τ _ HC.out)
   go_wp2_with fail
   refine HB.out.mono ?_
   rintro e w3 ⟨rfl,rfl⟩
   cases τ with
   | error f=>
    simp only[Qb0]
    have HE:Hid (Q0 s ⟨#[102,107,108,114,119]⟩ (Z5 s) N ⟨#[]⟩ Xl σ1=(x,.error f)):=QLh (by rw[HD.out,Jd]);clear HB HD
    obtain⟨_,hth,-⟩:=Qby REC.out HK.out
    have m0:w3.cell? ⟨b0+1,0,none⟩=some (.string (x 0).s):=Qa hth 0;have HF:=QLh (Jf cb rb s (.error f) (Qf6 x) 5 w3 HC.out (by decide))
    go_wp2_with fail
    refine HF.out.mono ?_
    rintro e w5 ⟨rfl,hc,hg⟩
    have HC5:=QLh hc;have HG5:=QLh (HG.out.trans hg);have RES5:Hid (w5.heap[b0]?=some (.cells #[.string ⟨#[]⟩,.int .u64 0,.int .u64 0,.int .u64 0,.int .u64 0] 46 (0,0))):=QLh ((hg.block _ (lt_of_block RES.out) (by omega) (by omega)).trans RES.out)
    obtain⟨_,hth,-⟩:=Qby (REC.out.cur hg (by omega) (by omega)) HK.out
    have k0:w5.cell? ⟨b0+1,0,none⟩=some (.string (x 0).s):=Qa hth 0;have k1:w5.cell? ⟨b0+1,1,none⟩=some (.int .u64 (x 1).n):=Qa hth 1;have k2:w5.cell? ⟨b0+1,2,none⟩=some (.int .u64 (x 2).n):=Qa hth 2;have k3:w5.cell? ⟨b0+1,3,none⟩=some (.int .u64 (x 3).n):=Qa hth 3;have k4:w5.cell? ⟨b0+1,4,none⟩=some (.int .u64 (x 4).n):=Qa hth 4;have g0:∀o,w5.cell? ⟨b0,o,none⟩=_:=Qa RES5.out;have g1:∀o,w5.frozen? ⟨b0,o,none⟩=false:=Qj RES5.out;have g2:b0<w5.heap.size:=lt_of_block RES5.out;clear hc hg hth m0
    go_wp2
    have hb:=(Qb (Qb (Qb (Qb (Qb RES5.out (o:=0) (.string (x 0).s)) (o:=1) (.int .u64 (x 1).n)) (o:=2) (.int .u64 (x 2).n)) (o:=3) (.int .u64 (x 3).n)) (o:=4) (.int .u64 (x 4).n));have d:∀o,_=_:=Qa hb
    refine bodyPost_ret (v:=.agg (Xm x)) ?_ rfl ?_
    ·simp[results,Tryz.results69,go_sem,d]
    ·rw[HE.out]
     exact⟨rfl,HK.out,(CurIs.setOff (CurIs.setOff (CurIs.setOff (CurIs.setOff (CurIs.setOff HC5.out hcb hrb _) hcb hrb _) hcb hrb _) hcb hrb _) hcb hrb _),(Chg.setNew (Chg.setNew (Chg.setNew (Chg.setNew (Chg.setNew HG5.out (show w.heap.size≤b0 by have:=HB0.out;omega) _) (show w.heap.size≤b0 by have:=HB0.out;omega) _) (show w.heap.size≤b0 by have:=HB0.out;omega) _) (show w.heap.size≤b0 by have:=HB0.out;omega) _) (show w.heap.size≤b0 by have:=HB0.out;omega) _)⟩
   | ok a=>
    simp only[Qb0]
    have HKY:=QLh (Qf3 cb rb s ⟨#[102,107,108,114,119]⟩ last (.ok a) w3 HC.out (by decide));have HE:Hid (Q0 s ⟨#[102,107,108,114,119]⟩ (Z5 s) N ⟨#[]⟩ Xl σ1=Q0 s ⟨#[102,107,108,114,119]⟩ (Z5 s) g' (Qaz s ⟨#[102,107,108,114,119]⟩ last (.ok a)).1 (sw (Z5 s) (Qaz s ⟨#[102,107,108,114,119]⟩ last (.ok a)).1 x (Qaz s ⟨#[102,107,108,114,119]⟩ last (.ok a)).2).1 (sw (Z5 s) (Qaz s ⟨#[102,107,108,114,119]⟩ last (.ok a)).1 x (Qaz s ⟨#[102,107,108,114,119]⟩ last (.ok a)).2).2):=QLh HD.out;clear HB HD
    go_wp2_with fail
    refine HKY.out.mono ?_
    rintro e w4 ⟨rfl,hc,hg⟩
    have HC4:=QLh hc;have HG4:Hid (Chg rb cb w w4):=QLh (HG.out.trans hg);have REC4:=QLh (REC.out.cur hg (by omega) (by omega));have RES4:Hid (w4.heap[b0]?=some (.cells #[.string ⟨#[]⟩,.int .u64 0,.int .u64 0,.int .u64 0,.int .u64 0] 46 (0,0))):=QLh ((hg.block _ (lt_of_block RES.out) (by omega) (by omega)).trans RES.out);clear hc hg HKY HC HG REC RES
    obtain⟨key,hkey⟩:∃key,(Qaz s ⟨#[102,107,108,114,119]⟩ last (.ok a)).1=key:=⟨_,rfl⟩
    obtain⟨τ1,hτ1⟩:∃τ1,(Qaz s ⟨#[102,107,108,114,119]⟩ last (.ok a)).2=τ1:=⟨_,rfl⟩
    have HE:Hid (Q0 s ⟨#[102,107,108,114,119]⟩ (Z5 s) N ⟨#[]⟩ Xl σ1=Q0 s ⟨#[102,107,108,114,119]⟩ (Z5 s) g' key (sw (Z5 s) key x τ1).1 (sw (Z5 s) key x τ1).2):=QLh (by have:=HE.out;rw[hkey,hτ1]at this;exact this);have HC4:Hid (CurIs w4 cb rb s τ1):=QLh (by rw[←hτ1];exact HC4.out)
    rw[hkey]
    clear hkey hτ1
    cases hq0:(key.toList == [102])with
    | true=>
     have es:sw (Z5 s) key x τ1=(upd x 2 (.num (Qcd s τ1).1),(Qcd s τ1).2):=by unfold Z5;simp only[sw,hq0,if_true,Bool.false_eq_true,if_false];rfl
     have HE2:Hid (Q0 s ⟨#[102,107,108,114,119]⟩ (Z5 s) N ⟨#[]⟩ Xl σ1=Q0 s ⟨#[102,107,108,114,119]⟩ (Z5 s) g' key (upd x 2 (.num (Qcd s τ1).1)) (Qcd s τ1).2):=QLh (by rw[HE.out,es]);have HNM:=QLh (Qb9 cb rb s τ1 w4 HC4.out);clear es HE
     go_wp2_with fail
     refine HNM.out.mono ?_
     rintro e w5 ⟨rfl,hc,hg⟩
     have HC5:=QLh hc;have HG5:=QLh (HG4.out.trans hg);have hrec:=REC4.out.cur hg (by omega) (by omega);have REC5:=QLh hrec;have RES5:Hid (w5.heap[b0]?=some (.cells #[.string ⟨#[]⟩,.int .u64 0,.int .u64 0,.int .u64 0,.int .u64 0] 46 (0,0))):=QLh ((hg.block _ (lt_of_block RES4.out) (by omega) (by omega)).trans RES4.out)
     obtain⟨u,hu,-⟩:=hrec.get (by decide:2<5)
     have hfz:=hrec.free 2;clear hc hg hrec
     go_wp2
     go_roundg g'
     case rel=>exact⟨m+1,_,_,key,by omega,by go_num,rfl,HE2.out,HC5.out.setOff (by omega) (by omega) _,HG5.out.setNew (show w.heap.size≤b0+1 by have:=HB0.out;omega) _,REC5.out.set (by decide:2<5) rfl,HK.out.upd rfl,QLh (Qg RES5.out (by omega:b0≠b0+1) _)⟩
     case measure=>omega
    | false=>
     cases hq1:(key.toList == [107])with
     | true=>
      have es:sw (Z5 s) key x τ1=(upd x 4 (.num (Qcd s τ1).1),(Qcd s τ1).2):=by unfold Z5;simp only[sw,hq0,hq1,if_true,Bool.false_eq_true,if_false];rfl
      have HE2:Hid (Q0 s ⟨#[102,107,108,114,119]⟩ (Z5 s) N ⟨#[]⟩ Xl σ1=Q0 s ⟨#[102,107,108,114,119]⟩ (Z5 s) g' key (upd x 4 (.num (Qcd s τ1).1)) (Qcd s τ1).2):=QLh (by rw[HE.out,es]);have HNM:=QLh (Qb9 cb rb s τ1 w4 HC4.out);clear es HE
      go_wp2_with fail
      refine HNM.out.mono ?_
      rintro e w5 ⟨rfl,hc,hg⟩
      have HC5:=QLh hc;have HG5:=QLh (HG4.out.trans hg);have hrec:=REC4.out.cur hg (by omega) (by omega);have REC5:=QLh hrec;have RES5:Hid (w5.heap[b0]?=some (.cells #[.string ⟨#[]⟩,.int .u64 0,.int .u64 0,.int .u64 0,.int .u64 0] 46 (0,0))):=QLh ((hg.block _ (lt_of_block RES4.out) (by omega) (by omega)).trans RES4.out)
      obtain⟨u,hu,-⟩:=hrec.get (by decide:4<5)
      have hfz:=hrec.free 4;clear hc hg hrec
      go_wp2
      go_roundg g'
      case rel=>exact⟨m+1,_,_,key,by omega,by go_num,rfl,HE2.out,HC5.out.setOff (by omega) (by omega) _,HG5.out.setNew (show w.heap.size≤b0+1 by have:=HB0.out;omega) _,REC5.out.set (by decide:4<5) rfl,HK.out.upd rfl,QLh (Qg RES5.out (by omega:b0≠b0+1) _)⟩
      case measure=>omega
     | false=>
      cases hq2:(key.toList == [108])with
      | true=>
       have es:sw (Z5 s) key x τ1=(upd x 3 (.num (Qcd s τ1).1),(Qcd s τ1).2):=by unfold Z5;simp only[sw,hq0,hq1,hq2,if_true,Bool.false_eq_true,if_false];rfl
       have HE2:Hid (Q0 s ⟨#[102,107,108,114,119]⟩ (Z5 s) N ⟨#[]⟩ Xl σ1=Q0 s ⟨#[102,107,108,114,119]⟩ (Z5 s) g' key (upd x 3 (.num (Qcd s τ1).1)) (Qcd s τ1).2):=QLh (by rw[HE.out,es]);have HNM:=QLh (Qb9 cb rb s τ1 w4 HC4.out);clear es HE
       go_wp2_with fail
       refine HNM.out.mono ?_
       rintro e w5 ⟨rfl,hc,hg⟩
       have HC5:=QLh hc;have HG5:=QLh (HG4.out.trans hg);have hrec:=REC4.out.cur hg (by omega) (by omega);have REC5:=QLh hrec;have RES5:Hid (w5.heap[b0]?=some (.cells #[.string ⟨#[]⟩,.int .u64 0,.int .u64 0,.int .u64 0,.int .u64 0] 46 (0,0))):=QLh ((hg.block _ (lt_of_block RES4.out) (by omega) (by omega)).trans RES4.out)
       obtain⟨u,hu,-⟩:=hrec.get (by decide:3<5)
       have hfz:=hrec.free 3;clear hc hg hrec
       go_wp2
       go_roundg g'
       case rel=>exact⟨m+1,_,_,key,by omega,by go_num,rfl,HE2.out,HC5.out.setOff (by omega) (by omega) _,HG5.out.setNew (show w.heap.size≤b0+1 by have:=HB0.out;omega) _,REC5.out.set (by decide:3<5) rfl,HK.out.upd rfl,QLh (Qg RES5.out (by omega:b0≠b0+1) _)⟩
       case measure=>omega
      | false=>
       cases hq3:(key.toList == [114])with
       | true=>
        have es:sw (Z5 s) key x τ1=(upd x 0 (.str (Qep s τ1).1),(Qep s τ1).2):=by unfold Z5;simp only[sw,hq0,hq1,hq2,hq3,if_true,Bool.false_eq_true,if_false];rfl
        have HE2:Hid (Q0 s ⟨#[102,107,108,114,119]⟩ (Z5 s) N ⟨#[]⟩ Xl σ1=Q0 s ⟨#[102,107,108,114,119]⟩ (Z5 s) g' key (upd x 0 (.str (Qep s τ1).1)) (Qep s τ1).2):=QLh (by rw[HE.out,es]);have HNM:=QLh (Qlo cb rb s τ1 w4 HC4.out);clear es HE
        go_wp2_with fail
        refine HNM.out.mono ?_
        rintro e w5 ⟨rfl,hc,hg⟩
        have HC5:=QLh hc;have HG5:=QLh (HG4.out.trans hg);have hrec:=REC4.out.cur hg (by omega) (by omega);have REC5:=QLh hrec;have RES5:Hid (w5.heap[b0]?=some (.cells #[.string ⟨#[]⟩,.int .u64 0,.int .u64 0,.int .u64 0,.int .u64 0] 46 (0,0))):=QLh ((hg.block _ (lt_of_block RES4.out) (by omega) (by omega)).trans RES4.out)
        obtain⟨u,hu,-⟩:=hrec.get (by decide:0<5)
        have hfz:=hrec.free 0;clear hc hg hrec
        go_wp2
        go_roundg g'
        case rel=>exact⟨m+1,_,_,key,by omega,by go_num,rfl,HE2.out,HC5.out.setOff (by omega) (by omega) _,HG5.out.setNew (show w.heap.size≤b0+1 by have:=HB0.out;omega) _,REC5.out.set (by decide:0<5) rfl,HK.out.upd rfl,QLh (Qg RES5.out (by omega:b0≠b0+1) _)⟩
        case measure=>omega
       | false=>
        cases hq4:(key.toList == [119])with
        | true=>
         have es:sw (Z5 s) key x τ1=(upd x 1 (.num (Qcd s τ1).1),(Qcd s τ1).2):=by unfold Z5;simp only[sw,hq0,hq1,hq2,hq3,hq4,if_true,Bool.false_eq_true,if_false];rfl
         have HE2:Hid (Q0 s ⟨#[102,107,108,114,119]⟩ (Z5 s) N ⟨#[]⟩ Xl σ1=Q0 s ⟨#[102,107,108,114,119]⟩ (Z5 s) g' key (upd x 1 (.num (Qcd s τ1).1)) (Qcd s τ1).2):=QLh (by rw[HE.out,es]);have HNM:=QLh (Qb9 cb rb s τ1 w4 HC4.out);clear es HE
         go_wp2_with fail
         refine HNM.out.mono ?_
         rintro e w5 ⟨rfl,hc,hg⟩
         have HC5:=QLh hc;have HG5:=QLh (HG4.out.trans hg);have hrec:=REC4.out.cur hg (by omega) (by omega);have REC5:=QLh hrec;have RES5:Hid (w5.heap[b0]?=some (.cells #[.string ⟨#[]⟩,.int .u64 0,.int .u64 0,.int .u64 0,.int .u64 0] 46 (0,0))):=QLh ((hg.block _ (lt_of_block RES4.out) (by omega) (by omega)).trans RES4.out)
         obtain⟨u,hu,-⟩:=hrec.get (by decide:1<5)
         have hfz:=hrec.free 1;clear hc hg hrec
         go_wp2
         go_roundg g'
         case rel=>exact⟨m+1,_,_,key,by omega,by go_num,rfl,HE2.out,HC5.out.setOff (by omega) (by omega) _,HG5.out.setNew (show w.heap.size≤b0+1 by have:=HB0.out;omega) _,REC5.out.set (by decide:1<5) rfl,HK.out.upd rfl,QLh (Qg RES5.out (by omega:b0≠b0+1) _)⟩
         case measure=>omega
        | false=>
         have es:sw (Z5 s) key x τ1=(x,τ1):=by unfold Z5;simp only[sw,hq0,hq1,hq2,hq3,hq4,Bool.false_eq_true,if_false]
         have HE2:Hid (Q0 s ⟨#[102,107,108,114,119]⟩ (Z5 s) N ⟨#[]⟩ Xl σ1=Q0 s ⟨#[102,107,108,114,119]⟩ (Z5 s) g' key x τ1):=QLh (by rw[HE.out,es]);clear es HE
         go_wp2
         go_roundg g'
         case rel=>exact⟨m+1,_,_,key,by omega,by go_num,rfl,HE2.out,HC4.out,HG4.out,REC4.out,HK.out,RES4.out⟩
         case measure=>omega
  ·obtain rfl:m=N:=by omega
   have i1:¬((m:Nat):Int)<m:=by omega
   obtain rfl:gk=0:=by omega
   obtain⟨w3,hw3⟩:∃w3,w3=wr:=⟨_,rfl⟩
   subst hw3
   have HE:Hid (Q0 s ⟨#[102,107,108,114,119]⟩ (Z5 s) m ⟨#[]⟩ Xl σ1=(x,τ)):=QLh HD.out;clear HD
   obtain⟨_,hth,-⟩:=Qby REC.out HK.out
   have m0:w3.cell? ⟨b0+1,0,none⟩=some (.string (x 0).s):=Qa hth 0;have HF:=QLh (Jf cb rb s τ (Qf6 x) 5 w3 HC.out (by decide))
   go_wp2_with fail
   refine HF.out.mono ?_
   rintro e w5 ⟨rfl,hc,hg⟩
   have HC5:=QLh hc;have HG5:=QLh (HG.out.trans hg);have RES5:Hid (w5.heap[b0]?=some (.cells #[.string ⟨#[]⟩,.int .u64 0,.int .u64 0,.int .u64 0,.int .u64 0] 46 (0,0))):=QLh ((hg.block _ (lt_of_block RES.out) (by omega) (by omega)).trans RES.out)
   obtain⟨_,hth,-⟩:=Qby (REC.out.cur hg (by omega) (by omega)) HK.out
   have k0:w5.cell? ⟨b0+1,0,none⟩=some (.string (x 0).s):=Qa hth 0;have k1:w5.cell? ⟨b0+1,1,none⟩=some (.int .u64 (x 1).n):=Qa hth 1;have k2:w5.cell? ⟨b0+1,2,none⟩=some (.int .u64 (x 2).n):=Qa hth 2;have k3:w5.cell? ⟨b0+1,3,none⟩=some (.int .u64 (x 3).n):=Qa hth 3;have k4:w5.cell? ⟨b0+1,4,none⟩=some (.int .u64 (x 4).n):=Qa hth 4;have g0:∀o,w5.cell? ⟨b0,o,none⟩=_:=Qa RES5.out;have g1:∀o,w5.frozen? ⟨b0,o,none⟩=false:=Qj RES5.out;have g2:b0<w5.heap.size:=lt_of_block RES5.out;clear hc hg hth m0
   go_wp2
   have hb:=(Qb (Qb (Qb (Qb (Qb RES5.out (o:=0) (.string (x 0).s)) (o:=1) (.int .u64 (x 1).n)) (o:=2) (.int .u64 (x 2).n)) (o:=3) (.int .u64 (x 3).n)) (o:=4) (.int .u64 (x 4).n));have d:∀o,_=_:=Qa hb
   refine bodyPost_ret (v:=.agg (Xm x)) ?_ rfl ?_
   ·simp[results,Tryz.results69,go_sem,d]
   ·rw[HE.out]
    exact⟨rfl,HK.out,(CurIs.setOff (CurIs.setOff (CurIs.setOff (CurIs.setOff (CurIs.setOff HC5.out hcb hrb _) hcb hrb _) hcb hrb _) hcb hrb _) hcb hrb _),(Chg.setNew (Chg.setNew (Chg.setNew (Chg.setNew (Chg.setNew HG5.out (show w.heap.size≤b0 by have:=HB0.out;omega) _) (show w.heap.size≤b0 by have:=HB0.out;omega) _) (show w.heap.size≤b0 by have:=HB0.out;omega) _) (show w.heap.size≤b0 by have:=HB0.out;omega) _) (show w.heap.size≤b0 by have:=HB0.out;omega) _)⟩
end Go.Proofs.YtihiaopilnjonaaGreatDoor

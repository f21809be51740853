/- Parts of the proof, one behind the other. -/
import Derived.Test.YtihiaopilnjonaaGreatDoorWceP5
import Derived.BigRegion
import Derived.StillTailTactics
namespace Go.Proofs.YtihiaopilnjonaaGreatDoor
open Go.RowKit
set_option linter.unusedSimpArgs false
set_option linter.unusedVariables false
set_option maxRecDepth 100000
set_option maxHeartbeats 8000000
attribute [local go_sem] pt
abbrev Qh5(x:Rcd)(a4:Option Addr)(c4:Nat)(a5:Option Addr)(c5:Nat):Array Value:=#[.int .u64 (x 0).n,.int .u64 (x 1).n,.bool (x 2).q,.int .u64 (x 3).n,.slice a4 (len (x 4).l) c4,.slice a5 (len (x 5).l) c5,.string (x 6).s,.int .u64 (x 7).n,.int .u64 (x 8).n,.int .u64 (x 9).n,.int .u64 (x 10).n]
theorem Qat{rb tb:Nat}{w:World}{x:Rcd}(h:RecAt rb tb 48 11 w x)(hk:Kd Jq x):∃(a4:Option Addr) (c4:Nat) (a5:Option Addr) (c5:Nat),w.heap[tb]?=some (.cells (Qh5 x a4 c4 a5 c5) 48 (0,0))∧HoldsD rb tb w (.slice a4 (len (x 4).l) c4) (x 4)∧HoldsD rb tb w (.slice a5 (len (x 5).l) c5) (x 5):=by
 obtain⟨cs,h1,h2,h3⟩:=h
 obtain⟨m0,e0⟩:=hk.num (show Zj (Jq 0)=_ from rfl)
 obtain⟨u0,g0,d0⟩:=h3 0 (by decide)
 rw[e0]at d0
 simp only[HoldsD]at d0
 subst d0
 obtain⟨m1,e1⟩:=hk.num (show Zj (Jq 1)=_ from rfl)
 obtain⟨u1,g1,d1⟩:=h3 1 (by decide)
 rw[e1]at d1
 simp only[HoldsD]at d1
 subst d1
 obtain⟨m2,e2⟩:=hk.flag (show Zj (Jq 2)=_ from rfl)
 obtain⟨u2,g2,d2⟩:=h3 2 (by decide)
 rw[e2]at d2
 simp only[HoldsD]at d2
 subst d2
 obtain⟨m3,e3⟩:=hk.num (show Zj (Jq 3)=_ from rfl)
 obtain⟨u3,g3,d3⟩:=h3 3 (by decide)
 rw[e3]at d3
 simp only[HoldsD]at d3
 subst d3
 obtain⟨m4,e4⟩:=hk.strs (show Zj (Jq 4)=_ from rfl)
 obtain⟨u4,g4,d4⟩:=h3 4 (by decide)
 have D4:=d4
 rw[e4]at d4
 obtain⟨a4,c4,q4,-⟩:=d4
 subst q4
 obtain⟨m5,e5⟩:=hk.strs (show Zj (Jq 5)=_ from rfl)
 obtain⟨u5,g5,d5⟩:=h3 5 (by decide)
 have D5:=d5
 rw[e5]at d5
 obtain⟨a5,c5,q5,-⟩:=d5
 subst q5
 obtain⟨m6,e6⟩:=hk.str (show Zj (Jq 6)=_ from rfl)
 obtain⟨u6,g6,d6⟩:=h3 6 (by decide)
 rw[e6]at d6
 simp only[HoldsD]at d6
 subst d6
 obtain⟨m7,e7⟩:=hk.num (show Zj (Jq 7)=_ from rfl)
 obtain⟨u7,g7,d7⟩:=h3 7 (by decide)
 rw[e7]at d7
 simp only[HoldsD]at d7
 subst d7
 obtain⟨m8,e8⟩:=hk.num (show Zj (Jq 8)=_ from rfl)
 obtain⟨u8,g8,d8⟩:=h3 8 (by decide)
 rw[e8]at d8
 simp only[HoldsD]at d8
 subst d8
 obtain⟨m9,e9⟩:=hk.num (show Zj (Jq 9)=_ from rfl)
 obtain⟨u9,g9,d9⟩:=h3 9 (by decide)
 rw[e9]at d9
 simp only[HoldsD]at d9
 subst d9
 obtain⟨m10,e10⟩:=hk.num (show Zj (Jq 10)=_ from rfl)
 obtain⟨u10,g10,d10⟩:=h3 10 (by decide)
 rw[e10]at d10
 simp only[HoldsD]at d10
 subst d10
 refine⟨a4,c4,a5,c5,?_,?_,?_⟩
 ·rw[h1];congr 2;apply Array.ext_getElem?;intro i
  match i with
  | 0=>rw[g0];simp[e0,DV.n,DV.q,DV.s,DV.l]
  | 1=>rw[g1];simp[e1,DV.n,DV.q,DV.s,DV.l]
  | 2=>rw[g2];simp[e2,DV.n,DV.q,DV.s,DV.l]
  | 3=>rw[g3];simp[e3,DV.n,DV.q,DV.s,DV.l]
  | 4=>rw[g4];simp[e4,DV.n,DV.q,DV.s,DV.l]
  | 5=>rw[g5];simp[e5,DV.n,DV.q,DV.s,DV.l]
  | 6=>rw[g6];simp[e6,DV.n,DV.q,DV.s,DV.l]
  | 7=>rw[g7];simp[e7,DV.n,DV.q,DV.s,DV.l]
  | 8=>rw[g8];simp[e8,DV.n,DV.q,DV.s,DV.l]
  | 9=>rw[g9];simp[e9,DV.n,DV.q,DV.s,DV.l]
  | 10=>rw[g10];simp[e10,DV.n,DV.q,DV.s,DV.l]
  | i+11=>rw[Array.getElem?_eq_none (by omega)];simp
 ·have:=D4;rw[e4]at this ⊢;exact this
 ·have:=D5;rw[e5]at this ⊢;exact this
theorem Qzu(x y:Rcd):Ql0 6 5 x y=upd (upd (upd (upd (upd x 6 (y 0)) 7 (y 1)) 8 (y 2)) 9 (y 3)) 10 (y 4):=funext λ i=>by
 by_cases h4:i=10
 ·subst h4;rw[Xc];exact Qah (o:=6) (k:=5) (i:=4) (by decide)
 ·rw[Zg h4]
  by_cases h3:i=9
  ·subst h3;rw[Xc];exact Qah (o:=6) (k:=5) (i:=3) (by decide)
  ·rw[Zg h3]
   by_cases h2:i=8
   ·subst h2;rw[Xc];exact Qah (o:=6) (k:=5) (i:=2) (by decide)
   ·rw[Zg h2]
    by_cases h1:i=7
    ·subst h1;rw[Xc];exact Qah (o:=6) (k:=5) (i:=1) (by decide)
    ·rw[Zg h1]
     by_cases h0:i=6
     ·subst h0;rw[Xc];exact Qah (o:=6) (k:=5) (i:=0) (by decide)
     ·rw[Zg h0]
      exact Qgi (by omega)
theorem Qzv(x y:Rcd):Ql0 1 5 x y=upd (upd (upd (upd (upd x 1 (y 0)) 2 (y 1)) 3 (y 2)) 4 (y 3)) 5 (y 4):=funext λ i=>by
 by_cases h4:i=5
 ·subst h4;rw[Xc];exact Qah (o:=1) (k:=5) (i:=4) (by decide)
 ·rw[Zg h4]
  by_cases h3:i=4
  ·subst h3;rw[Xc];exact Qah (o:=1) (k:=5) (i:=3) (by decide)
  ·rw[Zg h3]
   by_cases h2:i=3
   ·subst h2;rw[Xc];exact Qah (o:=1) (k:=5) (i:=2) (by decide)
   ·rw[Zg h2]
    by_cases h1:i=2
    ·subst h1;rw[Xc];exact Qah (o:=1) (k:=5) (i:=1) (by decide)
    ·rw[Zg h1]
     by_cases h0:i=1
     ·subst h0;rw[Xc];exact Qah (o:=1) (k:=5) (i:=0) (by decide)
     ·rw[Zg h0]
      exact Qgi (by omega)
def Qzw(y:Rcd)(σ:Cst)(cb rb:Nat)(s:ByteArray)(w:World)(e:Ending)(w':World):Prop:=∃a4 c4 a5 c5,e=.returned (.agg (Qh5 y a4 c4 a5 c5))∧Kd Jq y∧Qeq w.heap.size w' (.slice a4 (len (y 4).l) c4) (y 4)∧Qeq w.heap.size w' (.slice a5 (len (y 5).l) c5) (y 5)∧CurIs w' cb rb s σ∧Chg rb cb w w'
theorem Qoz(cb rb:Nat)(s:ByteArray)(σ:Cst)(w:World)(h:CurIs w cb rb s σ)(hs:s.size<65536):
  Calls Tryz.prog 163 #[pt cb 0] w (Qzw (Qu2 s σ).1 (Qu2 s σ).2 cb rb s w):=by
 have hcs:=h.clt;have hrs:=h.rlt;have h1:=fun (w':World) (hb:Below w.heap.size w w')=>Qcu cb rb s σ w' (h.below hb);have hbd:=Qcv (s:=s) (σ:=σ)
 unfold Qu2 Qhf
 generalize Qay s σ=z at h1 hbd ⊢
 obtain⟨k0,σ1⟩:=z
 obtain⟨N,rfl⟩:∃k:Nat,k0=k:=⟨k0.toNat,by have:=hbd.1;simp only at this ⊢;omega⟩
 have hN:N≤10240:=by have:=hbd.2;simp only at this;omega
 have H:=QLh h1;have HSZ:=QLh hs;clear h1 h hbd
 simp only[Int.toNat_natCast]
 go_enter Tryz.func163,Tryz.ntmps163
 go_upto_region 2 with fail
 obtain⟨b0,hb0⟩:∃b0,w.heap.size=b0:=⟨_,rfl⟩
 obtain⟨V,hV⟩:∃V,(w.alloc (.cells #[.int .u64 0,.int .u64 0,.bool false,.int .u64 0,.slice none 0 0,.slice none 0 0,.string ⟨#[]⟩,.int .u64 0,.int .u64 0,.int .u64 0,.int .u64 0] 48)).alloc (.cells #[.int .u64 0,.int .u64 0,.bool false,.int .u64 0,.slice none 0 0,.slice none 0 0,.string ⟨#[]⟩,.int .u64 0,.int .u64 0,.int .u64 0,.int .u64 0] 48)=V:=⟨_,rfl⟩
 have HV:Hid (Below w.heap.size w V):=QLh (by rw[←hV];exact Qh (Qh (Below.refl _ _) _) _);have V0:Hid (V.heap[b0]?=some (.cells #[.int .u64 0,.int .u64 0,.bool false,.int .u64 0,.slice none 0 0,.slice none 0 0,.string ⟨#[]⟩,.int .u64 0,.int .u64 0,.int .u64 0,.int .u64 0] 48 (0,0))):=QLh (by rw[←hV,←hb0];exact Qf (heap_alloc_new _ _) _);have V1:Hid (V.heap[b0+1]?=some (.cells #[.int .u64 0,.int .u64 0,.bool false,.int .u64 0,.slice none 0 0,.slice none 0 0,.string ⟨#[]⟩,.int .u64 0,.int .u64 0,.int .u64 0,.int .u64 0] 48 (0,0))):=QLh (by rw[←hV];exact Qi _ (by simp[hb0]));have REC:Hid (RecAt rb (b0+1) 48 11 V Jq):=QLh (Qbo V1.out rfl (λ i hi=>by
  match i,hi with
  | 0,_=>exact⟨_,rfl,rfl⟩
  | 1,_=>exact⟨_,rfl,rfl⟩
  | 2,_=>exact⟨_,rfl,rfl⟩
  | 3,_=>exact⟨_,rfl,rfl⟩
  | 4,_=>exact⟨_,rfl,rfl,rfl⟩
  | 5,_=>exact⟨_,rfl,rfl,rfl⟩
  | 6,_=>exact⟨_,rfl,rfl⟩
  | 7,_=>exact⟨_,rfl,rfl⟩
  | 8,_=>exact⟨_,rfl,rfl⟩
  | 9,_=>exact⟨_,rfl,rfl⟩
  | 10,_=>exact⟨_,rfl,rfl⟩))
 have HB0:=QLh hb0;have hcb:cb<b0:=by omega
 have hrb:rb<b0:=by omega
 try rw[hV]
 try simp only[hb0]
 clear hV hb0
 go_wp2_with fail
 refine(H.out V HV.out).mono ?_
 rintro e w1 ⟨rfl,hc,hg⟩
 have HC1:=QLh hc;have HG1:Hid (Chg rb cb w w1):=QLh ((Chg.of_below HV.out).trans hg);have RES1:Hid (w1.heap[b0]?=some (.cells #[.int .u64 0,.int .u64 0,.bool false,.int .u64 0,.slice none 0 0,.slice none 0 0,.string ⟨#[]⟩,.int .u64 0,.int .u64 0,.int .u64 0,.int .u64 0] 48 (0,0))):=QLh ((hg.block _ (lt_of_block V0.out) (by omega) (by omega)).trans V0.out);have REC1:Hid (RecAt rb (b0+1) 48 11 w1 Jq):=QLh (REC.out.cur hg (by omega) (by omega));clear hc hg H V0 V1 REC
 go_wp2
 go_loopg [5,6] N (λ gg lv i wr=>∃(m:Nat) (τ:Cst) (x:Rcd) (last:ByteArray),gg+m=N∧i=.int .u64 m∧lv=.string last∧Hid (Q0 s ⟨#[112,113,115]⟩ (Jo s) N ⟨#[]⟩ Jq σ1=Q0 s ⟨#[112,113,115]⟩ (Jo s) gg last x τ)∧Hid (CurIs wr cb rb s τ)∧Hid (Chg rb cb w wr)∧Hid (RecAt rb (b0+1) 48 11 wr x)∧Hid (Kd Jq x)∧Hid (wr.heap[b0]?=some (.cells #[.int .u64 0,.int .u64 0,.bool false,.int .u64 0,.slice none 0 0,.slice none 0 0,.string ⟨#[]⟩,.int .u64 0,.int .u64 0,.int .u64 0,.int .u64 0] 48 (0,0))))
 case atStart=>exact⟨0,σ1,Jq,⟨#[]⟩,rfl,rfl,rfl,rfl,HC1.out,HG1.out,REC1.out,λ i=>rfl,RES1.out⟩
 case round=>
  clear HC1 HG1 RES1 REC1
  obtain⟨m,τ,x,last,hm,rfl,rfl,HD,HC,HG,REC,HK,RES⟩:=hrel
  by_cases hlt:m<N
  ·obtain⟨g',rfl⟩:∃g',gk=g'+1:=⟨gk - 1,by omega⟩
   have i1:(m:Int)<N:=by omega
   have HB:=QLh (Qb1 cb rb s τ _ HC.out)
   go_wp2_with fail
   refine HB.out.mono ?_
   rintro e w3 ⟨rfl,rfl⟩
   cases τ with
   | error f=>
    simp only[Qb0]
    have HE:Hid (Q0 s ⟨#[112,113,115]⟩ (Jo s) N ⟨#[]⟩ Jq σ1=(x,.error f)):=QLh (by rw[HD.out,Jd]);clear HB HD
    obtain⟨a4,c4,a5,c5,hth,-,-⟩:=Qat REC.out HK.out
    have m6:w3.cell? ⟨b0+1,6,none⟩=some (.string (x 6).s):=Qa hth 6;have HF:=QLh (Jf cb rb s (.error f) (Qjh x) 5 w3 HC.out (by decide));clear hth
    go_wp2_with fail
    refine HF.out.mono ?_
    rintro e w5 ⟨rfl,hc,hg⟩
    have HC5:=QLh hc;have HG5:=QLh (HG.out.trans hg);have RES5:Hid (w5.heap[b0]?=some (.cells #[.int .u64 0,.int .u64 0,.bool false,.int .u64 0,.slice none 0 0,.slice none 0 0,.string ⟨#[]⟩,.int .u64 0,.int .u64 0,.int .u64 0,.int .u64 0] 48 (0,0))):=QLh ((hg.block _ (lt_of_block RES.out) (by omega) (by omega)).trans RES.out)
    obtain⟨a4,c4,a5,c5,hth,hl1,hl2⟩:=Qat (REC.out.cur hg (by omega) (by omega)) HK.out
    have k0:w5.cell? ⟨b0+1,0,none⟩=some (.int .u64 (x 0).n):=Qa hth 0;have k1:w5.cell? ⟨b0+1,1,none⟩=some (.int .u64 (x 1).n):=Qa hth 1;have k2:w5.cell? ⟨b0+1,2,none⟩=some (.bool (x 2).q):=Qa hth 2;have k3:w5.cell? ⟨b0+1,3,none⟩=some (.int .u64 (x 3).n):=Qa hth 3;have k4:w5.cell? ⟨b0+1,4,none⟩=some (.slice a4 (len (x 4).l) c4):=Qa hth 4;have k5:w5.cell? ⟨b0+1,5,none⟩=some (.slice a5 (len (x 5).l) c5):=Qa hth 5;have k6:w5.cell? ⟨b0+1,6,none⟩=some (.string (x 6).s):=Qa hth 6;have k7:w5.cell? ⟨b0+1,7,none⟩=some (.int .u64 (x 7).n):=Qa hth 7;have k8:w5.cell? ⟨b0+1,8,none⟩=some (.int .u64 (x 8).n):=Qa hth 8;have k9:w5.cell? ⟨b0+1,9,none⟩=some (.int .u64 (x 9).n):=Qa hth 9;have k10:w5.cell? ⟨b0+1,10,none⟩=some (.int .u64 (x 10).n):=Qa hth 10;have g0:∀o,w5.cell? ⟨b0,o,none⟩=_:=Qa RES5.out;have g1:∀o,w5.frozen? ⟨b0,o,none⟩=false:=Qj RES5.out;have g2:b0<w5.heap.size:=lt_of_block RES5.out;have HL1:=QLh hl1;have HL2:=QLh hl2;clear hc hg hth m6 hl1 hl2
    go_wp2
    have hw0:w.heap.size≤b0:=by have:=HB0.out;omega
    have hb:=(Qb (Qb (Qb (Qb (Qb (Qb (Qb (Qb (Qb (Qb (Qb RES5.out (o:=0) (.int .u64 (x 0).n)) (o:=1) (.int .u64 (x 1).n)) (o:=2) (.bool (x 2).q)) (o:=3) (.int .u64 (x 3).n)) (o:=4) (.slice a4 (len (x 4).l) c4)) (o:=5) (.slice a5 (len (x 5).l) c5)) (o:=6) (.string (x 6).s)) (o:=7) (.int .u64 (x 7).n)) (o:=8) (.int .u64 (x 8).n)) (o:=9) (.int .u64 (x 9).n)) (o:=10) (.int .u64 (x 10).n));have d:∀o,_=_:=Qa hb
    refine bodyPost_ret (v:=.agg (Qh5 x a4 c4 a5 c5)) ?_ rfl ?_
    ·simp[results,Tryz.results163,go_sem,d]
    ·rw[HE.out]
     have hk2:∀b,b0+1<b→(((((((((((w5.setCell ⟨b0,0,none⟩ (.int .u64 (x 0).n)).setCell ⟨b0,1,none⟩ (.int .u64 (x 1).n)).setCell ⟨b0,2,none⟩ (.bool (x 2).q)).setCell ⟨b0,3,none⟩ (.int .u64 (x 3).n)).setCell ⟨b0,4,none⟩ (.slice a4 (len (x 4).l) c4)).setCell ⟨b0,5,none⟩ (.slice a5 (len (x 5).l) c5)).setCell ⟨b0,6,none⟩ (.string (x 6).s)).setCell ⟨b0,7,none⟩ (.int .u64 (x 7).n)).setCell ⟨b0,8,none⟩ (.int .u64 (x 8).n)).setCell ⟨b0,9,none⟩ (.int .u64 (x 9).n)).setCell ⟨b0,10,none⟩ (.int .u64 (x 10).n)).heap[b]?=w5.heap[b]?:=λ b hb=>by repeat rw[Below.heap_setCell _ _ _ _ (by omega:b≠b0)]
     exact⟨_,_,_,_,rfl,HK.out,λ r t hr ht=>((HL1.out).keep2 (λ b _ h9 _=>hk2 b h9)).any (by have:=HB0.out;omega) (by have:=HB0.out;omega),λ r t hr ht=>((HL2.out).keep2 (λ b _ h9 _=>hk2 b h9)).any (by have:=HB0.out;omega) (by have:=HB0.out;omega),(CurIs.setOff (CurIs.setOff (CurIs.setOff (CurIs.setOff (CurIs.setOff (CurIs.setOff (CurIs.setOff (CurIs.setOff (CurIs.setOff (CurIs.setOff (CurIs.setOff HC5.out hcb hrb _) hcb hrb _) hcb hrb _) hcb hrb _) hcb hrb _) hcb hrb _) hcb hrb _) hcb hrb _) hcb hrb _) hcb hrb _) hcb hrb _),(Chg.setNew (Chg.setNew (Chg.setNew (Chg.setNew (Chg.setNew (Chg.setNew (Chg.setNew (Chg.setNew (Chg.setNew (Chg.setNew (Chg.setNew HG5.out hw0 _) hw0 _) hw0 _) hw0 _) hw0 _) hw0 _) hw0 _) hw0 _) hw0 _) hw0 _) hw0 _)⟩
   | ok a=>
    simp only[Qb0]
    have HKY:=QLh (Qf3 cb rb s ⟨#[112,113,115]⟩ last (.ok a) w3 HC.out (by decide));have HE:Hid (Q0 s ⟨#[112,113,115]⟩ (Jo s) N ⟨#[]⟩ Jq σ1=Q0 s ⟨#[112,113,115]⟩ (Jo s) g' (Qaz s ⟨#[112,113,115]⟩ last (.ok a)).1 (sw (Jo s) (Qaz s ⟨#[112,113,115]⟩ last (.ok a)).1 x (Qaz s ⟨#[112,113,115]⟩ last (.ok a)).2).1 (sw (Jo s) (Qaz s ⟨#[112,113,115]⟩ last (.ok a)).1 x (Qaz s ⟨#[112,113,115]⟩ last (.ok a)).2).2):=QLh HD.out;clear HB HD
    go_wp2_with fail
    refine HKY.out.mono ?_
    rintro e w4 ⟨rfl,hc,hg⟩
    have HC4:=QLh hc;have HG4:Hid (Chg rb cb w w4):=QLh (HG.out.trans hg);have REC4:=QLh (REC.out.cur hg (by omega) (by omega));have RES4:Hid (w4.heap[b0]?=some (.cells #[.int .u64 0,.int .u64 0,.bool false,.int .u64 0,.slice none 0 0,.slice none 0 0,.string ⟨#[]⟩,.int .u64 0,.int .u64 0,.int .u64 0,.int .u64 0] 48 (0,0))):=QLh ((hg.block _ (lt_of_block RES.out) (by omega) (by omega)).trans RES.out);clear hc hg HKY HC HG REC RES
    obtain⟨key,hkey⟩:∃key,(Qaz s ⟨#[112,113,115]⟩ last (.ok a)).1=key:=⟨_,rfl⟩
    obtain⟨τ1,hτ1⟩:∃τ1,(Qaz s ⟨#[112,113,115]⟩ last (.ok a)).2=τ1:=⟨_,rfl⟩
    have HE:Hid (Q0 s ⟨#[112,113,115]⟩ (Jo s) N ⟨#[]⟩ Jq σ1=Q0 s ⟨#[112,113,115]⟩ (Jo s) g' key (sw (Jo s) key x τ1).1 (sw (Jo s) key x τ1).2):=QLh (by have:=HE.out;rw[hkey,hτ1]at this;exact this);have HC4:Hid (CurIs w4 cb rb s τ1):=QLh (by rw[←hτ1];exact HC4.out)
    rw[hkey]
    clear hkey hτ1
    cases hq0:(key.toList == [112])with
    | true=>
     have es:sw (Jo s) key x τ1=(upd x 0 (.num (Qcd s τ1).1),(Qcd s τ1).2):=by unfold Jo;simp only[sw,hq0,if_true,Bool.false_eq_true,if_false];rfl
     have HE2:Hid (Q0 s ⟨#[112,113,115]⟩ (Jo s) N ⟨#[]⟩ Jq σ1=Q0 s ⟨#[112,113,115]⟩ (Jo s) g' key (upd x 0 (.num (Qcd s τ1).1)) (Qcd s τ1).2):=QLh (by rw[HE.out,es]);have HNM:=QLh (Qb9 cb rb s τ1 w4 HC4.out);clear es HE
     go_wp2_with fail
     refine HNM.out.mono ?_
     rintro e w5 ⟨rfl,hc,hg⟩
     have HC5:=QLh hc;have HG5:=QLh (HG4.out.trans hg);have hrec:=REC4.out.cur hg (by omega) (by omega);have REC5:=QLh hrec;have RES5:Hid (w5.heap[b0]?=some (.cells #[.int .u64 0,.int .u64 0,.bool false,.int .u64 0,.slice none 0 0,.slice none 0 0,.string ⟨#[]⟩,.int .u64 0,.int .u64 0,.int .u64 0,.int .u64 0] 48 (0,0))):=QLh ((hg.block _ (lt_of_block RES4.out) (by omega) (by omega)).trans RES4.out)
     obtain⟨u,hu,-⟩:=hrec.get (by decide:0<11)
     have hfz:=hrec.free 0;clear hc hg hrec
     go_wp2
     go_roundg g'
     case rel=>exact⟨m+1,_,_,key,by omega,by go_num,rfl,HE2.out,HC5.out.setOff (by omega) (by omega) _,HG5.out.setNew (show w.heap.size≤b0+1 by have:=HB0.out;omega) _,REC5.out.set (by decide:0<11) rfl,HK.out.upd rfl,QLh (Qg RES5.out (by omega:b0≠b0+1) _)⟩
     case measure=>omega
    | false=>
     cases hq1:(key.toList == [113])with
     | true=>
      have es:sw (Jo s) key x τ1=(Ql0 6 5 x (Qfc s τ1).1,Xy (noZ (Qfc s τ1).1) 5 (Qfc s τ1).2):=by unfold Jo;simp only[sw,hq0,hq1,if_true,Bool.false_eq_true,if_false];rfl
      have HE2:Hid (Q0 s ⟨#[112,113,115]⟩ (Jo s) N ⟨#[]⟩ Jq σ1=Q0 s ⟨#[112,113,115]⟩ (Jo s) g' key (Ql0 6 5 x (Qfc s τ1).1) (Xy (noZ (Qfc s τ1).1) 5 (Qfc s τ1).2)):=QLh (by rw[HE.out,es]);have HNM:=QLh (Qua cb rb s τ1 w4 HC4.out);have HIV:=QLh (Qlv s τ1);clear es HE
      go_wp2_with fail
      refine HNM.out.mono ?_
      rintro e w5 ⟨rfl,hkd,hc,hg⟩
      generalize Qfc s τ1=z at HE2 HIV  hc hkd ⊢
      obtain⟨y,τ2⟩:=z
      have KY:Kd Xl y:=hkd;have HC5:=QLh hc;have HG5:=QLh (HG4.out.trans hg);have hrec:=REC4.out.cur hg (by omega) (by omega);have REC5:=QLh hrec;have RES5:Hid (w5.heap[b0]?=some (.cells #[.int .u64 0,.int .u64 0,.bool false,.int .u64 0,.slice none 0 0,.slice none 0 0,.string ⟨#[]⟩,.int .u64 0,.int .u64 0,.int .u64 0,.int .u64 0] 48 (0,0))):=QLh ((hg.block _ (lt_of_block RES4.out) (by omega) (by omega)).trans RES4.out)
      obtain⟨_,hu0,-⟩:=hrec.get (by decide:6<11)
      obtain⟨_,hu1,-⟩:=hrec.get (by decide:7<11)
      obtain⟨_,hu2,-⟩:=hrec.get (by decide:8<11)
      obtain⟨_,hu3,-⟩:=hrec.get (by decide:9<11)
      obtain⟨_,hu4,-⟩:=hrec.get (by decide:10<11)
      have hfz:=hrec.free;clear hc hg hrec hkd HNM
      dsimp only at HE2 HIV HC5 ⊢
      go_upto_region 6 with fail
      obtain⟨U,hU⟩:∃U,((((w5.setCell ⟨b0+1,6,none⟩ (.string (y 0).s)).setCell ⟨b0+1,7,none⟩ (.int .u64 (y 1).n)).setCell ⟨b0+1,8,none⟩ (.int .u64 (y 2).n)).setCell ⟨b0+1,9,none⟩ (.int .u64 (y 3).n)).setCell ⟨b0+1,10,none⟩ (.int .u64 (y 4).n)=U:=⟨_,rfl⟩
      have hl:w.heap.size≤b0+1:=by have:=HB0.out;omega
      have HC6:Hid (CurIs U cb rb s τ2):=QLh (by rw[←hU];exact(CurIs.setOff (CurIs.setOff (CurIs.setOff (CurIs.setOff (CurIs.setOff HC5.out (by omega) (by omega) _) (by omega) (by omega) _) (by omega) (by omega) _) (by omega) (by omega) _) (by omega) (by omega) _));have HG6:Hid (Chg rb cb w U):=QLh (by rw[←hU];exact(Chg.setNew (Chg.setNew (Chg.setNew (Chg.setNew (Chg.setNew HG5.out hl _) hl _) hl _) hl _) hl _));have hy0:Hid (y 0=.str (y 0).s):=QLh (by obtain⟨n,e0⟩:=KY.str (o:=0) rfl;rw[e0];rfl);have hy1:Hid (y 1=.num (y 1).n):=QLh (by obtain⟨n,e0⟩:=KY.num (o:=1) rfl;rw[e0];rfl);have hy2:Hid (y 2=.num (y 2).n):=QLh (by obtain⟨n,e0⟩:=KY.num (o:=2) rfl;rw[e0];rfl);have hy3:Hid (y 3=.num (y 3).n):=QLh (by obtain⟨n,e0⟩:=KY.num (o:=3) rfl;rw[e0];rfl);have hy4:Hid (y 4=.num (y 4).n):=QLh (by obtain⟨n,e0⟩:=KY.num (o:=4) rfl;rw[e0];rfl);have k1:Chg rb (b0+1) w5 (w5.setCell ⟨b0+1,6,none⟩ (.string (y 0).s)):=(Chg.refl rb (b0+1) w5).set 6 _;have k2:Chg rb (b0+1) w5 ((w5.setCell ⟨b0+1,6,none⟩ (.string (y 0).s)).setCell ⟨b0+1,7,none⟩ (.int .u64 (y 1).n)):=(k1).set 7 _;have k3:Chg rb (b0+1) w5 (((w5.setCell ⟨b0+1,6,none⟩ (.string (y 0).s)).setCell ⟨b0+1,7,none⟩ (.int .u64 (y 1).n)).setCell ⟨b0+1,8,none⟩ (.int .u64 (y 2).n)):=(k2).set 8 _;have k4:Chg rb (b0+1) w5 ((((w5.setCell ⟨b0+1,6,none⟩ (.string (y 0).s)).setCell ⟨b0+1,7,none⟩ (.int .u64 (y 1).n)).setCell ⟨b0+1,8,none⟩ (.int .u64 (y 2).n)).setCell ⟨b0+1,9,none⟩ (.int .u64 (y 3).n)):=(k3).set 9 _;have k5:Chg rb (b0+1) w5 (((((w5.setCell ⟨b0+1,6,none⟩ (.string (y 0).s)).setCell ⟨b0+1,7,none⟩ (.int .u64 (y 1).n)).setCell ⟨b0+1,8,none⟩ (.int .u64 (y 2).n)).setCell ⟨b0+1,9,none⟩ (.int .u64 (y 3).n)).setCell ⟨b0+1,10,none⟩ (.int .u64 (y 4).n)):=(k4).set 10 _;have k6:Chg rb (b0+1) w5 U:=by rw[←hU];exact k5
      have REC6:Hid (RecAt rb (b0+1) 48 11 U (upd (upd (upd (upd (upd x 6 (y 0)) 7 (y 1)) 8 (y 2)) 9 (y 3)) 10 (y 4))):=QLh (by rw[←hU];exact(RecAt.set (RecAt.set (RecAt.set (RecAt.set (RecAt.set REC5.out (by decide:6<11) (by rw[hy0.out];rfl)) (by decide:7<11) (by rw[hy1.out];rfl)) (by decide:8<11) (by rw[hy2.out];rfl)) (by decide:9<11) (by rw[hy3.out];rfl)) (by decide:10<11) (by rw[hy4.out];rfl)));have RES6:Hid (U.heap[b0]?=some (.cells #[.int .u64 0,.int .u64 0,.bool false,.int .u64 0,.slice none 0 0,.slice none 0 0,.string ⟨#[]⟩,.int .u64 0,.int .u64 0,.int .u64 0,.int .u64 0] 48 (0,0))):=QLh (by rw[←hU];exact(Qg (Qg (Qg (Qg (Qg RES5.out (by omega:b0≠b0+1) _) (by omega:b0≠b0+1) _) (by omega:b0≠b0+1) _) (by omega:b0≠b0+1) _) (by omega:b0≠b0+1) _));have HK6:Hid (Kd Jq (upd (upd (upd (upd (upd x 6 (y 0)) 7 (y 1)) 8 (y 2)) 9 (y 3)) 10 (y 4))):=QLh (Kd.upd (Kd.upd (Kd.upd (Kd.upd (Kd.upd HK.out (KY 0)) (KY 1)) (KY 2)) (KY 3)) (KY 4));have HE3:Hid (Q0 s ⟨#[112,113,115]⟩ (Jo s) N ⟨#[]⟩ Jq σ1=Q0 s ⟨#[112,113,115]⟩ (Jo s) g' key (upd (upd (upd (upd (upd x 6 (y 0)) 7 (y 1)) 8 (y 2)) 9 (y 3)) 10 (y 4)) τ2):=QLh (by have:=HE2.out;rw[Qzu,show Xy (noZ y) 5 τ2=τ2 from Qp9 5 τ2]at this;exact this)
      rw[hU]
      clear hU HE2 HIV k1 k2 k3 k4 k5 k6 hu0 hu1 hu2 hu3 hu4 hfz hy0 hy1 hy2 hy3 hy4
      go_wp2
      go_roundg g'
      case rel=>exact⟨m+1,_,_,key,by omega,by go_num,rfl,HE3.out,HC6.out,HG6.out,REC6.out,HK6.out,RES6.out⟩
      case measure=>omega
     | false=>
      cases hq2:(key.toList == [115])with
      | true=>
       have es:sw (Jo s) key x τ1=(Ql0 1 5 x (Qgf s τ1).1,Xy (Qry (Qgf s τ1).1) 5 (Qgf s τ1).2):=by unfold Jo;simp only[sw,hq0,hq1,hq2,if_true,Bool.false_eq_true,if_false];rfl
       have HE2:Hid (Q0 s ⟨#[112,113,115]⟩ (Jo s) N ⟨#[]⟩ Jq σ1=Q0 s ⟨#[112,113,115]⟩ (Jo s) g' key (Ql0 1 5 x (Qgf s τ1).1) (Xy (Qry (Qgf s τ1).1) 5 (Qgf s τ1).2)):=QLh (by rw[HE.out,es]);have HNM:=QLh (Qu1 cb rb s τ1 w4 HC4.out HSZ.out);have HIV:=QLh (Qh2 s τ1);clear es HE
       go_wp2_with fail
       refine HNM.out.mono ?_
       rintro e w5 ⟨a3,c3,a4,c4,rfl,hkd,h1,h2,hc,hg⟩
       generalize Qgf s τ1=z at HE2 HIV h1 h2 hc hkd ⊢
       obtain⟨y,τ2⟩:=z
       have KY:Kd Xd y:=hkd;have H1:=QLh (h1 rb (b0+1) (Nat.lt_trans (Nat.lt_trans hrb (Nat.lt_succ_self b0)) (Xp REC4.out)) (Xp REC4.out));have H2:=QLh (h2 rb (b0+1) (Nat.lt_trans (Nat.lt_trans hrb (Nat.lt_succ_self b0)) (Xp REC4.out)) (Xp REC4.out));have HC5:=QLh hc;have HG5:=QLh (HG4.out.trans hg);have hrec:=REC4.out.cur hg (by omega) (by omega);have REC5:=QLh hrec;have RES5:Hid (w5.heap[b0]?=some (.cells #[.int .u64 0,.int .u64 0,.bool false,.int .u64 0,.slice none 0 0,.slice none 0 0,.string ⟨#[]⟩,.int .u64 0,.int .u64 0,.int .u64 0,.int .u64 0] 48 (0,0))):=QLh ((hg.block _ (lt_of_block RES4.out) (by omega) (by omega)).trans RES4.out)
       obtain⟨_,hu0,-⟩:=hrec.get (by decide:1<11)
       obtain⟨_,hu1,-⟩:=hrec.get (by decide:2<11)
       obtain⟨_,hu2,-⟩:=hrec.get (by decide:3<11)
       obtain⟨_,hu3,-⟩:=hrec.get (by decide:4<11)
       obtain⟨_,hu4,-⟩:=hrec.get (by decide:5<11)
       have hfz:=hrec.free;clear hc hg hrec hkd HNM h1 h2
       dsimp only at HE2 HIV HC5 H1 H2 ⊢
       go_upto_region 15 with fail
       obtain⟨U,hU⟩:∃U,((((w5.setCell ⟨b0+1,1,none⟩ (.int .u64 (y 0).n)).setCell ⟨b0+1,2,none⟩ (.bool (y 1).q)).setCell ⟨b0+1,3,none⟩ (.int .u64 (y 2).n)).setCell ⟨b0+1,4,none⟩ (.slice a3 (len (y 3).l) c3)).setCell ⟨b0+1,5,none⟩ (.slice a4 (len (y 4).l) c4)=U:=⟨_,rfl⟩
       have hl:w.heap.size≤b0+1:=by have:=HB0.out;omega
       have HC6:Hid (CurIs U cb rb s τ2):=QLh (by rw[←hU];exact(CurIs.setOff (CurIs.setOff (CurIs.setOff (CurIs.setOff (CurIs.setOff HC5.out (by omega) (by omega) _) (by omega) (by omega) _) (by omega) (by omega) _) (by omega) (by omega) _) (by omega) (by omega) _));have HG6:Hid (Chg rb cb w U):=QLh (by rw[←hU];exact(Chg.setNew (Chg.setNew (Chg.setNew (Chg.setNew (Chg.setNew HG5.out hl _) hl _) hl _) hl _) hl _));have hy0:Hid (y 0=.num (y 0).n):=QLh (by obtain⟨n,e0⟩:=KY.num (o:=0) rfl;rw[e0];rfl);have hy1:Hid (y 1=.flag (y 1).q):=QLh (by obtain⟨n,e0⟩:=KY.flag (o:=1) rfl;rw[e0];rfl);have hy2:Hid (y 2=.num (y 2).n):=QLh (by obtain⟨n,e0⟩:=KY.num (o:=2) rfl;rw[e0];rfl);have k1:Chg rb (b0+1) w5 (w5.setCell ⟨b0+1,1,none⟩ (.int .u64 (y 0).n)):=(Chg.refl rb (b0+1) w5).set 1 _;have k2:Chg rb (b0+1) w5 ((w5.setCell ⟨b0+1,1,none⟩ (.int .u64 (y 0).n)).setCell ⟨b0+1,2,none⟩ (.bool (y 1).q)):=(k1).set 2 _;have k3:Chg rb (b0+1) w5 (((w5.setCell ⟨b0+1,1,none⟩ (.int .u64 (y 0).n)).setCell ⟨b0+1,2,none⟩ (.bool (y 1).q)).setCell ⟨b0+1,3,none⟩ (.int .u64 (y 2).n)):=(k2).set 3 _;have k4:Chg rb (b0+1) w5 ((((w5.setCell ⟨b0+1,1,none⟩ (.int .u64 (y 0).n)).setCell ⟨b0+1,2,none⟩ (.bool (y 1).q)).setCell ⟨b0+1,3,none⟩ (.int .u64 (y 2).n)).setCell ⟨b0+1,4,none⟩ (.slice a3 (len (y 3).l) c3)):=(k3).set 4 _;have k5:Chg rb (b0+1) w5 (((((w5.setCell ⟨b0+1,1,none⟩ (.int .u64 (y 0).n)).setCell ⟨b0+1,2,none⟩ (.bool (y 1).q)).setCell ⟨b0+1,3,none⟩ (.int .u64 (y 2).n)).setCell ⟨b0+1,4,none⟩ (.slice a3 (len (y 3).l) c3)).setCell ⟨b0+1,5,none⟩ (.slice a4 (len (y 4).l) c4)):=(k4).set 5 _;have k6:Chg rb (b0+1) w5 U:=by rw[←hU];exact k5
       have REC6:Hid (RecAt rb (b0+1) 48 11 U (upd (upd (upd (upd (upd x 1 (y 0)) 2 (y 1)) 3 (y 2)) 4 (y 3)) 5 (y 4))):=QLh (by rw[←hU];exact(RecAt.set (RecAt.set (RecAt.set (RecAt.set (RecAt.set REC5.out (by decide:1<11) (by rw[hy0.out];rfl)) (by decide:2<11) (by rw[hy1.out];rfl)) (by decide:3<11) (by rw[hy2.out];rfl)) (by decide:4<11) (H1.out.chg k3)) (by decide:5<11) (H2.out.chg k4)));have RES6:Hid (U.heap[b0]?=some (.cells #[.int .u64 0,.int .u64 0,.bool false,.int .u64 0,.slice none 0 0,.slice none 0 0,.string ⟨#[]⟩,.int .u64 0,.int .u64 0,.int .u64 0,.int .u64 0] 48 (0,0))):=QLh (by rw[←hU];exact(Qg (Qg (Qg (Qg (Qg RES5.out (by omega:b0≠b0+1) _) (by omega:b0≠b0+1) _) (by omega:b0≠b0+1) _) (by omega:b0≠b0+1) _) (by omega:b0≠b0+1) _));have HK6:Hid (Kd Jq (upd (upd (upd (upd (upd x 1 (y 0)) 2 (y 1)) 3 (y 2)) 4 (y 3)) 5 (y 4))):=QLh (Kd.upd (Kd.upd (Kd.upd (Kd.upd (Kd.upd HK.out (KY 0)) (KY 1)) (KY 2)) (KY 3)) (KY 4));have HS1:Hid (StrsC (CW U) a3 (y 3).l):=QLh (Qal (KY 3) (H1.out.chg k6));have HS2:Hid (StrsC (CW U) a4 (y 4).l):=QLh (Qal (KY 4) (H2.out.chg k6))
       obtain⟨p3,q3,p4,q4,hth,-⟩:=Qat REC5.out HK.out
       have hbU:U.heap[b0+1]?=some (.cells #[.int .u64 (x 0).n,.int .u64 (y 0).n,.bool (y 1).q,.int .u64 (y 2).n,.slice a3 (len (y 3).l) c3,.slice a4 (len (y 4).l) c4,.string (x 6).s,.int .u64 (x 7).n,.int .u64 (x 8).n,.int .u64 (x 9).n,.int .u64 (x 10).n] 48 (0,0)):=by rw[←hU];exact(Qb (Qb (Qb (Qb (Qb hth _) _) _) _) _)
       have HHB:=QLh hbU;clear hth hbU k1 k2 k3 k4 k5 k6 hu0 hu1 hu2 hu3 hu4 hfz
       rw[hU]
       clear hU;have cU:∀o,U.cell? ⟨b0+1,o,none⟩=_:=Qa HHB.out
       go_wp2_with fail
       refine(Qhd U.heap.size (y 0).n (y 1).q (y 2).n a3 a4 c3 c4 (y 3).l (y 4).l U (bd_n (HIV.out.1 2)) (bd_n (HIV.out.1 0)) HS1.out.at HS2.out.at (Qh4 (HIV.out.1 3) HSZ.out) (Qh4 (HIV.out.1 4) HSZ.out)).mono ?_
       rintro e w6 ⟨rfl,hb⟩
       obtain⟨S,hS⟩:∃S,Zw (Jz (y 0).n (y 1).q (y 2).n (y 3).l (y 4).l)=S:=⟨_,rfl⟩
       rw[hS]
       have HE3:Hid (Q0 s ⟨#[112,113,115]⟩ (Jo s) N ⟨#[]⟩ Jq σ1=Q0 s ⟨#[112,113,115]⟩ (Jo s) g' key (upd (upd (upd (upd (upd x 1 (y 0)) 2 (y 1)) 3 (y 2)) 4 (y 3)) 5 (y 4)) (Xy (S.toList == [128]) 5 τ2)):=QLh (by have:=HE2.out;rw[Qzv]at this;unfold Qry at this;rw[hS]at this;exact this);have HC6:=QLh (HC6.out.below hb);have HG6:=QLh (HG6.out.trans (Chg.of_below hb));have REC6:=QLh (REC6.out.cur (Chg.of_below (rb:=rb) (tb:=cb) hb) (by omega) (by omega));have RES6:=QLh ((hb.block _ (lt_of_block RES6.out)).trans RES6.out);clear hS hb cU HE2 HS1 HS2 H1 H2 HHB HIV hy0 hy1 hy2;have HF:=QLh (Jf cb rb s τ2 (S.toList == [128]) 5 w6 HC6.out (by decide))
       go_wp2_with fail
       refine HF.out.mono ?_
       rintro e w7 ⟨rfl,hc,hg⟩
       have HC7:=QLh hc;have HG7:=QLh (HG6.out.trans hg);have REC7:=QLh (REC6.out.cur hg (by omega) (by omega));have RES7:Hid (w7.heap[b0]?=some (.cells #[.int .u64 0,.int .u64 0,.bool false,.int .u64 0,.slice none 0 0,.slice none 0 0,.string ⟨#[]⟩,.int .u64 0,.int .u64 0,.int .u64 0,.int .u64 0] 48 (0,0))):=QLh ((hg.block _ (lt_of_block RES6.out) (by omega) (by omega)).trans RES6.out);clear hc hg HF
       go_wp2
       go_roundg g'
       case rel=>exact⟨m+1,_,_,key,by omega,by go_num,rfl,HE3.out,HC7.out,HG7.out,REC7.out,HK6.out,RES7.out⟩
       case measure=>omega
      | false=>
       have es:sw (Jo s) key x τ1=(x,τ1):=by unfold Jo;simp only[sw,hq0,hq1,hq2,Bool.false_eq_true,if_false]
       have HE2:Hid (Q0 s ⟨#[112,113,115]⟩ (Jo s) N ⟨#[]⟩ Jq σ1=Q0 s ⟨#[112,113,115]⟩ (Jo s) g' key x τ1):=QLh (by rw[HE.out,es]);clear es HE
       go_wp2
       go_roundg g'
       case rel=>exact⟨m+1,_,_,key,by omega,by go_num,rfl,HE2.out,HC4.out,HG4.out,REC4.out,HK.out,RES4.out⟩
       case measure=>omega
  ·obtain rfl:m=N:=by omega
   have i1:¬((m:Nat):Int)<m:=by omega
   obtain rfl:gk=0:=by omega
   obtain⟨w3,hw3⟩:∃w3,w3=wr:=⟨_,rfl⟩
   subst hw3
   have HE:Hid (Q0 s ⟨#[112,113,115]⟩ (Jo s) m ⟨#[]⟩ Jq σ1=(x,τ)):=QLh HD.out;clear HD
   obtain⟨a4,c4,a5,c5,hth,-,-⟩:=Qat REC.out HK.out
   have m6:w3.cell? ⟨b0+1,6,none⟩=some (.string (x 6).s):=Qa hth 6;have HF:=QLh (Jf cb rb s τ (Qjh x) 5 w3 HC.out (by decide));clear hth
   go_wp2_with fail
   refine HF.out.mono ?_
   rintro e w5 ⟨rfl,hc,hg⟩
   have HC5:=QLh hc;have HG5:=QLh (HG.out.trans hg);have RES5:Hid (w5.heap[b0]?=some (.cells #[.int .u64 0,.int .u64 0,.bool false,.int .u64 0,.slice none 0 0,.slice none 0 0,.string ⟨#[]⟩,.int .u64 0,.int .u64 0,.int .u64 0,.int .u64 0] 48 (0,0))):=QLh ((hg.block _ (lt_of_block RES.out) (by omega) (by omega)).trans RES.out)
   obtain⟨a4,c4,a5,c5,hth,hl1,hl2⟩:=Qat (REC.out.cur hg (by omega) (by omega)) HK.out
   have k0:w5.cell? ⟨b0+1,0,none⟩=some (.int .u64 (x 0).n):=Qa hth 0;have k1:w5.cell? ⟨b0+1,1,none⟩=some (.int .u64 (x 1).n):=Qa hth 1;have k2:w5.cell? ⟨b0+1,2,none⟩=some (.bool (x 2).q):=Qa hth 2;have k3:w5.cell? ⟨b0+1,3,none⟩=some (.int .u64 (x 3).n):=Qa hth 3;have k4:w5.cell? ⟨b0+1,4,none⟩=some (.slice a4 (len (x 4).l) c4):=Qa hth 4;have k5:w5.cell? ⟨b0+1,5,none⟩=some (.slice a5 (len (x 5).l) c5):=Qa hth 5;have k6:w5.cell? ⟨b0+1,6,none⟩=some (.string (x 6).s):=Qa hth 6;have k7:w5.cell? ⟨b0+1,7,none⟩=some (.int .u64 (x 7).n):=Qa hth 7;have k8:w5.cell? ⟨b0+1,8,none⟩=some (.int .u64 (x 8).n):=Qa hth 8;have k9:w5.cell? ⟨b0+1,9,none⟩=some (.int .u64 (x 9).n):=Qa hth 9;have k10:w5.cell? ⟨b0+1,10,none⟩=some (.int .u64 (x 10).n):=Qa hth 10;have g0:∀o,w5.cell? ⟨b0,o,none⟩=_:=Qa RES5.out;have g1:∀o,w5.frozen? ⟨b0,o,none⟩=false:=Qj RES5.out;have g2:b0<w5.heap.size:=lt_of_block RES5.out;have HL1:=QLh hl1;have HL2:=QLh hl2;clear hc hg hth m6 hl1 hl2
   go_wp2
   have hw0:w.heap.size≤b0:=by have:=HB0.out;omega
   have hb:=(Qb (Qb (Qb (Qb (Qb (Qb (Qb (Qb (Qb (Qb (Qb RES5.out (o:=0) (.int .u64 (x 0).n)) (o:=1) (.int .u64 (x 1).n)) (o:=2) (.bool (x 2).q)) (o:=3) (.int .u64 (x 3).n)) (o:=4) (.slice a4 (len (x 4).l) c4)) (o:=5) (.slice a5 (len (x 5).l) c5)) (o:=6) (.string (x 6).s)) (o:=7) (.int .u64 (x 7).n)) (o:=8) (.int .u64 (x 8).n)) (o:=9) (.int .u64 (x 9).n)) (o:=10) (.int .u64 (x 10).n));have d:∀o,_=_:=Qa hb
   refine bodyPost_ret (v:=.agg (Qh5 x a4 c4 a5 c5)) ?_ rfl ?_
   ·simp[results,Tryz.results163,go_sem,d]
   ·rw[HE.out]
    have hk2:∀b,b0+1<b→(((((((((((w5.setCell ⟨b0,0,none⟩ (.int .u64 (x 0).n)).setCell ⟨b0,1,none⟩ (.int .u64 (x 1).n)).setCell ⟨b0,2,none⟩ (.bool (x 2).q)).setCell ⟨b0,3,none⟩ (.int .u64 (x 3).n)).setCell ⟨b0,4,none⟩ (.slice a4 (len (x 4).l) c4)).setCell ⟨b0,5,none⟩ (.slice a5 (len (x 5).l) c5)).setCell ⟨b0,6,none⟩ (.string (x 6).s)).setCell ⟨b0,7,none⟩ (.int .u64 (x 7).n)).setCell ⟨b0,8,none⟩ (.int .u64 (x 8).n)).setCell ⟨b0,9,none⟩ (.int .u64 (x 9).n)).setCell ⟨b0,10,none⟩ (.int .u64 (x 10).n)).heap[b]?=w5.heap[b]?:=λ b hb=>by repeat rw[Below.heap_setCell _ _ _ _ (by omega:b≠b0)]
    exact⟨_,_,_,_,rfl,HK.out,λ r t hr ht=>((HL1.out).keep2 (λ b _ h9 _=>hk2 b h9)).any (by have:=HB0.out;omega) (by have:=HB0.out;omega),λ r t hr ht=>((HL2.out).keep2 (λ b _ h9 _=>hk2 b h9)).any (by have:=HB0.out;omega) (by have:=HB0.out;omega),(CurIs.setOff (CurIs.setOff (CurIs.setOff (CurIs.setOff (CurIs.setOff (CurIs.setOff (CurIs.setOff (CurIs.setOff (CurIs.setOff (CurIs.setOff (CurIs.setOff HC5.out hcb hrb _) hcb hrb _) hcb hrb _) hcb hrb _) hcb hrb _) hcb hrb _) hcb hrb _) hcb hrb _) hcb hrb _) hcb hrb _) hcb hrb _),(Chg.setNew (Chg.setNew (Chg.setNew (Chg.setNew (Chg.setNew (Chg.setNew (Chg.setNew (Chg.setNew (Chg.setNew (Chg.setNew (Chg.setNew HG5.out hw0 _) hw0 _) hw0 _) hw0 _) hw0 _) hw0 _) hw0 _) hw0 _) hw0 _) hw0 _) hw0 _)⟩
def Jp{α:Type}(f:Cst→α × Cst):Nat→Cst→List α→List α × Cst
 | 0,σ,l=>(l,σ)
 | n+1,.error e,l=>(l,.error e)
 | n+1,.ok a,l=>Jp f n (f (.ok a)).2 (l++[(f (.ok a)).1])
theorem Qcx{α:Type}(f:Cst→α × Cst)(e:Flt):∀(n:Nat) (l:List α),Jp f n (.error e) l=(l,.error e)
 | 0,l=>rfl
 | n+1,l=>rfl
def Qg6(s:ByteArray)(σ:Cst):Int × Cst:=((tkS 0 s σ).1.1,(tkS 0 s σ).2)
def Qr0(s:ByteArray)(σ:Cst):RevD × Cst:=(Qnv (Qu2 s σ).1,(Qu2 s σ).2)
def Qer(s:ByteArray)(l:List Int)(σ:Cst):List Int × Cst:=Jp (Qg6 s) (Xe s 640 σ).1.toNat (Xe s 640 σ).2 l
def Qji(s:ByteArray)(l:List RevD)(σ:Cst):List RevD × Cst:=Jp (Qr0 s) (Xe s 640 σ).1.toNat (Xe s 640 σ).2 l
def Qu7(s:ByteArray)(o:Nat):Jk:=λ x σ=>(upd x o (.nums (Qer s (x o).ns σ).1),(Qer s (x o).ns σ).2)
def Qqc(s:ByteArray)(o:Nat):Jk:=λ x σ=>(upd x o (.revs (Qji s (x o).rs σ).1),(Qji s (x o).rs σ).2)
def Zf(s:ByteArray):List (UInt8 × Jk):=[(80,Qge s 5 10240),(83,Qge s 4 10240),(99,Qt9 s 0),(112,Qu7 s 3),(114,Qqc s 2),(119,Qdv s 1)]
abbrev Qgk(x:Rcd):Bool:=(x 0).s.toList.isEmpty
def Qjj(s:ByteArray)(σ:Cst):Rcd × Cst:=((Qhf s ⟨#[80,83,99,112,114,119]⟩ (Zf s) Q7 σ).1,Xy (Qgk (Qhf s ⟨#[80,83,99,112,114,119]⟩ (Zf s) Q7 σ).1) 5 (Qhf s ⟨#[80,83,99,112,114,119]⟩ (Zf s) Q7 σ).2)
def Qw8{α:Type}(rd:Nat→Except Flt (α × Nat))(f:Cst→α × Cst):Prop:=∀a,(∀e,rd a=.error e→(f (.ok a)).2=.error e)∧(∀y,rd a=.ok y→f (.ok a)=(y.1,.ok y.2))
theorem Qnq{α:Type}{rd:Nat→Except Flt (α × Nat)}{f:Cst→α × Cst}(h:Qw8 rd f):∀(n a:Nat) (l:List α),(∀e,rmany rd n a l=.error e→(Jp f n (.ok a) l).2=.error e)∧(∀y,rmany rd n a l=.ok y→Jp f n (.ok a) l=(y.1,.ok y.2))
 | 0,a,l=>⟨λ e he=>(by simp only[rmany]at he;cases he),λ y hy=>by simp only[rmany]at hy;cases hy;rfl⟩
 | n+1,a,l=>by
  cases hr:rd a with
  | error f0=>
   have h2:=(h a).1 f0 hr
   rw[rmany,hr,Jp,h2,Qcx]
   exact⟨λ e he=>(by cases he;rfl),λ y hy=>by cases hy⟩
  | ok x=>
   have h2:=(h a).2 x hr
   rw[rmany,hr,Jp,h2]
   exact Qnq h n x.2 (l++[x.1])
theorem Qnr{α:Type}{x0:Rcd}{s key:ByteArray}{o:Nat}{toD:List α→DV}{rd:Nat→Except Flt (α × Nat)}{f:Cst→α × Cst}{get:DV→List α}(h:Qw8 rd f)(hz:∀l,Qae (toD l)=(l.length == 0))(h0:get (x0 o)=[]):
  StepOk x0 (Xh s key o 640 toD rd) (λ x σ=>(upd x o (toD (Jp f (Xe s 640 σ).1.toNat (Xe s 640 σ).2 (get (x o))).1),(Jp f (Xe s 640 σ).1.toNat (Xe s 640 σ).2 (get (x o))).2)):=by
 refine⟨λ x a hf=>?_,λ x e=>?_⟩
 ·have hx:get (x o)=[]:=by rw[hf o (by simp[Xh])];exact h0
  rw[hx]
  cases hl:Qci s 640 a with
  | error e=>
   have h1:(Xh s key o 640 toD rd).read x a=.error e:=by simp only[Xh,hl]
   rw[h1]
   show(Jp f (Xe s (640:Nat) (.ok a)).1.toNat (Xe s (640:Nat) (.ok a)).2 []).2=.error e
   rw[Qp8 hl,Qcx]
  | ok k=>
   obtain⟨l1,l2⟩:=Qux hl
   have hm:=Qnq h k.1 k.2 []
   cases hr:rmany rd k.1 k.2 []with
   | error e=>
    have h1:(Xh s key o 640 toD rd).read x a=.error e:=by simp only[Xh,hl,hr]
    rw[h1]
    show(Jp f (Xe s (640:Nat) (.ok a)).1.toNat (Xe s (640:Nat) (.ok a)).2 []).2=.error e
    have hk:k.1≠0:=λ e0=>by rw[e0]at hr;simp only[rmany]at hr;cases hr
    rw[l1,l2,if_neg hk,Int.toNat_natCast]
    exact hm.1 e hr
   | ok y=>
    have h1:(Xh s key o 640 toD rd).read x a=.ok (upd x o (toD y.1),y.2):=by simp only[Xh,hl,hr]
    have hln:=Qjg hr;have he:(Xh s key o 640 toD rd).empty (upd x o (toD y.1))=(y.1.length == 0):=by show Qae (upd x o (toD y.1) o)=_;rw[Xc,hz]
    rw[h1]
    show if(Xh s key o 640 toD rd).empty (upd x o (toD y.1))=true then _ else _
    rw[he]
    by_cases hk:k.1=0
    ·rw[hk]at hln
     rw[show(y.1.length == 0)=true by rw[hln];rfl,if_pos rfl]
     show(Jp f (Xe s (640:Nat) (.ok a)).1.toNat (Xe s (640:Nat) (.ok a)).2 []).2=.error (5,0)
     rw[l1,l2,if_pos hk,Qcx]
    ·have hn:y.1.length≠0:=by rw[hln];simp;exact hk
     rw[show(y.1.length == 0)=false by simp only[beq_eq_false_iff_ne];exact hn,if_neg (by decide)]
     have hm':Jp f k.1 (.ok k.2) []=(y.1,.ok y.2):=hm.2 y hr
     show(upd x o (toD (Jp f (Xe s (640:Nat) (.ok a)).1.toNat (Xe s (640:Nat) (.ok a)).2 []).1),(Jp f (Xe s (640:Nat) (.ok a)).1.toNat (Xe s (640:Nat) (.ok a)).2 []).2)=_
     rw[l1,l2,if_neg hk,Int.toNat_natCast,hm']
 ·show(Jp f (Xe s 640 (.error e)).1.toNat (Xe s 640 (.error e)).2 (get (x o))).2=.error e
  have:(Xe s 640 (.error e)).2=.error e:=rfl
  rw[this,Qcx]
theorem Qw9(s:ByteArray):Qw8 (Qib s) (Qg6 s):=λ a=>by
 cases h:tkR 0 s a with
 | error e=>simp only[Qib,h,Qg6,tkS];exact⟨λ e he=>by cases he;rfl,λ y hy=>by cases hy⟩
 | ok x=>simp only[Qib,h,Qg6,tkS];exact⟨λ e he=>(by cases he),λ y hy=>by cases hy;rfl⟩
theorem Qzx(s:ByteArray):Qw8 (Qsf s) (Qr0 s):=λ a=>by
 have hs:=(Qu6 s).good a
 cases h:Qbr s (Qcj s) Jq a with
 | error e=>
  have h2:=hs.1 e h
  simp only[Qsf,h,Qr0]
  exact⟨λ e he=>by cases he;exact h2,λ y hy=>by cases hy⟩
 | ok x=>
  have h2:=hs.2 x h
  simp only[Qsf,h,Qr0,h2]
  exact⟨λ e he=>(by cases he),λ y hy=>by cases hy;rfl⟩
theorem Qr1(s:ByteArray):SpecsOk Q7 ⟨#[80,83,99,112,114,119]⟩ (Zf s) (Zp s):=by
 refine Qcw [80,83,99,112,114,119] rfl rfl rfl (by decide) λ i hi=>?_
 match i,hi with
 | 0,_=>exact Qgj _ _ _ 10240
 | 1,_=>exact Qgj _ _ _ 10240
 | 2,_=>exact Qp0 _ _ _
 | 3,_=>exact Qnr (x0:=Q7) (key:=⟨#[112]⟩) (o:=3) (toD:=.nums) (get:=DV.ns) (Qw9 s) (λ l=>rfl) rfl
 | 4,_=>exact Qnr (x0:=Q7) (key:=⟨#[114]⟩) (o:=2) (toD:=.revs) (get:=DV.rs) (Qzx s) (λ l=>rfl) rfl
 | 5,_=>exact Qca _ _ _
 | i+6,hi=>exact absurd hi (by simp[Zp];try omega)
theorem Qu8(s:ByteArray)(n a:Nat)(y:Rcd × List Nat × Nat)(h:Qy s (Zp s) n 0 Q7 [] a=.ok y):Xw (Zp s) y.2.1=Qgk y.1:=by
 have G:=Qti s;have m0:Qz3 0 2 y.1 y.2.1:=Qjb (i:=2) (o:=0) G.disj G.frames (show(2:Nat)<6 by decide) rfl n 0 Q7 [] a y h ⟨λ h=>(by cases h),λ _=>rfl⟩;have q0:=Qkj m0
 unfold Xw
 show((List.range 6).any λ i=>(gth (Zp s) i).must && !y.2.1.contains i)=_
 rw[show List.range 6=[0,1,2,3,4,5]from rfl]
 simp only[List.any_cons,List.any_nil,Bool.or_false]
 rw[show(gth (Zp s) 0).must=false from rfl,show(gth (Zp s) 1).must=false from rfl,show(gth (Zp s) 2).must=true from rfl,show(gth (Zp s) 3).must=false from rfl,show(gth (Zp s) 4).must=false from rfl,show(gth (Zp s) 5).must=false from rfl]
 simp only[Bool.false_and,Bool.true_and,Bool.false_or,Bool.or_false]
 show _=((y.1 0).s.toList.isEmpty)
 rw[q0]
theorem Qr2(s:ByteArray):SameR s (Zp s) Q7 (Qjj s):=Qg5 (miss:=Qgk) (Qr1 s) (Qti s) (Qu8 s)
structure GrownP(S:Nat→Prop)(w w':World):Prop where
 os:w'.os=w.os
 tape:w'.tape=w.tape
 output:w'.output=w.output
 size:w.heap.size≤w'.heap.size
 block:∀k,k<w.heap.size→¬S k→w'.heap[k]?=w.heap[k]?
def EsW(VO:Nat→Nat→Prop)(X:Nat→World→World→Prop)(j:Nat)(w w':World):Prop:=GrownP (VO j) w w'∧X j w w'
theorem Qqd{VO:Nat→Nat→Prop}{X:Nat→World→World→Prop}{j:Nat}(hX:∀j w,X j w w)(w:World):EsW VO X j w w:=⟨⟨rfl,rfl,rfl,Nat.le_refl _,λ _ _ _=>rfl⟩,hX j w⟩
theorem Qr3{VO:Nat→Nat→Prop}{X:Nat→World→World→Prop}{j:Nat}{w w':World}(h:Ext w w')(hx:X j w w'):EsW VO X j w w':=⟨⟨h.os,h.tape,h.output,h.size,λ i hi _=>h.block i hi⟩,hx⟩
structure ExtW(VO:Nat→Nat→Prop)(w w':World):Prop where
 os:w'.os=w.os
 tape:w'.tape=w.tape
 output:w'.output=w.output
 size:w.heap.size≤w'.heap.size
 block:∀k,k<w.heap.size→(∀j,¬VO j k)→w'.heap[k]?=w.heap[k]?
theorem ExtW.refl(VO:Nat→Nat→Prop)(w:World):ExtW VO w w:=⟨rfl,rfl,rfl,Nat.le_refl _,λ _ _ _=>rfl⟩
theorem ExtW.step{VO:Nat→Nat→Prop}{X:Nat→World→World→Prop}{j:Nat}{a b c:World}(h:ExtW VO a b)(k':EsW VO X j b c):ExtW VO a c:=
 have k:=k'.1
 ⟨k.os.trans h.os,k.tape.trans h.tape,k.output.trans h.output,Nat.le_trans h.size k.size,λ i hi hn=>(k.block i (Nat.lt_of_lt_of_le hi h.size) (λ e=>hn j e)).trans (h.block i hi hn)⟩
structure HereW(VO:Nat→Nat→Prop)(I:World→Prop)(ops:List Oper)(w0 w:World)(D:Nat→Prop)(i:Nat):Prop where
 ext:ExtW VO w0 w
 inv:I w
 late:∀j,¬D j→∀b,VO j b→b<w0.heap.size→w.heap[b]?=w0.heap[b]?
 notyet:∀(j:Nat) oj,ops[j]?=some oj→∀e ∈ oj.after,Region.binds .any e=true→¬D e.on→¬D j
 me:¬D i
theorem HereW.own{VO:Nat→Nat→Prop}{I:World→Prop}{ops:List Oper}{w0 w:World}{D:Nat→Prop}{i:Nat}(h:HereW VO I ops w0 w D i):∀b,VO i b→b<w0.heap.size→w.heap[b]?=w0.heap[b]?:=h.late i h.me
section
variable (P:Program) (ops:List Oper) (a0:Act) (w0:World) (VO:Nat→Nat→Prop) (X:Nat→World→World→Prop) (I:World→Prop) (PR:Nat→Nat→Value→Value→World→Prop) (Φ:Nat→Value→World→Prop) (Q:Exit→Act→World→Prop)
def Qxa(D:Nat→Prop)(a:Act)(i:Nat)(v:Value)(w':World):Prop:=∀j oj,ops[j]?=some oj→D j→j≠i→PR i j v (Z8 oj a) w'∧PR j i (Z8 oj a) v w'
def Qff(hd:Nat)(i:Nat)(o:Oper):Prop:=∀(D:Nat→Prop) a w,(∀j oj,ops[j]?=some oj→D j→Φ j (Z8 oj a) w)→HereW VO I ops w0 w D i→Qdg ops a0 hd a→Qny ops Φ a w o.after.toList→
 if Region.wanted o (yielded ops.toArray a.tmps)then o.wp P a w (λ a' w'=>∃v,a'=a.put o.dst v∧EsW VO X i w w'∧Φ i (Js o v) w'∧Qxa ops PR D a i (Js o v) w') Q else Φ i undef w∧∀j vi vj w,PR i j vi vj w∧PR j i vi vj w
structure RInvW(n:Nat)(listed:Array Bool)(a:Act)(w:World):Prop where
 head:HeadInv .any ops.toArray n listed
 ext:ExtW VO w0 w
 inv:I w
 ext0:∀i,listed.getD i true=false→∀b,VO i b→b<w0.heap.size→w.heap[b]?=w0.heap[b]?
 outer:Qdg ops a0 n a
 done:∀(i:Nat) o,ops[i]?=some o→listed.getD i true=true→Φ i (Z8 o a) w
 pair:∀i j oi oj,ops[i]?=some oi→ops[j]?=some oj→listed.getD i true=true→listed.getD j true=true→i≠j→PR i j (Z8 oi a) (Z8 oj a) w
variable {P ops a0 w0 VO X I PR Φ Q}
theorem Qkp{o:Oper}{i:Nat}{a:Act}{v:Value}(hB:Qau ops a0.tmps.size=true)(hs:a.tmps.size=a0.tmps.size)(ho:ops[i]?=some o):Z8 o (a.put o.dst v)=Js o v:=by
 unfold Z8 Js
 cases hd:o.dst with
 | none=>rfl
 | some d=>
  have hdl:∀d ∈ X4 ops,d<a0.tmps.size:=by
   unfold Qau at hB;simp only[Bool.and_eq_true]at hB
   intro d hd;simpa using List.all_eq_true.1 hB.2 d hd
  have hmem:d ∈ X4 ops:=List.mem_filterMap.2 ⟨o,List.mem_of_getElem? ho,hd⟩
  exact J1 (by rw[hs];exact hdl d hmem)
theorem Qdf{o oj:Oper}{i j:Nat}{a:Act}{v:Value}(hB:Qau ops a0.tmps.size=true)(hij:i≠j)(ho:ops[i]?=some o)(hoj:ops[j]?=some oj):Z8 oj (a.put o.dst v)=Z8 oj a:=by
 have hnd:(X4 ops).Nodup:=by unfold Qau at hB;simp only[Bool.and_eq_true,decide_eq_true_eq]at hB;exact hB.1.2
 unfold Z8
 cases hdj:oj.dst with
 | none=>rfl
 | some d=>
  cases hdo:o.dst with
  | none=>rfl
  | some d'=>
   have hne:d≠d':=by
    rintro rfl
    exact Qh7 hnd hij ho hoj hdo hdj
   exact Je hne
theorem RInvW.next{n:Nat}(hB:Qau ops a0.tmps.size=true)(hVO:∀i j b,VO i b→VO j b→i=j)
  (hmono:∀i j v w w',i≠j→EsW VO X j w w'→Φ i v w→Φ i v w') (hI:∀j w w',EsW VO X j w w'→I w→I w') (hmonoP:∀i j k vi vj w w',k≠i→k≠j→EsW VO X k w w'→PR i j vi vj w→PR i j vi vj w') {listed:Array Bool} {a:Act} {w:World} (inv:RInvW ops a0 w0 VO I PR Φ n listed a w)
  {i:Nat} {o:Oper} (hi:i ∈ Region.ready .any ops.toArray listed) (hin:i<n) (ho':ops[i]?=some o) {v:Value} {w':World} (he:EsW VO X i w w') (hv:Φ i (Js o v) w') (hpr:Qxa ops PR (λ j=>listed.getD j true=true) a i (Js o v) w'):
  RInvW ops a0 w0 VO I PR Φ n (listed.setIfInBounds i true) (a.put o.dst v) w':=by
 have hnd:(X4 ops).Nodup:=by unfold Qau at hB;simp only[Bool.and_eq_true,decide_eq_true_eq]at hB;exact hB.1.2
 have hdl:∀d ∈ X4 ops,d<a0.tmps.size:=by
  unfold Qau at hB;simp only[Bool.and_eq_true]at hB
  intro d hd;simpa using List.all_eq_true.1 hB.2 d hd
 refine⟨inv.head.set hi hin,inv.ext.step he,hI _ _ _ he inv.inv,λ k hl b hb hlt=>?_,?_,?_,λ i1 j1 oi oj hoi hoj l1 l2 hne=>?_⟩
 ·by_cases his:k=i
  ·exfalso
   subst his
   obtain⟨hun,o',ho,_⟩:=mem_ready.1 hi
   have hil:k<listed.size:=by rw[inv.head.size];exact(Array.getElem?_eq_some_iff.1 ho).1
   simp[hil]at hl
  ·rw[getD_set_ne true (Ne.symm his)]at hl
   have h1:=inv.ext0 k hl b hb hlt
   rw[←h1]
   exact he.1.block b (Nat.lt_of_lt_of_le hlt inv.ext.size) (λ e=>his (hVO k i b hb e))
 ·obtain⟨h1,h2,h3⟩:=inv.outer
  cases hd:o.dst with
  | none=>exact⟨h1,h2,h3⟩
  | some d=>
   refine⟨h1,by simp[Act.put,h2],λ t ht=>?_⟩
   have hmem:d ∈ X4 (ops.take n):=List.mem_filterMap.2 ⟨o,List.mem_of_getElem? (i:=i) (by rw[List.getElem?_take,if_pos hin];exact ho'),hd⟩
   rw[Je (by rintro rfl;simp at ht;exact ht hmem)];exact h3 t ht
 ·intro j oj hoj hl
  by_cases hij:j=i
  ·subst hij
   have:oj=o:=Option.some.inj (hoj.symm.trans ho')
   subst this
   unfold Z8
   unfold Js at hv
   cases hd:oj.dst with
   | none=>simpa [hd] using hv
   | some d=>
    simp only[hd]at hv
    have hmem:d ∈ X4 ops:=List.mem_filterMap.2 ⟨oj,List.mem_of_getElem? ho',hd⟩
    simp only
    rw[J1 (by rw[inv.outer.2.1];exact hdl d hmem)];exact hv
  ·rw[getD_set_ne true (Ne.symm hij)]at hl
   have h1:=hmono j i _ w w' hij he (inv.done j oj hoj hl)
   unfold Z8 at h1 ⊢
   cases hdj:oj.dst with
   | none=>first | exact h1 | simpa [hdj] using h1
   | some d=>
    try simp only[hdj]at h1 ⊢
    cases hdo:o.dst with
    | none=>exact h1
    | some d'=>
     have hne:d≠d':=by
      rintro rfl
      exact Qh7 hnd (Ne.symm hij) ho' hoj hdo hdj
     rw[Je hne];exact h1
 ·by_cases h1:i1=i
  ·subst h1
   have e:oi=o:=Option.some.inj (hoi.symm.trans ho')
   subst e
   rw[Qkp hB inv.outer.2.1 ho',Qdf hB hne ho' hoj]
   exact(hpr j1 oj hoj (by rwa [getD_set_ne true hne]at l2) (Ne.symm hne)).1
  ·by_cases h2:j1=i
   ·subst h2
    have e:oj=o:=Option.some.inj (hoj.symm.trans ho')
    subst e
    rw[Qkp hB inv.outer.2.1 ho',Qdf hB (Ne.symm hne) ho' hoi]
    exact(hpr i1 oi hoi (by rwa [getD_set_ne true (Ne.symm hne)]at l1) hne).2
   ·rw[Qdf hB (Ne.symm h1) ho' hoi,Qdf hB (Ne.symm h2) ho' hoj]
    exact hmonoP i1 j1 i _ _ w w' (Ne.symm h1) (Ne.symm h2) he (inv.pair i1 j1 oi oj hoi hoj (by rwa [getD_set_ne true (Ne.symm h1)]at l1) (by rwa [getD_set_ne true (Ne.symm h2)]at l2) hne)
theorem Qo0{n g:Nat}(hB:Qau ops a0.tmps.size=true)(hVO:∀i j b,VO i b→VO j b→i=j)
  (hmono:∀i j v w w',i≠j→EsW VO X j w w'→Φ i v w→Φ i v w') (hI:∀j w w',EsW VO X j w w'→I w→I w') (hmonoP:∀i j k vi vj w w',k≠i→k≠j→EsW VO X k w w'→PR i j vi vj w→PR i j vi vj w') (hX:∀j w,X j w w) (hnN:n≤ops.length)
  (hstep:∀(i:Nat) o,i<n→ops[i]?=some o→Qff P ops a0 w0 VO X I PR Φ Q n i o)
  (hlate:∀listed,HeadInv .any ops.toArray n listed→(∃i,i<n∧listed.getD i true=false)→Region.ready .any ops.toArray listed≠[]∧∀t ∈ Region.ready .any ops.toArray listed,t<n)
  (hend:∀listed a w,RInvW ops a0 w0 VO I PR Φ n listed a w→(∀i,i<n→listed.getD i true=true)→wpAny P .any ops.toArray Q g listed a w):
  ∀(fuel:Nat) (listed:Array Bool) (a:Act) (w:World),((List.range n).filter (λ i=>!listed.getD i true)).length=fuel→RInvW ops a0 w0 VO I PR Φ n listed a w→
   wpAny P .any ops.toArray Q (fuel+g) listed a w:=by
 intro fuel
 induction fuel with
 | zero=>
  intro listed a w hf inv
  rw[Nat.zero_add]
  refine hend listed a w inv λ i hi=>?_
  cases h:listed.getD i true with
  | true=>rfl
  | false=>
   have:i ∈ (List.range n).filter (λ i=>!listed.getD i true):=List.mem_filter.2 ⟨List.mem_range.2 hi,by rw[h];rfl⟩
   rw[List.eq_nil_of_length_eq_zero hf]at this;cases this
 | succ fuel ih=>
  intro listed a w hf inv
  rw[show fuel+1+g=(fuel+g)+1 by omega]
  have hex:∃i,i<n∧listed.getD i true=false:=by
   cases hl:(List.range n).filter (λ i=>!listed.getD i true)with
   | nil=>rw[hl]at hf;cases hf
   | cons x L=>
    have:x ∈ (List.range n).filter (λ i=>!listed.getD i true):=by rw[hl];exact List.mem_cons_self ..
    obtain⟨h1,h2⟩:=List.mem_filter.1 this
    exact⟨x,List.mem_range.1 h1,by simpa using h2⟩
  obtain⟨hne,hlt⟩:=hlate listed inv.head hex
  refine⟨λ hr=>absurd hr hne,λ i hi=>?_⟩
  have hin:=hlt i hi
  obtain⟨hun,o,ho,hall⟩:=mem_ready.1 hi
  have ho':ops[i]?=some o:=by simpa using ho
  have hls:listed.size=ops.length:=by rw[inv.head.size];simp
  have hdep:Qny ops Φ a w o.after.toList:=Qks λ e he hb oj hoj=>by
   have h1:=hall e (by simpa using he) hb
   refine inv.done e.on oj hoj ?_
   have h2:e.on<listed.size:=by
    rcases Nat.lt_or_ge e.on listed.size with h | h
    ·exact h
    ·simp[Array.getElem?_eq_none h]at h1
   simp[h2]at h1 ⊢;exact h1
  have hst:=hstep i o hin ho' (λ j=>listed.getD j true=true) a w (λ j oj hoj hl=>inv.done j oj hoj hl)
   ⟨inv.ext,inv.inv,λ j hj=>inv.ext0 j (by simpa using hj),λ j oj hoj e he hb hne hD=>(by
    have hjl:j<listed.size:=by rw[hls];exact(List.getElem?_eq_some_iff.1 hoj).1
    have h1:=inv.head.closed j oj (by simpa using hoj) (by simp[hjl]at hD ⊢;exact hD) e he hb
    rcases Nat.lt_or_ge e.on listed.size with h | h
    ·simp[h]at h1 hne;rw[h1]at hne;cases hne
    ·simp[Array.getElem?_eq_none h]at h1),(by rw[hun];exact Bool.false_ne_true)⟩ inv.outer hdep
  have next:∀v w',EsW VO X i w w'→Φ i (Js o v) w'→Qxa ops PR (λ j=>listed.getD j true=true) a i (Js o v) w'→wpAny P .any ops.toArray Q (fuel+g) (listed.setIfInBounds i true) (a.put o.dst v) w':=by
   intro v w' he hv hpr
   refine ih _ _ _ ?_ (inv.next hB hVO hmono hI hmonoP hi hin ho' he hv hpr)
   have:=Qgn (listed:=listed) (i:=i) (by omega) hun _ List.nodup_range (List.mem_range.2 hin)
   omega
  unfold wpOp
  rw[ho]
  dsimp only
  by_cases hw:Region.wanted o (yielded ops.toArray a.tmps)=true
  ·rw[if_pos hw]at hst ⊢
   left
   refine Oper.wp_mono (λ a' w' h=>?_) hst
   obtain⟨v,rfl,he,hv,hpr⟩:=h
   exact next v w' he hv hpr
  ·rw[if_neg hw]at hst ⊢
   have e:Js o undef=undef:=by unfold Js;cases o.dst <;> rfl
   exact next undef w (Qqd hX w) (by rw[e];exact hst.1) (λ j oj _ _ _=>⟨(hst.2 j _ _ w).1,(hst.2 j _ _ w).2⟩)
end
section
variable {P:Program} {Q:Exit→Act→World→Prop} {a:Act} {w:World} {l:List Oper} {VO:Nat→Nat→Prop} {X:Nat→World→World→Prop} {I:World→Prop} {PR:Nat→Nat→Value→Value→World→Prop} {Φ:Nat→Value→World→Prop}
theorem Qo1{n:Nat}(hI0:I w.drew)(hn:n≤l.length):RInvW l a w.drew VO I PR Φ n (Array.replicate l.length false) a w.drew:=
 ⟨⟨by simp,λ j oj _ hl=>(by rw[getD_replicate_false]at hl;cases hl),λ t _ ht=>getD_in (by simpa using ht) (getD_replicate_false _ _)⟩,ExtW.refl _ _,hI0,λ _ _ _ _ _=>rfl,⟨rfl,rfl,λ _ _=>rfl⟩,
  λ i o ho hl=>(by
   have hi:=(List.getElem?_eq_some_iff.1 ho).1
   rw[getD_in (by simpa using hi) (getD_replicate_false _ _)]at hl;cases hl),λ i1 _ oi _ hoi _ l1 _ _=>(by
   have hi:=(List.getElem?_eq_some_iff.1 hoi).1
   rw[getD_in (by simpa using hi) (getD_replicate_false _ _)]at l1;cases l1)⟩
theorem Qjk{id:Nat}(n:Nat)(VO:Nat→Nat→Prop)(hVO:∀i j b,VO i b→VO j b→i=j)(X:Nat→World→World→Prop)(I:World→Prop)(PR:Nat→Nat→Value→Value→World→Prop)(hX:∀j w,X j w w)(hI0:I w.drew)(Φ:Nat→Value→World→Prop)(hm:P.follows .mixedOrders=true)(hB:Qau l a.tmps.size=true)(hT:Qgo l n=true)
  (hmono:∀i j v w1 w',i≠j→EsW VO X j w1 w'→Φ i v w1→Φ i v w') (hI:∀j w w',EsW VO X j w w'→I w→I w') (hmonoP:∀i j k vi vj w w',k≠i→k≠j→EsW VO X k w w'→PR i j vi vj w→PR i j vi vj w')
  (hstep:∀(i:Nat) o,i<n→l[i]?=some o→Qff P l a w.drew VO X I PR Φ Q n i o)
  (hend:∀a' w',ExtW VO w.drew w'→I w'→Qdg l a n a'→Qgm l Φ a' w' 0 n→(∀i j oi oj,l[i]?=some oi→l[j]?=some oj→i<n→j<n→i≠j→PR i j (Z8 oi a') (Z8 oj a') w')→wpList P l.toArray Q (l.drop n) a' w'):(Code.region id l.toArray true).wp P Q a w:=by
 unfold Qgo at hT
 simp only[Bool.and_eq_true,decide_eq_true_eq]at hT
 obtain⟨⟨⟨hn,hs⟩,hc⟩,hseq⟩:=hT
 refine wp_region_any hm ?_
 have H:=Qo0 (P:=P) (ops:=l) (a0:=a) (w0:=w.drew) (VO:=VO) (X:=X) (I:=I) (PR:=PR) (Φ:=Φ) (Q:=Q) (n:=n) (g:=l.length - n) hB hVO hmono hI hmonoP hX (by omega) hstep
  (λ listed inv ⟨i,hi,hun⟩=>⟨λ hr=>(by
    have:=Qaa (a0:=a) hB (by rw[inv.size];simp) hr i (by omega)
    rw[hun]at this;cases this),λ t ht=>(by
    rcases Nat.lt_or_ge t n with h | h
    ·exact h
    ·exact absurd ht (tail_waits hs hc (by simpa using hn) inv (n - i) i rfl hi hun t h))⟩)
  (λ listed a' w' inv hall=>(by
    have e:=Qes (n:=n) (N:=l.length) (by rw[inv.head.size];simp) hall (λ i h1 h2=>inv.head.tail i h1 (by simpa using h2)) (by omega);have h:=wpAny_of_seq (P:=P) (md:=.any) (Q':=Q) (ops:=l.toArray) (l.drop n) n listed a' w' (λ j=>by simp[List.getElem?_drop]) (by rw[List.length_drop,e];exact hseq)
     (hend a' w' inv.ext inv.inv inv.outer (Qcg _ _ λ j _ h2 o ho=>inv.done j o ho (hall j (by omega))) (λ i j oi oj hoi hoj h1 h2 hne=>inv.pair i j oi oj hoi hoj (hall i h1) (hall j h2) hne))
    rwa [List.length_drop]at h))
  n (Array.replicate l.length false) a w.drew (Qcy _ _ (by omega)) (Qo1 hI0 (by omega))
 rw[show n+(l.length - n)=l.length by omega]at H
 simpa using H
end
def Qlw(VO:Nat→Nat→Prop)(X:Nat→World→World→Prop):Nat→List (Value→World→Prop)→Prop
 | _,[]=>True
 | i,φ :: r=>(∀j,j≠i→∀v w1 w',EsW VO X j w1 w'→φ v w1→φ v w')∧Qlw VO X (i+1) r
theorem Qqe{VO:Nat→Nat→Prop}{X:Nat→World→World→Prop}:∀{L:List (Value→World→Prop)} {k:Nat},Qlw VO X k L→∀i j v w1 w',j≠k+i→EsW VO X j w1 w'→L.getD i (λ _ _=>True) v w1→L.getD i (λ _ _=>True) v w'
 | [],_,_,_,_,_,_,_,_,_,_=>by simp
 | φ :: r,k,h,0,j,v,w1,w',hj,he,hp=>h.1 j hj v w1 w' he hp
 | φ :: r,k,h,i+1,j,v,w1,w',hj,he,hp=>Qqe (L:=r) h.2 i j v w1 w' (by omega) he hp
theorem Qxb{VO:Nat→Nat→Prop}{X:Nat→World→World→Prop}{L:List (Value→World→Prop)}(h:Qlw VO X 0 L):∀i j v w1 w',i≠j→EsW VO X j w1 w'→Qaw L i v w1→Qaw L i v w':=λ i j v w1 w' hij he hp=>
 Qqe h i j v w1 w' (by omega) he hp
theorem Qh6{VO:Nat→Nat→Prop}{X:Nat→World→World→Prop}{i:Nat}{f:Value→Prop}:∀j,j≠i→∀v w1 w',EsW VO X j w1 w'→(λ v (_:World)=>f v) v w1→(λ v (_:World)=>f v) v w':=λ _ _ _ _ _ _ h=>h
def Qg7(P:Program)(ops:List Oper)(a0:Act)(w0:World)(VO:Nat→Nat→Prop)(X:Nat→World→World→Prop)(I:World→Prop)(PR:Nat→Nat→Value→Value→World→Prop)(Φ:Nat→Value→World→Prop)(Q:Exit→Act→World→Prop)(hd:Nat):Nat→Nat→List Oper→Prop
 | _,0,_=>True
 | _,_+1,[]=>True
 | i,n+1,o :: r=>Qff P ops a0 w0 VO X I PR Φ Q hd i o∧Qg7 P ops a0 w0 VO X I PR Φ Q hd (i+1) n r
theorem Qjl{P:Program}{ops:List Oper}{a0:Act}{w0:World}{VO:Nat→Nat→Prop}{X:Nat→World→World→Prop}{I:World→Prop}{PR:Nat→Nat→Value→Value→World→Prop}{Φ:Nat→Value→World→Prop}{Q:Exit→Act→World→Prop}{hd:Nat}:
  ∀(n k:Nat) (r:List Oper),Qg7 P ops a0 w0 VO X I PR Φ Q hd k n r→∀(i:Nat) o,i<n→r[i]?=some o→Qff P ops a0 w0 VO X I PR Φ Q hd (k+i) o
 | 0,_,_,_,_,_,h,_=>by omega
 | _+1,_,[],_,_,_,_,h=>by simp at h
 | n+1,k,x :: r,h,0,o,_,ho=>by simp at ho;subst ho;exact h.1
 | n+1,k,x :: r,h,i+1,o,hi,ho=>by
  have:=Qjl n (k+1) r h.2 i o (by omega) (by simpa using ho)
  rwa [Nat.add_assoc,Nat.add_comm 1 i]at this
theorem Qu9{P:Program}{ops:List Oper}{a0:Act}{w0:World}{VO:Nat→Nat→Prop}{X:Nat→World→World→Prop}{I:World→Prop}{PR:Nat→Nat→Value→Value→World→Prop}{Φ:Nat→Value→World→Prop}{Q:Exit→Act→World→Prop}{hd:Nat}(n:Nat)
  (h:Qg7 P ops a0 w0 VO X I PR Φ Q hd 0 n ops):∀(i:Nat) o,i<n→ops[i]?=some o→Qff P ops a0 w0 VO X I PR Φ Q hd i o:=λ i o hi ho=>by
 have:=Qjl n 0 ops h i o hi ho
 rwa [Nat.zero_add]at this
section
variable {P:Program} {ops:List Oper} {a0:Act} {w0:World} {VO:Nat→Nat→Prop} {X:Nat→World→World→Prop} {I:World→Prop} {PR:Nat→Nat→Value→Value→World→Prop} {Φ:Nat→Value→World→Prop} {Q:Exit→Act→World→Prop} {hd:Nat} {i:Nat} {o:Oper}
theorem Qlx(h:∀(D:Nat→Prop) a w1,(∀j oj,ops[j]?=some oj→D j→Φ j (Z8 oj a) w1)→HereW VO I ops w0 w1 D i→Qdg ops a0 hd a→Qny ops Φ a w1 o.after.toList→
  Region.wanted o (yielded ops.toArray a.tmps)=true∧o.wp P a w1 (λ a' w'=>∃v,a'=a.put o.dst v∧EsW VO X i w1 w'∧Φ i (Js o v) w'∧Qxa ops PR D a i (Js o v) w') Q):Qff P ops a0 w0 VO X I PR Φ Q hd i o:=λ D a w1 hP hE hO hD=>by
 obtain⟨h1,h2⟩:=h D a w1 hP hE hO hD
 rw[if_pos h1];exact h2
theorem Qgl{v:Value}(hX:∀j w,X j w w)(hp:∀j vi vj w,PR i j vi vj w∧PR j i vi vj w)(h:∀(D:Nat→Prop) a w1,HereW VO I ops w0 w1 D i→Qdg ops a0 hd a→Qny ops Φ a w1 o.after.toList→
  Region.wanted o (yielded ops.toArray a.tmps)=true∧(execOp a.eval o).run P w1=.ok (.value v) w1) (hφ:∀w1,Φ i (Js o v) w1):Qff P ops a0 w0 VO X I PR Φ Q hd i o:=λ D a w1 hP hE hO hD=>by
 obtain⟨h1,h2⟩:=h D a w1 hE hO hD
 rw[if_pos h1]
 unfold Oper.wp
 rw[h2]
 exact⟨v,rfl,Qqd hX w1,hφ w1,λ j oj _ _ _=>⟨(hp j _ _ w1).1,(hp j _ _ w1).2⟩⟩
end
theorem RevIs.keepT{rb tb:Nat}{w w':World}{r:Rev}{d:RevD}(h:RevIs rb tb w r d)(hu:∀b cs,tb<b→w.heap[b]?=some (.cells cs 9 (0,0))→w'.heap[b]?=w.heap[b]?):RevIs rb tb w' r d:=by
 have kt:∀{a:Option Addr} {l:List ByteArray},Tx w a l→Off rb tb a→Tx w' a l:=λ h ho=>h.keep λ b off cs e h2=>hu b cs (ho b off e).2 h2
 exact⟨h.pos,h.L,h.signed,h.idx,h.wn,kt h.ws h.wo,h.wo,h.pn,kt h.ps h.po,h.po,h.root,h.wt,h.first,h.life,h.keys⟩
def GrN(tb o base:Nat)(w:World)(l:List Int):Prop:=∃v,w.cell? ⟨tb,o,none⟩=some v∧w.ownsRow base 23 1 v (len l) (l.map (Value.int .u64))∧(len l=0→v=.slice none 0 0)
def GrR(rb tb o base:Nat)(w:World)(l:List RevD):Prop:=∃v,∃rs:List Rev,w.cell? ⟨tb,o,none⟩=some v∧w.ownsRow base 48 11 v (len l) (rs.flatMap Rev.cells)∧(len l=0→v=.slice none 0 0)∧len rs=len l∧∀i,i<len l→RevIs rb tb w (Qlz rs i) (lth l i)
theorem Qjm{w w':World}{base e size n:Nat}{v:Value}{xs:List Value}(h:w.ownsRow base e size v n xs)(hu:∀b cs,base≤b→w.heap[b]?=some (.cells cs e (0,0))→w'.heap[b]?=w.heap[b]?):w'.ownsRow base e size v n xs:=by
 refine⟨h.1,?_⟩
 rcases h.2 with h2 | ⟨g,cap,cur,hv,hg,hh,hr2⟩
 ·exact .inl h2
 ·exact .inr ⟨g,cap,cur,hv,hg,(hu g cur hg hh).trans hh,hr2⟩
theorem Qva{w w':World}{base e size n:Nat}{v:Value}{xs:List Value}(h:w.ownsRow base e size v n xs)(hu:∀b,v.ownBlock=some b→b<w.heap.size→w'.heap[b]?=w.heap[b]?):w'.ownsRow base e size v n xs:=by
 refine⟨h.1,?_⟩
 rcases h.2 with h2 | ⟨g,cap,cur,rfl,hg,hh,hr2⟩
 ·exact .inl h2
 ·exact .inr ⟨g,cap,cur,rfl,hg,(hu g rfl (lt_of_block hh)).trans hh,hr2⟩
theorem GrN.keep{tb o base:Nat}{w w':World}{l:List Int}(h:GrN tb o base w l)(h1:w'.heap[tb]?=w.heap[tb]?)(hu:∀b cs,base≤b→w.heap[b]?=some (.cells cs 23 (0,0))→w'.heap[b]?=w.heap[b]?):GrN tb o base w' l:=by
 obtain⟨v,q1,q2,q3⟩:=h
 exact⟨v,(World.cell?_of_block (w:=w) h1).trans q1,Qjm q2 hu,q3⟩
theorem GrR.keep{rb tb o base:Nat}{w w':World}{l:List RevD}(h:GrR rb tb o base w l)(h1:w'.heap[tb]?=w.heap[tb]?)(hu:∀b cs,base≤b→w.heap[b]?=some (.cells cs 48 (0,0))→w'.heap[b]?=w.heap[b]?)(hs:∀b cs,tb<b→w.heap[b]?=some (.cells cs 9 (0,0))→w'.heap[b]?=w.heap[b]?):GrR rb tb o base w' l:=by
 obtain⟨v,rs,q1,q2,q3,q4,q5⟩:=h
 exact⟨v,rs,(World.cell?_of_block (w:=w) h1).trans q1,Qjm q2 hu,q3,q4,λ i hi=>(q5 i hi).keepT hs⟩
theorem GrN.cur{rb cb tb o base:Nat}{w w':World}{l:List Int}(h:GrN tb o base w l)(hc:Chg rb cb w w')(h1:cb<tb)(h2:rb<tb)(h3:tb<base)(h4:tb<w.heap.size):GrN tb o base w' l:=
 h.keep (hc.block tb h4 (by omega) (by omega)) (λ b cs hb hh=>hc.block b (lt_of_block hh) (by omega) (by omega))
theorem GrR.cur{rb cb tb o base:Nat}{w w':World}{l:List RevD}(h:GrR rb tb o base w l)(hc:Chg rb cb w w')(h1:cb<tb)(h2:rb<tb)(h3:tb<base)(h4:tb<w.heap.size):GrR rb tb o base w' l:=
 h.keep (hc.block tb h4 (by omega) (by omega)) (λ b cs hb hh=>hc.block b (lt_of_block hh) (by omega) (by omega)) (λ b cs hb hh=>hc.block b (lt_of_block hh) (by omega) (by omega))
theorem GrN.set{tb o base:Nat}{w:World}{l:List Int}(h:GrN tb o base w l)(h3:tb<base)(o2:Nat)(ho:o≠o2)(u:Value):GrN tb o base (w.setCell ⟨tb,o2,none⟩ u) l:=by
 obtain⟨v,q1,q2,q3⟩:=h
 exact⟨v,(World.cell?_setCell_other _ _ _ _ (by intro e;simp only[Addr.mk.injEq]at e;omega)).trans q1,Qe0 q2 h3 rfl,q3⟩
theorem GrR.set{rb tb o base:Nat}{w:World}{l:List RevD}(h:GrR rb tb o base w l)(h3:tb<base)(o2:Nat)(ho:o≠o2)(u:Value):GrR rb tb o base (w.setCell ⟨tb,o2,none⟩ u) l:=by
 obtain⟨v,rs,q1,q2,q3,q4,q5⟩:=h
 exact⟨v,rs,(World.cell?_setCell_other _ _ _ _ (by intro e;simp only[Addr.mk.injEq]at e;omega)).trans q1,Qe0 q2 h3 rfl,q3,q4,λ i hi=>(q5 i hi).keepT λ b cs hb _=>Below.heap_setCell _ _ _ _ (by omega:b≠tb)⟩
theorem GrN.put{tb o base:Nat}{w:World}{l:List Int}{v u:Value}(h0:w.cell? ⟨tb,o,none⟩=some u)(h3:tb<base)(h:w.ownsRow base 23 1 v (len l) (l.map (Value.int .u64)))(hz:len l≠0):GrN tb o base (w.setCell ⟨tb,o,none⟩ v) l:=
 ⟨v,World.cell?_setCell_same _ _ _ h0,Qe0 h h3 rfl,λ e=>absurd e hz⟩
theorem GrR.put{rb tb o base:Nat}{w:World}{l:List RevD}{rs:List Rev}{v u:Value}(h0:w.cell? ⟨tb,o,none⟩=some u)(h3:tb<base)(h:w.ownsRow base 48 11 v (len l) (rs.flatMap Rev.cells))(hz:len l≠0)(hl:len rs=len l)(hr:∀i,i<len l→RevIs rb tb w (Qlz rs i) (lth l i)):GrR rb tb o base (w.setCell ⟨tb,o,none⟩ v) l:=
 ⟨v,rs,World.cell?_setCell_same _ _ _ h0,Qe0 h h3 rfl,λ e=>absurd e hz,hl,λ i hi=>(hr i hi).keepT λ b cs hb _=>Below.heap_setCell _ _ _ _ (by omega:b≠tb)⟩
theorem GrN.holds{rb tb o base:Nat}{w:World}{l:List Int}(h:GrN tb o base w l)(h1:rb<base)(h2:tb<base):∃v,w.cell? ⟨tb,o,none⟩=some v∧HoldsD rb tb w v (.nums l):=by
 obtain⟨v,q1,q2,q3⟩:=h
 exact⟨v,q1,Qxs q2 h1 h2 q3⟩
theorem GrR.holds{rb tb o base:Nat}{w:World}{l:List RevD}(h:GrR rb tb o base w l)(h1:rb<base)(h2:tb<base):∃v,w.cell? ⟨tb,o,none⟩=some v∧HoldsD rb tb w v (.revs l):=by
 obtain⟨v,rs,q1,q2,q3,q4,q5⟩:=h
 exact⟨v,q1,Qxt q2 h1 h2 q3 q4 q5⟩
theorem Qvb{rb tb o base:Nat}{w w':World}{x x':Rcd}{v:Value}(h:RecAt rb tb 28 6 w x)(hk:Kd Q7 x)(h1:w'.heap[tb]?=w.heap[tb]?)(hs:∀b cs,tb<b→w.heap[b]?=some (.cells cs 9 (0,0))→w'.heap[b]?=w.heap[b]?)(ho:o=2 ∨ o=3)
  (hx:∀i,i≠2→i≠3→x' i=x i) (gn:GrN tb 3 base (w'.setCell ⟨tb,o,none⟩ v) (x' 3).ns) (gr:GrR rb tb 2 base (w'.setCell ⟨tb,o,none⟩ v) (x' 2).rs) (hb1:rb<base) (hb2:tb<base) (k3:x' 3=.nums (x' 3).ns) (k2:x' 2=.revs (x' 2).rs):RecAt rb tb 28 6 (w'.setCell ⟨tb,o,none⟩ v) x':=by
 obtain⟨cs,h3,h4,h5⟩:=h
 have hb:=Qb (h1.trans h3) (o:=o) v
 refine⟨_,hb,by simpa using h4,λ i hi=>?_⟩
 by_cases e2:i=2
 ·subst e2
  obtain⟨u,q1,q2⟩:=gr.holds hb1 hb2
  rw[←k2]at q2
  rw[Qa hb]at q1
  exact⟨u,q1,q2⟩
 ·by_cases e3:i=3
  ·subst e3
   obtain⟨u,q1,q2⟩:=gn.holds (rb:=rb) hb1 hb2
   rw[←k3]at q2
   rw[Qa hb]at q1
   exact⟨u,q1,q2⟩
  ·obtain⟨u,q1,q2⟩:=h5 i hi
   refine⟨u,by rw[Array.getElem?_setIfInBounds_ne (by omega)];exact q1,?_⟩
   rw[hx i e2 e3]
   have hkt:∀{a:Option Addr} {l:List ByteArray},Tx w a l→Off rb tb a→Tx (w'.setCell ⟨tb,o,none⟩ v) a l:=λ h ho=>h.keep λ b off cs e h2=>by
    rw[Below.heap_setCell _ _ _ _ (show b≠tb by have:=(ho b off e).2;omega)]
    exact hs b cs (ho b off e).2 h2
   have hkd:=hk i
   generalize x i=d at q2 hkd ⊢
   cases d with
   | num n=>exact q2
   | flag q=>exact q2
   | str s=>exact q2
   | strs l=>obtain⟨a,c,g1,g2,g3,g4⟩:=q2;exact⟨a,c,g1,g2,g3,hkt g4 g3⟩
   | nums l=>exfalso;match i,hi,e2,e3 with | 0,_,_,_ | 1,_,_,_ | 4,_,_,_ | 5,_,_,_=>exact absurd hkd (by simp[Zj,Q7])
   | revs l=>exfalso;match i,hi,e2,e3 with | 0,_,_,_ | 1,_,_,_ | 4,_,_,_ | 5,_,_,_=>exact absurd hkd (by simp[Zj,Q7])
theorem Qzy{rb tb base:Nat}{w:World}(h:w.heap[tb]?=some (.cells #[.string ⟨#[]⟩,.int .u64 0,.slice none 0 0,.slice none 0 0,.slice none 0 0,.slice none 0 0] 28 (0,0))):GrN tb 3 base w []∧GrR rb tb 2 base w []:=
 ⟨⟨_,Qa h 3,World.ownsRow_nil _ _ _ _,λ _=>rfl⟩,⟨_,[],Qa h 2,World.ownsRow_nil _ _ _ _,λ _=>rfl,rfl,λ i hi=>absurd hi (by simp[len])⟩⟩
theorem Qjn{α:Type}(f:Cst→α × Cst):∀(n:Nat) (σ:Cst) (l:List α),(Jp f n σ l).1.length≤l.length+n
 | 0,σ,l=>by simp[Jp]
 | n+1,.error e,l=>by simp[Jp]
 | n+1,.ok a,l=>by
  rw[Jp]
  have:=Qjn f n (f (.ok a)).2 (l++[(f (.ok a)).1])
  simp only[List.length_append,List.length_singleton]at this
  omega
def Qxc(rb cb:Nat)(v:Value)(j b:Nat):Prop:=(j=3∧(b=rb ∨ b=cb)) ∨ (j=5∧v.ownBlock=some b)
def RvTwo(y:Rcd)(q:Nat)(w:World)(a4:Option Addr)(c4:Nat)(a5:Option Addr)(c5:Nat):Prop:=HoldsD q q w (.slice a4 (len (y 4).l) c4) (y 4)∧HoldsD q q w (.slice a5 (len (y 5).l) c5) (y 5)
def Qg8(y:Rcd)(a4:Option Addr)(c4:Nat)(a5:Option Addr)(c5:Nat):Rev:=⟨(y 0).n,(y 1).n,(y 2).q,(y 3).n,a4,len (y 4).l,c4,a5,len (y 5).l,c5,(y 6).s,(y 7).n,(y 8).n,(y 9).n,(y 10).n⟩
def Qr4(y:Rcd)(τ:Cst)(cb rb:Nat)(s:ByteArray)(q:Nat)(u:Value)(w':World):Prop:=∃a4 c4 a5 c5,u=(Qg8 y a4 c4 a5 c5).val∧RvTwo y q w' a4 c4 a5 c5∧CurIs w' cb rb s τ
def Qxd(y:Rcd)(q:Nat)(u:Value)(w':World):Prop:=∃a4 c4 a5 c5 b,u=.slice (some ⟨b,0,none⟩) 1 1∧q<b∧w'.heap[b]?=some (.cells (Qg8 y a4 c4 a5 c5).cells.toArray 48 (0,0))∧RvTwo y q w' a4 c4 a5 c5
def Q1s(y:Rcd)(base:Nat)(xs:List Value)(n q:Nat)(u:Value)(w':World):Prop:=∃a4 c4 a5 c5,w'.ownsRow base 48 11 u (n+1) (xs++(Qg8 y a4 c4 a5 c5).cells)∧RvTwo y q w' a4 c4 a5 c5
theorem RvTwo.keep{y:Rcd}{q:Nat}{w w':World}{a4:Option Addr}{c4:Nat}{a5:Option Addr}{c5:Nat}(h:RvTwo y q w a4 c4 a5 c5)(hu:∀b,q<b→b<w.heap.size→w'.heap[b]?=w.heap[b]?):RvTwo y q w' a4 c4 a5 c5:=⟨h.1.keep2 (λ b h1 _ h3=>hu b h1 h3),h.2.keep2 (λ b h1 _ h3=>hu b h1 h3)⟩
section
variable {rb cb base q n:Nat} {v:Value} {xs:List Value} {W:World}
theorem Qkq(hO:W.ownsRow base 48 11 v n xs){b:Nat}(h:v.ownBlock=some b):base≤b∧b<W.heap.size:=hO.lt b h
theorem Qzz(hO:W.ownsRow base 48 11 v n xs)(hr:rb<base)(hc:cb<base):∀i j b,Qxc rb cb v i b→Qxc rb cb v j b→i=j:=by
 rintro i j b (⟨rfl,h1⟩ | ⟨rfl,h1⟩) (⟨rfl,h2⟩ | ⟨rfl,h2⟩)
 ·rfl
 ·have:=(Qkq hO h2).1;omega
 ·have:=(Qkq hO h1).1;omega
 ·rfl
theorem Qqf(hO:W.ownsRow base 48 11 v n xs)(hr:rb<W.heap.size)(hc:cb<W.heap.size)(hq:W.heap.size=q+1){j b:Nat}(h:Qxc rb cb v j b):b≤q:=by
 rcases h with⟨-,h1⟩ | ⟨-,h1⟩
 ·omega
 ·have:=(Qkq hO h1).2;omega
theorem rv_m3{y:Rcd}{τ:Cst}{s:ByteArray}(hO:W.ownsRow base 48 11 v n xs)(hr:rb<W.heap.size)(hc:cb<W.heap.size)(hr2:rb<base)(hc2:cb<base)(hq:W.heap.size=q+1):∀j,j≠3→∀u w1 w',EsW (Qxc rb cb v) (λ _ _ _=>True) j w1 w'→Qr4 y τ cb rb s q u w1→Qr4 y τ cb rb s q u w':=by
 rintro j hj u w1 w' he ⟨a4,c4,a5,c5,h1,h2,h3⟩
 have hn:∀b,b<base→¬Qxc rb cb v j b:=by
  rintro b hb (⟨h,-⟩ | ⟨-,h⟩)
  ·exact hj h
  ·have:=(Qkq hO h).1;omega
 exact⟨a4,c4,a5,c5,h1,h2.keep (λ b h4 h5=>he.1.block b h5 (λ h=>by have:=Qqf hO hr hc hq h;omega)),h3.keep (he.1.block cb h3.clt (hn cb hc2)) (he.1.block rb h3.rlt (hn rb hr2))⟩
theorem rv_m4{y:Rcd}(hO:W.ownsRow base 48 11 v n xs)(hr:rb<W.heap.size)(hc:cb<W.heap.size)(hq:W.heap.size=q+1):∀j,j≠4→∀u w1 w',EsW (Qxc rb cb v) (λ _ _ _=>True) j w1 w'→Qxd y q u w1→Qxd y q u w':=by
 rintro j hj u w1 w' he ⟨a4,c4,a5,c5,b,h1,h2,h3,h4⟩
 exact⟨a4,c4,a5,c5,b,h1,h2,(he.1.block b (lt_of_block h3) (λ h=>by have:=Qqf hO hr hc hq h;omega)).trans h3,h4.keep (λ b h4 h5=>he.1.block b h5 (λ h=>by have:=Qqf hO hr hc hq h;omega))⟩
theorem rv_m5{y:Rcd}(hO:W.ownsRow base 48 11 v n xs)(hr:rb<W.heap.size)(hc:cb<W.heap.size)(hr2:rb<base)(hc2:cb<base)(hq:W.heap.size=q+1):∀j,j≠5→∀u w1 w',EsW (Qxc rb cb v) (λ _ _ _=>True) j w1 w'→Q1s y base xs n q u w1→Q1s y base xs n q u w':=by
 rintro j hj u w1 w' he ⟨a4,c4,a5,c5,h1,h2⟩
 refine⟨a4,c4,a5,c5,Qjm h1 (λ b cs hb hh=>he.1.block b (lt_of_block hh) ?_),h2.keep (λ b h4 h5=>he.1.block b h5 (λ h=>by have:=Qqf hO hr hc hq h;omega))⟩
 rintro(⟨-,h⟩ | ⟨h,-⟩)
 ·omega
 ·exact hj h
theorem rv_at{wv:World}{D:Nat→Prop}{I:World→Prop}{ops:List Oper}{i:Nat}(hE:HereW (Qxc rb cb v) I ops W.drew wv D i)(hO:W.ownsRow base 48 11 v n xs){tb:Nat}(h1:tb<W.heap.size)(h2:cb<tb)(h3:rb<tb)(h4:tb<base):wv.heap[tb]?=W.heap[tb]?:=
 hE.ext.block tb h1 (λ j h=>by
  rcases h with⟨-,h⟩ | ⟨-,h⟩
  ·omega
  ·have:=(Qkq hO h).1;omega)
theorem Qxe{y:Rcd}{w:World}{a4:Option Addr}{c4:Nat}{a5:Option Addr}{c5:Nat}{tb:Nat}(hk:Kd Jq y)(h:RvTwo y q w a4 c4 a5 c5)(hr:rb≤q)(ht:tb≤q):RevIs rb tb w (Qg8 y a4 c4 a5 c5) (Qnv y):=by
 obtain⟨h4,h5⟩:=h
 obtain⟨l4,e4⟩:=hk.strs (show Zj (Jq 4)=_ from rfl)
 obtain⟨l5,e5⟩:=hk.strs (show Zj (Jq 5)=_ from rfl)
 rw[e4]at h4
 rw[e5]at h5
 obtain⟨b4,d4,g1,-,g3,g4⟩:=h4
 obtain⟨b5,d5,k1,-,k3,k4⟩:=h5
 simp only[Value.slice.injEq]at g1 k1
 obtain⟨rfl,-,rfl⟩:=g1
 obtain⟨rfl,-,rfl⟩:=k1
 exact⟨rfl,rfl,rfl,rfl,rfl,by show Tx w a4 (y 4).l;rw[e4];exact g4,λ b off e=>⟨by have:=(g3 b off e).1;omega,by have:=(g3 b off e).1;omega⟩,rfl,by show Tx w a5 (y 5).l;rw[e5];exact k4,λ b off e=>⟨by have:=(k3 b off e).1;omega,by have:=(k3 b off e).1;omega⟩,rfl,rfl,rfl,rfl,rfl⟩
end
def certR(y:Rcd)(σ:Cst)(cb rb:Nat)(s:ByteArray)(w:World)(e:Ending)(w':World):Prop:=∃a2 c2 a3 c3 a4 c4 a5 c5,e=.returned (.agg (Zy y a2 c2 a3 c3 a4 c4 a5 c5))∧Kd Q7 y∧Qeq w.heap.size w' (.slice a2 (len (y 2).rs) c2) (y 2)∧Qeq w.heap.size w' (.slice a3 (len (y 3).ns) c3) (y 3)∧Qeq w.heap.size w' (.slice a4 (len (y 4).l) c4) (y 4)∧Qeq w.heap.size w' (.slice a5 (len (y 5).l) c5) (y 5)∧CurIs w' cb rb s σ∧Chg rb cb w w'
theorem Qvc(cb rb:Nat)(s:ByteArray)(σ:Cst)(w:World)(h:CurIs w cb rb s σ)(hs:s.size<65536):
  Calls Tryz.prog 101 #[pt cb 0] w (certR (Qjj s σ).1 (Qjj s σ).2 cb rb s w):=by
 have hcs:=h.clt;have hrs:=h.rlt;have h1:=fun (w':World) (hb:Below w.heap.size w w')=>Qcu cb rb s σ w' (h.below hb);have hbd:=Qcv (s:=s) (σ:=σ)
 unfold Qjj Qhf
 generalize Qay s σ=z at h1 hbd ⊢
 obtain⟨k0,σ1⟩:=z
 obtain⟨N,rfl⟩:∃k:Nat,k0=k:=⟨k0.toNat,by have:=hbd.1;simp only at this ⊢;omega⟩
 have hN:N≤10240:=by have:=hbd.2;simp only at this;omega
 have H:=QLh h1;have HSZ:=QLh hs;clear h1 h hbd
 simp only[Int.toNat_natCast]
 go_enter Tryz.func101,Tryz.ntmps101
 go_upto_region 2 with fail
 obtain⟨b0,hb0⟩:∃b0,w.heap.size=b0:=⟨_,rfl⟩
 obtain⟨V,hV⟩:∃V,(w.alloc (.cells #[.string ⟨#[]⟩,.int .u64 0,.slice none 0 0,.slice none 0 0,.slice none 0 0,.slice none 0 0] 28)).alloc (.cells #[.string ⟨#[]⟩,.int .u64 0,.slice none 0 0,.slice none 0 0,.slice none 0 0,.slice none 0 0] 28)=V:=⟨_,rfl⟩
 have HV:Hid (Below w.heap.size w V):=QLh (by rw[←hV];exact Qh (Qh (Below.refl _ _) _) _);have V0:Hid (V.heap[b0]?=some (.cells #[.string ⟨#[]⟩,.int .u64 0,.slice none 0 0,.slice none 0 0,.slice none 0 0,.slice none 0 0] 28 (0,0))):=QLh (by rw[←hV,←hb0];exact Qf (heap_alloc_new _ _) _);have V1:Hid (V.heap[b0+1]?=some (.cells #[.string ⟨#[]⟩,.int .u64 0,.slice none 0 0,.slice none 0 0,.slice none 0 0,.slice none 0 0] 28 (0,0))):=QLh (by rw[←hV];exact Qi _ (by simp[hb0]));have REC:Hid (RecAt rb (b0+1) 28 6 V Q7):=QLh (Qbo V1.out rfl (λ i hi=>by
  match i,hi with
  | 0,_=>exact⟨_,rfl,rfl⟩
  | 1,_=>exact⟨_,rfl,rfl⟩
  | 2,_=>exact⟨_,rfl,rfl,rfl⟩
  | 3,_=>exact⟨_,rfl,rfl,rfl⟩
  | 4,_=>exact⟨_,rfl,rfl,rfl⟩
  | 5,_=>exact⟨_,rfl,rfl,rfl⟩))
 have HB0:=QLh hb0;have hcb:cb<b0:=by omega
 have hrb:rb<b0:=by omega
 try rw[hV]
 try simp only[hb0]
 clear hV hb0
 go_wp2_with fail
 refine(H.out V HV.out).mono ?_
 rintro e w1 ⟨rfl,hc,hg⟩
 have HC1:=QLh hc;have HG1:Hid (Chg rb cb w w1):=QLh ((Chg.of_below HV.out).trans hg);have RES1:Hid (w1.heap[b0]?=some (.cells #[.string ⟨#[]⟩,.int .u64 0,.slice none 0 0,.slice none 0 0,.slice none 0 0,.slice none 0 0] 28 (0,0))):=QLh ((hg.block _ (lt_of_block V0.out) (by omega) (by omega)).trans V0.out);have REC1:Hid (RecAt rb (b0+1) 28 6 w1 Q7):=QLh (REC.out.cur hg (by omega) (by omega));have GR0:=QLh (Qzy (rb:=rb) (base:=b0+2) ((hg.block _ (lt_of_block V1.out) (by omega) (by omega)).trans V1.out));clear hc hg H V0 V1 REC
 go_wp2
 go_loopg [5,6,7,8,9,10,11,12] N (λ gg lv i _ _ _ _ _ _ wr=>∃(m:Nat) (τ:Cst) (x:Rcd) (last:ByteArray),gg+m=N∧i=.int .u64 m∧lv=.string last∧Hid (Q0 s ⟨#[80,83,99,112,114,119]⟩ (Zf s) N ⟨#[]⟩ Q7 σ1=Q0 s ⟨#[80,83,99,112,114,119]⟩ (Zf s) gg last x τ)∧Hid (CurIs wr cb rb s τ)∧Hid (Chg rb cb w wr)∧Hid (RecAt rb (b0+1) 28 6 wr x)∧Hid (Kd Q7 x)∧Hid (wr.heap[b0]?=some (.cells #[.string ⟨#[]⟩,.int .u64 0,.slice none 0 0,.slice none 0 0,.slice none 0 0,.slice none 0 0] 28 (0,0)))∧Hid (GrN (b0+1) 3 (b0+2) wr (x 3).ns)∧Hid (GrR rb (b0+1) 2 (b0+2) wr (x 2).rs)∧Hid (len (x 3).ns≤m * 10240∧len (x 2).rs≤m * 10240))
 case atStart=>exact⟨0,σ1,Q7,⟨#[]⟩,rfl,rfl,rfl,rfl,HC1.out,HG1.out,REC1.out,λ i=>rfl,RES1.out,GR0.out.1,GR0.out.2,⟨Nat.zero_le _,Nat.zero_le _⟩⟩
 case round=>
  clear HC1 HG1 RES1 REC1 GR0
  obtain⟨m,τ,x,last,hm,rfl,rfl,HD,HC,HG,REC,HK,RES,HGN,HGR,HLL⟩:=hrel
  by_cases hlt:m<N
  ·obtain⟨g',rfl⟩:∃g',gk=g'+1:=⟨gk - 1,by omega⟩
   have i1:(m:Int)<N:=by omega
   have HB:=QLh (Qb1 cb rb s τ _ HC.out)
   go_wp2_with fail
   refine HB.out.mono ?_
   rintro e w3 ⟨rfl,rfl⟩
   cases τ with
   | error f=>
    simp only[Qb0]
    have HE:Hid (Q0 s ⟨#[80,83,99,112,114,119]⟩ (Zf s) N ⟨#[]⟩ Q7 σ1=(x,.error f)):=QLh (by rw[HD.out,Jd]);clear HB HD
    obtain⟨a2,c2,a3,c3,a4,c4,a5,c5,hth,-⟩:=Qbz REC.out HK.out
    have m0:w3.cell? ⟨b0+1,0,none⟩=some (.string (x 0).s):=Qa hth 0;have HF:=QLh (Jf cb rb s (.error f) (Qgk x) 5 w3 HC.out (by decide));clear hth
    go_wp2_with fail
    refine HF.out.mono ?_
    rintro e w5 ⟨rfl,hc,hg⟩
    have HC5:=QLh hc;have HG5:=QLh (HG.out.trans hg);have RES5:Hid (w5.heap[b0]?=some (.cells #[.string ⟨#[]⟩,.int .u64 0,.slice none 0 0,.slice none 0 0,.slice none 0 0,.slice none 0 0] 28 (0,0))):=QLh ((hg.block _ (lt_of_block RES.out) (by omega) (by omega)).trans RES.out)
    obtain⟨a2,c2,a3,c3,a4,c4,a5,c5,hth,hl2,hl3,hl4,hl5⟩:=Qbz (REC.out.cur hg (by omega) (by omega)) HK.out
    have k0:w5.cell? ⟨b0+1,0,none⟩=some (.string (x 0).s):=Qa hth 0;have k1:w5.cell? ⟨b0+1,1,none⟩=some (.int .u64 (x 1).n):=Qa hth 1;have k2:w5.cell? ⟨b0+1,2,none⟩=some (.slice a2 (len (x 2).rs) c2):=Qa hth 2;have k3:w5.cell? ⟨b0+1,3,none⟩=some (.slice a3 (len (x 3).ns) c3):=Qa hth 3;have k4:w5.cell? ⟨b0+1,4,none⟩=some (.slice a4 (len (x 4).l) c4):=Qa hth 4;have k5:w5.cell? ⟨b0+1,5,none⟩=some (.slice a5 (len (x 5).l) c5):=Qa hth 5;have g0:∀o,w5.cell? ⟨b0,o,none⟩=_:=Qa RES5.out;have g1:∀o,w5.frozen? ⟨b0,o,none⟩=false:=Qj RES5.out;have g2:b0<w5.heap.size:=lt_of_block RES5.out;have HL2:=QLh hl2;have HL3:=QLh hl3;have HL4:=QLh hl4;have HL5:=QLh hl5;clear hc hg hth m0 hl2 hl3 hl4 hl5
    go_wp2
    have hw0:w.heap.size≤b0:=by have:=HB0.out;omega
    have hb:=(Qb (Qb (Qb (Qb (Qb (Qb RES5.out (o:=0) (.string (x 0).s)) (o:=1) (.int .u64 (x 1).n)) (o:=2) (.slice a2 (len (x 2).rs) c2)) (o:=3) (.slice a3 (len (x 3).ns) c3)) (o:=4) (.slice a4 (len (x 4).l) c4)) (o:=5) (.slice a5 (len (x 5).l) c5));have d:∀o,_=_:=Qa hb
    refine bodyPost_ret (v:=.agg (Zy x a2 c2 a3 c3 a4 c4 a5 c5)) ?_ rfl ?_
    ·simp[results,Tryz.results101,go_sem,d]
    ·rw[HE.out]
     have hk2:∀b,b0+1<b→((((((w5.setCell ⟨b0,0,none⟩ (.string (x 0).s)).setCell ⟨b0,1,none⟩ (.int .u64 (x 1).n)).setCell ⟨b0,2,none⟩ (.slice a2 (len (x 2).rs) c2)).setCell ⟨b0,3,none⟩ (.slice a3 (len (x 3).ns) c3)).setCell ⟨b0,4,none⟩ (.slice a4 (len (x 4).l) c4)).setCell ⟨b0,5,none⟩ (.slice a5 (len (x 5).l) c5)).heap[b]?=w5.heap[b]?:=λ b hb=>by repeat rw[Below.heap_setCell _ _ _ _ (by omega:b≠b0)]
     exact⟨_,_,_,_,_,_,_,_,rfl,HK.out,λ r t hr ht=>((HL2.out).keep2 (λ b _ h9 _=>hk2 b h9)).any (by have:=HB0.out;omega) (by have:=HB0.out;omega),λ r t hr ht=>((HL3.out).keep2 (λ b _ h9 _=>hk2 b h9)).any (by have:=HB0.out;omega) (by have:=HB0.out;omega),λ r t hr ht=>((HL4.out).keep2 (λ b _ h9 _=>hk2 b h9)).any (by have:=HB0.out;omega) (by have:=HB0.out;omega),λ r t hr ht=>((HL5.out).keep2 (λ b _ h9 _=>hk2 b h9)).any (by have:=HB0.out;omega) (by have:=HB0.out;omega),(CurIs.setOff (CurIs.setOff (CurIs.setOff (CurIs.setOff (CurIs.setOff (CurIs.setOff HC5.out hcb hrb _) hcb hrb _) hcb hrb _) hcb hrb _) hcb hrb _) hcb hrb _),(Chg.setNew (Chg.setNew (Chg.setNew (Chg.setNew (Chg.setNew (Chg.setNew HG5.out hw0 _) hw0 _) hw0 _) hw0 _) hw0 _) hw0 _)⟩
   | ok a=>
    simp only[Qb0]
    have HKY:=QLh (Qf3 cb rb s ⟨#[80,83,99,112,114,119]⟩ last (.ok a) w3 HC.out (by decide));have HE:Hid (Q0 s ⟨#[80,83,99,112,114,119]⟩ (Zf s) N ⟨#[]⟩ Q7 σ1=Q0 s ⟨#[80,83,99,112,114,119]⟩ (Zf s) g' (Qaz s ⟨#[80,83,99,112,114,119]⟩ last (.ok a)).1 (sw (Zf s) (Qaz s ⟨#[80,83,99,112,114,119]⟩ last (.ok a)).1 x (Qaz s ⟨#[80,83,99,112,114,119]⟩ last (.ok a)).2).1 (sw (Zf s) (Qaz s ⟨#[80,83,99,112,114,119]⟩ last (.ok a)).1 x (Qaz s ⟨#[80,83,99,112,114,119]⟩ last (.ok a)).2).2):=QLh HD.out;clear HB HD
    go_wp2_with fail
    refine HKY.out.mono ?_
    rintro e w4 ⟨rfl,hc,hg⟩
    have HC4:=QLh hc;have HG4:Hid (Chg rb cb w w4):=QLh (HG.out.trans hg);have REC4:=QLh (REC.out.cur hg (by omega) (by omega));have RES4:Hid (w4.heap[b0]?=some (.cells #[.string ⟨#[]⟩,.int .u64 0,.slice none 0 0,.slice none 0 0,.slice none 0 0,.slice none 0 0] 28 (0,0))):=QLh ((hg.block _ (lt_of_block RES.out) (by omega) (by omega)).trans RES.out);have HGN4:=QLh (HGN.out.cur hg (by omega) (by omega) (Nat.lt_succ_self _) (Xp REC.out));have HGR4:=QLh (HGR.out.cur hg (by omega) (by omega) (Nat.lt_succ_self _) (Xp REC.out));clear hc hg HKY HC HG REC RES HGN HGR
    obtain⟨key,hkey⟩:∃key,(Qaz s ⟨#[80,83,99,112,114,119]⟩ last (.ok a)).1=key:=⟨_,rfl⟩
    obtain⟨τ1,hτ1⟩:∃τ1,(Qaz s ⟨#[80,83,99,112,114,119]⟩ last (.ok a)).2=τ1:=⟨_,rfl⟩
    have HE:Hid (Q0 s ⟨#[80,83,99,112,114,119]⟩ (Zf s) N ⟨#[]⟩ Q7 σ1=Q0 s ⟨#[80,83,99,112,114,119]⟩ (Zf s) g' key (sw (Zf s) key x τ1).1 (sw (Zf s) key x τ1).2):=QLh (by have:=HE.out;rw[hkey,hτ1]at this;exact this);have HC4:Hid (CurIs w4 cb rb s τ1):=QLh (by rw[←hτ1];exact HC4.out)
    rw[hkey]
    clear hkey hτ1
    cases hq0:(key.toList == [80])with
    | true=>
     have es:sw (Zf s) key x τ1=(upd x 5 (.strs (Qbh s 10240 τ1).1),(Qbh s 10240 τ1).2):=by unfold Zf;simp only[sw,hq0,if_true,Bool.false_eq_true,if_false];rfl
     have HE2:Hid (Q0 s ⟨#[80,83,99,112,114,119]⟩ (Zf s) N ⟨#[]⟩ Q7 σ1=Q0 s ⟨#[80,83,99,112,114,119]⟩ (Zf s) g' key (upd x 5 (.strs (Qbh s 10240 τ1).1)) (Qbh s 10240 τ1).2):=QLh (by rw[HE.out,es]);have HNM:=QLh (Qf5 cb rb s 10240 τ1 w4 HC4.out);clear es HE
     go_wp2_with fail
     refine HNM.out.mono ?_
     rintro e w5 ⟨v,rfl,hh,hc,hg⟩
     have hv:=hh rb (b0+1) (Nat.lt_trans (Nat.lt_trans hrb (Nat.lt_succ_self b0)) (Xp REC4.out)) (Xp REC4.out);have HV:=QLh hv
     obtain⟨av,cv,rfl,-⟩:=hv
     have HC5:=QLh hc;have HG5:=QLh (HG4.out.trans hg);have hrec:=REC4.out.cur hg (by omega) (by omega);have REC5:=QLh hrec;have RES5:Hid (w5.heap[b0]?=some (.cells #[.string ⟨#[]⟩,.int .u64 0,.slice none 0 0,.slice none 0 0,.slice none 0 0,.slice none 0 0] 28 (0,0))):=QLh ((hg.block _ (lt_of_block RES4.out) (by omega) (by omega)).trans RES4.out)
     obtain⟨u,hu,-⟩:=hrec.get (by decide:5<6)
     have hfz:=hrec.free 5;have HGN5:=QLh (HGN4.out.cur hg (by omega) (by omega) (Nat.lt_succ_self _) (Xp REC4.out));have HGR5:=QLh (HGR4.out.cur hg (by omega) (by omega) (Nat.lt_succ_self _) (Xp REC4.out));clear hc hg hrec hh
     go_wp2
     go_roundg g'
     case rel=>exact⟨m+1,_,_,key,by omega,by go_num,rfl,HE2.out,HC5.out.setOff (by omega) (by omega) _,HG5.out.setNew (show w.heap.size≤b0+1 by have:=HB0.out;omega) _,REC5.out.set (by decide:5<6) HV.out,HK.out.upd rfl,QLh (Qg RES5.out (by omega:b0≠b0+1) _),QLh (by rw[Zg (by decide)];exact HGN5.out.set (Nat.lt_succ_self _) 5 (by decide) _),QLh (by rw[Zg (by decide)];exact HGR5.out.set (Nat.lt_succ_self _) 5 (by decide) _),QLh (by rw[Zg (by decide),Zg (by decide)];have:=HLL.out;omega)⟩
     case measure=>omega
    | false=>
     cases hq1:(key.toList == [83])with
     | true=>
      have es:sw (Zf s) key x τ1=(upd x 4 (.strs (Qbh s 10240 τ1).1),(Qbh s 10240 τ1).2):=by unfold Zf;simp only[sw,hq0,hq1,if_true,Bool.false_eq_true,if_false];rfl
      have HE2:Hid (Q0 s ⟨#[80,83,99,112,114,119]⟩ (Zf s) N ⟨#[]⟩ Q7 σ1=Q0 s ⟨#[80,83,99,112,114,119]⟩ (Zf s) g' key (upd x 4 (.strs (Qbh s 10240 τ1).1)) (Qbh s 10240 τ1).2):=QLh (by rw[HE.out,es]);have HNM:=QLh (Qf5 cb rb s 10240 τ1 w4 HC4.out);clear es HE
      go_wp2_with fail
      refine HNM.out.mono ?_
      rintro e w5 ⟨v,rfl,hh,hc,hg⟩
      have hv:=hh rb (b0+1) (Nat.lt_trans (Nat.lt_trans hrb (Nat.lt_succ_self b0)) (Xp REC4.out)) (Xp REC4.out);have HV:=QLh hv
      obtain⟨av,cv,rfl,-⟩:=hv
      have HC5:=QLh hc;have HG5:=QLh (HG4.out.trans hg);have hrec:=REC4.out.cur hg (by omega) (by omega);have REC5:=QLh hrec;have RES5:Hid (w5.heap[b0]?=some (.cells #[.string ⟨#[]⟩,.int .u64 0,.slice none 0 0,.slice none 0 0,.slice none 0 0,.slice none 0 0] 28 (0,0))):=QLh ((hg.block _ (lt_of_block RES4.out) (by omega) (by omega)).trans RES4.out)
      obtain⟨u,hu,-⟩:=hrec.get (by decide:4<6)
      have hfz:=hrec.free 4;have HGN5:=QLh (HGN4.out.cur hg (by omega) (by omega) (Nat.lt_succ_self _) (Xp REC4.out));have HGR5:=QLh (HGR4.out.cur hg (by omega) (by omega) (Nat.lt_succ_self _) (Xp REC4.out));clear hc hg hrec hh
      go_wp2
      go_roundg g'
      case rel=>exact⟨m+1,_,_,key,by omega,by go_num,rfl,HE2.out,HC5.out.setOff (by omega) (by omega) _,HG5.out.setNew (show w.heap.size≤b0+1 by have:=HB0.out;omega) _,REC5.out.set (by decide:4<6) HV.out,HK.out.upd rfl,QLh (Qg RES5.out (by omega:b0≠b0+1) _),QLh (by rw[Zg (by decide)];exact HGN5.out.set (Nat.lt_succ_self _) 4 (by decide) _),QLh (by rw[Zg (by decide)];exact HGR5.out.set (Nat.lt_succ_self _) 4 (by decide) _),QLh (by rw[Zg (by decide),Zg (by decide)];have:=HLL.out;omega)⟩
      case measure=>omega
     | false=>
      cases hq2:(key.toList == [99])with
      | true=>
       have es:sw (Zf s) key x τ1=(upd x 0 (.str (Qep s τ1).1),(Qep s τ1).2):=by unfold Zf;simp only[sw,hq0,hq1,hq2,if_true,Bool.false_eq_true,if_false];rfl
       have HE2:Hid (Q0 s ⟨#[80,83,99,112,114,119]⟩ (Zf s) N ⟨#[]⟩ Q7 σ1=Q0 s ⟨#[80,83,99,112,114,119]⟩ (Zf s) g' key (upd x 0 (.str (Qep s τ1).1)) (Qep s τ1).2):=QLh (by rw[HE.out,es]);have HNM:=QLh (Qlo cb rb s τ1 w4 HC4.out);clear es HE
       go_wp2_with fail
       refine HNM.out.mono ?_
       rintro e w5 ⟨rfl,hc,hg⟩
       have HC5:=QLh hc;have HG5:=QLh (HG4.out.trans hg);have hrec:=REC4.out.cur hg (by omega) (by omega);have REC5:=QLh hrec;have RES5:Hid (w5.heap[b0]?=some (.cells #[.string ⟨#[]⟩,.int .u64 0,.slice none 0 0,.slice none 0 0,.slice none 0 0,.slice none 0 0] 28 (0,0))):=QLh ((hg.block _ (lt_of_block RES4.out) (by omega) (by omega)).trans RES4.out)
       obtain⟨u,hu,-⟩:=hrec.get (by decide:0<6)
       have hfz:=hrec.free 0;have HGN5:=QLh (HGN4.out.cur hg (by omega) (by omega) (Nat.lt_succ_self _) (Xp REC4.out));have HGR5:=QLh (HGR4.out.cur hg (by omega) (by omega) (Nat.lt_succ_self _) (Xp REC4.out));clear hc hg hrec
       go_wp2
       go_roundg g'
       case rel=>exact⟨m+1,_,_,key,by omega,by go_num,rfl,HE2.out,HC5.out.setOff (by omega) (by omega) _,HG5.out.setNew (show w.heap.size≤b0+1 by have:=HB0.out;omega) _,REC5.out.set (by decide:0<6) rfl,HK.out.upd rfl,QLh (Qg RES5.out (by omega:b0≠b0+1) _),QLh (by rw[Zg (by decide)];exact HGN5.out.set (Nat.lt_succ_self _) 0 (by decide) _),QLh (by rw[Zg (by decide)];exact HGR5.out.set (Nat.lt_succ_self _) 0 (by decide) _),QLh (by rw[Zg (by decide),Zg (by decide)];have:=HLL.out;omega)⟩
       case measure=>omega
      | false=>
       cases hq3:(key.toList == [112])with
       | true=>
        have es:sw (Zf s) key x τ1=(upd x 3 (.nums (Qer s (x 3).ns τ1).1),(Qer s (x 3).ns τ1).2):=by unfold Zf;simp only[sw,hq0,hq1,hq2,hq3,if_true,Bool.false_eq_true,if_false];rfl
        have HE2:Hid (Q0 s ⟨#[80,83,99,112,114,119]⟩ (Zf s) N ⟨#[]⟩ Q7 σ1=Q0 s ⟨#[80,83,99,112,114,119]⟩ (Zf s) g' key (upd x 3 (.nums (Qer s (x 3).ns τ1).1)) (Qer s (x 3).ns τ1).2):=QLh (by rw[HE.out,es]);have HNM:=QLh (Qja cb rb s 640 τ1 w4 HC4.out);have hbd:=Qf4 (s:=s) (most:=640) (σ:=τ1);clear es HE
        unfold Qer at HE2
        generalize Xe s 640 τ1=z at HE2 HNM hbd
        obtain⟨k0,τ2⟩:=z
        obtain⟨k,rfl⟩:∃k:Nat,k0=k:=⟨k0.toNat,by have:=hbd.1;simp only at this ⊢;omega⟩
        have hk:k≤10240:=by have:=hbd.2;simp only at this;omega
        clear hbd;have HE2:Hid (Q0 s ⟨#[80,83,99,112,114,119]⟩ (Zf s) N ⟨#[]⟩ Q7 σ1=Q0 s ⟨#[80,83,99,112,114,119]⟩ (Zf s) g' key (upd x 3 (.nums (Jp (Qg6 s) k τ2 (x 3).ns).1)) (Jp (Qg6 s) k τ2 (x 3).ns).2):=QLh (by have:=HE2.out;simp only[Int.toNat_natCast]at this;exact this)
        go_wp2_with fail
        refine HNM.out.mono ?_
        rintro e w5 ⟨rfl,hc,hg⟩
        have HC5:=QLh hc;have HG5:=QLh (HG4.out.trans hg)
        obtain⟨l0,e0⟩:=HK.out.nums (o:=3) rfl
        have hx0:upd x 3 (.nums (x 3).ns)=x:=Qpf (by rw[e0];rfl);have REC5:Hid (RecAt rb (b0+1) 28 6 w5 (upd x 3 (.nums (x 3).ns))):=QLh (by rw[hx0];exact REC4.out.cur hg (by omega) (by omega));have RES5:Hid (w5.heap[b0]?=some (.cells #[.string ⟨#[]⟩,.int .u64 0,.slice none 0 0,.slice none 0 0,.slice none 0 0,.slice none 0 0] 28 (0,0))):=QLh ((hg.block _ (lt_of_block RES4.out) (by omega) (by omega)).trans RES4.out);have HGN5:=QLh (HGN4.out.cur hg (by omega) (by omega) (Nat.lt_succ_self _) (Xp REC4.out));have HGR5:=QLh (HGR4.out.cur hg (by omega) (by omega) (Nat.lt_succ_self _) (Xp REC4.out));clear hc hg HNM e0 hx0 HC4 HG4 REC4 RES4 HGN4 HGR4
        obtain⟨GK,hGK⟩:∃G,G=g':=⟨_,rfl⟩
        subst hGK
        go_wp2
        go_loopg [8,9,10] k (λ gg j _ _ wr=>∃(i:Nat) (τ:Cst) (acc:List Int),gg+i=k∧j=.int .u64 i∧Hid (Jp (Qg6 s) k τ2 (x 3).ns=Jp (Qg6 s) gg τ acc)∧Hid (CurIs wr cb rb s τ)∧Hid (Chg rb cb w wr)∧Hid (RecAt rb (b0+1) 28 6 wr (upd x 3 (.nums acc)))∧Hid (wr.heap[b0]?=some (.cells #[.string ⟨#[]⟩,.int .u64 0,.slice none 0 0,.slice none 0 0,.slice none 0 0,.slice none 0 0] 28 (0,0)))∧Hid (GrN (b0+1) 3 (b0+2) wr acc)∧Hid (GrR rb (b0+1) 2 (b0+2) wr (x 2).rs)∧Hid (len acc≤m * 10240+i))
        case atStart=>exact⟨0,τ2,(x 3).ns,by omega,rfl,rfl,HC5.out,HG5.out,REC5.out,RES5.out,HGN5.out,HGR5.out,HLL.out.1⟩
        case round=>
         clear HC5 HG5 REC5 RES5 HGN5 HGR5
         obtain⟨i,τ,acc,hi,rfl,HD,HC,HG,REC,RES,HGN,HGR,HLN⟩:=hrel
         by_cases hlk:i<k
         ·obtain⟨g2,rfl⟩:∃g2,gk=g2+1:=⟨gk - 1,by omega⟩
          have i2:(i:Int)<k:=by omega
          have HB:=QLh (Qb1 cb rb s τ _ HC.out)
          go_wp2_with fail
          refine HB.out.mono ?_
          rintro e w6 ⟨rfl,rfl⟩
          cases τ with
          | error f=>
           simp only[Qb0]
           have HM:=QLh (HD.out.trans (Qcx (Qg6 s) f (g2+1) acc));clear HB HD;have HE3:Hid (Q0 s ⟨#[80,83,99,112,114,119]⟩ (Zf s) N ⟨#[]⟩ Q7 σ1=Q0 s ⟨#[80,83,99,112,114,119]⟩ (Zf s) GK key (upd x 3 (.nums acc)) (.error f)):=QLh (by have:=HE2.out;rw[HM.out]at this;exact this);clear HE2
           go_wp2
           go_roundg GK
           case rel=>exact⟨m+1,_,_,key,by omega,by go_num,rfl,HE3.out,HC.out,HG.out,REC.out,HK.out.upd rfl,RES.out,QLh (by rw[Xc];exact HGN.out),QLh (by rw[Zg (by decide)];exact HGR.out),QLh (by rw[Xc,Zg (by decide)];have h1:=HLL.out;have h2:=HLN.out;have e9:(DV.nums acc).ns=acc:=rfl;rw[e9];omega)⟩
           case measure=>omega
          | ok a=>
           simp only[Qb0]
           clear HB;have HTK:=QLh (Qb2 cb rb s (.ok a) 0 w6 HC.out (by decide));have HD2:Hid (Jp (Qg6 s) k τ2 (x 3).ns=Jp (Qg6 s) g2 (tkS 0 s (.ok a)).2 (acc++[(tkS 0 s (.ok a)).1.1])):=QLh HD.out;clear HD
           go_wp2_with fail
           refine HTK.out.mono ?_
           rintro e w7 ⟨rfl,hc,hg⟩
           have HC7:=QLh hc;have HG7:=QLh (HG.out.trans hg);have REC7:=QLh (REC.out.cur hg (by omega) (by omega));have RES7:Hid (w7.heap[b0]?=some (.cells #[.string ⟨#[]⟩,.int .u64 0,.slice none 0 0,.slice none 0 0,.slice none 0 0,.slice none 0 0] 28 (0,0))):=QLh ((hg.block _ (lt_of_block RES.out) (by omega) (by omega)).trans RES.out);have HGN7:=QLh (HGN.out.cur hg (by omega) (by omega) (Nat.lt_succ_self _) (Xp REC.out));have HGR7:=QLh (HGR.out.cur hg (by omega) (by omega) (Nat.lt_succ_self _) (Xp REC.out));clear hc hg HTK HC HG REC RES HGN HGR
           generalize tkS 0 s (.ok a)=z at HD2 HC7 ⊢
           obtain⟨⟨n,t⟩,τ3⟩:=z
           obtain⟨v,hv,hown,h0⟩:=HGN7.out
           have HOWN:=QLh hown;have hbw:b0+1<w7.heap.size:=Xp REC7.out;have hfz:=(REC7.out).free 3;have hmb:m * 10240≤104857600:=by omega
           have hlb:=HLN.out
           obtain⟨i0,hi0,hz0,hz1,hz2⟩:=info_parts Qo4
           clear hown h0
           go_wp2_with (at_builtin;refine wpList_append_own _ rfl _ _ 25 rfl (b0+2) 23 i0 (.int .u64 0) 1 8 Tryz.underlying25 hi0 hz0 hz1 hz2 rfl (by decide) _ _ _ rfl (HOWN.out.alloc _) ⟨w7.heap.size,0,none⟩ 1 1 [.int .u64 n] rfl rfl ?c1 ?c2 ?c3 ?c4 ?c5 ?_)
           case c1=>exact World.news_of_block (heap_alloc_new _ _)
           case c2=>intro u hu;simp at hu;subst hu;rfl
           case c3=>unfold maxLen;omega
           case c4=>omega
           case c5=>simp;omega
           intro v' w8 hown' hgrow hnil
           obtain⟨g3,cap3,rfl,hg1,hg3⟩:=hown'.form (by omega)
           have hlt8:=HOWN.out.lt;have hB8:∀b:Nat,b<w7.heap.size→v.ownBlock≠some b→w8.heap[b]?=w7.heap[b]?:=λ b hb hn=>(hgrow.block b (by simp;omega) (λ e=>hn e.symm)).trans (Below.heap_alloc _ _ _ hb);have hlow:∀b:Nat,b<b0+2→v.ownBlock≠some b:=λ b hb e=>by have:=(hlt8 b e).1;omega
           have hty:=Qc1 HOWN.out;have hS8:∀(b:Nat) (cs:Array Value) (T2:TypeId),T2≠23→w7.heap[b]?=some (.cells cs T2 (0,0))→w8.heap[b]?=w7.heap[b]?:=λ b cs T2 hT hh=>hB8 b (lt_of_block hh) (λ e=>by obtain⟨c2,h2⟩:=hty b e;rw[hh]at h2;cases h2;exact hT rfl);have hbT:w8.heap[b0+1]?=w7.heap[b0+1]?:=hB8 _ hbw (hlow _ (by omega));have hv8:w8.cell? ⟨b0+1,3,none⟩=some v:=(World.cell?_of_block (w:=w7) hbT).trans hv;have hf8:w8.frozen? ⟨b0+1,3,none⟩=false:=by obtain⟨c2,h2,_⟩:=REC7.out;exact Qj (hbT.trans h2) 3
           have hsz8:w7.heap.size≤w8.heap.size:=by have:=hgrow.size;simp at this;omega
           have HG8:Hid (Chg rb cb w w8):=QLh ⟨hgrow.os.trans HG7.out.os,hgrow.tape.trans HG7.out.tape,hgrow.output.trans HG7.out.output,Nat.le_trans HG7.out.size hsz8,λ b hb h1 h2=>(hB8 b (Nat.lt_of_lt_of_le hb HG7.out.size) (hlow b (by have:=HB0.out;omega))).trans (HG7.out.block b hb h1 h2)⟩;have HC8:Hid (CurIs w8 cb rb s τ3):=QLh (HC7.out.keep (hB8 cb HC7.out.clt (hlow _ (by omega))) (hB8 rb HC7.out.rlt (hlow _ (by omega))));have RES8:Hid (w8.heap[b0]?=some (.cells #[.string ⟨#[]⟩,.int .u64 0,.slice none 0 0,.slice none 0 0,.slice none 0 0,.slice none 0 0] 28 (0,0))):=QLh ((hB8 b0 (lt_of_block RES7.out) (hlow _ (by omega))).trans RES7.out);have hl2:len (acc++[n])=len acc+1:=by simp[len]
           have HGN8:Hid (GrN (b0+1) 3 (b0+2) (w8.setCell ⟨b0+1,3,none⟩ (.slice (some ⟨g3,0,none⟩) (len acc+1) cap3)) (acc++[n])):=QLh (GrN.put hv8 (Nat.lt_succ_self _) (by rw[hl2,List.map_append];exact hown') (by omega));have HGR8:Hid (GrR rb (b0+1) 2 (b0+2) (w8.setCell ⟨b0+1,3,none⟩ (.slice (some ⟨g3,0,none⟩) (len acc+1) cap3)) (x 2).rs):=QLh ((HGR7.out.keep hbT (λ b cs hb hh=>hS8 b cs _ (by decide) hh) (λ b cs hb hh=>hS8 b cs _ (by decide) hh)).set (Nat.lt_succ_self _) 3 (by decide) _);have REC8:Hid (RecAt rb (b0+1) 28 6 (w8.setCell ⟨b0+1,3,none⟩ (.slice (some ⟨g3,0,none⟩) (len acc+1) cap3)) (upd x 3 (.nums (acc++[n])))):=QLh (Qvb (base:=b0+2) REC7.out (HK.out.upd rfl) hbT (λ b cs hb hh=>hS8 b cs _ (by decide) hh) (.inr rfl) (λ i h2 h3=>by rw[Zg h3,Zg h3]) (by rw[Xc];exact HGN8.out) (by rw[Zg (by decide)];exact HGR8.out) (by omega) (by omega) (by rw[Xc];rfl) (by rw[Zg (by decide)];obtain⟨l9,e9⟩:=HK.out.revs (o:=2) rfl;rw[e9];rfl));have hw0:w.heap.size≤b0+1:=by have:=HB0.out;omega
           have hlt9:b0+1<w8.heap.size:=Nat.lt_of_lt_of_le hbw hsz8;clear hgrow hB8 hlow hlt8 hty hS8 hbT hfz hv hnil hown' hi0 hz0 hz1 hz2
           go_wp2
           go_roundg g2
           case rel=>exact⟨i+1,τ3,acc++[n],by omega,by go_num,HD2.out,HC8.out.setOff (by omega) (by omega) _,HG8.out.setNew hw0 _,REC8.out,QLh (Qg RES8.out (by omega:b0≠b0+1) _),HGN8.out,HGR8.out,QLh (by rw[hl2];omega)⟩
           case measure=>omega
         ·obtain rfl:i=k:=by omega
          have i2:¬((i:Nat):Int)<i:=by omega
          obtain rfl:gk=0:=by omega
          have HM:Hid (Jp (Qg6 s) i τ2 (x 3).ns=(acc,τ)):=QLh HD.out;clear HD;have HE3:Hid (Q0 s ⟨#[80,83,99,112,114,119]⟩ (Zf s) N ⟨#[]⟩ Q7 σ1=Q0 s ⟨#[80,83,99,112,114,119]⟩ (Zf s) GK key (upd x 3 (.nums acc)) τ):=QLh (by have:=HE2.out;rw[HM.out]at this;exact this);clear HE2
          go_wp2
          go_roundg GK
          case rel=>exact⟨m+1,_,_,key,by omega,by go_num,rfl,HE3.out,HC.out,HG.out,REC.out,HK.out.upd rfl,RES.out,QLh (by rw[Xc];exact HGN.out),QLh (by rw[Zg (by decide)];exact HGR.out),QLh (by rw[Xc,Zg (by decide)];have h1:=HLL.out;have h2:=HLN.out;have e9:(DV.nums acc).ns=acc:=rfl;rw[e9];omega)⟩
          case measure=>omega
       | false=>
        cases hq4:(key.toList == [114])with
        | true=>
         have es:sw (Zf s) key x τ1=(upd x 2 (.revs (Qji s (x 2).rs τ1).1),(Qji s (x 2).rs τ1).2):=by unfold Zf;simp only[sw,hq0,hq1,hq2,hq3,hq4,if_true,Bool.false_eq_true,if_false];rfl
         have HE2:Hid (Q0 s ⟨#[80,83,99,112,114,119]⟩ (Zf s) N ⟨#[]⟩ Q7 σ1=Q0 s ⟨#[80,83,99,112,114,119]⟩ (Zf s) g' key (upd x 2 (.revs (Qji s (x 2).rs τ1).1)) (Qji s (x 2).rs τ1).2):=QLh (by rw[HE.out,es]);have HNM:=QLh (Qja cb rb s 640 τ1 w4 HC4.out);have hbd:=Qf4 (s:=s) (most:=640) (σ:=τ1);clear es HE
         unfold Qji at HE2
         generalize Xe s 640 τ1=z at HE2 HNM hbd
         obtain⟨k0,τ2⟩:=z
         obtain⟨k,rfl⟩:∃k:Nat,k0=k:=⟨k0.toNat,by have:=hbd.1;simp only at this ⊢;omega⟩
         have hk:k≤10240:=by have:=hbd.2;simp only at this;omega
         clear hbd;have HE2:Hid (Q0 s ⟨#[80,83,99,112,114,119]⟩ (Zf s) N ⟨#[]⟩ Q7 σ1=Q0 s ⟨#[80,83,99,112,114,119]⟩ (Zf s) g' key (upd x 2 (.revs (Jp (Qr0 s) k τ2 (x 2).rs).1)) (Jp (Qr0 s) k τ2 (x 2).rs).2):=QLh (by have:=HE2.out;simp only[Int.toNat_natCast]at this;exact this)
         go_wp2_with fail
         refine HNM.out.mono ?_
         rintro e w5 ⟨rfl,hc,hg⟩
         have HC5:=QLh hc;have HG5:=QLh (HG4.out.trans hg)
         obtain⟨l0,e0⟩:=HK.out.revs (o:=2) rfl
         have hx0:upd x 2 (.revs (x 2).rs)=x:=Qpf (by rw[e0];rfl);have REC5:Hid (RecAt rb (b0+1) 28 6 w5 (upd x 2 (.revs (x 2).rs))):=QLh (by rw[hx0];exact REC4.out.cur hg (by omega) (by omega));have RES5:Hid (w5.heap[b0]?=some (.cells #[.string ⟨#[]⟩,.int .u64 0,.slice none 0 0,.slice none 0 0,.slice none 0 0,.slice none 0 0] 28 (0,0))):=QLh ((hg.block _ (lt_of_block RES4.out) (by omega) (by omega)).trans RES4.out);have HGN5:=QLh (HGN4.out.cur hg (by omega) (by omega) (Nat.lt_succ_self _) (Xp REC4.out));have HGR5:=QLh (HGR4.out.cur hg (by omega) (by omega) (Nat.lt_succ_self _) (Xp REC4.out));clear hc hg HNM e0 hx0 HC4 HG4 REC4 RES4 HGN4 HGR4
         obtain⟨GK,hGK⟩:∃G,G=g':=⟨_,rfl⟩
         subst hGK
         go_wp2
         go_loopg [12] k (λ gg j wr=>∃(i:Nat) (τ:Cst) (acc:List RevD),gg+i=k∧j=.int .u64 i∧Hid (Jp (Qr0 s) k τ2 (x 2).rs=Jp (Qr0 s) gg τ acc)∧Hid (CurIs wr cb rb s τ)∧Hid (Chg rb cb w wr)∧Hid (RecAt rb (b0+1) 28 6 wr (upd x 2 (.revs acc)))∧Hid (wr.heap[b0]?=some (.cells #[.string ⟨#[]⟩,.int .u64 0,.slice none 0 0,.slice none 0 0,.slice none 0 0,.slice none 0 0] 28 (0,0)))∧Hid (GrN (b0+1) 3 (b0+2) wr (x 3).ns)∧Hid (GrR rb (b0+1) 2 (b0+2) wr acc)∧Hid (len acc≤m * 10240+i))
         case atStart=>exact⟨0,τ2,(x 2).rs,by omega,rfl,rfl,HC5.out,HG5.out,REC5.out,RES5.out,HGN5.out,HGR5.out,HLL.out.2⟩
         case round=>
          clear HC5 HG5 REC5 RES5 HGN5 HGR5
          obtain⟨i,τ,acc,hi,rfl,HD,HC,HG,REC,RES,HGN,HGR,HLN⟩:=hrel
          by_cases hlk:i<k
          ·obtain⟨g2,rfl⟩:∃g2,gk=g2+1:=⟨gk - 1,by omega⟩
           have i2:(i:Int)<k:=by omega
           have HB:=QLh (Qb1 cb rb s τ _ HC.out)
           go_wp2_with fail
           refine HB.out.mono ?_
           rintro e w6 ⟨rfl,rfl⟩
           cases τ with
           | error f=>
            simp only[Qb0]
            have HM:=QLh (HD.out.trans (Qcx (Qr0 s) f (g2+1) acc));clear HB HD;have HE3:Hid (Q0 s ⟨#[80,83,99,112,114,119]⟩ (Zf s) N ⟨#[]⟩ Q7 σ1=Q0 s ⟨#[80,83,99,112,114,119]⟩ (Zf s) GK key (upd x 2 (.revs acc)) (.error f)):=QLh (by have:=HE2.out;rw[HM.out]at this;exact this);clear HE2
            go_wp2
            go_roundg GK
            case rel=>exact⟨m+1,_,_,key,by omega,by go_num,rfl,HE3.out,HC.out,HG.out,REC.out,HK.out.upd rfl,RES.out,QLh (by rw[Zg (by decide)];exact HGN.out),QLh (by rw[Xc];exact HGR.out),QLh (by rw[Xc,Zg (by decide)];have h1:=HLL.out;have h2:=HLN.out;have e9:(DV.revs acc).rs=acc:=rfl;rw[e9];omega)⟩
            case measure=>omega
           | ok a=>
            simp only[Qb0]
            clear HB;have HRV:=QLh (fun (w':World) (hc:CurIs w' cb rb s (.ok a))=>Qoz cb rb s (.ok a) w' hc HSZ.out);have HD2:Hid (Jp (Qr0 s) k τ2 (x 2).rs=Jp (Qr0 s) g2 (Qu2 s (.ok a)).2 (acc++[Qnv (Qu2 s (.ok a)).1])):=QLh HD.out;have HKY:=QLh (Qu3 s (.ok a)).2;clear HD
            generalize Qu2 s (.ok a)=z at HD2 HRV HKY
            obtain⟨y,τ3⟩:=z
            dsimp only at HD2 HRV HKY
            obtain⟨v,rs,hv,hown,h0,hlr,hri⟩:=HGR.out
            have HOWN:=QLh hown;have HLR:=QLh hlr;have HRI:=QLh hri;have hbw:b0+1<w6.heap.size:=Xp REC.out
            obtain⟨q,hq⟩:∃q,w6.heap.size=q+1:=⟨w6.heap.size - 1,by omega⟩
            have HQ:=QLh hq;have HV:=QLh hv;have hcw:=HC.out.clt;have hrw:=HC.out.rlt;have hmb:m * 10240≤104857600:=by omega
            have hlb:=HLN.out
            obtain⟨i0,hi0,hz0,hz1,hz2⟩:=info_parts Qkx
            have hb2:rb<b0+2:=by omega
            have hb3:cb<b0+2:=by omega
            clear h0 hlr hri hq hv hown
            go_upto_region 27 with fail
            refine Qjk 7 (Qxc rb cb v) (Qzz HOWN.out hb2 hb3) (λ _ _ _=>True) (λ _=>True) (λ _ _ _ _ _=>True) (λ _ _=>trivial) trivial (Qaw [λ u _=>u=(pt (b0+1) 2),λ u _=>u=(v),λ u _=>u=(pt cb 0),λ u w'=>Qr4 y τ3 cb rb s q u w',λ u w'=>Qxd y q u w',λ u w'=>Q1s y (b0+2) (rs.flatMap Rev.cells) (len acc) q u w',λ u _=>u=(pt (b0+1) 2)]) rfl (by kernel_rfl) (by kernel_rfl) (Qxb ⟨Qh6,Qh6,Qh6,rv_m3 HOWN.out hrw hcw hb2 hb3 HQ.out,rv_m4 HOWN.out hrw hcw HQ.out,rv_m5 HOWN.out hrw hcw hb2 hb3 HQ.out,Qh6,trivial⟩) (λ _ _ _ _ _=>trivial) (λ _ _ _ _ _ _ _ _ _ _ _=>trivial) (Qu9 7 ⟨?s0,?s1,?s2,?s3,?s4,?s5,?s6,trivial⟩) ?_
            case s0=>
             refine Qgl (v:=(pt (b0+1) 2)) (λ _ _=>trivial) (λ _ _ _ _=>⟨trivial,trivial⟩) (λ D av wv hE hO hD=>?_) (λ _=>rfl)
             have f3:=QEf av 3 (pt (b0+1) 0) (hO.2.2 3 rfl)
             refine⟨rfl,?_⟩
             simp[go_sem,f3]
            case s1=>
             refine Qgl (v:=(v)) (λ _ _=>trivial) (λ _ _ _ _=>⟨trivial,trivial⟩) (λ D av wv hE hO hD=>?_) (λ _=>rfl)
             have f83:=QEf av 83 (pt (b0+1) 2) (hD.1 rfl _ rfl);have c2:wv.cell? ⟨b0+1,2,none⟩=some v:=(World.cell?_of_block (w:=w6) (rv_at hE HOWN.out hbw (Nat.lt_succ_of_lt hcb) (Nat.lt_succ_of_lt hrb) (Nat.lt_succ_self _))).trans HV.out
             refine⟨rfl,?_⟩
             simp[go_sem,f83,c2]
            case s2=>
             refine Qgl (v:=(pt cb 0)) (λ _ _=>trivial) (λ _ _ _ _=>⟨trivial,trivial⟩) (λ D av wv hE hO hD=>?_) (λ _=>rfl)
             have f0:=QEf av 0 (pt cb 0) (hO.2.2 0 rfl)
             refine⟨rfl,?_⟩
             simp[go_sem,f0]
            case s3=>
             refine Qlx (λ D av wv hPP hE hO hD=>?_)
             have f85:=QEf av 85 (pt cb 0) (hD.1 rfl _ rfl)
             refine⟨rfl,?_⟩
             have h9:w6.heap.size≤wv.heap.size:=hE.ext.size;have hqq:q<wv.heap.size:=by have:=HQ.out;omega
             have hcur:CurIs wv cb rb s (.ok a):=HC.out.keep (hE.own cb (.inl ⟨rfl,.inr rfl⟩) hcw) (hE.own rb (.inl ⟨rfl,.inl rfl⟩) hrw)
             exact Xq (f:=163) (args:=#[pt cb 0]) (R:=λ u w2=>Qr4 y τ3 cb rb s q u w2∧Chg rb cb wv w2) (by simp[go_sem,f85]) ((HRV.out wv hcur).mono (λ e w2 ⟨a4,c4,a5,c5,h1,_,h4,h5,h6,h7⟩=>⟨_,h1,⟨a4,c4,a5,c5,rfl,⟨h4 q q hqq hqq,h5 q q hqq hqq⟩,h6⟩,h7⟩)) (λ u w2 ⟨h1,h2⟩=>⟨u,rfl,⟨⟨h2.os,h2.tape,h2.output,h2.size,λ b hb hn=>h2.block b hb (λ e=>hn (.inl ⟨rfl,.inl e⟩)) (λ e=>hn (.inl ⟨rfl,.inr e⟩))⟩,trivial⟩,h1,λ _ _ _ _ _=>⟨trivial,trivial⟩⟩)
            case s4=>
             refine Qlx (λ D av wv hPP hE hO hD=>?_)
             have d86:Qr4 y τ3 cb rb s q (av.eval (.tmp 86)) wv:=hD.1 rfl _ rfl
             refine⟨rfl,?_⟩
             obtain⟨a4,c4,a5,c5,h86,hT,hC⟩:=d86
             have f86:=(Qq av 86).symm.trans h86;have h9:w6.heap.size≤wv.heap.size:=hE.ext.size
             exact Zn (v:=.slice (some ⟨wv.heap.size,0,none⟩) 1 1) (w':=wv.alloc (.cells (Qg8 y a4 c4 a5 c5).cells.toArray 48)) (by simp[go_sem,f86,Rev.cells]) ⟨_,rfl,Qr3 (Qh (Zr _) _) trivial,⟨a4,c4,a5,c5,wv.heap.size,rfl,by have:=HQ.out;omega,heap_alloc_new _ _,hT.keep (λ b _ hb=>Below.heap_alloc _ _ _ hb)⟩,λ _ _ _ _ _=>⟨trivial,trivial⟩⟩
            case s5=>
             refine Qlx (λ D av wv hPP hE hO hD=>?_)
             have d84:av.eval (.tmp 84)=(v):=hD.1 rfl _ rfl;have f84:=(Qq av 84).symm.trans d84;have d87:Qxd y q (av.eval (.tmp 87)) wv:=hD.2.1 rfl _ rfl
             refine⟨rfl,?_⟩
             obtain⟨a4,c4,a5,c5,b19,h19,hq19,hc19,hT⟩:=d87
             have f87:=(Qq av 87).symm.trans h19;have h9:w6.heap.size≤wv.heap.size:=hE.ext.size;have hown1:wv.ownsRow (b0+2) 48 11 v (len acc) (rs.flatMap Rev.cells):=Qva HOWN.out (λ b hb hl=>hE.own b (.inr ⟨rfl,hb⟩) hl)
             refine wp_append_lies wv _ _ _ rfl (b0+2) 48 i0 (.agg Rev.zero.cells.toArray) 11 128 Tryz.underlying24 hi0 hz0 hz1 hz2 rfl (by decide) v (len acc) _ d84 hown1 ⟨b19,0,none⟩ 1 1 (Qg8 y a4 c4 a5 c5).cells (by exact h19) rfl (World.news_of_block hc19) (by intro u hu;simp[Rev.cells,Qg8]at hu;rcases hu with rfl | rfl | rfl | rfl | rfl | rfl | rfl | rfl | rfl | rfl | rfl <;> rfl) (by decide) (by unfold maxLen;omega) (by omega) (by omega) _ rfl ?_
             intro g2 cap2 w2 hown2 hgrow hat hlt2
             exact⟨_,rfl,⟨⟨hgrow.os,hgrow.tape,hgrow.output,hgrow.size,λ b hb hn=>hgrow.block b hb (λ e=>hn (.inr ⟨rfl,e.symm⟩))⟩,trivial⟩,⟨a4,c4,a5,c5,hown2,hT.keep (λ b h1 h2=>hgrow.block b h2 (λ e=>by have:=(Qkq HOWN.out e.symm).2;have:=HQ.out;omega))⟩,λ _ _ _ _ _=>⟨trivial,trivial⟩⟩
            case s6=>
             refine Qgl (v:=(pt (b0+1) 2)) (λ _ _=>trivial) (λ _ _ _ _=>⟨trivial,trivial⟩) (λ D av wv hE hO hD=>?_) (λ _=>rfl)
             have f3:=QEf av 3 (pt (b0+1) 0) (hO.2.2 3 rfl)
             refine⟨rfl,?_⟩
             simp[go_sem,f3]
            intro a' w' hE _ hO hall _
            have hA:=Ql (ds:=[83,84,85,86,87,88,89]) rfl hO (by kernel_rfl);have e83:a'.eval (.tmp 83)=(pt (b0+1) 2):=hall.1 _ rfl;have e84:a'.eval (.tmp 84)=(v):=hall.2.1 _ rfl;have e85:a'.eval (.tmp 85)=(pt cb 0):=hall.2.2.1 _ rfl;have e86:Qr4 y τ3 cb rb s q (a'.eval (.tmp 86)) w':=hall.2.2.2.1 _ rfl;have e88:Q1s y (b0+2) (rs.flatMap Rev.cells) (len acc) q (a'.eval (.tmp 88)) w':=hall.2.2.2.2.2.1 _ rfl;have e89:a'.eval (.tmp 89)=(pt (b0+1) 2):=hall.2.2.2.2.2.2.1 _ rfl
            obtain⟨v86,hv86⟩:∃v,a'.eval (.tmp 86)=v:=⟨_,rfl⟩
            rw[hv86]at e86
            obtain⟨v87,hv87⟩:∃v,a'.eval (.tmp 87)=v:=⟨_,rfl⟩
            obtain⟨v88,hv88⟩:∃v,a'.eval (.tmp 88)=v:=⟨_,rfl⟩
            rw[hv88]at e88
            simp only[List.foldl_cons,List.foldl_nil,Act.put,List.setIfInBounds_toArray,List.set_cons_succ,List.set_cons_zero,e83,e84,e85,hv86,hv87,hv88,e89]at hA
            clear hO hall e83 e84 e85 hv86 hv87 hv88 e89
            subst hA
            obtain⟨a4,c4,a5,c5,hown2,hT⟩:=e88
            obtain⟨g3,cap3,rfl,hg1,hg3⟩:=hown2.form (by omega)
            obtain⟨_,_,_,_,_,_,hcur⟩:=e86
            have HC8:=QLh hcur;have hlt8:=HOWN.out.lt;have hB8:∀b:Nat,b<w6.heap.size→b≠rb→b≠cb→v.ownBlock≠some b→w'.heap[b]?=w6.heap[b]?:=λ b hb h1 h2 h3=>hE.block b hb (λ j h=>by
             rcases h with⟨-,h | h⟩ | ⟨-,h⟩
             ·exact h1 h
             ·exact h2 h
             ·exact h3 h)
            have hlow:∀b:Nat,b<b0+2→v.ownBlock≠some b:=λ b hb e=>by have:=(hlt8 b e).1;omega
            have hty:=Qc1 HOWN.out;have hS8:∀(b:Nat) (cs:Array Value) (T2:TypeId),b0+1<b→T2≠48→w6.heap[b]?=some (.cells cs T2 (0,0))→w'.heap[b]?=w6.heap[b]?:=λ b cs T2 hb hT hh=>hB8 b (lt_of_block hh) (by omega) (by omega) (λ e=>by obtain⟨c2,h2⟩:=hty b e;rw[hh]at h2;cases h2;exact hT rfl);have hbT:w'.heap[b0+1]?=w6.heap[b0+1]?:=hB8 _ hbw (by omega) (by omega) (hlow _ (by omega));have hv8:w'.cell? ⟨b0+1,2,none⟩=some v:=(World.cell?_of_block (w:=w6) hbT).trans HV.out;have hf8:w'.frozen? ⟨b0+1,2,none⟩=false:=by obtain⟨c2,h2,_⟩:=REC.out;exact Qj (hbT.trans h2) 2
            have hsz8:w6.heap.size≤w'.heap.size:=hE.size;have HG8:Hid (Chg rb cb w w'):=QLh ⟨hE.os.trans HG.out.os,hE.tape.trans HG.out.tape,hE.output.trans HG.out.output,Nat.le_trans HG.out.size hsz8,λ b hb h1 h2=>(hB8 b (Nat.lt_of_lt_of_le hb HG.out.size) h1 h2 (hlow b (by have:=HB0.out;omega))).trans (HG.out.block b hb h1 h2)⟩;have RES8:Hid (w'.heap[b0]?=some (.cells #[.string ⟨#[]⟩,.int .u64 0,.slice none 0 0,.slice none 0 0,.slice none 0 0,.slice none 0 0] 28 (0,0))):=QLh ((hB8 b0 (lt_of_block RES.out) (by omega) (by omega) (hlow _ (by omega))).trans RES.out);have hl2:len (acc++[Qnv y])=len acc+1:=by simp[len]
            have hl3:len (rs++[Qg8 y a4 c4 a5 c5])=len acc+1:=by have:=HLR.out;simp[len]at this ⊢;omega
            have hri8:∀i,i<len (acc++[Qnv y])→RevIs rb (b0+1) w' (Qlz (rs++[Qg8 y a4 c4 a5 c5]) i) (lth (acc++[Qnv y]) i):=λ i hi=>by
             have hl1:rs.length=acc.length:=HLR.out;have hl2:i<acc.length+1:=by simpa [len] using hi
             by_cases e:i<acc.length
             ·have e1:Qlz (rs++[Qg8 y a4 c4 a5 c5]) i=Qlz rs i:=by rw[Qex _ i (by simp;omega),Qex _ i (by omega),List.getElem_append_left (by omega)]
              have e2:lth (acc++[Qnv y]) i=lth acc i:=by rw[Jw _ i (by simp;omega),Jw _ i (by omega),List.getElem_append_left (by omega)]
              rw[e1,e2]
              exact(HRI.out i e).keepT (λ b cs hb hh=>hS8 b cs _ hb (by decide) hh)
             ·obtain rfl:i=acc.length:=by omega
              have e1:Qlz (rs++[Qg8 y a4 c4 a5 c5]) acc.length=Qg8 y a4 c4 a5 c5:=by rw[Qex _ _ (by simp;omega),List.getElem_append_right (by omega)];simp[hl1]
              have e2:lth (acc++[Qnv y]) acc.length=Qnv y:=by rw[Jw _ _ (by simp),List.getElem_append_right (by omega)];simp
              rw[e1,e2]
              exact Qxe HKY.out hT (by have:=HQ.out;omega) (by have:=HQ.out;omega)
            have HGR8:Hid (GrR rb (b0+1) 2 (b0+2) (w'.setCell ⟨b0+1,2,none⟩ (.slice (some ⟨g3,0,none⟩) (len acc+1) cap3)) (acc++[Qnv y])):=QLh (GrR.put (rs:=rs++[Qg8 y a4 c4 a5 c5]) hv8 (Nat.lt_succ_self _) (by rw[hl2,List.flatMap_append];simpa using hown2) (by omega) (by rw[hl3,hl2]) hri8);have HGN8:Hid (GrN (b0+1) 3 (b0+2) (w'.setCell ⟨b0+1,2,none⟩ (.slice (some ⟨g3,0,none⟩) (len acc+1) cap3)) (x 3).ns):=QLh ((HGN.out.keep hbT (λ b cs hb hh=>hS8 b cs _ (by omega) (by decide) hh)).set (Nat.lt_succ_self _) 2 (by decide) _);have REC8:Hid (RecAt rb (b0+1) 28 6 (w'.setCell ⟨b0+1,2,none⟩ (.slice (some ⟨g3,0,none⟩) (len acc+1) cap3)) (upd x 2 (.revs (acc++[Qnv y])))):=QLh (Qvb (base:=b0+2) REC.out (HK.out.upd rfl) hbT (λ b cs hb hh=>hS8 b cs _ hb (by decide) hh) (.inl rfl) (λ i h2 h3=>by rw[Zg h2,Zg h2]) (by rw[Zg (by decide)];exact HGN8.out) (by rw[Xc];exact HGR8.out) (by omega) (by omega) (by rw[Zg (by decide)];obtain⟨l9,e9⟩:=HK.out.nums (o:=3) rfl;rw[e9];rfl) (by rw[Xc];rfl));have hw0:w.heap.size≤b0+1:=by have:=HB0.out;omega
            have hlt9:b0+1<w'.heap.size:=Nat.lt_of_lt_of_le hbw hsz8;clear hE hB8 hlow hlt8 hty hS8 hbT hown2 hT hcur hri8 hi0 hz0 hz1 hz2 hcw hrw hsz8
            go_wp2
            go_roundg g2
            case rel=>exact⟨i+1,τ3,acc++[Qnv y],by omega,by go_num,HD2.out,HC8.out.setOff (by omega) (by omega) _,HG8.out.setNew hw0 _,REC8.out,QLh (Qg RES8.out (by omega:b0≠b0+1) _),HGN8.out,HGR8.out,QLh (by rw[hl2];omega)⟩
            case measure=>omega
          ·obtain rfl:i=k:=by omega
           have i2:¬((i:Nat):Int)<i:=by omega
           obtain rfl:gk=0:=by omega
           have HM:Hid (Jp (Qr0 s) i τ2 (x 2).rs=(acc,τ)):=QLh HD.out;clear HD;have HE3:Hid (Q0 s ⟨#[80,83,99,112,114,119]⟩ (Zf s) N ⟨#[]⟩ Q7 σ1=Q0 s ⟨#[80,83,99,112,114,119]⟩ (Zf s) GK key (upd x 2 (.revs acc)) τ):=QLh (by have:=HE2.out;rw[HM.out]at this;exact this);clear HE2
           go_wp2
           go_roundg GK
           case rel=>exact⟨m+1,_,_,key,by omega,by go_num,rfl,HE3.out,HC.out,HG.out,REC.out,HK.out.upd rfl,RES.out,QLh (by rw[Zg (by decide)];exact HGN.out),QLh (by rw[Xc];exact HGR.out),QLh (by rw[Xc,Zg (by decide)];have h1:=HLL.out;have h2:=HLN.out;have e9:(DV.revs acc).rs=acc:=rfl;rw[e9];omega)⟩
           case measure=>omega
        | false=>
         cases hq5:(key.toList == [119])with
         | true=>
          have es:sw (Zf s) key x τ1=(upd x 1 (.num (Qcd s τ1).1),(Qcd s τ1).2):=by unfold Zf;simp only[sw,hq0,hq1,hq2,hq3,hq4,hq5,if_true,Bool.false_eq_true,if_false];rfl
          have HE2:Hid (Q0 s ⟨#[80,83,99,112,114,119]⟩ (Zf s) N ⟨#[]⟩ Q7 σ1=Q0 s ⟨#[80,83,99,112,114,119]⟩ (Zf s) g' key (upd x 1 (.num (Qcd s τ1).1)) (Qcd s τ1).2):=QLh (by rw[HE.out,es]);have HNM:=QLh (Qb9 cb rb s τ1 w4 HC4.out);clear es HE
          go_wp2_with fail
          refine HNM.out.mono ?_
          rintro e w5 ⟨rfl,hc,hg⟩
          have HC5:=QLh hc;have HG5:=QLh (HG4.out.trans hg);have hrec:=REC4.out.cur hg (by omega) (by omega);have REC5:=QLh hrec;have RES5:Hid (w5.heap[b0]?=some (.cells #[.string ⟨#[]⟩,.int .u64 0,.slice none 0 0,.slice none 0 0,.slice none 0 0,.slice none 0 0] 28 (0,0))):=QLh ((hg.block _ (lt_of_block RES4.out) (by omega) (by omega)).trans RES4.out)
          obtain⟨u,hu,-⟩:=hrec.get (by decide:1<6)
          have hfz:=hrec.free 1;have HGN5:=QLh (HGN4.out.cur hg (by omega) (by omega) (Nat.lt_succ_self _) (Xp REC4.out));have HGR5:=QLh (HGR4.out.cur hg (by omega) (by omega) (Nat.lt_succ_self _) (Xp REC4.out));clear hc hg hrec
          go_wp2
          go_roundg g'
          case rel=>exact⟨m+1,_,_,key,by omega,by go_num,rfl,HE2.out,HC5.out.setOff (by omega) (by omega) _,HG5.out.setNew (show w.heap.size≤b0+1 by have:=HB0.out;omega) _,REC5.out.set (by decide:1<6) rfl,HK.out.upd rfl,QLh (Qg RES5.out (by omega:b0≠b0+1) _),QLh (by rw[Zg (by decide)];exact HGN5.out.set (Nat.lt_succ_self _) 1 (by decide) _),QLh (by rw[Zg (by decide)];exact HGR5.out.set (Nat.lt_succ_self _) 1 (by decide) _),QLh (by rw[Zg (by decide),Zg (by decide)];have:=HLL.out;omega)⟩
          case measure=>omega
         | false=>
          have es:sw (Zf s) key x τ1=(x,τ1):=by unfold Zf;simp only[sw,hq0,hq1,hq2,hq3,hq4,hq5,Bool.false_eq_true,if_false]
          have HE2:Hid (Q0 s ⟨#[80,83,99,112,114,119]⟩ (Zf s) N ⟨#[]⟩ Q7 σ1=Q0 s ⟨#[80,83,99,112,114,119]⟩ (Zf s) g' key x τ1):=QLh (by rw[HE.out,es]);clear es HE
          go_wp2
          go_roundg g'
          case rel=>exact⟨m+1,_,_,key,by omega,by go_num,rfl,HE2.out,HC4.out,HG4.out,REC4.out,HK.out,RES4.out,HGN4.out,HGR4.out,⟨by have:=HLL.out.1;omega,by have:=HLL.out.2;omega⟩⟩
          case measure=>omega
  ·obtain rfl:m=N:=by omega
   have i1:¬((m:Nat):Int)<m:=by omega
   obtain rfl:gk=0:=by omega
   obtain⟨w3,hw3⟩:∃w3,w3=wr:=⟨_,rfl⟩
   subst hw3
   have HE:Hid (Q0 s ⟨#[80,83,99,112,114,119]⟩ (Zf s) m ⟨#[]⟩ Q7 σ1=(x,τ)):=QLh HD.out;clear HD
   obtain⟨a2,c2,a3,c3,a4,c4,a5,c5,hth,-⟩:=Qbz REC.out HK.out
   have m0:w3.cell? ⟨b0+1,0,none⟩=some (.string (x 0).s):=Qa hth 0;have HF:=QLh (Jf cb rb s τ (Qgk x) 5 w3 HC.out (by decide));clear hth
   go_wp2_with fail
   refine HF.out.mono ?_
   rintro e w5 ⟨rfl,hc,hg⟩
   have HC5:=QLh hc;have HG5:=QLh (HG.out.trans hg);have RES5:Hid (w5.heap[b0]?=some (.cells #[.string ⟨#[]⟩,.int .u64 0,.slice none 0 0,.slice none 0 0,.slice none 0 0,.slice none 0 0] 28 (0,0))):=QLh ((hg.block _ (lt_of_block RES.out) (by omega) (by omega)).trans RES.out)
   obtain⟨a2,c2,a3,c3,a4,c4,a5,c5,hth,hl2,hl3,hl4,hl5⟩:=Qbz (REC.out.cur hg (by omega) (by omega)) HK.out
   have k0:w5.cell? ⟨b0+1,0,none⟩=some (.string (x 0).s):=Qa hth 0;have k1:w5.cell? ⟨b0+1,1,none⟩=some (.int .u64 (x 1).n):=Qa hth 1;have k2:w5.cell? ⟨b0+1,2,none⟩=some (.slice a2 (len (x 2).rs) c2):=Qa hth 2;have k3:w5.cell? ⟨b0+1,3,none⟩=some (.slice a3 (len (x 3).ns) c3):=Qa hth 3;have k4:w5.cell? ⟨b0+1,4,none⟩=some (.slice a4 (len (x 4).l) c4):=Qa hth 4;have k5:w5.cell? ⟨b0+1,5,none⟩=some (.slice a5 (len (x 5).l) c5):=Qa hth 5;have g0:∀o,w5.cell? ⟨b0,o,none⟩=_:=Qa RES5.out;have g1:∀o,w5.frozen? ⟨b0,o,none⟩=false:=Qj RES5.out;have g2:b0<w5.heap.size:=lt_of_block RES5.out;have HL2:=QLh hl2;have HL3:=QLh hl3;have HL4:=QLh hl4;have HL5:=QLh hl5;clear hc hg hth m0 hl2 hl3 hl4 hl5
   go_wp2
   have hw0:w.heap.size≤b0:=by have:=HB0.out;omega
   have hb:=(Qb (Qb (Qb (Qb (Qb (Qb RES5.out (o:=0) (.string (x 0).s)) (o:=1) (.int .u64 (x 1).n)) (o:=2) (.slice a2 (len (x 2).rs) c2)) (o:=3) (.slice a3 (len (x 3).ns) c3)) (o:=4) (.slice a4 (len (x 4).l) c4)) (o:=5) (.slice a5 (len (x 5).l) c5));have d:∀o,_=_:=Qa hb
   refine bodyPost_ret (v:=.agg (Zy x a2 c2 a3 c3 a4 c4 a5 c5)) ?_ rfl ?_
   ·simp[results,Tryz.results101,go_sem,d]
   ·rw[HE.out]
    have hk2:∀b,b0+1<b→((((((w5.setCell ⟨b0,0,none⟩ (.string (x 0).s)).setCell ⟨b0,1,none⟩ (.int .u64 (x 1).n)).setCell ⟨b0,2,none⟩ (.slice a2 (len (x 2).rs) c2)).setCell ⟨b0,3,none⟩ (.slice a3 (len (x 3).ns) c3)).setCell ⟨b0,4,none⟩ (.slice a4 (len (x 4).l) c4)).setCell ⟨b0,5,none⟩ (.slice a5 (len (x 5).l) c5)).heap[b]?=w5.heap[b]?:=λ b hb=>by repeat rw[Below.heap_setCell _ _ _ _ (by omega:b≠b0)]
    exact⟨_,_,_,_,_,_,_,_,rfl,HK.out,λ r t hr ht=>((HL2.out).keep2 (λ b _ h9 _=>hk2 b h9)).any (by have:=HB0.out;omega) (by have:=HB0.out;omega),λ r t hr ht=>((HL3.out).keep2 (λ b _ h9 _=>hk2 b h9)).any (by have:=HB0.out;omega) (by have:=HB0.out;omega),λ r t hr ht=>((HL4.out).keep2 (λ b _ h9 _=>hk2 b h9)).any (by have:=HB0.out;omega) (by have:=HB0.out;omega),λ r t hr ht=>((HL5.out).keep2 (λ b _ h9 _=>hk2 b h9)).any (by have:=HB0.out;omega) (by have:=HB0.out;omega),(CurIs.setOff (CurIs.setOff (CurIs.setOff (CurIs.setOff (CurIs.setOff (CurIs.setOff HC5.out hcb hrb _) hcb hrb _) hcb hrb _) hcb hrb _) hcb hrb _) hcb hrb _),(Chg.setNew (Chg.setNew (Chg.setNew (Chg.setNew (Chg.setNew (Chg.setNew HG5.out hw0 _) hw0 _) hw0 _) hw0 _) hw0 _) hw0 _)⟩
def Qfg(s:ByteArray):Except Flt Rcd:=match Qp1 s (Qjj s (.ok 0)).2 with | .error f=>.error f | .ok _=>.ok (Qjj s (.ok 0)).1
def Q1k(s:ByteArray)(w:World)(e:Ending)(w':World):Prop:=(match Qfg s with | .error f=>f.1≠0∧e=.returned (.tuple #[Qdb,.agg #[.int .i64 f.1,.int .i64 f.2]]) | .ok x=>Kd Q7 x∧∃(a2:Option Addr) (c2:Nat) (a3:Option Addr) (c3:Nat) (a4:Option Addr) (c4:Nat) (a5:Option Addr) (c5:Nat),e=.returned (.tuple #[.agg (Zy x a2 c2 a3 c3 a4 c4 a5 c5),.agg #[.int .i64 0,.int .i64 0]])∧RvsC (CW w') a2 (x 2).rs∧NmsC (CW w') a3 (x 3).ns∧StrsC (CW w') a4 (x 4).l∧StrsC (CW w') a5 (x 5).l)∧Below w.heap.size w w'
theorem Qo2(s:ByteArray)(w:World)(hs:s.size<65536):Calls Tryz.prog 51 #[.string s] w (Q1k s w):=by
 go_enter Tryz.func51,Tryz.ntmps51
 go_upto_region 1 with fail
 obtain⟨b0,hb0⟩:∃b0,w.heap.size=b0:=⟨_,rfl⟩
 obtain⟨V,hV⟩:∃V,(w.alloc (.cells #[.string ⟨#[]⟩,.int .u64 0,.slice none 0 0,.slice none 0 0,.slice none 0 0,.slice none 0 0] 28)).alloc (.cells #[.int .i64 0,.int .i64 0] 63)=V:=⟨_,rfl⟩
 have VB:Hid (Below w.heap.size w V):=QLh (by rw[←hV];exact Qh (Qh (Below.refl _ _) _) _);have V0:Hid (V.heap[b0]?=some (.cells #[.string ⟨#[]⟩,.int .u64 0,.slice none 0 0,.slice none 0 0,.slice none 0 0,.slice none 0 0] 28 (0,0))):=QLh (by rw[←hV,←hb0];exact Qf (heap_alloc_new _ _) _);have V1:Hid (V.heap[b0+1]?=some (.cells #[.int .i64 0,.int .i64 0] 63 (0,0))):=QLh (by rw[←hV];exact Qi _ (by simp[hb0]));have hvs:V.heap.size=b0+1+1:=by rw[←hV];simp[hb0]
 have HB0:=QLh hb0
 try rw[hV]
 try simp only[hb0]
 clear hV hb0
 go_wp2_with fail
 refine(Qub s V (by omega)).mono ?_
 rintro e w1 ⟨cb,rb,rfl,hc,h1,h2,hb⟩
 have HC1:=QLh hc;have B1:=QLh hb;have hr1:b0+1<rb:=by omega
 have hc1:b0+1<cb:=by omega
 have HRV:Hid (V.heap.size≤rb∧V.heap.size≤cb):=QLh ⟨h1,h2⟩;clear hc hb h1 h2 hvs
 go_wp2_with fail
 refine(Qvc cb rb s (.ok 0) w1 HC1.out hs).mono ?_
 rintro e w2 ⟨a2,c2,a3,c3,a4,c4,a5,c5,rfl,hk,h2,h3,h4,h5,hc,hg⟩
 have J2:=QLh (h2 rb cb HC1.out.rlt HC1.out.clt);have J3:=QLh (h3 rb cb HC1.out.rlt HC1.out.clt);have J4:=QLh (h4 rb cb HC1.out.rlt HC1.out.clt);have J5:=QLh (h5 rb cb HC1.out.rlt HC1.out.clt);clear h2 h3 h4 h5;have HC2:=QLh hc;have HK:=QLh hk;have B2:Hid (Below V.heap.size V w2):=QLh (Chg.low B1.out hg HRV.out.1 HRV.out.2);clear hc hg hk HC1 B1
 obtain⟨z,hz⟩:∃z,Qjj s (.ok 0)=z:=⟨_,rfl⟩
 have HC2:Hid (CurIs w2 cb rb s z.2):=QLh (by rw[←hz];exact HC2.out);have HK:Hid (Kd Q7 z.1):=QLh (by rw[←hz];exact HK.out)
 rw[hz]
 have HZ:=QLh hz;clear hz
 obtain⟨x,τ⟩:=z
 have J2:Hid (HoldsD rb cb w2 (.slice a2 (len (x 2).rs) c2) (x 2)):=QLh (by have:=J2.out;rw[HZ.out]at this;exact this);have J3:Hid (HoldsD rb cb w2 (.slice a3 (len (x 3).ns) c3) (x 3)):=QLh (by have:=J3.out;rw[HZ.out]at this;exact this);have J4:Hid (HoldsD rb cb w2 (.slice a4 (len (x 4).l) c4) (x 4)):=QLh (by have:=J4.out;rw[HZ.out]at this;exact this);have J5:Hid (HoldsD rb cb w2 (.slice a5 (len (x 5).l) c5) (x 5)):=QLh (by have:=J5.out;rw[HZ.out]at this;exact this)
 dsimp only
 go_upto_region 3 with fail
 obtain⟨b5,hb5⟩:∃b5,w2.heap.size=b5:=⟨_,rfl⟩
 obtain⟨U,hU⟩:∃U,w2.alloc (.cells #[.string (x 0).s,.int .u64 (x 1).n,.slice a2 (len (x 2).rs) c2,.slice a3 (len (x 3).ns) c3,.slice a4 (len (x 4).l) c4,.slice a5 (len (x 5).l) c5] 28)=U:=⟨_,rfl⟩
 have UB:Hid (Below w2.heap.size w2 U):=QLh (by rw[←hU];exact Qh (Below.refl _ _) _);have U5:Hid (U.heap[b5]?=some (.cells #[.string (x 0).s,.int .u64 (x 1).n,.slice a2 (len (x 2).rs) c2,.slice a3 (len (x 3).ns) c3,.slice a4 (len (x 4).l) c4,.slice a5 (len (x 5).l) c5] 28 (0,0))):=QLh (by rw[←hU,←hb5];exact heap_alloc_new _ _);have hcl2:cb<b5∧rb<b5:=by rw[←hb5];exact⟨HC2.out.clt,HC2.out.rlt⟩
 try rw[hU]
 try simp only[hb5]
 clear hU hb5
 go_wp2_with fail
 refine(Qwr cb rb s τ U (HC2.out.below UB.out)).mono ?_
 rintro e w3 ⟨rfl,hc,hg⟩
 have HC3:=QLh hc;have B3:Hid (Below V.heap.size V w3):=QLh (Chg.low (Qk B2.out UB.out) hg HRV.out.1 HRV.out.2);have J2:=QLh ((J2.out.chg (Chg.of_below UB.out)).chg hg);have J3:=QLh ((J3.out.chg (Chg.of_below UB.out)).chg hg);have J4:=QLh ((J4.out.chg (Chg.of_below UB.out)).chg hg);have J5:=QLh ((J5.out.chg (Chg.of_below UB.out)).chg hg);have W5:Hid (w3.heap[b5]?=some (.cells #[.string (x 0).s,.int .u64 (x 1).n,.slice a2 (len (x 2).rs) c2,.slice a3 (len (x 3).ns) c3,.slice a4 (len (x 4).l) c4,.slice a5 (len (x 5).l) c5] 28 (0,0))):=QLh ((hg.block _ (lt_of_block U5.out) (by omega) (by omega)).trans U5.out);clear hc hg
 obtain⟨σ2,hσ⟩:∃σ2,Qp1 s τ=σ2:=⟨_,rfl⟩
 have HC3:Hid (CurIs w3 cb rb s σ2):=QLh (by rw[←hσ];exact HC3.out)
 rw[hσ]
 have HS:=QLh hσ;clear hσ
 obtain⟨f,hf⟩:∃f,σ2.flt=f:=⟨_,rfl⟩
 rw[hf]
 go_upto_region 4 with fail
 obtain⟨b6,hb6⟩:∃b6,w3.heap.size=b6:=⟨_,rfl⟩
 obtain⟨W,hW⟩:∃W,w3.alloc (.cells #[.int .i64 f.1,.int .i64 f.2] 63)=W:=⟨_,rfl⟩
 have WB:Hid (Below w3.heap.size w3 W):=QLh (by rw[←hW];exact Qh (Below.refl _ _) _);have W6:Hid (W.heap[b6]?=some (.cells #[.int .i64 f.1,.int .i64 f.2] 63 (0,0))):=QLh (by rw[←hW,←hb6];exact heap_alloc_new _ _);have BVW:Hid (Below V.heap.size V W):=QLh (Qk B3.out WB.out);have BW:Hid (Below w.heap.size w W):=QLh (Qk VB.out BVW.out);have WB0:Hid (W.heap[b0]?=some (.cells #[.string ⟨#[]⟩,.int .u64 0,.slice none 0 0,.slice none 0 0,.slice none 0 0,.slice none 0 0] 28 (0,0))):=QLh ((BVW.out.block _ (lt_of_block V0.out)).trans V0.out);have WB1:Hid (W.heap[b0+1]?=some (.cells #[.int .i64 0,.int .i64 0] 63 (0,0))):=QLh ((BVW.out.block _ (lt_of_block V1.out)).trans V1.out);have WB5:Hid (W.heap[b5]?=some (.cells #[.string (x 0).s,.int .u64 (x 1).n,.slice a2 (len (x 2).rs) c2,.slice a3 (len (x 3).ns) c3,.slice a4 (len (x 4).l) c4,.slice a5 (len (x 5).l) c5] 28 (0,0))):=QLh ((WB.out.block _ (lt_of_block W5.out)).trans W5.out);have j0:W.cell? ⟨b6,0,none⟩=some (.int .i64 f.1):=Qa W6.out 0;have j1:W.cell? ⟨b6,1,none⟩=some (.int .i64 f.2):=Qa W6.out 1;have J2:=QLh (J2.out.chg (Chg.of_below WB.out));have J3:=QLh (J3.out.chg (Chg.of_below WB.out));have J4:=QLh (J4.out.chg (Chg.of_below WB.out));have J5:=QLh (J5.out.chg (Chg.of_below WB.out));have HRB:Hid (b0+1<rb):=QLh hr1;have hn5:some b5≠some b0:=by simp;omega
 have hn6:some b6≠some b0:=by have:=lt_of_block W5.out;simp;omega
 try rw[hW]
 try simp only[hb6]
 clear hW hb6
 cases σ2 with
 | error g=>
  obtain rfl:g=f:=hf
  have hg0:(g.1 != 0)=true:=by simpa using HC3.out.flt0
  have HG0:Hid (g.1≠0):=QLh HC3.out.flt0;have HR:Hid (Qfg s=.error g):=QLh (by unfold Qfg;rw[HZ.out];show(match Qp1 s τ with | .error f=>Except.error f | .ok _=>.ok x)=_;rw[HS.out])
  go_upto_region 5 with fail
  refine Qp 3 2 ((some b0)) (Qaw [λ u _=>u=(.agg #[.string ⟨#[]⟩,.int .u64 0,.slice none 0 0,.slice none 0 0,.slice none 0 0,.slice none 0 0]),λ u _=>u=(.agg #[.int .i64 g.1,.int .i64 g.2]),λ _ w'=>w'.heap[b0]?=some (.cells #[.string ⟨#[]⟩,.int .u64 0,.slice none 0 0,.slice none 0 0,.slice none 0 0,.slice none 0 0] 28 (0,0))]) rfl (by kernel_rfl) (by kernel_rfl) (Zb ⟨Qe,Qe,?m2,trivial⟩) (Q6 3 ⟨?s0,?s1,?s2,trivial⟩) ?_
  case m2=>
   exact⟨λ u w1 w2 h hb=>Zt h hb,λ hn=>absurd rfl hn⟩
  case s0=>
   refine Qc (v:=(.agg #[.string ⟨#[]⟩,.int .u64 0,.slice none 0 0,.slice none 0 0,.slice none 0 0,.slice none 0 0])) (λ av wv hE hS hO hD=>?_) (λ _=>rfl)
   refine⟨rfl,?_⟩
   simp[go_sem]
  case s1=>
   refine Qc (v:=(.agg #[.int .i64 g.1,.int .i64 g.2])) (λ av wv hE hS hO hD=>?_) (λ _=>rfl)
   have f6:=QEf av 6 (pt b6 0) (hO.2.2 6 rfl);have j0:=Qd hE hn6 j0;have j1:=Qd hE hn6 j1
   refine⟨rfl,?_⟩
   simp[go_sem,f6,j0,j1]
  case s2=>
   refine Qo (λ av wv hE hS hO hD=>?_)
   have h2:av.eval (.tmp 2)=(pt b0 0):=hO.2.2 2 rfl;have f2:=(Qq av 2).symm.trans h2;have f16:=QEf av 16 (.agg #[.string ⟨#[]⟩,.int .u64 0,.slice none 0 0,.slice none 0 0,.slice none 0 0,.slice none 0 0]) (hD.1 rfl _ rfl)
   refine⟨rfl,?_⟩
   have hq:wv.heap[b0]?=some (.cells #[.string ⟨#[]⟩,.int .u64 0,.slice none 0 0,.slice none 0 0,.slice none 0 0,.slice none 0 0] 28 (0,0)):=Zt (w:=W.drew) (hS rfl) WB0.out;have q0:wv.cell? ⟨b0,0,none⟩=some (.string ⟨#[]⟩):=Qa hq 0;have q1:wv.cell? ⟨b0,1,none⟩=some (.int .u64 0):=Qa hq 1;have q2:wv.cell? ⟨b0,2,none⟩=some (.slice none 0 0):=Qa hq 2;have q3:wv.cell? ⟨b0,3,none⟩=some (.slice none 0 0):=Qa hq 3;have q4:wv.cell? ⟨b0,4,none⟩=some (.slice none 0 0):=Qa hq 4;have q5:wv.cell? ⟨b0,5,none⟩=some (.slice none 0 0):=Qa hq 5;have hz:∀o,wv.frozen? ⟨b0,o,none⟩=false:=Qj hq;have l0:b0<wv.heap.size:=lt_of_block hq;have f2:=QEf av 2 (pt b0 0) (hO.2.2 2 rfl)
   unfold Oper.wp
   simp[go_sem,f2,f16,hz,l0,q0,q1,q2,q3,q4,q5]
   exact⟨Qcf (Qv (Qv (Qv (Qv (Qv (Qv (Qan _ _) 0 _) 1 _) 2 _) 3 _) 4 _) 5 _),undef,(Qb (Qb (Qb (Qb (Qb (Qb hq (o:=0) _) (o:=1) _) (o:=2) _) (o:=3) _) (o:=4) _) (o:=5) _)⟩
  intro a' w' hE hO hall
  have hA:=Ql (ds:=[16,17]) rfl hO (by kernel_rfl);have e16:a'.eval (.tmp 16)=(.agg #[.string ⟨#[]⟩,.int .u64 0,.slice none 0 0,.slice none 0 0,.slice none 0 0,.slice none 0 0]):=hall.1 _ rfl;have e17:a'.eval (.tmp 17)=(.agg #[.int .i64 g.1,.int .i64 g.2]):=hall.2.1 _ rfl;have z2:(λ _ w'=>w'.heap[b0]?=some (.cells #[.string ⟨#[]⟩,.int .u64 0,.slice none 0 0,.slice none 0 0,.slice none 0 0,.slice none 0 0] 28 (0,0))) undef w':=hall.2.2.1 _ rfl
  simp only[List.foldl_cons,List.foldl_nil,Act.put,List.setIfInBounds_toArray,List.set_cons_succ,List.set_cons_zero,e16,e17]at hA
  clear hO hall e16 e17
  subst hA
  have HX:Hid (Jg (some b0) W w'):=QLh (Q9 hE);have Z2:=QLh z2;have Q1:Hid (w'.heap[b0+1]?=some (.cells #[.int .i64 0,.int .i64 0] 63 (0,0))):=QLh (Qn HX.out (by simp) WB1.out);have g0:∀o,w'.cell? ⟨b0+1,o,none⟩=_:=Qa Q1.out;have g1:∀o,w'.frozen? ⟨b0+1,o,none⟩=false:=Qj Q1.out;have g2:b0+1<w'.heap.size:=lt_of_block Q1.out;have HBX:Hid (Below w.heap.size w w'):=QLh (J0 BW.out HX.out (λ k hk=>by have:=HB0.out;obtain rfl:b0=k:=Option.some.inj hk;omega));clear hE z2
  go_wp2
  have hb:=Qb (Qb Q1.out (o:=0) (.int .i64 g.1)) (o:=1) (.int .i64 g.2);have hb2:=Qg (Qg Z2.out (show b0≠(⟨b0+1,0,none⟩:Addr).block by show b0≠b0+1;omega) (.int .i64 g.1)) (show b0≠(⟨b0+1,1,none⟩:Addr).block by show b0≠b0+1;omega) (.int .i64 g.2);have d:∀o,_=_:=Qa hb;have d2:∀o,_=_:=Qa hb2
  refine bodyPost_ret (v:=.tuple #[.agg #[.string ⟨#[]⟩,.int .u64 0,.slice none 0 0,.slice none 0 0,.slice none 0 0,.slice none 0 0],.agg #[.int .i64 g.1,.int .i64 g.2]]) ?_ rfl ?_
  ·simp[results,Tryz.results51,go_sem,d,d2]
  ·refine⟨?_,(HBX.out.setCell (show w.heap.size≤b0+1 by have:=HB0.out;omega) _).setCell (show w.heap.size≤b0+1 by have:=HB0.out;omega) _⟩
   rw[HR.out]
   exact⟨HG0.out,rfl⟩
 | ok a=>
  obtain rfl:(0,0)=f:=hf
  have k0:W.cell? ⟨b5,0,none⟩=some (.string (x 0).s):=Qa WB5.out 0;have k1:W.cell? ⟨b5,1,none⟩=some (.int .u64 (x 1).n):=Qa WB5.out 1;have k2:W.cell? ⟨b5,2,none⟩=some (.slice a2 (len (x 2).rs) c2):=Qa WB5.out 2;have k3:W.cell? ⟨b5,3,none⟩=some (.slice a3 (len (x 3).ns) c3):=Qa WB5.out 3;have k4:W.cell? ⟨b5,4,none⟩=some (.slice a4 (len (x 4).l) c4):=Qa WB5.out 4;have k5:W.cell? ⟨b5,5,none⟩=some (.slice a5 (len (x 5).l) c5):=Qa WB5.out 5;have f:Flt:=(0,0);have HR:Hid (Qfg s=.ok x):=QLh (by unfold Qfg;rw[HZ.out];show(match Qp1 s τ with | .error f=>Except.error f | .ok _=>.ok x)=_;rw[HS.out])
  go_upto_region 6 with fail
  refine Qp 3 2 ((some b0)) (Qaw [λ u _=>u=(.agg #[.string (x 0).s,.int .u64 (x 1).n,.slice a2 (len (x 2).rs) c2,.slice a3 (len (x 3).ns) c3,.slice a4 (len (x 4).l) c4,.slice a5 (len (x 5).l) c5]),λ u _=>u=(.agg #[.int .i64 0,.int .i64 0]),λ _ w'=>w'.heap[b0]?=some (.cells #[.string (x 0).s,.int .u64 (x 1).n,.slice a2 (len (x 2).rs) c2,.slice a3 (len (x 3).ns) c3,.slice a4 (len (x 4).l) c4,.slice a5 (len (x 5).l) c5] 28 (0,0))]) rfl (by kernel_rfl) (by kernel_rfl) (Zb ⟨Qe,Qe,?m2,trivial⟩) (Q6 3 ⟨?s0,?s1,?s2,trivial⟩) ?_
  case m2=>
   exact⟨λ u w1 w2 h hb=>Zt h hb,λ hn=>absurd rfl hn⟩
  case s0=>
   refine Qc (v:=(.agg #[.string (x 0).s,.int .u64 (x 1).n,.slice a2 (len (x 2).rs) c2,.slice a3 (len (x 3).ns) c3,.slice a4 (len (x 4).l) c4,.slice a5 (len (x 5).l) c5])) (λ av wv hE hS hO hD=>?_) (λ _=>rfl)
   have f5:=QEf av 5 (pt b5 0) (hO.2.2 5 rfl);have k0:=Qd hE hn5 k0;have k1:=Qd hE hn5 k1;have k2:=Qd hE hn5 k2;have k3:=Qd hE hn5 k3;have k4:=Qd hE hn5 k4;have k5:=Qd hE hn5 k5;have j0:=Qd hE hn6 j0;have j1:=Qd hE hn6 j1
   refine⟨rfl,?_⟩
   simp[go_sem,f5,k0,k1,k2,k3,k4,k5,j0,j1]
  case s1=>
   refine Qc (v:=(.agg #[.int .i64 0,.int .i64 0])) (λ av wv hE hS hO hD=>?_) (λ _=>rfl)
   have f6:=QEf av 6 (pt b6 0) (hO.2.2 6 rfl);have k0:=Qd hE hn5 k0;have k1:=Qd hE hn5 k1;have k2:=Qd hE hn5 k2;have k3:=Qd hE hn5 k3;have k4:=Qd hE hn5 k4;have k5:=Qd hE hn5 k5;have j0:=Qd hE hn6 j0;have j1:=Qd hE hn6 j1
   refine⟨rfl,?_⟩
   simp[go_sem,f6,k0,k1,k2,k3,k4,k5,j0,j1]
  case s2=>
   refine Qo (λ av wv hE hS hO hD=>?_)
   have h2:av.eval (.tmp 2)=(pt b0 0):=hO.2.2 2 rfl;have f2:=(Qq av 2).symm.trans h2;have f18:=QEf av 18 (.agg #[.string (x 0).s,.int .u64 (x 1).n,.slice a2 (len (x 2).rs) c2,.slice a3 (len (x 3).ns) c3,.slice a4 (len (x 4).l) c4,.slice a5 (len (x 5).l) c5]) (hD.1 rfl _ rfl)
   refine⟨rfl,?_⟩
   have hq:wv.heap[b0]?=some (.cells #[.string ⟨#[]⟩,.int .u64 0,.slice none 0 0,.slice none 0 0,.slice none 0 0,.slice none 0 0] 28 (0,0)):=Zt (w:=W.drew) (hS rfl) WB0.out;have q0:wv.cell? ⟨b0,0,none⟩=some (.string ⟨#[]⟩):=Qa hq 0;have q1:wv.cell? ⟨b0,1,none⟩=some (.int .u64 0):=Qa hq 1;have q2:wv.cell? ⟨b0,2,none⟩=some (.slice none 0 0):=Qa hq 2;have q3:wv.cell? ⟨b0,3,none⟩=some (.slice none 0 0):=Qa hq 3;have q4:wv.cell? ⟨b0,4,none⟩=some (.slice none 0 0):=Qa hq 4;have q5:wv.cell? ⟨b0,5,none⟩=some (.slice none 0 0):=Qa hq 5;have hz:∀o,wv.frozen? ⟨b0,o,none⟩=false:=Qj hq;have l0:b0<wv.heap.size:=lt_of_block hq;have f2:=QEf av 2 (pt b0 0) (hO.2.2 2 rfl)
   unfold Oper.wp
   simp[go_sem,f2,f18,hz,l0,q0,q1,q2,q3,q4,q5]
   exact⟨Qcf (Qv (Qv (Qv (Qv (Qv (Qv (Qan _ _) 0 _) 1 _) 2 _) 3 _) 4 _) 5 _),undef,(Qb (Qb (Qb (Qb (Qb (Qb hq (o:=0) _) (o:=1) _) (o:=2) _) (o:=3) _) (o:=4) _) (o:=5) _)⟩
  intro a' w' hE hO hall
  have hA:=Ql (ds:=[18,19]) rfl hO (by kernel_rfl);have e18:a'.eval (.tmp 18)=(.agg #[.string (x 0).s,.int .u64 (x 1).n,.slice a2 (len (x 2).rs) c2,.slice a3 (len (x 3).ns) c3,.slice a4 (len (x 4).l) c4,.slice a5 (len (x 5).l) c5]):=hall.1 _ rfl;have e19:a'.eval (.tmp 19)=(.agg #[.int .i64 0,.int .i64 0]):=hall.2.1 _ rfl;have z2:(λ _ w'=>w'.heap[b0]?=some (.cells #[.string (x 0).s,.int .u64 (x 1).n,.slice a2 (len (x 2).rs) c2,.slice a3 (len (x 3).ns) c3,.slice a4 (len (x 4).l) c4,.slice a5 (len (x 5).l) c5] 28 (0,0))) undef w':=hall.2.2.1 _ rfl
  simp only[List.foldl_cons,List.foldl_nil,Act.put,List.setIfInBounds_toArray,List.set_cons_succ,List.set_cons_zero,e18,e19]at hA
  clear hO hall e18 e19
  subst hA
  have HX:Hid (Jg (some b0) W w'):=QLh (Q9 hE);have Z2:=QLh z2;have Q1:Hid (w'.heap[b0+1]?=some (.cells #[.int .i64 0,.int .i64 0] 63 (0,0))):=QLh (Qn HX.out (by simp) WB1.out);have g0:∀o,w'.cell? ⟨b0+1,o,none⟩=_:=Qa Q1.out;have g1:∀o,w'.frozen? ⟨b0+1,o,none⟩=false:=Qj Q1.out;have g2:b0+1<w'.heap.size:=lt_of_block Q1.out;have HBX:Hid (Below w.heap.size w w'):=QLh (J0 BW.out HX.out (λ k hk=>by have:=HB0.out;obtain rfl:b0=k:=Option.some.inj hk;omega));clear hE z2
  go_wp2
  have hb:=Qb (Qb Q1.out (o:=0) (.int .i64 0)) (o:=1) (.int .i64 0);have hb2:=Qg (Qg Z2.out (show b0≠(⟨b0+1,0,none⟩:Addr).block by show b0≠b0+1;omega) (.int .i64 0)) (show b0≠(⟨b0+1,1,none⟩:Addr).block by show b0≠b0+1;omega) (.int .i64 0);have d:∀o,_=_:=Qa hb;have d2:∀o,_=_:=Qa hb2
  refine bodyPost_ret (v:=.tuple #[.agg #[.string (x 0).s,.int .u64 (x 1).n,.slice a2 (len (x 2).rs) c2,.slice a3 (len (x 3).ns) c3,.slice a4 (len (x 4).l) c4,.slice a5 (len (x 5).l) c5],.agg #[.int .i64 0,.int .i64 0]]) ?_ rfl ?_
  ·simp[results,Tryz.results51,go_sem,d,d2]
  ·refine⟨?_,(HBX.out.setCell (show w.heap.size≤b0+1 by have:=HB0.out;omega) _).setCell (show w.heap.size≤b0+1 by have:=HB0.out;omega) _⟩
   rw[HR.out]
   have hk2:∀b,rb<b→cb<b→b<W.heap.size→((w'.setCell ⟨b0+1,0,none⟩ (.int .i64 0)).setCell ⟨b0+1,1,none⟩ (.int .i64 0)).heap[b]?=W.heap[b]?:=λ b h1 _ h2=>by
    have h5:=HRB.out
    rw[Below.heap_setCell _ _ _ _ (by omega:b≠b0+1),Below.heap_setCell _ _ _ _ (by omega:b≠b0+1)]
    exact HX.out.block b h2 (by simp;omega)
   exact⟨HK.out,a2,c2,a3,c3,a4,c4,a5,c5,rfl,Qkm (HK.out 2) (J2.out.keep2 hk2),Qkl (HK.out 3) (J3.out.keep2 hk2),Qal (HK.out 4) (J4.out.keep2 hk2),Qal (HK.out 5) (J5.out.keep2 hk2)⟩
theorem Qx4(root:ByteArray)(sg:Int)(rs:List RevD)(cs:List Int)(sp pp:List ByteArray)(a2 a3 a4 a5 b2 b3 b4 b5:Option Addr)(k2 k3 k4 k5 c2 c3 c4 c5:Nat)(w:World)
  (h2:RvsC (CW w) a2 rs) (h3:NmsC (CW w) a3 cs) (h4:StrsC (CW w) a4 sp) (h5:StrsC (CW w) a5 pp) (g2:RvsC (CW w) b2 rs) (g3:NmsC (CW w) b3 cs) (g4:StrsC (CW w) b4 sp) (g5:StrsC (CW w) b5 pp)
  (n2:len rs≤9223372036854775807) (n3:len cs≤9223372036854775807) (n4:len sp≤9223372036854775807) (n5:len pp≤9223372036854775807) (hr:∀i,i<len rs→len (lth rs i).ws≤9223372036854775807∧len (lth rs i).ps≤9223372036854775807):
  Calls Tryz.prog 53 #[.agg #[.string root,.int .u64 sg,.slice a2 (len rs) k2,.slice a3 (len cs) k3,.slice a4 (len sp) k4,.slice a5 (len pp) k5],.agg #[.string root,.int .u64 sg,.slice b2 (len rs) c2,.slice b3 (len cs) c3,.slice b4 (len sp) c4,.slice b5 (len pp) c5]] w λ e w'=>e=.returned (.bool true)∧Below w.heap.size w w':=by
 have HRA:=QLh h2;have HRB:=QLh g2;have HCA:=QLh h3;have HCB:=QLh g3;have HRL:=QLh hr;have H4:=QLh (fun (w':World) (hb:Below w.heap.size w w')=>Qhz a4 b4 k4 c4 sp w' (h4.low hb) (g4.low hb) n4);have H5:=QLh (fun (w':World) (hb:Below w.heap.size w w')=>Qhz a5 b5 k5 c5 pp w' (h5.low hb) (g5.low hb) n5)
 obtain⟨l2,hl2⟩:∃l,len rs=l:=⟨_,rfl⟩
 obtain⟨l3,hl3⟩:∃l,len cs=l:=⟨_,rfl⟩
 have HL2:=QLh hl2;have HL3:=QLh hl3
 rw[hl2]at n2 ⊢
 rw[hl3]at n3 ⊢
 clear h2 h3 h4 h5 g2 g3 g4 g5 hr hl2 hl3
 generalize len sp=l4 at H4 ⊢
 generalize len pp=l5 at H5 ⊢
 go_enter Tryz.func53,Tryz.ntmps53
 go_upto_region 1 with fail
 obtain⟨sb,hsb⟩:∃sb,w.heap.size=sb:=⟨_,rfl⟩
 obtain⟨tb,htb⟩:∃tb,sb+1=tb:=⟨_,rfl⟩
 obtain⟨V,hV⟩:∃V,(w.alloc (.cells #[.string root,.int .u64 sg,.slice a2 l2 k2,.slice a3 l3 k3,.slice a4 l4 k4,.slice a5 l5 k5] 28)).alloc (.cells #[.string root,.int .u64 sg,.slice b2 l2 c2,.slice b3 l3 c3,.slice b4 l4 c4,.slice b5 l5 c5] 28)=V:=⟨_,rfl⟩
 have HB:Hid (Below w.heap.size w V):=QLh (by rw[←hV];exact Qh (Qh (Below.refl _ _) _) _);have HS:Hid (V.heap[sb]?=some (.cells #[.string root,.int .u64 sg,.slice a2 l2 k2,.slice a3 l3 k3,.slice a4 l4 k4,.slice a5 l5 k5] 28 (0,0))):=QLh (by rw[←hV,←hsb];exact Qf (heap_alloc_new _ _) _);have HT:Hid (V.heap[tb]?=some (.cells #[.string root,.int .u64 sg,.slice b2 l2 c2,.slice b3 l3 c3,.slice b4 l4 c4,.slice b5 l5 c5] 28 (0,0))):=QLh (by rw[←hV,←htb,←hsb];exact Qi _ (by simp))
 simp only[hV,hsb,htb]
 clear hV hsb htb;have cS:∀o,V.cell? ⟨sb,o,none⟩=_:=Qa HS.out;have cT:∀o,V.cell? ⟨tb,o,none⟩=_:=Qa HT.out
 go_wp2_with fail
 refine(H4.out V HB.out).mono ?_
 rintro e w1 ⟨rfl,hb⟩
 have HB1:=QLh (Qk HB.out hb);have HS:=QLh ((hb.block _ (lt_of_block HS.out)).trans HS.out);have HT:=QLh ((hb.block _ (lt_of_block HT.out)).trans HT.out);clear hb cS cT;have cS:∀o,w1.cell? ⟨sb,o,none⟩=_:=Qa HS.out;have cT:∀o,w1.cell? ⟨tb,o,none⟩=_:=Qa HT.out
 go_wp2_with fail
 refine(H5.out w1 HB1.out).mono ?_
 rintro e w2 ⟨rfl,hb⟩
 have HB2:=QLh (Qk HB1.out hb);have HS:=QLh ((hb.block _ (lt_of_block HS.out)).trans HS.out);have HT:=QLh ((hb.block _ (lt_of_block HT.out)).trans HT.out);clear hb cS cT;have cS:∀o,w2.cell? ⟨sb,o,none⟩=_:=Qa HS.out;have cT:∀o,w2.cell? ⟨tb,o,none⟩=_:=Qa HT.out
 go_upto_region 4 with fail
 clear cS cT
 go_loopg [5,6,7] l2 (λ g i _ _ wr=>∃m:Nat,g+m=l2∧i=.int .i64 m∧Hid (Below w.heap.size w wr)∧Hid (wr.heap[sb]?=some (.cells #[.string root,.int .u64 sg,.slice a2 l2 k2,.slice a3 l3 k3,.slice a4 l4 k4,.slice a5 l5 k5] 28 (0,0)))∧Hid (wr.heap[tb]?=some (.cells #[.string root,.int .u64 sg,.slice b2 l2 c2,.slice b3 l3 c3,.slice b4 l4 c4,.slice b5 l5 c5] 28 (0,0))))
 case atStart=>exact⟨0,rfl,rfl,HB2.out,HS.out,HT.out⟩
 case round=>
  clear HS HT
  obtain⟨m,hm,rfl,HW,HS,HT⟩:=hrel
  have cS:∀o,wr.cell? ⟨sb,o,none⟩=_:=Qa HS.out;have cT:∀o,wr.cell? ⟨tb,o,none⟩=_:=Qa HT.out
  by_cases hlt:m<l2
  ·have i1:(m:Int)<l2:=by omega
   obtain⟨ga,oa,ha2,hca⟩:=HRA.out m (by rw[HL2.out];exact hlt)
   obtain⟨gb,ob,hb2,hcb⟩:=HRB.out m (by rw[HL2.out];exact hlt)
   have hrl:=HRL.out m (by rw[HL2.out];exact hlt)
   generalize lth rs m=d at hca hcb hrl
   obtain⟨xw,xwk,q4e,s4⟩:=hca.c4
   obtain⟨xp,xpk,q5e,s5⟩:=hca.c5
   obtain⟨yw,ywk,q4f,t4⟩:=hcb.c4
   obtain⟨yp,ypk,q5f,t5⟩:=hcb.c5
   have e0:wr.cell? ⟨ga,oa+m * 11,none⟩=some _:=Qu HW.out _ _ _ hca.c0;have e1:wr.cell? ⟨ga,oa+m * 11+1,none⟩=some _:=Qu HW.out _ _ _ hca.c1;have e2:wr.cell? ⟨ga,oa+m * 11+2,none⟩=some _:=Qu HW.out _ _ _ hca.c2;have e3:wr.cell? ⟨ga,oa+m * 11+3,none⟩=some _:=Qu HW.out _ _ _ hca.c3;have e4:wr.cell? ⟨ga,oa+m * 11+4,none⟩=some _:=Qu HW.out _ _ _ q4e;have e5:wr.cell? ⟨ga,oa+m * 11+5,none⟩=some _:=Qu HW.out _ _ _ q5e;have e6:wr.cell? ⟨ga,oa+m * 11+6,none⟩=some _:=Qu HW.out _ _ _ hca.c6;have e7:wr.cell? ⟨ga,oa+m * 11+7,none⟩=some _:=Qu HW.out _ _ _ hca.c7;have e8:wr.cell? ⟨ga,oa+m * 11+8,none⟩=some _:=Qu HW.out _ _ _ hca.c8;have e9:wr.cell? ⟨ga,oa+m * 11+9,none⟩=some _:=Qu HW.out _ _ _ hca.c9;have e10:wr.cell? ⟨ga,oa+m * 11+10,none⟩=some _:=Qu HW.out _ _ _ hca.c10;have f0:wr.cell? ⟨gb,ob+m * 11,none⟩=some _:=Qu HW.out _ _ _ hcb.c0;have f1:wr.cell? ⟨gb,ob+m * 11+1,none⟩=some _:=Qu HW.out _ _ _ hcb.c1;have f2:wr.cell? ⟨gb,ob+m * 11+2,none⟩=some _:=Qu HW.out _ _ _ hcb.c2;have f3:wr.cell? ⟨gb,ob+m * 11+3,none⟩=some _:=Qu HW.out _ _ _ hcb.c3;have f4:wr.cell? ⟨gb,ob+m * 11+4,none⟩=some _:=Qu HW.out _ _ _ q4f;have f5:wr.cell? ⟨gb,ob+m * 11+5,none⟩=some _:=Qu HW.out _ _ _ q5f;have f6:wr.cell? ⟨gb,ob+m * 11+6,none⟩=some _:=Qu HW.out _ _ _ hcb.c6;have f7:wr.cell? ⟨gb,ob+m * 11+7,none⟩=some _:=Qu HW.out _ _ _ hcb.c7;have f8:wr.cell? ⟨gb,ob+m * 11+8,none⟩=some _:=Qu HW.out _ _ _ hcb.c8;have f9:wr.cell? ⟨gb,ob+m * 11+9,none⟩=some _:=Qu HW.out _ _ _ hcb.c9;have f10:wr.cell? ⟨gb,ob+m * 11+10,none⟩=some _:=Qu HW.out _ _ _ hcb.c10;have HSL:=QLh (fun (w':World) (hb:Below w.heap.size w w')=>Qnk d.L d.signed d.idx xw xp yw yp xwk xpk ywk ypk d.ws d.ps w' (s4.imp (Qu hb)) (s5.imp (Qu hb)) (t4.imp (Qu hb)) (t5.imp (Qu hb)) hrl.1 hrl.2)
   generalize len d.ws=lw at HSL e4 f4
   generalize len d.ps=lp at HSL e5 f5
   subst ha2 hb2
   clear hca hcb hrl q4e q5e q4f q5f s4 s5 t4 t5;have s2:wr.cell? ⟨sb,2,none⟩=some (.slice (some ⟨ga,oa,none⟩) l2 k2):=cS 2;have t2:wr.cell? ⟨tb,2,none⟩=some (.slice (some ⟨gb,ob,none⟩) l2 c2):=cT 2;have z0:=Qw s2;have z1:=Qw t2;have z2:=Qw e0;have z3:=Qw f0;have z4:sb≠wr.heap.size:=by omega
   have z5:tb≠wr.heap.size:=by omega
   have z6:ga≠wr.heap.size:=by omega
   have z7:gb≠wr.heap.size:=by omega
   have z8:sb≠wr.heap.size+1:=by omega
   have z9:tb≠wr.heap.size+1:=by omega
   have z10:ga≠wr.heap.size+1:=by omega
   have z11:gb≠wr.heap.size+1:=by omega
   go_upto_region 6 with fail
   go_cut [6,7] (λ s6 s7 wx=>∃xb yb:Nat,s6=.pointer (some ⟨xb,0,none⟩)∧s7=.pointer (some ⟨yb,0,none⟩)∧Hid (wx.heap[xb]?=some (.cells #[.int .u64 d.pos,.int .u64 d.L,.bool d.signed,.int .u64 d.idx,.slice xw lw xwk,.slice xp lp xpk,.string d.root,.int .u64 d.wt,.int .u64 d.first,.int .u64 d.life,.int .u64 d.keys] 48 (0,0)))∧Hid (wx.heap[yb]?=some (.cells #[.int .u64 d.pos,.int .u64 d.L,.bool d.signed,.int .u64 d.idx,.slice yw lw ywk,.slice yp lp ypk,.string d.root,.int .u64 d.wt,.int .u64 d.first,.int .u64 d.life,.int .u64 d.keys] 48 (0,0)))∧Hid (Below wr.heap.size wr wx))
   case first=>
    go_region
    all_goals
     go_wp2_with fail
     go_meet
     first
      | exact⟨_,_,rfl,rfl,QLh (Qf (heap_alloc_new _ _) _),QLh (Qi _ (by simp)),QLh (Zd (Qh (Qh (Below.refl _ _) _) _))⟩
      | exact⟨_,_,rfl,rfl,QLh (Qi _ (by simp)),QLh (Qf (heap_alloc_new _ _) _),QLh (Zd (Qh (Qh (Below.refl _ _) _) _))⟩
   case rest=>
    obtain⟨xb,yb,rfl,rfl,HX,HY,HC⟩:=hcut
    have cX:∀o,wc.cell? ⟨xb,o,none⟩=_:=Qa HX.out;have cY:∀o,wc.cell? ⟨yb,o,none⟩=_:=Qa HY.out;have HW2:=QLh (Qk HW.out HC.out);have HS2:=QLh ((HC.out.block _ (lt_of_block HS.out)).trans HS.out);have HT2:=QLh ((HC.out.block _ (lt_of_block HT.out)).trans HT.out);clear z0 z1 z2 z3 z4 z5 z6 z7 z8 z9 z10 z11 s2 t2 cS cT e0 e1 e2 e3 e4 e5 e6 e7 e8 e9 e10 f0 f1 f2 f3 f4 f5 f6 f7 f8 f9 f10
    go_wp2_with fail
    refine(HSL.out wc HW2.out).mono ?_
    rintro e w5 ⟨rfl,hb⟩
    have HW3:=QLh (Qk HW2.out hb);have HS3:=QLh ((hb.block _ (lt_of_block HS2.out)).trans HS2.out);have HT3:=QLh ((hb.block _ (lt_of_block HT2.out)).trans HT2.out);clear hb cX cY
    go_wp2
    go_roundg (l2 - (m+1))
    case rel=>exact⟨m+1,by omega,by go_num,HW3.out,HS3.out,HT3.out⟩
    case measure=>omega
  ·obtain rfl:m=l2:=by omega
   have i1:¬((m:Nat):Int)<m:=by omega
   obtain⟨w0,hw0⟩:∃w0,w0=wr:=⟨_,rfl⟩
   subst hw0
   go_wp2_with fail
   go_loopg [8] l3 (λ g i wx=>∃n:Nat,g+n=l3∧i=.int .i64 n∧Hid (Below w0.heap.size w0 wx))
   case atStart=>exact⟨0,rfl,rfl,QLh (Below.refl _ _)⟩
   case round=>
    clear cS cT
    obtain⟨n,hn,rfl,HV⟩:=hrel
    have HS4:=QLh ((HV.out.block _ (lt_of_block HS.out)).trans HS.out);have HT4:=QLh ((HV.out.block _ (lt_of_block HT.out)).trans HT.out);have s3:wr.cell? ⟨sb,3,none⟩=some (.slice a3 l3 k3):=Qa HS4.out 3;have t3:wr.cell? ⟨tb,3,none⟩=some (.slice b3 l3 c3):=Qa HT4.out 3
    by_cases hlt:n<l3
    ·have i2:(n:Int)<l3:=by omega
     obtain⟨ga,oa,ha3,hca⟩:=HCA.out n (by rw[HL3.out];exact hlt)
     obtain⟨gb,ob,hb3,hcb⟩:=HCB.out n (by rw[HL3.out];exact hlt)
     have hbw:=Qk HW.out HV.out;have c0:wr.cell? ⟨ga,oa+n,none⟩=some _:=Qu hbw _ _ _ hca;have c1:wr.cell? ⟨gb,ob+n,none⟩=some _:=Qu hbw _ _ _ hcb
     generalize nth cs n=x at c0 c1
     subst ha3 hb3
     clear hca hcb hbw
     go_upto_region 12 with fail
     go_quiet (fail)
     go_wp2
     go_roundg (l3 - (n+1))
     case rel=>exact⟨n+1,by omega,by go_num,QLh (Zc HV.out _)⟩
     case measure=>omega
    ·obtain rfl:n=l3:=by omega
     have i2:¬((n:Nat):Int)<n:=by omega
     go_wp2
     go_ret
     exact⟨rfl,Qk HW.out HV.out⟩
theorem Qly(root:ByteArray)(sg:Int)(rs:List RevD)(cs:List Int)(sp pp:List ByteArray)(a2 a3 a4 a5 b2 b3 b4 b5:Option Addr)(k2 k3 k4 k5 c2 c3 c4 c5:Nat)(w:World)
  (h2:RvsC (CW w) a2 rs) (h3:NmsC (CW w) a3 cs) (h4:StrsC (CW w) a4 sp) (h5:StrsC (CW w) a5 pp) (g2:RvsC (CW w) b2 rs) (g3:NmsC (CW w) b3 cs) (g4:StrsC (CW w) b4 sp) (g5:StrsC (CW w) b5 pp)
  (n2:len rs≤9223372036854775807) (n3:len cs≤9223372036854775807) (n4:len sp≤9223372036854775807) (n5:len pp≤9223372036854775807) (hr:∀i,i<len rs→len (lth rs i).ws≤9223372036854775807∧len (lth rs i).ps≤9223372036854775807):
  Calls Tryz.prog 52 #[.agg #[.string root,.int .u64 sg,.slice a2 (len rs) k2,.slice a3 (len cs) k3,.slice a4 (len sp) k4,.slice a5 (len pp) k5],.agg #[.string root,.int .u64 sg,.slice b2 (len rs) c2,.slice b3 (len cs) c3,.slice b4 (len sp) c4,.slice b5 (len pp) c5]] w λ e w'=>e=.returned (.bool true)∧Below w.heap.size w w':=by
 have HRA:=QLh h2;have HRB:=QLh g2;have HCA:=QLh h3;have HCB:=QLh g3;have HRL:=QLh hr;have H4:=QLh (fun (w':World) (hb:Below w.heap.size w w')=>Qed a4 b4 k4 c4 sp w' (h4.low hb) (g4.low hb) n4);have H5:=QLh (fun (w':World) (hb:Below w.heap.size w w')=>Qed a5 b5 k5 c5 pp w' (h5.low hb) (g5.low hb) n5)
 obtain⟨l2,hl2⟩:∃l,len rs=l:=⟨_,rfl⟩
 obtain⟨l3,hl3⟩:∃l,len cs=l:=⟨_,rfl⟩
 have HL2:=QLh hl2;have HL3:=QLh hl3
 rw[hl2]at n2 ⊢
 rw[hl3]at n3 ⊢
 clear h2 h3 h4 h5 g2 g3 g4 g5 hr hl2 hl3
 generalize len sp=l4 at H4 ⊢
 generalize len pp=l5 at H5 ⊢
 go_enter Tryz.func52,Tryz.ntmps52
 go_upto_region 1 with fail
 obtain⟨sb,hsb⟩:∃sb,w.heap.size=sb:=⟨_,rfl⟩
 obtain⟨tb,htb⟩:∃tb,sb+1=tb:=⟨_,rfl⟩
 obtain⟨V,hV⟩:∃V,(w.alloc (.cells #[.string root,.int .u64 sg,.slice a2 l2 k2,.slice a3 l3 k3,.slice a4 l4 k4,.slice a5 l5 k5] 28)).alloc (.cells #[.string root,.int .u64 sg,.slice b2 l2 c2,.slice b3 l3 c3,.slice b4 l4 c4,.slice b5 l5 c5] 28)=V:=⟨_,rfl⟩
 have HB:Hid (Below w.heap.size w V):=QLh (by rw[←hV];exact Qh (Qh (Below.refl _ _) _) _);have HS:Hid (V.heap[sb]?=some (.cells #[.string root,.int .u64 sg,.slice a2 l2 k2,.slice a3 l3 k3,.slice a4 l4 k4,.slice a5 l5 k5] 28 (0,0))):=QLh (by rw[←hV,←hsb];exact Qf (heap_alloc_new _ _) _);have HT:Hid (V.heap[tb]?=some (.cells #[.string root,.int .u64 sg,.slice b2 l2 c2,.slice b3 l3 c3,.slice b4 l4 c4,.slice b5 l5 c5] 28 (0,0))):=QLh (by rw[←hV,←htb,←hsb];exact Qi _ (by simp))
 simp only[hV,hsb,htb]
 clear hV hsb htb;have cS:∀o,V.cell? ⟨sb,o,none⟩=_:=Qa HS.out;have cT:∀o,V.cell? ⟨tb,o,none⟩=_:=Qa HT.out
 go_wp2_with fail
 refine(H4.out V HB.out).mono ?_
 rintro e w1 ⟨rfl,hb⟩
 have HB1:=QLh (Qk HB.out hb);have HS:=QLh ((hb.block _ (lt_of_block HS.out)).trans HS.out);have HT:=QLh ((hb.block _ (lt_of_block HT.out)).trans HT.out);clear hb cS cT;have cS:∀o,w1.cell? ⟨sb,o,none⟩=_:=Qa HS.out;have cT:∀o,w1.cell? ⟨tb,o,none⟩=_:=Qa HT.out
 go_wp2_with fail
 refine(H5.out w1 HB1.out).mono ?_
 rintro e w2 ⟨rfl,hb⟩
 have HB2:=QLh (Qk HB1.out hb);have HS:=QLh ((hb.block _ (lt_of_block HS.out)).trans HS.out);have HT:=QLh ((hb.block _ (lt_of_block HT.out)).trans HT.out);clear hb cS cT;have cS:∀o,w2.cell? ⟨sb,o,none⟩=_:=Qa HS.out;have cT:∀o,w2.cell? ⟨tb,o,none⟩=_:=Qa HT.out
 go_upto_region 4 with fail
 clear cS cT
 go_loopg [5,6,7] l2 (λ g i _ _ wr=>∃m:Nat,g+m=l2∧i=.int .i64 m∧Hid (Below w.heap.size w wr)∧Hid (wr.heap[sb]?=some (.cells #[.string root,.int .u64 sg,.slice a2 l2 k2,.slice a3 l3 k3,.slice a4 l4 k4,.slice a5 l5 k5] 28 (0,0)))∧Hid (wr.heap[tb]?=some (.cells #[.string root,.int .u64 sg,.slice b2 l2 c2,.slice b3 l3 c3,.slice b4 l4 c4,.slice b5 l5 c5] 28 (0,0))))
 case atStart=>exact⟨0,rfl,rfl,HB2.out,HS.out,HT.out⟩
 case round=>
  clear HS HT
  obtain⟨m,hm,rfl,HW,HS,HT⟩:=hrel
  have cS:∀o,wr.cell? ⟨sb,o,none⟩=_:=Qa HS.out;have cT:∀o,wr.cell? ⟨tb,o,none⟩=_:=Qa HT.out
  by_cases hlt:m<l2
  ·have i1:(m:Int)<l2:=by omega
   obtain⟨ga,oa,ha2,hca⟩:=HRA.out m (by rw[HL2.out];exact hlt)
   obtain⟨gb,ob,hb2,hcb⟩:=HRB.out m (by rw[HL2.out];exact hlt)
   have hrl:=HRL.out m (by rw[HL2.out];exact hlt)
   generalize lth rs m=d at hca hcb hrl
   obtain⟨xw,xwk,q4e,s4⟩:=hca.c4
   obtain⟨xp,xpk,q5e,s5⟩:=hca.c5
   obtain⟨yw,ywk,q4f,t4⟩:=hcb.c4
   obtain⟨yp,ypk,q5f,t5⟩:=hcb.c5
   have e0:wr.cell? ⟨ga,oa+m * 11,none⟩=some _:=Qu HW.out _ _ _ hca.c0;have e1:wr.cell? ⟨ga,oa+m * 11+1,none⟩=some _:=Qu HW.out _ _ _ hca.c1;have e2:wr.cell? ⟨ga,oa+m * 11+2,none⟩=some _:=Qu HW.out _ _ _ hca.c2;have e3:wr.cell? ⟨ga,oa+m * 11+3,none⟩=some _:=Qu HW.out _ _ _ hca.c3;have e4:wr.cell? ⟨ga,oa+m * 11+4,none⟩=some _:=Qu HW.out _ _ _ q4e;have e5:wr.cell? ⟨ga,oa+m * 11+5,none⟩=some _:=Qu HW.out _ _ _ q5e;have e6:wr.cell? ⟨ga,oa+m * 11+6,none⟩=some _:=Qu HW.out _ _ _ hca.c6;have e7:wr.cell? ⟨ga,oa+m * 11+7,none⟩=some _:=Qu HW.out _ _ _ hca.c7;have e8:wr.cell? ⟨ga,oa+m * 11+8,none⟩=some _:=Qu HW.out _ _ _ hca.c8;have e9:wr.cell? ⟨ga,oa+m * 11+9,none⟩=some _:=Qu HW.out _ _ _ hca.c9;have e10:wr.cell? ⟨ga,oa+m * 11+10,none⟩=some _:=Qu HW.out _ _ _ hca.c10;have f0:wr.cell? ⟨gb,ob+m * 11,none⟩=some _:=Qu HW.out _ _ _ hcb.c0;have f1:wr.cell? ⟨gb,ob+m * 11+1,none⟩=some _:=Qu HW.out _ _ _ hcb.c1;have f2:wr.cell? ⟨gb,ob+m * 11+2,none⟩=some _:=Qu HW.out _ _ _ hcb.c2;have f3:wr.cell? ⟨gb,ob+m * 11+3,none⟩=some _:=Qu HW.out _ _ _ hcb.c3;have f4:wr.cell? ⟨gb,ob+m * 11+4,none⟩=some _:=Qu HW.out _ _ _ q4f;have f5:wr.cell? ⟨gb,ob+m * 11+5,none⟩=some _:=Qu HW.out _ _ _ q5f;have f6:wr.cell? ⟨gb,ob+m * 11+6,none⟩=some _:=Qu HW.out _ _ _ hcb.c6;have f7:wr.cell? ⟨gb,ob+m * 11+7,none⟩=some _:=Qu HW.out _ _ _ hcb.c7;have f8:wr.cell? ⟨gb,ob+m * 11+8,none⟩=some _:=Qu HW.out _ _ _ hcb.c8;have f9:wr.cell? ⟨gb,ob+m * 11+9,none⟩=some _:=Qu HW.out _ _ _ hcb.c9;have f10:wr.cell? ⟨gb,ob+m * 11+10,none⟩=some _:=Qu HW.out _ _ _ hcb.c10;have HSL:=QLh (fun (w':World) (hb:Below w.heap.size w w')=>Qlq d.L d.signed d.idx xw xp yw yp xwk xpk ywk ypk d.ws d.ps w' (s4.imp (Qu hb)) (s5.imp (Qu hb)) (t4.imp (Qu hb)) (t5.imp (Qu hb)) hrl.1 hrl.2)
   generalize len d.ws=lw at HSL e4 f4
   generalize len d.ps=lp at HSL e5 f5
   subst ha2 hb2
   clear hca hcb hrl q4e q5e q4f q5f s4 s5 t4 t5;have s2:wr.cell? ⟨sb,2,none⟩=some (.slice (some ⟨ga,oa,none⟩) l2 k2):=cS 2;have t2:wr.cell? ⟨tb,2,none⟩=some (.slice (some ⟨gb,ob,none⟩) l2 c2):=cT 2;have z0:=Qw s2;have z1:=Qw t2;have z2:=Qw e0;have z3:=Qw f0;have z4:sb≠wr.heap.size:=by omega
   have z5:tb≠wr.heap.size:=by omega
   have z6:ga≠wr.heap.size:=by omega
   have z7:gb≠wr.heap.size:=by omega
   have z8:sb≠wr.heap.size+1:=by omega
   have z9:tb≠wr.heap.size+1:=by omega
   have z10:ga≠wr.heap.size+1:=by omega
   have z11:gb≠wr.heap.size+1:=by omega
   go_upto_region 6 with fail
   go_cut [6,7] (λ s6 s7 wx=>∃xb yb:Nat,s6=.pointer (some ⟨xb,0,none⟩)∧s7=.pointer (some ⟨yb,0,none⟩)∧Hid (wx.heap[xb]?=some (.cells #[.int .u64 d.pos,.int .u64 d.L,.bool d.signed,.int .u64 d.idx,.slice xw lw xwk,.slice xp lp xpk,.string d.root,.int .u64 d.wt,.int .u64 d.first,.int .u64 d.life,.int .u64 d.keys] 48 (0,0)))∧Hid (wx.heap[yb]?=some (.cells #[.int .u64 d.pos,.int .u64 d.L,.bool d.signed,.int .u64 d.idx,.slice yw lw ywk,.slice yp lp ypk,.string d.root,.int .u64 d.wt,.int .u64 d.first,.int .u64 d.life,.int .u64 d.keys] 48 (0,0)))∧Hid (Below wr.heap.size wr wx))
   case first=>
    go_region
    all_goals
     go_wp2_with fail
     go_meet
     first
      | exact⟨_,_,rfl,rfl,QLh (Qf (heap_alloc_new _ _) _),QLh (Qi _ (by simp)),QLh (Zd (Qh (Qh (Below.refl _ _) _) _))⟩
      | exact⟨_,_,rfl,rfl,QLh (Qi _ (by simp)),QLh (Qf (heap_alloc_new _ _) _),QLh (Zd (Qh (Qh (Below.refl _ _) _) _))⟩
   case rest=>
    obtain⟨xb,yb,rfl,rfl,HX,HY,HC⟩:=hcut
    have cX:∀o,wc.cell? ⟨xb,o,none⟩=_:=Qa HX.out;have cY:∀o,wc.cell? ⟨yb,o,none⟩=_:=Qa HY.out;have HW2:=QLh (Qk HW.out HC.out);have HS2:=QLh ((HC.out.block _ (lt_of_block HS.out)).trans HS.out);have HT2:=QLh ((HC.out.block _ (lt_of_block HT.out)).trans HT.out);clear z0 z1 z2 z3 z4 z5 z6 z7 z8 z9 z10 z11 s2 t2 cS cT e0 e1 e2 e3 e4 e5 e6 e7 e8 e9 e10 f0 f1 f2 f3 f4 f5 f6 f7 f8 f9 f10
    go_wp2_with fail
    refine(HSL.out wc HW2.out).mono ?_
    rintro e w5 ⟨rfl,hb⟩
    have HW3:=QLh (Qk HW2.out hb);have HS3:=QLh ((hb.block _ (lt_of_block HS2.out)).trans HS2.out);have HT3:=QLh ((hb.block _ (lt_of_block HT2.out)).trans HT2.out);clear hb cX cY
    go_wp2
    go_roundg (l2 - (m+1))
    case rel=>exact⟨m+1,by omega,by go_num,HW3.out,HS3.out,HT3.out⟩
    case measure=>omega
  ·obtain rfl:m=l2:=by omega
   have i1:¬((m:Nat):Int)<m:=by omega
   obtain⟨w0,hw0⟩:∃w0,w0=wr:=⟨_,rfl⟩
   subst hw0
   go_wp2_with fail
   go_loopg [8] l3 (λ g i wx=>∃n:Nat,g+n=l3∧i=.int .i64 n∧Hid (Below w0.heap.size w0 wx))
   case atStart=>exact⟨0,rfl,rfl,QLh (Below.refl _ _)⟩
   case round=>
    clear cS cT
    obtain⟨n,hn,rfl,HV⟩:=hrel
    have HS4:=QLh ((HV.out.block _ (lt_of_block HS.out)).trans HS.out);have HT4:=QLh ((HV.out.block _ (lt_of_block HT.out)).trans HT.out);have s3:wr.cell? ⟨sb,3,none⟩=some (.slice a3 l3 k3):=Qa HS4.out 3;have t3:wr.cell? ⟨tb,3,none⟩=some (.slice b3 l3 c3):=Qa HT4.out 3
    by_cases hlt:n<l3
    ·have i2:(n:Int)<l3:=by omega
     obtain⟨ga,oa,ha3,hca⟩:=HCA.out n (by rw[HL3.out];exact hlt)
     obtain⟨gb,ob,hb3,hcb⟩:=HCB.out n (by rw[HL3.out];exact hlt)
     have hbw:=Qk HW.out HV.out;have c0:wr.cell? ⟨ga,oa+n,none⟩=some _:=Qu hbw _ _ _ hca;have c1:wr.cell? ⟨gb,ob+n,none⟩=some _:=Qu hbw _ _ _ hcb
     generalize nth cs n=x at c0 c1
     subst ha3 hb3
     clear hca hcb hbw
     go_upto_region 12 with fail
     go_quiet (fail)
     go_wp2
     go_roundg (l3 - (n+1))
     case rel=>exact⟨n+1,by omega,by go_num,QLh (Zc HV.out _)⟩
     case measure=>omega
    ·obtain rfl:n=l3:=by omega
     have i2:¬((n:Nat):Int)<n:=by omega
     go_wp2
     go_ret
     exact⟨rfl,Qk HW.out HV.out⟩
theorem Qns{w:World}{root:ByteArray}{sg:Int}{a2:Option Addr}{rs:List RevD}{a3:Option Addr}{k3:Nat}{cs:List Int}{a4:Option Addr}{sp:List ByteArray}{a5:Option Addr}{pp:List ByteArray}(h:CertArg w root sg a2 rs a3 k3 cs a4 sp a5 pp)(k2 k4 k5:Nat):
  Calls Tryz.prog 47 #[.agg #[.string root,.int .u64 sg,.slice a2 (len rs) k2,.slice a3 (len cs) k3,.slice a4 (len sp) k4,.slice a5 (len pp) k5]] w (Quo a3 k3 root sg (Qb3 rs) (cs.take 650) (Zv sp 20) (Zv pp 20) w):=
 Qup root sg rs cs sp pp a2 a3 a4 a5 k2 k3 k4 k5 w h.r h.c h.s h.p (Qbe h.rn) (Qbe (Nat.le_trans h.cn h.ck)) h.cn (Qbe h.sn) (Qbe h.pn) (λ i hi=>⟨Qbe (h.ro i hi).ws,Qbe (h.ro i hi).ps⟩)
theorem Qxf{C:CP}{a:Option Addr}{l:List Int}(h:NmsC C a l)(n:Nat):NmsC C a (l.take n):=λ i hi=>by
 have hi':i<(l.take n).length:=hi;have hil:i<l.length:=by rw[List.length_take]at hi';omega
 obtain⟨b,off,e,hc⟩:=h i hil
 refine⟨b,off,e,?_⟩
 rw[Qce _ i hi',List.getElem_take,←Qce l i hil]
 exact hc
theorem CW2.set6{n:Nat}{w:World}{t:Nat}{cs:Array Value}{T:TypeId}{fr:Nat × Nat}(ht:t<n)(hb:w.heap[t]?=some (.cells cs T fr))(hT:T≠9)(v0 v1 v2 v3 v4 v5:Value)(b o:Nat)(x:Value)(h:CW2 n w b o x):CW ((((((w.setCell ⟨t,0,none⟩ v0).setCell ⟨t,1,none⟩ v1).setCell ⟨t,2,none⟩ v2).setCell ⟨t,3,none⟩ v3).setCell ⟨t,4,none⟩ v4).setCell ⟨t,5,none⟩ v5) b o x:=
 ((((((h.set ht hb hT v0).set ht (Qb hb _) hT v1).set ht (Qb (Qb hb _) _) hT v2).set ht (Qb (Qb (Qb hb _) _) _) hT v3).set ht (Qb (Qb (Qb (Qb hb _) _) _) _) hT v4).set ht (Qb (Qb (Qb (Qb (Qb hb _) _) _) _) _) hT v5).cw
theorem Qjo(s:ByteArray):Qfg s=Xg s (Zp s) Q7:=Qws (F:=Qjj s) (by
 have h:=(Qr2 s).good 0
 cases hr:Qbr s (Zp s) Q7 0 with
 | error e=>exact h.1 e hr
 | ok y=>exact h.2 y hr)
theorem Qxg(C:CP)(a:Option Addr):RvsC C a []:=λ i hi=>absurd hi (by simp[len])
theorem Qxh(C:CP)(a:Option Addr):NmsC C a []:=λ i hi=>absurd hi (by simp[len])
theorem Qo3(s:ByteArray)(w:World)(hs:s.size<65536):Calls Tryz.prog 51 #[.string s] w λ e w'=>∃a2 c2 a3 c3 a4 c4 a5 c5,e=.returned (.tuple #[.agg (Zy (Qox (Xg s (Zp s) Q7) Q7) a2 c2 a3 c3 a4 c4 a5 c5),.agg #[.int .i64 (Q1e (Xg s (Zp s) Q7)).1,.int .i64 (Q1e (Xg s (Zp s) Q7)).2]])∧NeV (Xg s (Zp s) Q7)∧RvsC (CW w') a2 (Qox (Xg s (Zp s) Q7) Q7 2).rs∧NmsC (CW w') a3 (Qox (Xg s (Zp s) Q7) Q7 3).ns∧StrsC (CW w') a4 (Qox (Xg s (Zp s) Q7) Q7 4).l∧StrsC (CW w') a5 (Qox (Xg s (Zp s) Q7) Q7 5).l∧Below w.heap.size w w':=by
 refine(Qo2 s w hs).mono ?_
 rintro e w' ⟨hh,hb⟩
 rw[Qjo]at hh
 cases hr:Xg s (Zp s) Q7 with
 | error f=>
  rw[hr]at hh
  exact⟨none,0,none,0,none,0,none,0,hh.2,hh.1,Qxg _ _,Qxh _ _,Qgb _ _,Qgb _ _,hb⟩
 | ok y=>
  rw[hr]at hh
  obtain⟨_,a2,c2,a3,c3,a4,c4,a5,c5,he,h2,h3,h4,h5⟩:=hh
  exact⟨a2,c2,a3,c3,a4,c4,a5,c5,he,trivial,h2,h3,h4,h5,hb⟩
structure CtLens(x:Rcd):Prop where
 r:len (x 2).rs≤9223372036854775807
 c:len (x 3).ns≤9223372036854775807
 s:len (x 4).l≤9223372036854775807
 p:len (x 5).l≤9223372036854775807
 rr:∀i,i<len (x 2).rs→len (lth (x 2).rs i).ws≤9223372036854775807∧len (lth (x 2).rs i).ps≤9223372036854775807
def lnD:DV→Nat
 | .strs l=>l.length
 | .nums l=>l.length
 | .revs l=>l.length
 | _=>0
theorem Q1l(d:DV):d.ns.length≤lnD d:=by cases d <;> simp[DV.ns,lnD]
theorem Q1m(d:DV):d.rs.length≤lnD d:=by cases d <;> simp[DV.rs,lnD]
theorem l_ln(d:DV):d.l.length≤lnD d:=by cases d <;> simp[DV.l,lnD]
theorem Q1n{o:Nat}:∀{l:List (UInt8 × Jk)} {k:ByteArray} {x:Rcd} {σ:Cst},(∀p ∈ l,∀x σ,lnD ((p.2 x σ).1 o)≤lnD (x o)+10240)→lnD ((sw l k x σ).1 o)≤lnD (x o)+10240
 | [],k,x,σ,h=>by show lnD (x o)≤_;omega
 | p :: r,k,x,σ,h=>by
  rw[sw]
  split
  ·exact h p (List.mem_cons_self ..) x σ
  ·exact Q1n (λ q hq=>h q (List.mem_cons_of_mem _ hq))
theorem Qqg{o:Nat}{s all:ByteArray}{specs:List (UInt8 × Jk)}(h:∀p ∈ specs,∀x σ,lnD ((p.2 x σ).1 o)≤lnD (x o)+10240):∀(n:Nat) (last:ByteArray) (x:Rcd) (σ:Cst),lnD ((Q0 s all specs n last x σ).1 o)≤lnD (x o)+n * 10240
 | 0,last,x,σ=>by show lnD (x o)≤_;omega
 | n+1,last,x,.error f=>by show lnD (x o)≤_;omega
 | n+1,last,x,.ok a=>by
  rw[Q0]
  have h1:=Qqg (s:=s) (all:=all) h n (Qaz s all last (.ok a)).1 (sw specs (Qaz s all last (.ok a)).1 x (Qaz s all last (.ok a)).2).1 (sw specs (Qaz s all last (.ok a)).1 x (Qaz s all last (.ok a)).2).2;have h2:=Q1n (k:=(Qaz s all last (.ok a)).1) (x:=x) (σ:=(Qaz s all last (.ok a)).2) h
  omega
theorem Qkr{x:Rcd}{o i:Nat}{d:DV}(h:lnD d≤lnD (x i)+10240):lnD (upd x i d o)≤lnD (x o)+10240:=by
 by_cases e:o=i
 ·subst e;rw[Xc];exact h
 ·rw[Zg e];omega
theorem Qz0(s:ByteArray)(σ:Cst)(o:Nat):lnD ((Qjj s σ).1 o)≤lnD (Q7 o)+10240 * 10240:=by
 have h:=Qqg (o:=o) (s:=s) (all:=⟨#[80,83,99,112,114,119]⟩) (specs:=Zf s) (λ p hp x σ=>by
  simp only[Zf,List.mem_cons,List.not_mem_nil,or_false]at hp
  have hk:∀σ,(Xe s 640 σ).1.toNat≤10240:=λ σ=>by have:=(Qf4 (s:=s) (most:=640) (σ:=σ)).2;omega
  rcases hp with rfl | rfl | rfl | rfl | rfl | rfl
  ·exact Qkr (Nat.le_trans (Qh1 s _ _).1 (Nat.le_add_left _ _))
  ·exact Qkr (Nat.le_trans (Qh1 s _ _).1 (Nat.le_add_left _ _))
  ·exact Qkr (Nat.zero_le _)
  ·refine Qkr ?_
   have h1:=Qjn (Qg6 s) (Xe s 640 σ).1.toNat (Xe s 640 σ).2 (x 3).ns;have h2:=Q1l (x 3);have h3:=hk σ
   show(Qer s (x 3).ns σ).1.length≤_
   unfold Qer
   omega
  ·refine Qkr ?_
   have h1:=Qjn (Qr0 s) (Xe s 640 σ).1.toNat (Xe s 640 σ).2 (x 2).rs;have h2:=Q1m (x 2);have h3:=hk σ
   show(Qji s (x 2).rs σ).1.length≤_
   unfold Qji
   omega
  ·exact Qkr (Nat.zero_le _)) (Qay s σ).1.toNat ⟨#[]⟩ Q7 (Qay s σ).2
 have hb:=(Qcv (s:=s) (σ:=σ)).2;have hm:(Qay s σ).1.toNat * 10240≤10240 * 10240:=Nat.mul_le_mul_right _ (by omega)
 exact Nat.le_trans h (Nat.add_le_add_left hm _)
theorem Qnt{α:Type}(f:Cst→α × Cst):∀(n:Nat) (σ:Cst) (l:List α),∀r ∈ (Jp f n σ l).1,r ∈ l ∨ ∃σ',r=(f σ').1
 | 0,σ,l,r,h=>.inl h
 | n+1,.error e,l,r,h=>.inl h
 | n+1,.ok a,l,r,h=>by
  rw[Jp]at h
  rcases Qnt f n _ _ r h with h1 | h1
  ·rcases List.mem_append.1 h1 with h2 | h2
   ·exact .inl h2
   ·exact .inr ⟨.ok a,List.mem_singleton.1 h2⟩
  ·exact .inr h1
theorem Qnu{x:Rcd}{i:Nat}{d:DV}(hi:i≠2):(upd x i d 2).rs=(x 2).rs:=by rw[Zg (λ e=>hi e.symm)]
theorem Qz1(s:ByteArray)(σ:Cst):∀r ∈ ((Qjj s σ).1 2).rs,r.ws.length≤10240∧r.ps.length≤10240:=by
 refine Qgg (P:=λ x=>∀r ∈ (x 2).rs,r.ws.length≤10240∧r.ps.length≤10240) (λ p hp x σ hx=>?_) (λ r hr=>by cases hr) σ
 simp only[Zf,List.mem_cons,List.not_mem_nil,or_false]at hp
 have hd:∀{d:DV},DBd s d→d.l.length≤10240:=λ {d} h=>by cases d <;> first | exact h.1 | exact Nat.zero_le _
 rcases hp with rfl | rfl | rfl | rfl | rfl | rfl
 ·intro r hr;replace hr:r ∈ (upd x 5 (.strs (Qbh s 10240 σ).1) 2).rs:=hr;rw[Qnu (by decide)]at hr;exact hx r hr
 ·intro r hr;replace hr:r ∈ (upd x 4 (.strs (Qbh s 10240 σ).1) 2).rs:=hr;rw[Qnu (by decide)]at hr;exact hx r hr
 ·intro r hr;replace hr:r ∈ (upd x 0 (.str (Qep s σ).1) 2).rs:=hr;rw[Qnu (by decide)]at hr;exact hx r hr
 ·intro r hr;replace hr:r ∈ (upd x 3 (.nums (Qer s (x 3).ns σ).1) 2).rs:=hr;rw[Qnu (by decide)]at hr;exact hx r hr
 ·intro r hr
  have hr:r ∈ (Qji s (x 2).rs σ).1:=by have h:=hr;simp only[Qqc,Xc]at h;exact h
  unfold Qji at hr
  rcases Qnt _ _ _ _ r hr with h1 | ⟨σ',rfl⟩
  ·exact hx r h1
  ·have hv:=(Qu3 s σ').1
   exact⟨hd (hv 4),hd (hv 5)⟩
 ·intro r hr;replace hr:r ∈ (upd x 1 (.num (Qcd s σ).1) 2).rs:=hr;rw[Qnu (by decide)]at hr;exact hx r hr
theorem Qvd(s:ByteArray):CtLens (Qox (Xg s (Zp s) Q7) Q7):=by
 cases hr:Xg s (Zp s) Q7 with
 | error f=>exact⟨Nat.zero_le _,Nat.zero_le _,Nat.zero_le _,Nat.zero_le _,λ i hi=>absurd hi (by simp[Qox,Q7,DV.rs,len])⟩
 | ok y=>
  rw[←Qjo]at hr
  have e:(Qjj s (.ok 0)).1=y:=by
   unfold Qfg at hr
   split at hr
   ·cases hr
   ·exact Except.ok.inj hr
  have hl:=λ o=>Qz0 s (.ok 0) o;have hq:=Qz1 s (.ok 0)
  rw[e]at hl hq
  have hb:(10240 * 10240:Nat)≤9223372036854775807:=by decide
  have z:∀o,o=2 ∨ o=3 ∨ o=4 ∨ o=5→lnD (Q7 o)=0:=λ o ho=>by rcases ho with rfl | rfl | rfl | rfl <;> rfl
  refine⟨?_,?_,?_,?_,λ i hi=>?_⟩
  ·have h1:=hl 2;rw[z 2 (by simp)]at h1;exact Nat.le_trans (Q1m (y 2)) (by omega)
  ·have h1:=hl 3;rw[z 3 (by simp)]at h1;exact Nat.le_trans (Q1l (y 3)) (by omega)
  ·have h1:=hl 4;rw[z 4 (by simp)]at h1;exact Nat.le_trans (l_ln (y 4)) (by omega)
  ·have h1:=hl 5;rw[z 5 (by simp)]at h1;exact Nat.le_trans (l_ln (y 5)) (by omega)
  ·have hi':i<(y 2).rs.length:=hi
   show len (lth (y 2).rs i).ws≤_∧len (lth (y 2).rs i).ps≤_
   rw[Jw _ i hi']
   have h2:=hq _ (List.getElem_mem hi')
   exact⟨Nat.le_trans h2.1 (by decide),Nat.le_trans h2.2 (by decide)⟩
theorem Qxi(rs:List RevD)(sp pp:List ByteArray):RcBd (Qb3 rs) (Zv sp 20) (Zv pp 20):=
 ⟨λ i hi=>Nat.le_trans (Qf9 sp 20 i hi) (by decide),λ i hi=>Nat.le_trans (Qf9 pp 20 i hi) (by decide),λ i hi j hj=>by
  rw[Qje rs hi]at hj ⊢
  exact Nat.le_trans (Qf9 _ 70 j hj) (by decide),λ i hi j hj=>by
  rw[Qje rs hi]at hj ⊢
  exact Nat.le_trans (Qf9 _ 20 j hj) (by decide)⟩
theorem Qr5(B:Nat)(root:ByteArray)(sg:Int)(a2 a3 a4 a5:Option Addr)(k2 k3 k4 k5:Nat)(rs:List RevD)(cs:List Int)(sp pp:List ByteArray)(s:ByteArray)(ta ty ts:Int)(w:World)(h:TE7 B w)(hA:CertArg w root sg a2 rs a3 k3 cs a4 sp a5 pp)(hs:s.size≤9223372036854775807)(ha:0≤ta∧ta≤65535)(hy:0≤ty∧ty≤255):
  Calls Tryz.prog 9 #[.agg #[.string root,.int .u64 sg,.slice a2 (len rs) k2,.slice a3 (len cs) k3,.slice a4 (len sp) k4,.slice a5 (len pp) k5],.string s,.agg #[.int .u16 ta,.int .u8 ty,.int .i64 ts]] w λ e w'=>e=.returned (.bool true)∧Below w.heap.size w w':=by
 have HE:=QLh h;have HE0:=HE;have HCC:=QLh (fun (w':World) (hb:Below w.heap.size w w')=>Qns (hA.low hb) k2 k4 k5);have HN3:=QLh (Qxf hA.c 650);have HFIT:=QLh hA.fit;have HRB:=QLh (Qxi rs sp pp);have HSZ:Hid (Q8 (Za root sg (Qb3 rs) (cs.take 650) (Zv sp 20) (Zv pp 20))=true→(Qbj (Za root sg (Qb3 rs) (cs.take 650) (Zv sp 20) (Zv pp 20))).size≤60000):=QLh (λ hm=>Qzg hm (by rw[Qee];omega) (by rw[Qg4];omega) (by rw[Qg4];omega));clear h hA
 generalize Qb3 rs=rs' at HCC HFIT HRB HSZ
 generalize cs.take 650=cs' at HCC HFIT HN3 HSZ
 generalize Zv sp 20=sp' at HCC HFIT HRB HSZ
 generalize Zv pp 20=pp' at HCC HFIT HRB HSZ
 generalize len rs=l2 at HCC ⊢
 generalize len cs=l3 at HCC ⊢
 generalize len sp=l4 at HCC ⊢
 generalize len pp=l5 at HCC ⊢
 have HWC:=QLh (fun (w':World) (ht:TE7 B w') (a2 a3 a4 a5:Option Addr) (k2 k3 k4 k5:Nat) (s2:RvsC (CW w') a2 rs') (s3:NmsC (CW w') a3 cs') (s4:StrsC (CW w') a4 sp') (s5:StrsC (CW w') a5 pp')=>Quq B HFIT.out a2 a3 a4 a5 k2 k3 k4 k5 w' ht s2 s3 s4 s5);have HRC:=QLh (fun (w':World) (a2 a3 a4 a5:Option Addr) (k2 k3 k4 k5:Nat) (s2:RvsC (CW w') a2 rs') (s3:NmsC (CW w') a3 cs') (s4:StrsC (CW w') a4 sp') (s5:StrsC (CW w') a5 pp')=>Qut root sg rs' cs' sp' pp' a2 a3 a4 a5 k2 k3 k4 k5 w' s2 s3 s4 s5 HFIT.out.bd HRB.out)
 obtain⟨fs,hfs⟩:∃fs,Za root sg rs' cs' sp' pp'=fs:=⟨_,rfl⟩
 rw[hfs]at HWC HRC HSZ
 clear HFIT hfs HRB
 go_enter Tryz.func9,Tryz.ntmps9
 go_upto_region 1 with fail
 obtain⟨pb,hpb⟩:∃pb,w.heap.size=pb:=⟨_,rfl⟩
 have HPW:=QLh (Nat.le_of_eq hpb)
 obtain⟨tb,htb⟩:∃tb,pb+1=tb:=⟨_,rfl⟩
 obtain⟨V,hV⟩:∃V,(w.alloc (.cells #[.string root,.int .u64 sg,.slice a2 l2 k2,.slice a3 l3 k3,.slice a4 l4 k4,.slice a5 l5 k5] 28)).alloc (.cells #[.int .u16 ta,.int .u8 ty,.int .i64 ts] 55)=V:=⟨_,rfl⟩
 have HB:Hid (Below w.heap.size w V):=QLh (by rw[←hV];exact Qh (Qh (Below.refl _ _) _) _);have HP:Hid (V.heap[pb]?=some (.cells #[.string root,.int .u64 sg,.slice a2 l2 k2,.slice a3 l3 k3,.slice a4 l4 k4,.slice a5 l5 k5] 28)):=QLh (by rw[←hV,←hpb];exact Qf (heap_alloc_new _ _) _);have HT:Hid (V.heap[tb]?=some (.cells #[.int .u16 ta,.int .u8 ty,.int .i64 ts] 55 (0,0))):=QLh (by rw[←hV,←htb,←hpb];exact Qi _ (by simp));have HE:=QLh (HE.out.below HB.out);have HPT:Hid (pb≠tb):=QLh (by omega)
 simp only[hV,hpb,htb]
 clear hV htb hpb;have cP:∀o,V.cell? ⟨pb,o,none⟩=_:=Qa HP.out
 go_wp2_with fail
 refine(HCC.out V HB.out).mono ?_
 rintro e u1 ⟨b2,c2,b4,c4,b5,c5,rfl,hr2,hr3,hr4,hr5,hb⟩
 have HPU:=QLh (lt_of_block HP.out);have HB:=QLh (Qk HB.out hb);have HP:=QLh ((hb.block _ (lt_of_block HP.out)).trans HP.out);have HT:=QLh ((hb.block _ (lt_of_block HT.out)).trans HT.out);have hr2:=QLh hr2;have hr4:=QLh hr4;have hr5:=QLh hr5;clear hb cP hr3;have q:∀o,u1.frozen? ⟨pb,o,none⟩=false:=Qj HP.out;have r:∀o,u1.cell? ⟨pb,o,none⟩=_:=Qa HP.out
 go_upto_region 2 with fail
 obtain⟨u2,hu2⟩:∃u2,(((((u1.setCell ⟨pb,0,none⟩ (.string root)).setCell ⟨pb,1,none⟩ (.int .u64 sg)).setCell ⟨pb,2,none⟩ (.slice b2 (len rs') c2)).setCell ⟨pb,3,none⟩ (.slice a3 (len cs') k3)).setCell ⟨pb,4,none⟩ (.slice b4 (len sp') c4)).setCell ⟨pb,5,none⟩ (.slice b5 (len pp') c5)=u2:=⟨_,rfl⟩
 simp only[hu2]
 have HP0:=HP;have HP:Hid (u2.heap[pb]?=some (.cells #[.string root,.int .u64 sg,.slice b2 (len rs') c2,.slice a3 (len cs') k3,.slice b4 (len sp') c4,.slice b5 (len pp') c5] 28)):=QLh (by rw[←hu2];exact Qb (Qb (Qb (Qb (Qb (Qb HP.out _) _) _) _) _) _);have HT:Hid (u2.heap[tb]?=some (.cells #[.int .u16 ta,.int .u8 ty,.int .i64 ts] 55 (0,0))):=QLh (by
  rw[←hu2]
  have hne:=HPT.out.symm
  exact Qg (Qg (Qg (Qg (Qg (Qg HT.out hne _) hne _) hne _) hne _) hne _) hne _)
 have hr2:Hid (RvsC (CW u2) b2 rs'):=QLh (by rw[←hu2];exact hr2.out.imp (CW2.set6 HPU.out HP0.out (by decide) _ _ _ _ _ _));have hr4:Hid (StrsC (CW u2) b4 sp'):=QLh (by rw[←hu2];exact hr4.out.imp (CW2.set6 HPU.out HP0.out (by decide) _ _ _ _ _ _));have hr5:Hid (StrsC (CW u2) b5 pp'):=QLh (by rw[←hu2];exact hr5.out.imp (CW2.set6 HPU.out HP0.out (by decide) _ _ _ _ _ _));have HB:Hid (Below w.heap.size w u2):=QLh (by rw[←hu2];exact Zs (Zs (Zs (Zs (Zs (Zs HB.out HPW.out _) HPW.out _) HPW.out _) HPW.out _) HPW.out _) HPW.out _);have HE:=QLh (HE0.out.below HB.out);clear hu2 q r HP0;have cP:∀o,u2.cell? ⟨pb,o,none⟩=_:=Qa HP.out
 go_wp2_with fail
 refine(HWC.out u2 HE.out b2 a3 b4 b5 c2 k3 c4 c5 hr2.out (HN3.out.imp (Qu HB.out)) hr4.out hr5.out).mono ?_
 rintro e u3 hh
 obtain⟨rfl,hb⟩:=hh.both
 have HB:=QLh (Qk HB.out hb);have HE:=QLh (HE.out.below hb);have HP:=QLh ((hb.block _ (lt_of_block HP.out)).trans HP.out);have HT:=QLh ((hb.block _ (lt_of_block HT.out)).trans HT.out);have hr2:=QLh (hr2.out.imp (Qu hb));have hr4:=QLh (hr4.out.low hb);have hr5:=QLh (hr5.out.low hb);clear hb hh cP;have cP:∀o,u3.cell? ⟨pb,o,none⟩=_:=Qa HP.out
 go_wp2_with fail
 refine(HRC.out u3 b2 a3 b4 b5 c2 k3 c4 c5 hr2.out (HN3.out.imp (Qu HB.out)) hr4.out hr5.out).mono ?_
 rintro e u4 hh
 obtain⟨rfl,hb⟩:=hh.both
 have HB:=QLh (Qk HB.out hb);have HE:=QLh (HE.out.below hb);have HT:=QLh ((hb.block _ (lt_of_block HT.out)).trans HT.out);clear hb hh cP hr2 hr4 hr5 HP;have HBZ:Hid ((Qnh fs).size≤60000):=QLh (by
  unfold Qnh
  cases hm:Q8 fs with
  | true=>exact HSZ.out hm
  | false=>exact(show(0:Nat)≤60000 by decide))
 generalize Qnh fs=b at HBZ
 generalize Quf fs=c
 obtain⟨k,hk⟩:∃k,min s.size 5000=k:=⟨_,rfl⟩
 have mn:min (s.size:Int) 5000=(k:Int):=by rw[←hk];omega
 have sl:k≤s.size:=by rw[←hk];exact Nat.min_le_left _ _
 have HK:Hid (k≤5000):=QLh (by rw[←hk];exact Nat.min_le_right _ _)
 obtain⟨v0,hv0⟩:∃v,s.extract 0 k=v:=⟨_,rfl⟩
 have HV0:Hid (v0.size≤5000):=QLh (by rw[←hv0,ByteArray.size_extract];have:=HK.out;omega);have HTN:=QLh (λ w'=>Qrg b ta ty ts w' ha hy (Nat.le_trans HBZ.out (by decide)));clear hk
 go_upto_region 6 with fail
 obtain⟨W,hW⟩:∃W,u4=W:=⟨_,rfl⟩
 rw[hW]at HB HE HT ⊢
 clear hW;have y0:W.cell? ⟨tb,0,none⟩=some (.int .u16 ta):=Qa HT.out 0;have y1:W.cell? ⟨tb,1,none⟩=some (.int .u8 ty):=Qa HT.out 1;have y2:W.cell? ⟨tb,2,none⟩=some (.int .i64 ts):=Qa HT.out 2
 refine Qp 11 1000 (none) (Qaw [λ u _=>u=(.string s),λ u _=>u=(.string s),λ u _=>u=(.int .i64 s.size),λ u _=>u=(.int .i64 k),λ u _=>u=(.string v0),λ u _=>u=(.string b),λ u _=>u=(.string b),λ u _=>u=(.agg #[.int .u16 ta,.int .u8 ty,.int .i64 ts]),λ u _=>∃t:ByteArray,u=.string t∧t.size≤60000,λ u _=>∃t:ByteArray,u=.agg #[.string v0,.string b,.string t]∧t.size≤60000,λ u w'=>∃c,u=.pointer (some ⟨c,0,none⟩)∧W.heap.size≤c∧w'.heap[c]?=some (.cells #[.string ⟨#[]⟩,.string ⟨#[]⟩,.string ⟨#[]⟩] 57 (0,0))]) rfl (by kernel_rfl) (by kernel_rfl) (Zb ⟨Qe,Qe,Qe,Qe,Qe,Qe,Qe,Qe,Qe,Qe,?m10,trivial⟩) (Q6 11 ⟨?s0,?s1,?s2,?s3,?s4,?s5,?s6,?s7,?s8,?s9,?s10,trivial⟩) ?_
 case m10=>
  exact⟨λ u w1 w2 h ⟨c,h1,h2,h3⟩=>⟨c,h1,h2,Zt h h3⟩,λ _ u w1 w2 h ⟨c,h1,h2,h3⟩=>⟨c,h1,h2,Qn h (by simp) h3⟩⟩
 case s0=>
  refine Qc (v:=(.string s)) (λ av wv hE hS hO hD=>?_) (λ _=>rfl)
  have f1:=QEf av 1 (.string s) (hO.2.2 1 rfl)
  refine⟨rfl,?_⟩
  simp[go_sem,f1,mn,sl,hv0]
 case s1=>
  refine Qc (v:=(.string s)) (λ av wv hE hS hO hD=>?_) (λ _=>rfl)
  have f1:=QEf av 1 (.string s) (hO.2.2 1 rfl)
  refine⟨rfl,?_⟩
  simp[go_sem,f1,mn,sl,hv0]
 case s2=>
  refine Qc (v:=(.int .i64 s.size)) (λ av wv hE hS hO hD=>?_) (λ _=>rfl)
  have f38:=QEf av 38 (.string s) (hD.1 rfl _ rfl)
  refine⟨rfl,?_⟩
  simp[go_sem,f38,mn,sl,hv0]
 case s3=>
  refine Qc (v:=(.int .i64 k)) (λ av wv hE hS hO hD=>?_) (λ _=>rfl)
  have f39:=QEf av 39 (.int .i64 s.size) (hD.1 rfl _ rfl)
  refine⟨rfl,?_⟩
  simp[go_sem,f39,mn,sl,hv0]
 case s4=>
  refine Qc (v:=(.string v0)) (λ av wv hE hS hO hD=>?_) (λ _=>rfl)
  have f37:=QEf av 37 (.string s) (hD.1 rfl _ rfl);have f40:=QEf av 40 (.int .i64 k) (hD.2.1 rfl _ rfl)
  refine⟨rfl,?_⟩
  simp[go_sem,f37,f40,mn,sl,hv0]
 case s5=>
  refine Qc (v:=(.string b)) (λ av wv hE hS hO hD=>?_) (λ _=>rfl)
  have f9:=QEf av 9 (.string b) (hO.2.2 9 rfl)
  refine⟨rfl,?_⟩
  simp[go_sem,f9,mn,sl,hv0]
 case s6=>
  refine Qc (v:=(.string b)) (λ av wv hE hS hO hD=>?_) (λ _=>rfl)
  have f9:=QEf av 9 (.string b) (hO.2.2 9 rfl)
  refine⟨rfl,?_⟩
  simp[go_sem,f9,mn,sl,hv0]
 case s7=>
  refine Qc (v:=(.agg #[.int .u16 ta,.int .u8 ty,.int .i64 ts])) (λ av wv hE hS hO hD=>?_) (λ _=>rfl)
  have f5:=QEf av 5 (pt tb 0) (hO.2.2 5 rfl);have y0:=Qd hE (by simp) y0;have y1:=Qd hE (by simp) y1;have y2:=Qd hE (by simp) y2
  refine⟨rfl,?_⟩
  simp[go_sem,f5,y0,y1,y2,mn,sl,hv0]
 case s8=>
  refine Qo (λ av wv hE hS hO hD=>?_)
  have f43:=QEf av 43 (.string b) (hD.1 rfl _ rfl);have f44:=QEf av 44 (.agg #[.int .u16 ta,.int .u8 ty,.int .i64 ts]) (hD.2.1 rfl _ rfl)
  refine⟨rfl,?_⟩
  exact Xq (f:=28) (args:=#[.string b,.agg #[.int .u16 ta,.int .u8 ty,.int .i64 ts]]) (R:=λ u w2=>(∃t:ByteArray,u=.string t∧t.size≤60000)∧Below wv.heap.size wv w2) (by simp[go_sem,f43,f44]) ((HTN.out wv).mono (λ e w2 ⟨t,h1,h2,h3⟩=>⟨_,h1,⟨t,rfl,Nat.le_trans h2 HBZ.out⟩,h3⟩)) (λ u w2 ⟨h1,h2⟩=>⟨u,rfl,Qm h2,h1⟩)
 case s9=>
  refine Qo (λ av wv hE hS hO hD=>?_)
  have f41:=QEf av 41 (.string v0) (hD.1 rfl _ rfl);have f42:=QEf av 42 (.string b) (hD.2.1 rfl _ rfl);have d45:(λ u _=>∃t:ByteArray,u=.string t∧t.size≤60000) (av.eval (.tmp 45)) wv:=hD.2.2.1 rfl _ rfl
  refine⟨rfl,?_⟩
  obtain⟨t,ht,hz⟩:=d45
  have f45:=(Qq av 45).symm.trans ht
  exact Zn (v:=.agg #[.string v0,.string b,.string t]) (by simp[go_sem,f41,f42,f45]) ⟨_,rfl,Qm (Zr _),t,rfl,hz⟩
 case s10=>
  refine Qo (λ av wv hE hS hO hD=>?_)
  refine⟨rfl,?_⟩
  exact Zn (v:=.pointer (some ⟨wv.heap.size,0,none⟩)) (w':=wv.alloc (.cells #[.string ⟨#[]⟩,.string ⟨#[]⟩,.string ⟨#[]⟩] 57)) (by simp[go_sem]) ⟨_,rfl,Qm (Qh (Zr _) _),wv.heap.size,rfl,(by have:=hE.size;simpa using this),heap_alloc_new _ _⟩
 intro a' w' hE hO hall
 have hA:=Ql (ds:=[37,38,39,40,41,42,43,44,45,46,11]) rfl hO (by kernel_rfl);have e37:a'.eval (.tmp 37)=(.string s):=hall.1 _ rfl;have e38:a'.eval (.tmp 38)=(.string s):=hall.2.1 _ rfl;have e39:a'.eval (.tmp 39)=(.int .i64 s.size):=hall.2.2.1 _ rfl;have e40:a'.eval (.tmp 40)=(.int .i64 k):=hall.2.2.2.1 _ rfl;have e41:a'.eval (.tmp 41)=(.string v0):=hall.2.2.2.2.1 _ rfl;have e42:a'.eval (.tmp 42)=(.string b):=hall.2.2.2.2.2.1 _ rfl;have e43:a'.eval (.tmp 43)=(.string b):=hall.2.2.2.2.2.2.1 _ rfl;have e44:a'.eval (.tmp 44)=(.agg #[.int .u16 ta,.int .u8 ty,.int .i64 ts]):=hall.2.2.2.2.2.2.2.1 _ rfl;have e45:(λ u _=>∃t:ByteArray,u=.string t∧t.size≤60000) (a'.eval (.tmp 45)) w':=hall.2.2.2.2.2.2.2.2.1 _ rfl;have e46:(λ u _=>∃t:ByteArray,u=.agg #[.string v0,.string b,.string t]∧t.size≤60000) (a'.eval (.tmp 46)) w':=hall.2.2.2.2.2.2.2.2.2.1 _ rfl;have e11:(λ u w'=>∃c,u=.pointer (some ⟨c,0,none⟩)∧W.heap.size≤c∧w'.heap[c]?=some (.cells #[.string ⟨#[]⟩,.string ⟨#[]⟩,.string ⟨#[]⟩] 57 (0,0))) (a'.eval (.tmp 11)) w':=hall.2.2.2.2.2.2.2.2.2.2.1 _ rfl
 obtain⟨v45,hv45⟩:∃v,a'.eval (.tmp 45)=v:=⟨_,rfl⟩
 rw[hv45]at e45
 obtain⟨v46,hv46⟩:∃v,a'.eval (.tmp 46)=v:=⟨_,rfl⟩
 rw[hv46]at e46
 obtain⟨v11,hv11⟩:∃v,a'.eval (.tmp 11)=v:=⟨_,rfl⟩
 rw[hv11]at e11
 simp only[List.foldl_cons,List.foldl_nil,Act.put,List.setIfInBounds_toArray,List.set_cons_succ,List.set_cons_zero,e37,e38,e39,e40,e41,e42,e43,e44,hv45,hv46,hv11]at hA
 clear hO hall e37 e38 e39 e40 e41 e42 e43 e44 hv45 hv46 hv11
 subst hA
 clear y0 y1 y2 mn sl hv0 e45
 obtain⟨cb,rfl,hcW,hcb⟩:=e11
 obtain⟨t,rfl,htz⟩:=e46
 have HC:=QLh hcb;have HTZ:=QLh htz;have HCW:=QLh hcW;have HX:=QLh (Qx hE);clear hcb htz hE HTN hcW;have q0:w'.frozen? ⟨cb,0,none⟩=false:=Qj HC.out 0;have q1:w'.frozen? ⟨cb,1,none⟩=false:=Qj HC.out 1;have q2:w'.frozen? ⟨cb,2,none⟩=false:=Qj HC.out 2;have r0:w'.cell? ⟨cb,0,none⟩=some (.string ⟨#[]⟩):=Qa HC.out 0;have r1:w'.cell? ⟨cb,1,none⟩=some (.string ⟨#[]⟩):=Qa HC.out 1;have r2:w'.cell? ⟨cb,2,none⟩=some (.string ⟨#[]⟩):=Qa HC.out 2
 go_upto_region 8 with fail
 obtain⟨W2,hW2⟩:∃W2,((w'.setCell ⟨cb,0,none⟩ (.string v0)).setCell ⟨cb,1,none⟩ (.string b)).setCell ⟨cb,2,none⟩ (.string t)=W2:=⟨_,rfl⟩
 rw[hW2]
 have HL:Hid (W2.heap[cb]?=some (.cells #[.string v0,.string b,.string t] 57 (0,0))):=QLh (by rw[←hW2];exact Qb (Qb (Qb HC.out _) _) _);have hE2:Below W.heap.size W W2:=by rw[←hW2];exact Zs (Zs (Zs HX.out HCW.out _) HCW.out _) HCW.out _
 have HE:=QLh (HE.out.below hE2);have HB:=QLh (Qk HB.out hE2);clear hW2 hE2 q0 q1 q2 r0 r1 r2 HX HT HC HCW;have HZ:Hid (∀m,(Que v0 b t m).size≤60000):=QLh (λ m=>Qrl (Nat.le_trans HV0.out (by decide)) HBZ.out HTZ.out m)
 go_loopg [12] 3 (λ g i wr=>∃m:Nat,g+m=3∧i=.int .i64 m∧Hid (Below W2.heap.size W2 wr))
 case atStart=>exact⟨0,rfl,rfl,Below.refl _ _⟩
 case round=>
  obtain⟨m,hg,rfl,HW⟩:=hrel
  by_cases hlt:m<3
  ·have c0:wr.cell? ⟨cb,m,none⟩=some (.string (Que v0 b t m)):=(Qa ((HW.out.block cb (lt_of_block HL.out)).trans HL.out) m).trans (Qp2 v0 b t m hlt)
   have i1:decide (m<3)=true:=by simp;exact hlt
   have i2:(m:Int)<3:=by omega
   have hv:=HZ.out m;have HEr:=QLh (HE.out.below HW.out);have HL2:=QLh (λ w' (h:Below wr.heap.size wr w')=>(Qa ((h.block cb (Nat.lt_of_lt_of_le (lt_of_block HL.out) HW.out.size)).trans ((HW.out.block cb (lt_of_block HL.out)).trans HL.out)) m).trans (Qp2 v0 b t m hlt))
   generalize Que v0 b t m=v at c0 hv HL2
   have HV:=QLh hv;clear hv;have HLN:=QLh (Qvd v)
   go_wp2_with fail
   refine(Qrv B v wr HEr.out (Nat.le_trans HV.out (by decide))).mono ?_
   rintro e w8 ⟨ev,a2,z2,a3,z3,a4,z4,a5,z5,rfl,hev,htl,hs2,hs3,hs4,hs5,hb⟩
   have T2:=QLh hs2;have T3:=QLh hs3;have T4:=QLh hs4;have T5:=QLh hs5;have HTL:=QLh htl;have HB8:=QLh hb;have HRR:=QLh (λ w'=>Qo3 v w' (Nat.lt_of_le_of_lt HV.out (by decide)));clear hs2 hs3 hs4 hs5 htl hb hev c0
   generalize Xg v (Zp v) Q7=r at HTL T2 T3 T4 T5 HRR HLN ⊢
   generalize Qox r Q7=y at T2 T3 T4 T5 HRR HLN ⊢
   obtain⟨n2,n3,n4,n5,n6⟩:=HLN.out
   have N6:=QLh n6;clear HLN n6
   unfold Zy at HRR ⊢
   generalize (y 0).s=y0 at HRR ⊢
   generalize (y 1).n=y1 at HRR ⊢
   generalize (y 2).rs=y2 at T2 HRR n2 N6 ⊢
   generalize (y 3).ns=y3 at T3 HRR n3 ⊢
   generalize (y 4).l=y4 at T4 HRR n4 ⊢
   generalize (y 5).l=y5 at T5 HRR n5 ⊢
   have HLN:=QLh (And.intro (And.intro n2 n3) (And.intro n4 n5));clear n2 n3 n4 n5
   go_upto_region 11 with fail
   obtain⟨yb,hyb⟩:∃yb,w8.heap.size=yb:=⟨_,rfl⟩
   obtain⟨Y,hY⟩:∃Y,w8.alloc (.cells #[.string y0,.int .u64 y1,.slice a2 (len y2) z2,.slice a3 (len y3) z3,.slice a4 (len y4) z4,.slice a5 (len y5) z5] 28)=Y:=⟨_,rfl⟩
   have hb:Below w8.heap.size w8 Y:=by rw[←hY];exact Qh (Below.refl _ _) _
   have HY:Hid (Y.heap[yb]?=some (.cells #[.string y0,.int .u64 y1,.slice a2 (len y2) z2,.slice a3 (len y3) z3,.slice a4 (len y4) z4,.slice a5 (len y5) z5] 28 (0,0))):=QLh (by rw[←hY,←hyb];exact heap_alloc_new _ _);have HB8:=QLh (Qk HB8.out hb);have HX8:=QLh hb;have T2:=QLh (T2.out.imp (Qu hb));have T3:=QLh (T3.out.imp (Qu hb));have T5:=QLh (T5.out.low hb);have T4:=QLh (T4.out.low hb)
   simp only[hY,hyb]
   clear hY hyb hb;have c9:=HL2.out Y HB8.out
   go_wp2_with fail
   refine(HRR.out Y).mono ?_
   rintro e w9 ⟨p2,o2,p3,o3,p4,o4,p5,o5,rfl,hne,hs2,hs3,hs4,hs5,hb⟩
   have S2:=QLh hs2;have S5:=QLh hs5;have S3:=QLh hs3;have S4:=QLh hs4;have HNE:=QLh hne;have HB8:=QLh (Qk HB8.out hb);have HX8:=QLh (Qk HX8.out hb);have T2:=QLh (T2.out.imp (Qu hb));have T3:=QLh (T3.out.imp (Qu hb));have T5:=QLh (T5.out.low hb);have T4:=QLh (T4.out.low hb);have HY:=QLh ((hb.block _ (lt_of_block HY.out)).trans HY.out);clear hs2 hs3 hs4 hs5 hne hb c9
   obtain⟨f,hf⟩:∃f,Q1e r=f:=⟨_,rfl⟩
   rw[hf]
   have HTL:Hid (∀w',Below w8.heap.size w8 w'→TE7 B w'→Calls Tryz.prog 31 #[ev,.agg #[.int .i64 f.1,.int .i64 f.2]] w' λ e w''=>e=.returned (.bool true)∧Below w'.heap.size w' w''):=QLh (by have:=HTL.out HNE.out;rw[hf]at this;exact this);clear hf
   go_upto_region 12 with fail
   obtain⟨zb,hzb⟩:∃zb,w9.heap.size=zb:=⟨_,rfl⟩
   obtain⟨fb,hfb⟩:∃fb,zb+1=fb:=⟨_,rfl⟩
   obtain⟨Z,hZ⟩:∃Z,(w9.alloc (.cells #[.string y0,.int .u64 y1,.slice p2 (len y2) o2,.slice p3 (len y3) o3,.slice p4 (len y4) o4,.slice p5 (len y5) o5] 28)).alloc (.cells #[.int .i64 f.1,.int .i64 f.2] 63)=Z:=⟨_,rfl⟩
   have hb:Below w9.heap.size w9 Z:=by rw[←hZ];exact Qh (Qh (Below.refl _ _) _) _
   have HZB:Hid (Z.heap[zb]?=some (.cells #[.string y0,.int .u64 y1,.slice p2 (len y2) o2,.slice p3 (len y3) o3,.slice p4 (len y4) o4,.slice p5 (len y5) o5] 28 (0,0))):=QLh (by rw[←hZ,←hzb];exact Qf (heap_alloc_new _ _) _);have HFB:Hid (Z.heap[fb]?=some (.cells #[.int .i64 f.1,.int .i64 f.2] 63 (0,0))):=QLh (by rw[←hZ,←hfb,←hzb];exact Qi _ (by simp));have HB8:=QLh (Qk HB8.out hb);have HX8:=QLh (Qk HX8.out hb);have T2:=QLh (T2.out.imp (Qu hb));have T3:=QLh (T3.out.imp (Qu hb));have T5:=QLh (T5.out.low hb);have T4:=QLh (T4.out.low hb);have S2:=QLh (S2.out.imp (Qu hb));have S3:=QLh (S3.out.imp (Qu hb));have S5:=QLh (S5.out.low hb);have S4:=QLh (S4.out.low hb);have HY:=QLh ((hb.block _ (lt_of_block HY.out)).trans HY.out)
   simp only[hZ,hzb,hfb]
   clear hZ hzb hfb hb;have cY:∀o,Z.cell? ⟨yb,o,none⟩=_:=Qa HY.out;have cZ:∀o,Z.cell? ⟨zb,o,none⟩=_:=Qa HZB.out
   go_wp2_with fail
   refine(Qly y0 y1 y2 y3 y4 y5 a2 a3 a4 a5 p2 p3 p4 p5 z2 z3 z4 z5 o2 o3 o4 o5 Z T2.out T3.out T4.out T5.out S2.out S3.out S4.out S5.out HLN.out.1.1 HLN.out.1.2 HLN.out.2.1 HLN.out.2.2 N6.out).mono ?_
   rintro e x1 ⟨rfl,hb⟩
   have HB8:=QLh (Qk HB8.out hb);have HX8:=QLh (Qk HX8.out hb);have HFB:=QLh ((hb.block _ (lt_of_block HFB.out)).trans HFB.out);clear hb cY cZ;have cF:∀o,x1.cell? ⟨fb,o,none⟩=_:=Qa HFB.out
   go_wp2_with fail
   refine(HTL.out x1 HX8.out (HEr.out.below HB8.out)).mono ?_
   rintro e x2 ⟨rfl,hb⟩
   have HBN:=QLh (Qk HW.out (Qk HB8.out hb));clear hb cF
   go_wp2
   go_roundg (2 - m)
   case rel=>exact⟨m+1,by omega,by go_num,HBN⟩
   case measure=>omega
  ·obtain rfl:m=3:=by omega
   go_wp2_with fail
   refine(Qrh B wr (HE.out.below HW.out)).mono ?_
   rintro e w9 ⟨rfl,hb⟩
   have HB:=QLh (Qk HB.out (Qk HW.out hb));clear hb
   go_wp2
   go_ret
   exact⟨rfl,HB.out⟩
end Go.Proofs.YtihiaopilnjonaaGreatDoor

/- Parts of the proof, one behind the other. -/
import Derived.Test.YtpobhbdomldecaaGreatDoorIhdP5
import Derived.LaidMore
import Derived.LaidHandle
import Derived.Stop.Joined
import Derived.ChangeVars
import Derived.JoinedOf
import Derived.RowKitTokens
import Derived.Test.YtpobhbdomldecaaGreatDoorCards
import Derived.Test.YtpobhbdomldecaaGreatDoorTie
import Derived.SevenTiedAt
set_option linter.unusedSimpArgs false
set_option linter.unusedVariables false
set_option maxRecDepth 100000
set_option maxHeartbeats 40000000
namespace Go.Proofs.YtpobhbdomldecaaGreatDoor
open Go.RowKit
section
set_option linter.constructorNameAsVariable false
def eB(l:List Hdr)(i:Nat):Bool:=hOk (Xw l i) && (decide (i=0) || Qak (Xw l (i - 1)) (Xw l i))
def QtJ(l:List Hdr)(i:Nat)(w:World)(e:Ending)(w':World):Prop:=∃s,e=.returned (.tuple #[.string s,.bool (eB l i)])/\(eB l i=true->s=hbs (Xw l i))/\Below w.heap.size w w'
theorem QsS(B:Nat)(l:List Hdr)(a:Option Addr)(cap xb i:Nat)(w:World)(ht:PT B w)(hc:Qdm w a l)(ho:∀i,(Xw l i).Ok)(hx:Qtk w xb a (len l) cap)(hi:i<len l)(hn:len l<=100000):
  Calls Tryz.prog 104 #[.int .i64 (i:Nat),(Xw l i).val,.pointer (some ⟨xb,0,none⟩)] w (QtJ l i w):=by
 have HT:=QLh ht;have HC:=QLh hc;have HO:=QLh ho;have HX:=QLh hx;have HI:=QLh hi;have HN:=QLh hn;clear ht hc ho hx hi hn;obtain⟨r,hr⟩:∃r,Xw l i=r:=⟨_,rfl⟩;have HRE:=QLh hr;have HRO:Hid r.Ok:=QLh (by rw[<-hr];exact HO.out i);have HXX:Hid (xb<w.heap.size):=QLh (lt_of_block HX.out);rw[hr];clear hr
 cases hok:hOk r with
 | false=>
  have HE:Hid (eB l i=false):=QLh (by unfold eB;rw[HRE.out,hok];rfl);have HW:=QLh (λ w9 h9=>QuT B r w9 h9 HRO.out hok);clear hok
  go_enter Tryz.func104,Tryz.ntmps104
  go_wp2_with fail;refine(HW.out _ (HT.out.below (Qf (Below.refl _ _) _))).mono ?_;rintro e w1 ⟨rfl,hb⟩;have HB:Hid (Below w.heap.size w w1):=QLh (Qj (Qf (Below.refl _ _) _) hb);clear hb HW;go_upto_region 2 with fail
  go_quiet (fail)
  go_wp2
  go_ret2
  exact⟨_,by rw[HE.out];rfl,λ h=>absurd h (by rw[HE.out];decide),Zg HB.out _⟩
 | true=>
  have HOK:=QLh hok;have HW:=QLh (λ w9 h9=>Qr7 B r w9 h9 HRO.out hok);clear hok
  go_enter Tryz.func104,Tryz.ntmps104
  go_wp2_with fail;refine(HW.out _ (HT.out.below (Qf (Below.refl _ _) _))).mono ?_;rintro e w1 ⟨rfl,hb⟩;have HB:Hid (Below w.heap.size w w1):=QLh (Qj (Qf (Below.refl _ _) _) hb);have HH:Hid (w1.heap[w.heap.size]?=some (.cells #[.int .u64 r.rnd,.string r.prev,.string r.txns,.string r.seed] 33 (0,0))):=QLh ((hb.block _ (by simp)).trans (heap_alloc_new _ _));have HX1:=QLh (HX.out.below HB.out);clear hb HW;have x0:w1.cell? ⟨xb,0,none⟩=some (.slice a (len l) cap):=Qa HX1.out 0;have h0:w1.cell? ⟨w.heap.size,0,none⟩=some (.int .u64 r.rnd):=Qa HH.out 0
  by_cases hi0:i=0
  ·subst hi0
   have HE:Hid (eB l 0=true):=QLh (by unfold eB;rw[HRE.out,HOK.out];rfl);go_upto_region 2 with fail
   go_quiet (fail)
   go_wp2
   go_ret2
   exact⟨_,by rw[HE.out];rfl,λ _=>by rw[HRE.out],Zg HB.out _⟩
  ·obtain⟨k,rfl⟩:∃k,i=k+1:=⟨i - 1,by omega⟩
   obtain⟨b,off,rfl,⟨f0,f1,f2,f3⟩⟩:=(HC.out.below HB.out) k (by have:=HI.out;omega);obtain⟨p,hp⟩:∃p,Xw l k=p:=⟨_,rfl⟩;have HPO:Hid p.Ok:=QLh (by rw[<-hp];exact HO.out k);rw[hp]at f0;have i1:((k:Int)+1 == 0)=false:=by simp;omega
   have i2:IntKind.i64.wrap (k:Int)=(k:Int):=by have:=HN.out;have:=HI.out;exact IntWalk.i64_in _ (by omega)
   have i3:(k:Int)<len l:=by have:=HI.out;omega
   have i4:k<len l:=by have:=HI.out;omega
   have HST:Hid (eB l (k+1)=Qak p r):=QLh (by unfold eB;rw[HRE.out,HOK.out,show k+1 - 1=k from rfl,hp];simp);clear f1 f2 f3 hi0 hp;have hp0:=HPO.out.r0;have hr0:=HRO.out.r0
   by_cases c1:p.rnd<r.rnd
   ·have sb:IntKind.u64.wrap (r.rnd - p.rnd)=r.rnd - p.rnd:=by have:=hp0.1;have:=hr0.2;exact IntWalk.u64_in _ (by omega)
    by_cases c2:r.rnd - p.rnd=1
    ·have HE:Hid (eB l (k+1)=true):=QLh (by rw[HST.out];unfold Qak;rw[decide_eq_true c1,decide_eq_true c2];rfl)
     have e2:(r.rnd - p.rnd == 1)=true:=by simp[c2]
     clear hp0 hr0 c2;go_upto_region 2 with fail
     go_quiet (fail)
     go_wp2
     go_ret2
     exact⟨_,by rw[HE.out];rfl,λ _=>by rw[HRE.out],Zg HB.out _⟩
    ·have HE:Hid (eB l (k+1)=false):=QLh (by rw[HST.out];unfold Qak;rw[decide_eq_false c2];simp)
     have e2:(r.rnd - p.rnd == 1)=false:=by simp[c2]
     clear hp0 hr0 c2;go_upto_region 2 with fail
     go_quiet (fail)
     go_wp2
     go_ret2
     exact⟨_,by rw[HE.out];rfl,λ h=>absurd h (by rw[HE.out];decide),Zg HB.out _⟩
   ·have HE:Hid (eB l (k+1)=false):=QLh (by rw[HST.out];unfold Qak;rw[decide_eq_false c1];rfl)
    have e1:decide (p.rnd<r.rnd)=false:=decide_eq_false c1;clear hp0 hr0 c1;go_upto_region 2 with fail
    go_quiet (fail)
    go_wp2
    go_ret2
    exact⟨_,by rw[HE.out];rfl,λ h=>absurd h (by rw[HE.out];decide),Zg HB.out _⟩
end
section
set_option linter.constructorNameAsVariable false
theorem Qvf{l:List Hdr}{m:Nat}(h:eB l m=true):hOk (Xw l m)=true/\(0<m->Qak (Xw l (m - 1)) (Xw l m)=true):=by
 unfold eB at h;simp only[Bool.and_eq_true,Bool.or_eq_true,decide_eq_true_eq]at h;exact⟨h.1,λ h0=>by
  rcases h.2 with h9 | h9
  ·omega
  ·exact h9⟩
theorem Qu6{l:List Hdr}{m:Nat}(hm:m<len l)(h:eB l m=false):Qac l=false:=by
 cases e:Qac l with
 | false=>rfl
 | true=>
  have h1:=QeG e;have h2:=QgW h1.2.2.2 hm;unfold eB at h;rw[h2]at h
  by_cases h0:m=0
  ·rw[decide_eq_true h0]at h;cases h
  ·rw[QlX h1.2.2.1 hm (by omega)]at h
   simp at h
theorem Qpp(B:Nat)(l:List Hdr)(a:Option Addr)(cap xb:Nat)(w:World)(ht:PT B w)(hc:Qdm w a l)(ho:∀i,(Xw l i).Ok)(hx:Qtk w xb a (len l) cap)(hn:len l<=100000):
  Calls Tryz.prog 103 #[.slice a (len l) cap,.int .i64 64,.func (.func 104) #[] #[.pointer (some ⟨xb,0,none⟩)]] w (Qto l w):=by
 have HT:=QLh ht;have HC:=QLh hc;have HN:=QLh hn;have HX:=QLh hx;have HIH:=QLh (fun (i:Nat) (w9:World) (hi:i<len l) (hb:Below w.heap.size w w9)=>QsS B l a cap xb i w9 (ht.below hb) (hc.below hb) ho (hx.below hb) hi hn);clear ht hc hn hx ho;obtain⟨i0,hi,hz0,hz1,hz2⟩:=info_parts U6;have HZ:=QLh hz0;clear hz0
 go_enter Tryz.func103,Tryz.ntmps103
 go_wp2
 go_loopg [15,8] (len l) (λ gg i v wr=>∃m:Nat,gg+m=len l/\i=.int .i64 (m:Nat)/\Hid (ElSt l w wr v m))
 case atStart=>exact⟨0,rfl,rfl,QLh ⟨Below.refl _ _,World.ownsRow_nil _ _ _ _,λ j h=>by omega,λ j _ h=>by omega⟩⟩
 case round=>
  obtain⟨m,hm,rfl,HS⟩:=hrel
  by_cases hlt:m<len l
  ·have b0:(m:Int)<len l:=by omega
   obtain⟨b,off,rfl,⟨e0,e1,e2,e3⟩⟩:=(HC.out.below HS.out.b) m hlt;have HI1:=QLh (λ w9 hb=>HIH.out m w9 hlt hb);unfold QtJ at HI1;have HEA:Hid (eB l m=true->hOk (Xw l m)=true/\(0<m->Qak (Xw l (m - 1)) (Xw l m)=true)):=QLh Qvf;have HEN:Hid (eB l m=false->Qac l=false):=QLh (Qu6 hlt);obtain⟨r,hr⟩:∃r,Xw l m=r:=⟨_,rfl⟩;have HRE:=QLh hr;rw[hr]at e0 e1 e2 e3 HI1;have HLT:=QLh hlt;have HM:=QLh hm;clear hr hlt hm;go_upto_region 5 with fail;obtain⟨V,hV⟩:∃V,wr.alloc (.cells #[.int .u64 r.rnd,.string r.prev,.string r.txns,.string r.seed] 33)=V:=⟨_,rfl⟩;obtain⟨tb,htb⟩:∃tb,wr.heap.size=tb:=⟨_,rfl⟩;have HBV:Hid (Below w.heap.size w V):=QLh (by rw[<-hV];exact Qf HS.out.b _);have HOV:Hid (V.ownsRow w.heap.size 9 1 u8 (len (elL (l.take m))) ((elL (l.take m)).map Value.string)):=QLh (by rw[<-hV];exact HS.out.o.alloc _);have HVH:Hid (V.heap[tb]?=some (.cells #[.int .u64 r.rnd,.string r.prev,.string r.txns,.string r.seed] 33 (0,0))):=QLh (by rw[<-hV,<-htb];exact heap_alloc_new _ _);rw[hV,htb];clear hV htb e0 e1 e2 e3;have d0:V.cell? ⟨tb,0,none⟩=some (.int .u64 r.rnd):=Qa HVH.out 0;have d1:V.cell? ⟨tb,1,none⟩=some (.string r.prev):=Qa HVH.out 1;have d2:V.cell? ⟨tb,2,none⟩=some (.string r.txns):=Qa HVH.out 2;have d3:V.cell? ⟨tb,3,none⟩=some (.string r.seed):=Qa HVH.out 3;go_wp2_with fail;refine(HI1.out V HBV.out).mono ?_;rintro e w1 ⟨s,rfl,hs,hb⟩;have HB1:Hid (Below w.heap.size w w1):=QLh (Qj HBV.out hb);have HO1:=QLh (Qs HOV.out hb);clear hb d0 d1 d2 d3
   cases he:eB l m with
   | true=>
    obtain rfl:=hs he;have HK:=QLh (HEA.out he);clear hs he
    go_wp2_with (at_builtin;refine wpList_append_own _ rfl _ _ 36 rfl w.heap.size 9 i0 (.string ⟨#[]⟩) 1 16 Tryz.underlying36 hi HZ.out hz1 hz2 rfl (by decide) _ _ _ rfl (HO1.out.alloc _) ⟨w1.heap.size,0,none⟩ 1 1 [.string (hbs r)] rfl rfl ?c1 ?c2 ?c3 ?c4 ?c5 ?_)
    case c1=>exact World.news_of_block (Qg _ rfl)
    case c2=>intro u hu;simp at hu;subst hu;rfl
    case c3=>unfold maxLen;have:=HN.out;have:=HLT.out;have:=Qtj l m (by omega);omega
    case c4=>have:=HN.out;have:=HLT.out;have:=Qtj l m (by omega);omega
    case c5=>have:=HB1.out.size;simp;omega
    intro v' w2 hown' hgrow _;have HB3:Hid (Below w.heap.size w w2):=QLh (Qq (Qf HB1.out _) hgrow (λ k hk=>(HO1.out.lt k hk).1));have HO3:Hid (w2.ownsRow w.heap.size 9 1 v' (len (elL (l.take (m+1)))) ((elL (l.take (m+1))).map Value.string)):=QLh (by
     rw[Qg8 l m HLT.out,HRE.out,List.map_append,Qbj,show len [hbs r]=1 from rfl];exact hown')
    clear hown' hgrow;have HNN:=HN.out;have HLL:=HLT.out;go_wp2
    go_roundg (gk - 1)
    case rel=>exact⟨m+1,by have:=HM.out;omega,by go_num,QLh ⟨HB3.out,HO3.out,λ j hj=>by
     by_cases e:j=m
     ·subst e;exact HK.out.1
     ·exact HS.out.y j (by omega),λ j h0 hj=>by
     by_cases e:j=m
     ·subst e;exact HK.out.2 h0
     ·exact HS.out.s j h0 (by omega)⟩⟩
    case measure=>have:=HM.out;omega
   | false=>
    have HE:=QLh (HEN.out he);clear hs he;go_wp2
    go_ret2
    exact⟨.slice none 0 0,by rw[HE.out];rfl,λ h=>absurd h (by rw[HE.out];decide),HB1.out⟩
  ·obtain rfl:m=len l:=by omega
   have b0:¬((len l:Nat):Int)<(len l:Nat):=by omega
   have HTK:Hid (l.take (len l)=l):=QLh (Xh l);have HSO:=QLh HS.out.o;rw[HTK.out]at HSO;have HSB:=QLh HS.out.b;have HY1:Hid (QeT l=true):=QLh (QeJ (λ i hi=>HS.out.y i hi));have HY2:Hid (Vm Qak l=true):=QLh (QbL (λ i hi h0=>HS.out.s i h0 hi));have HEO:Hid (Qac l=(decide (0<len l) && decide (len l<=64))):=QLh (by unfold Qac;rw[HY1.out,HY2.out];simp)
   by_cases h0:len l=0
   ·have c1:¬(1:Int)<=len l:=by omega
    have HE:Hid (Qac l=false):=QLh (by rw[HEO.out,decide_eq_false (by omega)];rfl);clear h0;go_wp2
    go_ret2
    exact⟨_,by rw[HE.out];rfl,λ h=>absurd h (by rw[HE.out];decide),HSB.out⟩
   ·have c1:(1:Int)<=len l:=by omega
    by_cases h64:len l<=64
    ·have c2:(len l:Int)<=64:=by omega
     have HE:Hid (Qac l=true):=QLh (by rw[HEO.out,decide_eq_true (by omega),decide_eq_true h64];rfl);clear h0 h64;go_wp2
     go_ret2
     exact⟨_,by rw[HE.out];rfl,λ h=>Zk.own HSO.out,HSB.out⟩
    ·have c2:¬(len l:Int)<=64:=by omega
     have HE:Hid (Qac l=false):=QLh (by rw[HEO.out,decide_eq_false h64];simp);clear h0 h64;go_wp2
     go_ret2
     exact⟨_,by rw[HE.out];rfl,λ h=>absurd h (by rw[HE.out];decide),HSB.out⟩
theorem QeK(B:Nat)(l:List Hdr)(a:Option Addr)(cap:Nat)(rd:Int)(w:World)(ht:PT B w)(hc:Qdm w a l)(ho:∀i,(Xw l i).Ok)(hn:len l<=65536):
  Calls Tryz.prog 49 #[.slice a (len l) cap,.int .u64 rd] w (IhIs l rd w):=by
 have HC:=QLh hc;have HN:=QLh hn;have HO:=QLh ho;have HEL:=QLh (Qpp B l a cap w.heap.size (w.alloc (.cells #[.slice a (len l) cap] 22)) (ht.below (Qf (Below.refl _ _) _)) (hc.below (Qf (Below.refl _ _) _)) ho (heap_alloc_new _ _) (by omega));clear ht hc hn ho
 cases hel:Qac l with
 | false=>
  have HE:=QLh (Qtt (r:=rd) hel)
  go_enter Tryz.func49,Tryz.ntmps49
  go_wp2_with fail;refine HEL.out.mono ?_;rintro e w1 ⟨v,rfl,hv,hb⟩;rw[hel];have HB:Hid (Below w.heap.size w w1):=QLh (Qj (Qf (Below.refl _ _) _) hb);clear hv hb hel HEL;go_wp2;refine bodyPost_ret (v:=.tuple #[.string ⟨#[]⟩,.slice none 0 0,.int .i64 2]) (by simp[results,Tryz.results49,go_sem]) rfl ⟨_,by rw[HE.out.1,HE.out.2.2],by rw[HE.out.2.1];exact Zk.nil _,HB.out⟩
 | true=>
  have HOK:=QLh hel;have HSZ:=QLh (QgG hel)
  go_enter Tryz.func49,Tryz.ntmps49
  go_wp2_with fail;refine HEL.out.mono ?_;rintro e w1 ⟨v,rfl,hv,hb⟩;obtain⟨a1,c1,rfl,ht1,-,-⟩:=hv hel;rw[hel];have HB:Hid (Below w.heap.size w w1):=QLh (Qj (Qf (Below.refl _ _) _) hb);have HX:Hid (Qtk w1 w.heap.size a (len l) cap):=QLh ((hb.block _ (by simp)).trans (heap_alloc_new _ _));have HT1:=QLh ht1;rw[Y8];have HPV:=QLh (fun (k:Nat) (w9:World) (h:Jk w9 a1 (elL l)) (hk:k<len l)=>Qf2 (elL l) a1 c1 k w9 h (by rw[Y8];exact HN.out) (λ i hi=>Nat.le_trans (HSZ.out i hi) (by decide)) (by rw[Y8];exact hk));rw[Y8]at HPV;clear hv hb hel ht1 HEL;have x0:w1.cell? ⟨w.heap.size,0,none⟩=some (.slice a (len l) cap):=Qa HX.out 0;go_wp2_with fail;clear x0
  go_loopg [21] (len l) (λ gg i wr=>∃m:Nat,gg+m=len l/\i=.int .i64 (m:Nat)/\Hid (Below w.heap.size w wr)/\Hid (Below w1.heap.size w1 wr)/\Hid (∀j,j<m->(Xw l j).rnd≠rd))
  case atStart=>exact⟨0,rfl,rfl,HB,QLh (Below.refl _ _),QLh (λ j h=>by omega)⟩
  case round=>
   obtain⟨m,hm,rfl,HW,HW1,HI⟩:=hrel
   by_cases hlt:m<len l
   ·have b0:(m:Int)<len l:=by omega
    obtain⟨b,off,rfl,⟨e0,e1,e2,e3⟩⟩:=(HC.out.below HW.out) m hlt;obtain⟨r,hr⟩:∃r,Xw l m=r:=⟨_,rfl⟩;have HRE:=QLh hr;rw[hr]at e0 e1 e2 e3;have HLT:=QLh hlt;have HM:=QLh hm;clear hr hlt hm;have HNN:=HN.out
    by_cases hrd:r.rnd=rd
    ·have hq:(r.rnd != rd)=false:=by simp[hrd]
     have hq2:(r.rnd == rd)=true:=by simp[hrd]
     have HF:=QLh (QeM HOK.out (QeP HLT.out HI.out (by rw[HRE.out];exact hrd)));clear hrd;go_wp2_with fail;refine(HPV.out m _ ((HT1.out.below HW1.out).below (Qf (Below.refl _ _) _)) HLT.out).mono ?_;rintro e x1 ⟨v,rfl,hv,hb⟩;have HB1:Hid (Below w.heap.size w x1):=QLh (Qj HW.out (Qj (Qf (Below.refl _ _) _) hb));have HV:=QLh hv;obtain⟨g,o,rfl,hcc⟩:=((HT1.out.below HW1.out).below (Qj (Qf (Below.refl _ _) _) hb)) m (by rw[Y8];exact HLT.out);rw[QoD l m HLT.out,HRE.out]at hcc;have HLL:=HLT.out;clear hb hv e0 e1 e2 e3 hq hq2;go_wp2;refine bodyPost_ret (v:=.tuple #[.string (hbs r),v,.int .i64 0]) (by simp[results,Tryz.results49,go_sem]) rfl ⟨v,by rw[HF.out.1,HF.out.2.2,HRE.out],by rw[HF.out.2.1];exact HV.out,HB1.out⟩
    ·have hq:(r.rnd != rd)=true:=by simp[hrd]
     have hq2:(r.rnd == rd)=false:=by simp[hrd]
     have HR:=QLh hrd;clear hrd;have HLL:=HLT.out;go_wp2
     go_roundg (gk - 1)
     case rel=>exact⟨m+1,by have:=HM.out;omega,by go_num,QLh (Qf HW.out _),QLh (Qf HW1.out _),QLh (λ j hj=>by
      by_cases e:j=m
      ·subst e;rw[HRE.out];exact HR.out
      ·exact HI.out j (by omega))⟩
     case measure=>have:=HM.out;omega
   ·obtain rfl:m=len l:=by omega
    have b0:¬((len l:Nat):Int)<(len l:Nat):=by omega
    have HF:=QLh (QnM HOK.out (Qf9 HI.out));go_wp2;refine bodyPost_ret (v:=.tuple #[.string ⟨#[]⟩,.slice none 0 0,.int .i64 19]) (by simp[results,Tryz.results49,go_sem]) rfl ⟨_,by rw[HF.out.1,HF.out.2.2],by rw[HF.out.2.1];exact Zk.nil _,HW.out⟩
end
def QhY(b:Nat)(w1 w2:World):Prop:=w1.heap.size<=w2.heap.size/\∀i,b<=i->i<w1.heap.size->w2.heap[i]?=w1.heap[i]?
theorem QhY.of{b:Nat}{w1 w2:World}(h:Below w1.heap.size w1 w2):QhY b w1 w2:=⟨h.size,λ i _ hi=>h.block i hi⟩
theorem Qfz(n rb:Nat)(F:Nat->FuncId)(C:Nat->Array Value)(E:Nat->Int)(I:Nat->World->Prop)(Q:Int->World->Prop)(w:World)
  (hn:n<=100)
  (eg:∀k args w,(callFunc (F k) args).run Tryz.prog w=.ok (.enter (F k) args) w)
  (hI:∀k w1 w2,I k w1->Below w1.heap.size w1 w2->I k w2)
  (hc:∀k,k<n->∀w1,I k w1->w1.cell? ⟨rb,k * 2,none⟩=some (.func (.func (F k)) #[] (C k))/\w1.cell? ⟨rb,k * 2+1,none⟩=some (.int .i64 (E k)))
  (h0:I 0 w)
  (hs:∀k,k<n->∀w1,w.heap.size<=w1.heap.size->I k w1->Calls Tryz.prog (F k) (C k) w1 λ e w2=>∃b,e=.returned (.bool b)/\(b=true->I (k+1) w2)/\(b=false->Q (E k) w2)/\QhY w.heap.size w1 w2)
  (hq:∀w1,I n w1->Q 0 w1):
  Calls Tryz.prog 109 #[.slice (some ⟨rb,0,none⟩) n n] w λ e w'=>∃x,e=.returned (.int .i64 x)/\Q x w':=by
 have HI:=QLh hI;have HC:=QLh hc;have H0:=QLh h0;have HS:=QLh hs;have HQ:=QLh hq;have HN:=QLh hn;have EG:=QLh eg;clear hI hc h0 hs hq hn eg
 go_enter Tryz.func109,Tryz.ntmps109
 go_wp2
 go_loopg [7] n (λ gg i wr=>∃m:Nat,gg+m=n/\i=.int .i64 (m:Nat)/\Hid (I m wr)/\Hid (w.heap.size<=wr.heap.size))
 case atStart=>exact⟨0,rfl,rfl,H0,QLh (Nat.le_refl _)⟩
 case round=>
  obtain⟨m,hm,rfl,HM,HW⟩:=hrel
  by_cases hlt:m<n
  ·have b0:(m:Int)<n:=by omega
   obtain⟨c0,c1⟩:=HC.out m hlt wr HM.out;have HLT:=QLh hlt;clear hlt;go_upto_region 4 with fail;obtain⟨V,hV⟩:∃V,wr.alloc (.cells #[.func (.func (F m)) #[] (C m),.int .i64 (E m)] 140)=V:=⟨_,rfl⟩;obtain⟨tb,htb⟩:∃tb,wr.heap.size=tb:=⟨_,rfl⟩;have HV:Hid (Below wr.heap.size wr V):=QLh (by rw[<-hV];exact Qf (Below.refl _ _) _);have HVC:Hid (V.heap[tb]?=some (.cells #[.func (.func (F m)) #[] (C m),.int .i64 (E m)] 140 (0,0))):=QLh (by rw[<-hV,<-htb];exact heap_alloc_new _ _);have HVI:Hid (I m V):=QLh (HI.out m wr V HM.out HV.out);have HTB:Hid (w.heap.size<=tb):=QLh (by rw[<-htb];exact HW.out);have HVW:Hid (w.heap.size<=V.heap.size):=QLh (Nat.le_trans HW.out HV.out.size);rw[hV,htb];clear hV htb c0 c1;have egm:=EG.out m;have d0:V.cell? ⟨tb,0,none⟩=some (.func (.func (F m)) #[] (C m)):=Qa HVC.out 0;go_wp2_with fail;refine(HS.out m HLT.out V HVW.out HVI.out).mono ?_;rintro e w1 ⟨b,rfl,hy,hn,hk⟩;have HK:=QLh ((hk.2 tb HTB.out (lt_of_block HVC.out)).trans HVC.out);have HK1:Hid (w.heap.size<=w1.heap.size):=QLh (Nat.le_trans HVW.out hk.1);clear hk d0 egm
   cases b with
   | true=>
    have HI1:=QLh (hy rfl);have HNN:=HN.out;clear hy hn;go_wp2
    go_roundg (gk - 1)
    case rel=>exact⟨m+1,by have:=HLT.out;omega,by have:=HLT.out;go_num,HI1,HK1⟩
    case measure=>have:=HLT.out;omega
   | false=>
    have HQ1:=QLh (hn rfl);clear hy hn;have d1:w1.cell? ⟨tb,1,none⟩=some (.int .i64 (E m)):=Qa HK.out 1;go_wp2;go_ret;exact⟨_,rfl,HQ1.out⟩
  ·obtain rfl:m=n:=by omega
   have b0:¬((m:Nat):Int)<(m:Nat):=by omega
   go_wp2;go_ret;exact⟨0,rfl,HQ.out _ HM.out⟩
theorem Qet(root:ByteArray)(i n:Int)(s:ByteArray)(P:List ByteArray)(pa:Option Addr)(pc:Nat)(w:World)(hp:Jk w pa P)(hl:len P<=1000000)(hc:len P<=pc)(hi:U64 i)(hn:0<=n/\n<=100)(hs:s.size<=1000000):
  Calls Tryz.prog 115 #[.string root,.int .u64 i,.int .u64 n,.string s,.slice pa (len P) pc] w λ e w'=>e=.returned (.bool (decide (Ja root n [i] [s] P=0)))/\Below w.heap.size w w':=by
 have HP:Hid (Qqq [i] [s] P (some ⟨w.heap.size,0,none⟩) (some ⟨w.heap.size+1,0,none⟩) pa pc ((w.alloc (.cells #[.int .u64 i] 23)).alloc (.cells #[.string s] 9))):=QLh
  { p:=λ j hj=>⟨_,0,rfl,by
     have hj:j<1:=hj;obtain rfl:j=0:=by omega
     rw[Qa (Qe (heap_alloc_new _ _) _)];rfl⟩
    e:=Qa8 (Qg _ (by simp))
    d:=hp.below (Qf (Qf (Below.refl _ _) _) _)
    pl:=by show 1<=12;decide
    pu:=λ k hk=>by obtain rfl:=List.mem_singleton.1 hk;exact hi
    el:=by show 1<=1000000;decide
    dl:=hl
    dc_:=hc
    ez:=λ j hj=>by
     have hj:j<1:=hj;obtain rfl:j=0:=by omega
     exact hs }
 have HN:=QLh hn;have kw:IntKind.i64.wrap n=n:=IntWalk.i64_in _ (by omega);clear hp hl hc hi hn hs
 go_enter Tryz.func115,Tryz.ntmps115
 go_wp2_with fail;refine(QlD root n [i] [s] P (some ⟨w.heap.size,0,none⟩) (some ⟨w.heap.size+1,0,none⟩) pa 1 1 pc _ HP.out (by have:=HN.out;omega) (by have:=HN.out;omega)).mono ?_;rintro e w1 ⟨rfl,hb⟩;have HB:Hid (Below w.heap.size w w1):=QLh (Qj (Qf (Qf (Below.refl _ _) _) _) hb);clear hb HP;obtain⟨K,hK⟩:∃K,Ja root n [i] [s] P=K:=⟨_,rfl⟩;have HKK:Hid (decide (Ja root n [i] [s] P=0)=(K == 0)):=QLh (by rw[hK];rfl);rw[hK];clear hK;go_wp2;go_ret;exact⟨by rw[HKK.out];rfl,HB.out⟩
structure TiB(root:ByteArray)(i n:Int)(s:ByteArray)(pa:Option Addr)(pl pc b0 b2 b3 bi bn:Nat)(w:World):Prop where
 r_:w.heap[b0]?=some (.cells #[.string root] 9 (0,0))
 s_:w.heap[b2]?=some (.cells #[.string s] 9 (0,0))
 p_:w.heap[b3]?=some (.cells #[.slice pa pl pc] 36 (0,0))
 i_:w.heap[bi]?=some (.cells #[.int .u64 i] 23 (0,0))
 n_:w.heap[bn]?=some (.cells #[.int .u64 n] 23 (0,0))
theorem TiB.below{root:ByteArray}{i n:Int}{s:ByteArray}{pa:Option Addr}{pl pc b0 b2 b3 bi bn:Nat}{w w':World}(h:TiB root i n s pa pl pc b0 b2 b3 bi bn w)(hb:Below w.heap.size w w'):TiB root i n s pa pl pc b0 b2 b3 bi bn w':=
 ⟨(hb.block _ (lt_of_block h.r_)).trans h.r_,(hb.block _ (lt_of_block h.s_)).trans h.s_,(hb.block _ (lt_of_block h.p_)).trans h.p_,(hb.block _ (lt_of_block h.i_)).trans h.i_,(hb.block _ (lt_of_block h.n_)).trans h.n_⟩
theorem Qp7(root:ByteArray)(i n:Int)(s:ByteArray)(pa:Option Addr)(pl pc b0 b2 b3 bi bn:Nat)(w:World)(h:TiB root i n s pa pl pc b0 b2 b3 bi bn w)(hs:s.size<=9223372036854775807):
  Calls Tryz.prog 122 #[.pointer (some ⟨b0,0,none⟩),.pointer (some ⟨bn,0,none⟩),.pointer (some ⟨bi,0,none⟩),.pointer (some ⟨b2,0,none⟩)] w λ e w'=>e=.returned (.bool (tiA root i n s))/\Below w.heap.size w w':=by
 have c0:w.cell? ⟨b0,0,none⟩=some (.string root):=Qa h.r_ 0;have c1:w.cell? ⟨bn,0,none⟩=some (.int .u64 n):=Qa h.n_ 0;have c2:w.cell? ⟨bi,0,none⟩=some (.int .u64 i):=Qa h.i_ 0;have c3:w.cell? ⟨b2,0,none⟩=some (.string s):=Qa h.s_ 0;have HS:=QLh hs;clear h hs
 by_cases h1:root.size=32
 ·have e1:((root.size:Nat):Int)=32:=by omega
  by_cases h2:1<=n
  ·by_cases h3:n<=64
   ·by_cases h4:i<n
    ·have HE:Hid (tiA root i n s=Qbq s):=QLh (by unfold tiA Qbq;rw[decide_eq_true h1,decide_eq_true h2,decide_eq_true h3,decide_eq_true h4];simp)
     clear h1
     go_enter Tryz.func122,Tryz.ntmps122
     go_wp2_with fail;refine(QhR s _ HS.out).mono ?_;rintro e w1 ⟨rfl,hb⟩;go_wp2;go_ret;exact⟨by rw[HE.out];rfl,hb⟩
    ·have HE:Hid (tiA root i n s=false):=QLh (by unfold tiA;rw[decide_eq_false h4];simp)
     clear h1
     go_enter Tryz.func122,Tryz.ntmps122
     go_wp2;go_ret;exact⟨by rw[HE.out];rfl,Below.refl _ _⟩
   ·have HE:Hid (tiA root i n s=false):=QLh (by unfold tiA;rw[decide_eq_false h3];simp)
    clear h1
    go_enter Tryz.func122,Tryz.ntmps122
    go_wp2;go_ret;exact⟨by rw[HE.out];rfl,Below.refl _ _⟩
  ·have HE:Hid (tiA root i n s=false):=QLh (by unfold tiA;rw[decide_eq_false h2];simp)
   clear h1
   go_enter Tryz.func122,Tryz.ntmps122
   go_wp2;go_ret;exact⟨by rw[HE.out];rfl,Below.refl _ _⟩
 ·have e1:¬((root.size:Nat):Int)=32:=by omega
  have HE:Hid (tiA root i n s=false):=QLh (by unfold tiA;rw[decide_eq_false h1];rfl);clear h1
  go_enter Tryz.func122,Tryz.ntmps122
  go_wp2;go_ret;exact⟨by rw[HE.out];rfl,Below.refl _ _⟩
theorem Qqp(root:ByteArray)(i n:Int)(s:ByteArray)(P:List ByteArray)(pa:Option Addr)(pc b0 b2 b3 bi bn:Nat)(w:World)(h:TiB root i n s pa (len P) pc b0 b2 b3 bi bn w)(hp:Jk w pa P)(hl:len P<=1000000)(hc:len P<=pc)(hi:U64 i)(hn:0<=n/\n<=100)(hs:s.size<=1000000):
  Calls Tryz.prog 123 #[.pointer (some ⟨b0,0,none⟩),.pointer (some ⟨bi,0,none⟩),.pointer (some ⟨bn,0,none⟩),.pointer (some ⟨b2,0,none⟩),.pointer (some ⟨b3,0,none⟩)] w λ e w'=>e=.returned (.bool (decide (Ja root n [i] [s] P=0)))/\Below w.heap.size w w':=by
 have c0:w.cell? ⟨b0,0,none⟩=some (.string root):=Qa h.r_ 0;have c1:w.cell? ⟨bn,0,none⟩=some (.int .u64 n):=Qa h.n_ 0;have c2:w.cell? ⟨bi,0,none⟩=some (.int .u64 i):=Qa h.i_ 0;have c3:w.cell? ⟨b2,0,none⟩=some (.string s):=Qa h.s_ 0;have c4:w.cell? ⟨b3,0,none⟩=some (.slice pa (len P) pc):=Qa h.p_ 0;have HR:=QLh (Qet root i n s P pa pc w hp hl hc hi hn hs);clear h hp hl hc hi hn hs
 go_enter Tryz.func123,Tryz.ntmps123
 go_wp2_with fail;refine HR.out.mono ?_;rintro e w1 ⟨rfl,hb⟩;have HB:=QLh hb;obtain⟨K,hK⟩:∃K,decide (Ja root n [i] [s] P=0)=K:=⟨_,rfl⟩;have HKK:=QLh hK;rw[hK];clear hK hb HR;go_wp2;go_ret;exact⟨by rw[HKK.out];rfl,HB.out⟩
def tisF(k:Nat):FuncId:=match k with | 0=>122 | _=>123
def QuM(b0 b2 b3 bi bn k:Nat):Array Value:=match k with | 0=>#[.pointer (some ⟨b0,0,none⟩),.pointer (some ⟨bn,0,none⟩),.pointer (some ⟨bi,0,none⟩),.pointer (some ⟨b2,0,none⟩)] | _=>#[.pointer (some ⟨b0,0,none⟩),.pointer (some ⟨bi,0,none⟩),.pointer (some ⟨bn,0,none⟩),.pointer (some ⟨b2,0,none⟩),.pointer (some ⟨b3,0,none⟩)]
def tisE(k:Nat):Int:=match k with | 0=>2 | _=>20
theorem Qow(root:ByteArray)(i n:Int)(s:ByteArray)(P:List ByteArray)(pa:Option Addr)(pc b0 b2 b3 bi bn rb:Nat)(w:World)(h:TiB root i n s pa (len P) pc b0 b2 b3 bi bn w)(hp:Jk w pa P)(hl:len P<=1000000)(hc:len P<=pc)(hi:U64 i)(hs:s.size<=1000000)
  (hr:w.heap[rb]?=some (.cells #[.func (.func 122) #[] (QuM b0 b2 b3 bi bn 0),.int .i64 2,.func (.func 123) #[] (QuM b0 b2 b3 bi bn 1),.int .i64 20] 140 (0,0))):
  Calls Tryz.prog 109 #[.slice (some ⟨rb,0,none⟩) 2 2] w λ e w'=>e=.returned (.int .i64 (tiE root i n s P))/\Below w.heap.size w w':=by
 refine(Qfz 2 rb tisF (QuM b0 b2 b3 bi bn) tisE (λ k w1=>Below w.heap.size w w1/\(1<=k->tiA root i n s=true)/\(2<=k->Ja root n [i] [s] P=0)) (λ x w1=>x=tiE root i n s P/\Below w.heap.size w w1) w (by decide) (λ k args w=>?_) (λ k w1 w2 h hb=>⟨Qj h.1 hb,h.2⟩) (λ k hk w1 hI=>?_) ⟨Below.refl _ _,λ h=>absurd h (by decide),λ h=>absurd h (by decide)⟩ (λ k hk w1 hw hI=>?_) (λ w1 hI=>?_)).mono ?_
 ·unfold tisF;split <;> simp[go_sem]
 ·have hr1:=(hI.1.block _ (lt_of_block hr)).trans hr
  match k,hk with
  | 0,_=>exact⟨Qa hr1 0,Qa hr1 1⟩
  | 1,_=>exact⟨Qa hr1 2,Qa hr1 3⟩
 ·match k,hk with
  | 0,_=>
   refine(Qp7 root i n s pa (len P) pc b0 b2 b3 bi bn w1 (h.below hI.1) (Nat.le_trans hs (by decide))).mono ?_;rintro e w2 ⟨rfl,hb⟩;refine⟨_,rfl,λ ht=>⟨Qj hI.1 hb,λ _=>ht,λ h=>absurd h (by decide)⟩,λ hf=>⟨?_,Qj hI.1 hb⟩,QhY.of hb⟩;unfold tiE;rw[hf];rfl
  | 1,_=>
   have hA:=hI.2.1 (by decide);have hn:0<=n/\n<=100:=by have:=hA;unfold tiA at this;simp only[Bool.and_eq_true,decide_eq_true_eq]at this;omega
   refine(Qqp root i n s P pa pc b0 b2 b3 bi bn w1 (h.below hI.1) (hp.below hI.1) hl hc hi hn hs).mono ?_;rintro e w2 ⟨rfl,hb⟩;refine⟨_,rfl,λ ht=>⟨Qj hI.1 hb,λ _=>hA,λ _=>of_decide_eq_true ht⟩,λ hf=>⟨?_,Qj hI.1 hb⟩,QhY.of hb⟩;unfold tiE;rw[if_pos hA,if_neg (of_decide_eq_false hf)];rfl
 ·refine⟨?_,hI.1⟩
  unfold tiE;rw[if_pos (hI.2.1 (by decide)),if_pos (hI.2.2 (by decide))]
 ·rintro e w' ⟨x,rfl,rfl,hb⟩
  exact⟨rfl,hb⟩
theorem Qqn(root:ByteArray)(i n:Int)(s:ByteArray)(P:List ByteArray)(pa:Option Addr)(pc:Nat)(w:World)(hp:Jk w pa P)(hl:len P<=1000000)(hc:len P<=pc)(hi:U64 i)(hn:U64 n)(hs:s.size<=1000000):
  Calls Tryz.prog 62 #[.string root,.agg #[.int .u64 i,.int .u64 n],.string s,.slice pa (len P) pc] w λ e w'=>e=.returned (.int .i64 (tiE root i n s P))/\Below w.heap.size w w':=by
 have HP:=QLh hp;have HL:=QLh hl;have HC:=QLh hc;have HI:=QLh hi;have HN:=QLh hn;have HS:=QLh hs;clear hp hl hc hi hn hs
 go_enter Tryz.func62,Tryz.ntmps62
 go_upto_region 1 with fail;obtain⟨V,hV⟩:∃V,(((w.alloc (.cells #[.string root] 9)).alloc (.cells #[.int .u64 i,.int .u64 n] 76)).alloc (.cells #[.string s] 9)).alloc (.cells #[.slice pa (len P) pc] 36)=V:=⟨_,rfl⟩;have HBV:Hid (Below w.heap.size w V):=QLh (by rw[<-hV];(repeat (first | exact Below.refl _ _ | assumption | (refine Zy ?_) | (refine Zg ?_ _) | (refine Qf ?_ _) | (refine Ji ?_ (by first | omega | (simp;done) | (simp;omega)) _) | (refine Qj ?_ (by assumption)))))
 have V0:Hid (V.heap[w.heap.size]?=some (.cells #[.string root] 9 (0,0))):=QLh (by rw[<-hV];(repeat (first | exact Qg _ (by repeat (first | rfl | refine Q3 _ ?_)) | refine Qe ?_ _)))
 have V1:Hid (V.heap[w.heap.size+1]?=some (.cells #[.int .u64 i,.int .u64 n] 76 (0,0))):=QLh (by rw[<-hV];(repeat (first | exact Qg _ (by repeat (first | rfl | refine Q3 _ ?_)) | refine Qe ?_ _)))
 have V2:Hid (V.heap[w.heap.size+1+1]?=some (.cells #[.string s] 9 (0,0))):=QLh (by rw[<-hV];(repeat (first | exact Qg _ (by repeat (first | rfl | refine Q3 _ ?_)) | refine Qe ?_ _)))
 have V3:Hid (V.heap[w.heap.size+1+1+1]?=some (.cells #[.slice pa (len P) pc] 36 (0,0))):=QLh (by rw[<-hV];(repeat (first | exact Qg _ (by repeat (first | rfl | refine Q3 _ ?_)) | refine Qe ?_ _)))
 have HSZ:Hid (V.heap.size=w.heap.size+4):=QLh (by rw[<-hV];simp);rw[hV];obtain⟨b,hb⟩:∃b,w.heap.size=b:=⟨_,rfl⟩;rw[hb]at V0 V1 V2 V3 HSZ ⊢;clear hV hb;obtain⟨b1,hb1⟩:∃b1,b+1=b1:=⟨_,rfl⟩;have z0:b1<V.heap.size:=by have:=HSZ.out;omega
 have z1:b1≠V.heap.size:=by have:=HSZ.out;omega
 have z2:b1≠V.heap.size+1:=by have:=HSZ.out;omega
 rw[hb1]at V1 V2 V3 ⊢;clear hb1;have y0:V.cell? ⟨b1,0,none⟩=some (.int .u64 i):=Qa V1.out 0;have y1:V.cell? ⟨b1,1,none⟩=some (.int .u64 n):=Qa V1.out 1
 go_cut [9,10] (λ s9 s10 wx=>∃bi bn:Nat,s9=.pointer (some ⟨bi,0,none⟩)/\s10=.pointer (some ⟨bn,0,none⟩)/\Hid (wx.heap[bi]?=some (.cells #[.int .u64 i] 23 (0,0)))/\Hid (wx.heap[bn]?=some (.cells #[.int .u64 n] 23 (0,0)))/\Hid (Below V.heap.size V wx))
 case first=>
  go_region
  all_goals
   go_wp2_with fail;go_meet
   first
    | exact⟨_,_,rfl,rfl,QLh (Qe (heap_alloc_new _ _) _),QLh (Qg _ (by simp)),QLh (Zy (Qf (Qf (Below.refl _ _) _) _))⟩
    | exact⟨_,_,rfl,rfl,QLh (Qg _ (by simp)),QLh (Qe (heap_alloc_new _ _) _),QLh (Zy (Qf (Qf (Below.refl _ _) _) _))⟩
 case rest=>obtain⟨bi,bn,rfl,rfl,HX,HY,HCB⟩:=hcut;have K0:=QLh ((HCB.out.block _ (lt_of_block V0.out)).trans V0.out);have K2:=QLh ((HCB.out.block _ (lt_of_block V2.out)).trans V2.out);have K3:=QLh ((HCB.out.block _ (lt_of_block V3.out)).trans V3.out);have HWB:Hid (Below w.heap.size w wc):=QLh (Qj HBV.out HCB.out);have HTB:Hid (TiB root i n s pa (len P) pc b (b1+1) (b1+1+1) bi bn wc):=QLh ⟨K0.out,K2.out,K3.out,HX.out,HY.out⟩;clear y0 y1 z0 z1 z2;go_wp2_with fail;refine(Qow root i n s P pa pc b (b1+1) (b1+1+1) bi bn _ _ (HTB.out.below (Qf (Below.refl _ _) _)) ((HP.out.below HWB.out).below (Qf (Below.refl _ _) _)) HL.out HC.out HI.out HS.out (heap_alloc_new _ _)).mono ?_;rintro e w2 ⟨rfl,hb⟩;have HB2:Hid (Below w.heap.size w w2):=QLh (Qj HWB.out (Qj (Qf (Below.refl _ _) _) hb));clear hb;go_wp2;go_ret;exact⟨rfl,HB2.out⟩
structure IsB(root:ByteArray)(f t:Int)(s:ByteArray)(pa:Option Addr)(pl pc b0 b2 b3 bf bt bh:Nat)(x:Rcd)(w:World):Prop where
 r_:w.heap[b0]?=some (.cells #[.string root] 9 (0,0))
 s_:w.heap[b2]?=some (.cells #[.string s] 9 (0,0))
 p_:w.heap[b3]?=some (.cells #[.slice pa pl pc] 36 (0,0))
 f_:w.heap[bf]?=some (.cells #[.int .u64 f] 23 (0,0))
 t_:w.heap[bt]?=some (.cells #[.int .u64 t] 23 (0,0))
 h_:w.heap[bh]?=some (.cells #[.int .u64 (x 0).n,.string (x 1).s,.string (x 2).s,.string (x 3).s] 33 (0,0))
theorem IsB.below{root:ByteArray}{f t:Int}{s:ByteArray}{pa:Option Addr}{pl pc b0 b2 b3 bf bt bh:Nat}{x:Rcd}{w w':World}(h:IsB root f t s pa pl pc b0 b2 b3 bf bt bh x w)(hb:Below w.heap.size w w'):IsB root f t s pa pl pc b0 b2 b3 bf bt bh x w':=
 ⟨(hb.block _ (lt_of_block h.r_)).trans h.r_,(hb.block _ (lt_of_block h.s_)).trans h.s_,(hb.block _ (lt_of_block h.p_)).trans h.p_,(hb.block _ (lt_of_block h.f_)).trans h.f_,(hb.block _ (lt_of_block h.t_)).trans h.t_,(hb.block _ (lt_of_block h.h_)).trans h.h_⟩
theorem Qqx(root:ByteArray)(f t:Int)(s:ByteArray)(pa:Option Addr)(pl pc b0 b2 b3 bf bt bh:Nat)(x:Rcd)(w:World)(h:IsB root f t s pa pl pc b0 b2 b3 bf bt bh x w)(hf:U64 f)(ht:U64 t):
  Calls Tryz.prog 110 #[.pointer (some ⟨b0,0,none⟩),.pointer (some ⟨bt,0,none⟩),.pointer (some ⟨bf,0,none⟩)] w λ e w'=>e=.returned (.bool (isA root f t))/\Below w.heap.size w w':=by
 have c0:w.cell? ⟨b0,0,none⟩=some (.string root):=Qa h.r_ 0;have c1:w.cell? ⟨bt,0,none⟩=some (.int .u64 t):=Qa h.t_ 0;have c2:w.cell? ⟨bf,0,none⟩=some (.int .u64 f):=Qa h.f_ 0;clear h
 by_cases h1:root.size=32
 ·have e1:((root.size:Nat):Int)=32:=by omega
  by_cases h2:f<=t
  ·have sb:IntKind.u64.wrap (t - f)=t - f:=by have:=hf.1;have:=ht.2;exact IntWalk.u64_in _ (by omega)
   by_cases h3:t - f<64
   ·have HE:Hid (isA root f t=true):=QLh (by unfold isA;rw[decide_eq_true h1,decide_eq_true h2,decide_eq_true h3];rfl)
    clear h1 hf ht
    go_enter Tryz.func110,Tryz.ntmps110
    go_wp2;go_ret;exact⟨by rw[HE.out];rfl,Below.refl _ _⟩
   ·have HE:Hid (isA root f t=false):=QLh (by unfold isA;rw[decide_eq_false h3];simp)
    clear h1 hf ht
    go_enter Tryz.func110,Tryz.ntmps110
    go_wp2;go_ret;exact⟨by rw[HE.out];rfl,Below.refl _ _⟩
  ·have HE:Hid (isA root f t=false):=QLh (by unfold isA;rw[decide_eq_false h2];simp)
   clear h1 hf ht
   go_enter Tryz.func110,Tryz.ntmps110
   go_wp2;go_ret;exact⟨by rw[HE.out];rfl,Below.refl _ _⟩
 ·have e1:¬((root.size:Nat):Int)=32:=by omega
  have HE:Hid (isA root f t=false):=QLh (by unfold isA;rw[decide_eq_false h1];rfl);clear h1 hf ht
  go_enter Tryz.func110,Tryz.ntmps110
  go_wp2;go_ret;exact⟨by rw[HE.out];rfl,Below.refl _ _⟩
theorem Qpu(root:ByteArray)(f t:Int)(s:ByteArray)(pa:Option Addr)(pl pc b0 b2 b3 bf bt bh:Nat)(x:Rcd)(w:World)(h:IsB root f t s pa pl pc b0 b2 b3 bf bt bh x w):
  Calls Tryz.prog 113 #[.pointer (some ⟨bh,0,none⟩),.pointer (some ⟨bf,0,none⟩),.pointer (some ⟨bt,0,none⟩)] w λ e w'=>e=.returned (.bool (decide (f<=(x 0).n) && decide ((x 0).n<=t)))/\Below w.heap.size w w':=by
 have c0:w.cell? ⟨bh,0,none⟩=some (.int .u64 (x 0).n):=Qa h.h_ 0;have c1:w.cell? ⟨bt,0,none⟩=some (.int .u64 t):=Qa h.t_ 0;have c2:w.cell? ⟨bf,0,none⟩=some (.int .u64 f):=Qa h.f_ 0;clear h;generalize (x 0).n=r at c0
 by_cases h1:f<=r
 ·by_cases h2:r<=t
  ·have HE:Hid ((decide (f<=r) && decide (r<=t))=true):=QLh (by rw[decide_eq_true h1,decide_eq_true h2];rfl)
   go_enter Tryz.func113,Tryz.ntmps113
   go_wp2;go_ret;exact⟨by rw[HE.out];rfl,Below.refl _ _⟩
  ·have HE:Hid (decide (r<=t)=false):=QLh (decide_eq_false h2)
   rw[decide_eq_true h1]
   go_enter Tryz.func113,Tryz.ntmps113
   go_wp2;go_ret;exact⟨by simp[HE.out],Below.refl _ _⟩
 ·rw[decide_eq_false h1]
  go_enter Tryz.func113,Tryz.ntmps113
  go_wp2;go_ret;exact⟨by simp,Below.refl _ _⟩
theorem Qqc(root:ByteArray)(f t:Int)(s:ByteArray)(P:List ByteArray)(pa:Option Addr)(pc b0 b2 b3 bf bt bh:Nat)(x:Rcd)(w:World)(h:IsB root f t s pa (len P) pc b0 b2 b3 bf bt bh x w)(hp:Jk w pa P)(hl:len P<=1000000)(hc:len P<=pc)(hf:U64 f)(ht:U64 t)(hft:f<=t/\t - f<64)(hr:f<=(x 0).n/\(x 0).n<=t)(hs:s.size<=1000000):
  Calls Tryz.prog 114 #[.pointer (some ⟨b0,0,none⟩),.pointer (some ⟨bh,0,none⟩),.pointer (some ⟨bf,0,none⟩),.pointer (some ⟨bt,0,none⟩),.pointer (some ⟨b2,0,none⟩),.pointer (some ⟨b3,0,none⟩)] w λ e w'=>e=.returned (.bool (decide (Ja root (t - f+1) [(x 0).n - f] [s] P=0)))/\Below w.heap.size w w':=by
 have c0:w.cell? ⟨b0,0,none⟩=some (.string root):=Qa h.r_ 0;have c1:w.cell? ⟨bh,0,none⟩=some (.int .u64 (x 0).n):=Qa h.h_ 0;have c2:w.cell? ⟨bf,0,none⟩=some (.int .u64 f):=Qa h.f_ 0;have c3:w.cell? ⟨bt,0,none⟩=some (.int .u64 t):=Qa h.t_ 0;have c4:w.cell? ⟨b2,0,none⟩=some (.string s):=Qa h.s_ 0;have c5:w.cell? ⟨b3,0,none⟩=some (.slice pa (len P) pc):=Qa h.p_ 0;have HR:=QLh (Qet root ((x 0).n - f) (t - f+1) s P pa pc w hp hl hc ⟨by omega,by omega⟩ ⟨by omega,by omega⟩ hs);have s1:IntKind.u64.wrap ((x 0).n - f)=(x 0).n - f:=by have:=hf.1;have:=ht.2;exact IntWalk.u64_in _ (by omega)
 have s2:IntKind.u64.wrap (t - f)=t - f:=by have:=hf.1;have:=ht.2;exact IntWalk.u64_in _ (by omega)
 have s3:IntKind.u64.wrap (t - f+1)=t - f+1:=IntWalk.u64_in _ (by omega);clear h hp hl hc hf ht hft hr hs
 go_enter Tryz.func114,Tryz.ntmps114
 go_wp2_with fail;refine HR.out.mono ?_;rintro e w1 ⟨rfl,hb⟩;have HB:=QLh hb;obtain⟨K,hK⟩:∃K,decide (Ja root (t - f+1) [(x 0).n - f] [s] P=0)=K:=⟨_,rfl⟩;have HKK:=QLh hK;rw[hK];clear hK hb HR;go_wp2;go_ret;exact⟨by rw[HKK.out];rfl,HB.out⟩
abbrev QrN(w:World)(g:Nat)(y:Rcd):World:=
 (((w.setCell ⟨g,0,none⟩ (.int .u64 (y 0).n)).setCell ⟨g,1,none⟩ (.string (y 1).s)).setCell ⟨g,2,none⟩ (.string (y 2).s)).setCell ⟨g,3,none⟩ (.string (y 3).s)
theorem QgZ(w:World)(g:Nat)(y:Rcd):Xe (some g) w (QrN w g y):=
 Q7 _ _ _ _ (Q7 _ _ _ _ (Q7 _ _ _ _ (Qu1 w g 0 _) (Qu1 _ g 1 _)) (Qu1 _ g 2 _)) (Qu1 _ g 3 _)
theorem IsB.put{root:ByteArray}{f t:Int}{s:ByteArray}{pa:Option Addr}{pl pc b0 b2 b3 bf bt bh:Nat}{x:Rcd}{w:World}(h:IsB root f t s pa pl pc b0 b2 b3 bf bt bh x w)
  (n:b0≠bh/\b2≠bh/\b3≠bh/\bf≠bh/\bt≠bh) (y:Rcd):IsB root f t s pa pl pc b0 b2 b3 bf bt bh y (QrN w bh y):=by
 have k:∀{b:Nat} {o:Obj},b≠bh->w.heap[b]?=some o->(QrN w bh y).heap[b]?=some o:=λ hb hc=>Qw (QgZ w bh y) (λ e=>hb (Option.some.inj e)) hc;exact⟨k n.1 h.r_,k n.2.1 h.s_,k n.2.2.1 h.p_,k n.2.2.2.1 h.f_,k n.2.2.2.2 h.t_,Qc (Qc (Qc (Qc h.h_ _) _) _) _⟩
def His2(B:Nat)(root:ByteArray)(f t:Int)(s:ByteArray)(pa:Option Addr)(pl pc b0 b2 b3 bf bt bh:Nat)(w:World)(e:Ending)(w':World):Prop:=
 e=.returned (.bool (QuJ (Xt s (Qv s) Qm)))/\IsB root f t s pa pl pc b0 b2 b3 bf bt bh (QiZ (Xt s (Qv s) Qm) Qm) w'/\Xe (some bh) w w'
theorem Qps(B:Nat)(root:ByteArray)(f t:Int)(s:ByteArray)(pa:Option Addr)(pl pc b0 b2 b3 bf bt bh:Nat)(x:Rcd)(w:World)(hT:TE7 B w)(h:IsB root f t s pa pl pc b0 b2 b3 bf bt bh x w)(hs:s.size<=1000000)
  (n0:b0≠bh) (n2:b2≠bh) (n3:b3≠bh) (nf:bf≠bh) (nt:bt≠bh):
  Calls Tryz.prog 111 #[.pointer (some ⟨b2,0,none⟩),.pointer (some ⟨bh,0,none⟩)] w (His2 B root f t s pa pl pc b0 b2 b3 bf bt bh w):=by
 have c0:w.cell? ⟨b2,0,none⟩=some (.string s):=Qa h.s_ 0;have HR:=QLh (Qh5 B s w hT (Nat.le_trans hs (by decide)));have H:=QLh h;have HNE:=QLh (And.intro n0 (And.intro n2 (And.intro n3 (And.intro nf nt))));clear h hT hs n0 n2 n3 nf nt;unfold His2;obtain⟨r,hr⟩:∃r,Xt s (Qv s) Qm=r:=⟨_,rfl⟩;rw[hr]at HR ⊢;clear hr
 go_enter Tryz.func111,Tryz.ntmps111
 go_wp2_with fail;refine HR.out.mono ?_;rintro e w1 ⟨ev,rfl,hev,hb⟩;have HB:=QLh hb;have H1:=QLh (H.out.below hb);clear hb HR c0;have d:∀o,w1.cell? ⟨bh,o,none⟩=_:=Qa H1.out.h_;have fz:∀o,w1.frozen? ⟨bh,o,none⟩=false:=Qk H1.out.h_;have hlt:bh<w1.heap.size:=lt_of_block H1.out.h_
 cases r with
 | ok y=>
  obtain rfl:ev=.nilIface:=hev;rw[show Qx (QiZ (.ok y) Qm)=#[.int .u64 (y 0).n,.string (y 1).s,.string (y 2).s,.string (y 3).s]from rfl];have d0:w1.cell? ⟨bh,0,none⟩=some (.int .u64 (x 0).n):=d 0;have d1:w1.cell? ⟨bh,1,none⟩=some (.string (x 1).s):=d 1;have d2:w1.cell? ⟨bh,2,none⟩=some (.string (x 2).s):=d 2;have d3:w1.cell? ⟨bh,3,none⟩=some (.string (x 3).s):=d 3;clear d;go_upto_region 3 with fail;obtain⟨V,hV⟩:∃V,QrN w1 bh y=V:=⟨_,rfl⟩;have HV1:Hid (IsB root f t s pa pl pc b0 b2 b3 bf bt bh y V):=QLh (by rw[<-hV];exact H1.out.put HNE.out _);have HV2:Hid (Xe (some bh) w V):=QLh (by rw[<-hV];exact Q7 _ _ _ _ (Zm HB.out bh) (QgZ _ _ _));change Code.wp _ _ _ _ (QrN w1 bh y);rw[hV];clear hV d0 d1 d2 d3 fz hlt;go_wp2;go_ret;exact⟨rfl,HV1.out,HV2.out⟩
 | error k=>
  obtain⟨fb,rfl⟩:=hev;rw[show Qx (QiZ (.error k) Qm)=#[.int .u64 0,.string ⟨#[]⟩,.string ⟨#[]⟩,.string ⟨#[]⟩]from rfl];have d0:w1.cell? ⟨bh,0,none⟩=some (.int .u64 (x 0).n):=d 0;have d1:w1.cell? ⟨bh,1,none⟩=some (.string (x 1).s):=d 1;have d2:w1.cell? ⟨bh,2,none⟩=some (.string (x 2).s):=d 2;have d3:w1.cell? ⟨bh,3,none⟩=some (.string (x 3).s):=d 3;clear d;go_upto_region 3 with fail;obtain⟨V,hV⟩:∃V,QrN w1 bh Qm=V:=⟨_,rfl⟩;have HV1:Hid (IsB root f t s pa pl pc b0 b2 b3 bf bt bh Qm V):=QLh (by rw[<-hV];exact H1.out.put HNE.out _);have HV2:Hid (Xe (some bh) w V):=QLh (by rw[<-hV];exact Q7 _ _ _ _ (Zm HB.out bh) (QgZ _ _ _));change Code.wp _ _ _ _ (QrN w1 bh Qm);rw[hV];clear hV d0 d1 d2 d3 fz hlt;go_wp2;go_ret;exact⟨rfl,HV1.out,HV2.out⟩
theorem QoC{root:ByteArray}{f t:Int}{s:ByteArray}{p:List ByteArray}(h:isA root f t=false):isE root f t s p=2:=by unfold isE;rw[h];rfl
theorem Qkl{root:ByteArray}{f t:Int}{s:ByteArray}{p:List ByteArray}(h:isA root f t=true){k:Flt}(hr:Xt s (Qv s) Qm=.error k):isE root f t s p=5:=by unfold isE;rw[h,hr];rfl
theorem Qk4{root:ByteArray}{f t:Int}{s:ByteArray}{p:List ByteArray}(h:isA root f t=true){y:Rcd}(hr:Xt s (Qv s) Qm=.ok y)(hn:¬(f<=(y 0).n/\(y 0).n<=t)):isE root f t s p=19:=by unfold isE;rw[h,hr,if_pos rfl];exact if_neg hn
theorem Qi9{root:ByteArray}{f t:Int}{s:ByteArray}{p:List ByteArray}(h:isA root f t=true){y:Rcd}(hr:Xt s (Qv s) Qm=.ok y)(hn:f<=(y 0).n/\(y 0).n<=t)(hc:¬Ja root (t - f+1) [(y 0).n - f] [s] p=0):isE root f t s p=20:=by unfold isE;rw[h,hr,if_pos rfl];exact(if_pos hn).trans (if_neg hc)
theorem Qno{root:ByteArray}{f t:Int}{s:ByteArray}{p:List ByteArray}(h:isA root f t=true){y:Rcd}(hr:Xt s (Qv s) Qm=.ok y)(hn:f<=(y 0).n/\(y 0).n<=t)(hc:Ja root (t - f+1) [(y 0).n - f] [s] p=0):isE root f t s p=0:=by unfold isE;rw[h,hr,if_pos rfl];exact(if_pos hn).trans (if_pos hc)
theorem QtN{root:ByteArray}{f t:Int}(h:isA root f t=true):root.size=32/\f<=t/\t - f<64:=by unfold isA at h;simp only[Bool.and_eq_true,decide_eq_true_eq]at h;exact⟨h.1.1,h.1.2,h.2⟩
theorem QpK{w w1:World}{bh:Nat}{pa:Option Addr}{P:List ByteArray}(h:Jk w pa P)(hE:Xe (some bh) w w1)(hn:∀b o,pa=some ⟨b,o,none⟩->0<len P->b≠bh):Jk w1 pa P:=λ i hi=>by obtain⟨b,o,e,hc⟩:=h i hi;refine⟨b,o,e,?_⟩;rw[World.cell?_of_block (w:=w) (hE.block b (Ql hc) (λ e9=>hn b o e (by omega) (Option.some.inj e9)))];exact hc
def hisF(k:Nat):FuncId:=match k with | 0=>110 | 1=>111 | 2=>113 | _=>114
def Qtu(b0 b2 b3 bf bt bh k:Nat):Array Value:=match k with
 | 0=>#[.pointer (some ⟨b0,0,none⟩),.pointer (some ⟨bt,0,none⟩),.pointer (some ⟨bf,0,none⟩)]
 | 1=>#[.pointer (some ⟨b2,0,none⟩),.pointer (some ⟨bh,0,none⟩)]
 | 2=>#[.pointer (some ⟨bh,0,none⟩),.pointer (some ⟨bf,0,none⟩),.pointer (some ⟨bt,0,none⟩)]
 | _=>#[.pointer (some ⟨b0,0,none⟩),.pointer (some ⟨bh,0,none⟩),.pointer (some ⟨bf,0,none⟩),.pointer (some ⟨bt,0,none⟩),.pointer (some ⟨b2,0,none⟩),.pointer (some ⟨b3,0,none⟩)]
def hisN(k:Nat):Int:=match k with | 0=>2 | 1=>5 | 2=>19 | _=>20
def QuF(r:Except Flt Rcd)(k:Nat):Rcd:=match k with | 0=>Qm | 1=>Qm | _=>QiZ r Qm
structure HisI(root:ByteArray)(f t:Int)(s:ByteArray)(P:List ByteArray)(pa:Option Addr)(pc b0 b2 b3 bf bt bh:Nat)(w:World)(k:Nat)(w1:World):Prop where
 e:Xe (some bh) w w1
 b:IsB root f t s pa (len P) pc b0 b2 b3 bf bt bh (QuF (Xt s (Qv s) Qm) k) w1
 l:k<=1->Below w.heap.size w w1
 a:1<=k->isA root f t=true
 r:2<=k->∃y,Xt s (Qv s) Qm=.ok y
 n:3<=k->f<=(QiZ (Xt s (Qv s) Qm) Qm 0).n/\(QiZ (Xt s (Qv s) Qm) Qm 0).n<=t
 c:4<=k->Ja root (t - f+1) [(QiZ (Xt s (Qv s) Qm) Qm 0).n - f] [s] P=0
def HisQ(root:ByteArray)(f t:Int)(s:ByteArray)(P:List ByteArray)(bh:Nat)(w:World)(x:Int)(w1:World):Prop:=
 x=isE root f t s P/\Xe (some bh) w w1/\∃y:Rcd,(x=0->y=QiZ (Xt s (Qv s) Qm) Qm)/\w1.heap[bh]?=some (.cells #[.int .u64 (y 0).n,.string (y 1).s,.string (y 2).s,.string (y 3).s] 33 (0,0))
theorem QoS(B:Nat)(root:ByteArray)(f t:Int)(s:ByteArray)(P:List ByteArray)(pa:Option Addr)(pc b0 b2 b3 bf bt bh rb:Nat)(w:World)(hT:TE7 B w)(h:IsB root f t s pa (len P) pc b0 b2 b3 bf bt bh Qm w)(hp:Jk w pa P)(hl:len P<=1000000)(hc:len P<=pc)(hf:U64 f)(ht:U64 t)(hs:s.size<=1000000)
  (hn:b0≠bh/\b2≠bh/\b3≠bh/\bf≠bh/\bt≠bh) (hnp:∀b o,pa=some ⟨b,o,none⟩->0<len P->b≠bh) (hnr:rb≠bh)
  (hr:w.heap[rb]?=some (.cells #[.func (.func 110) #[] (Qtu b0 b2 b3 bf bt bh 0),.int .i64 2,.func (.func 111) #[] (Qtu b0 b2 b3 bf bt bh 1),.int .i64 5,.func (.func 113) #[] (Qtu b0 b2 b3 bf bt bh 2),.int .i64 19,.func (.func 114) #[] (Qtu b0 b2 b3 bf bt bh 3),.int .i64 20] 140 (0,0))):
  Calls Tryz.prog 109 #[.slice (some ⟨rb,0,none⟩) 4 4] w λ e w'=>∃x,e=.returned (.int .i64 x)/\HisQ root f t s P bh w x w':=by
 refine Qfz 4 rb hisF (Qtu b0 b2 b3 bf bt bh) hisN (HisI root f t s P pa pc b0 b2 b3 bf bt bh w) (HisQ root f t s P bh w) w (by decide) (λ k args w=>?_) (λ k w1 w2 h hb=>⟨Q7 _ _ _ _ h.e (Zm hb bh),h.b.below hb,λ hk=>Qj (h.l hk) hb,h.a,h.r,h.n,h.c⟩) (λ k hk w1 hI=>?_) ⟨Y4 _ _,h,λ _=>Below.refl _ _,λ h=>absurd h (by decide),λ h=>absurd h (by decide),λ h=>absurd h (by decide),λ h=>absurd h (by decide)⟩ (λ k hk w1 hw hI=>?_) (λ w1 hI=>?_)
 ·unfold hisF;split <;> simp[go_sem]
 ·have hr1:=Qw hI.e (λ e=>hnr (Option.some.inj e)) hr
  match k,hk with
  | 0,_=>exact⟨Qa hr1 0,Qa hr1 1⟩
  | 1,_=>exact⟨Qa hr1 2,Qa hr1 3⟩
  | 2,_=>exact⟨Qa hr1 4,Qa hr1 5⟩
  | 3,_=>exact⟨Qa hr1 6,Qa hr1 7⟩
 ·match k,hk,hI with
  | 0,_,hI=>
   refine(Qqx root f t s pa (len P) pc b0 b2 b3 bf bt bh Qm w1 hI.b hf ht).mono ?_;rintro e w2 ⟨rfl,hb⟩;refine⟨_,rfl,λ h1=>⟨Q7 _ _ _ _ hI.e (Zm hb bh),hI.b.below hb,λ _=>Qj (hI.l (by decide)) hb,λ _=>h1,λ h=>absurd h (by decide),λ h=>absurd h (by decide),λ h=>absurd h (by decide)⟩,λ h1=>⟨(QoC h1).symm,Q7 _ _ _ _ hI.e (Zm hb bh),Qm,λ h=>absurd h (by decide),(hI.b.below hb).h_⟩,QhY.of hb⟩
  | 1,_,hI=>
   refine(Qps B root f t s pa (len P) pc b0 b2 b3 bf bt bh Qm w1 (hT.below (hI.l (by decide))) hI.b hs hn.1 hn.2.1 hn.2.2.1 hn.2.2.2.1 hn.2.2.2.2).mono ?_;rintro e w2 ⟨rfl,hb,hE⟩;refine⟨_,rfl,λ h1=>⟨Q7 _ _ _ _ hI.e hE,hb,λ h=>absurd h (by decide),λ _=>hI.a (by decide),λ _=>?_,λ h=>absurd h (by decide),λ h=>absurd h (by decide)⟩,λ h1=>⟨?_,Q7 _ _ _ _ hI.e hE,_,λ h=>absurd h (by decide),hb.h_⟩,⟨hE.size,λ i h1 h2=>hE.block i h2 (λ e=>absurd (Option.some.inj e) (by have:=lt_of_block h.h_;omega))⟩⟩
   ·cases hrr:Xt s (Qv s) Qm with
    | ok y=>exact⟨y,rfl⟩
    | error k=>rw[hrr]at h1;cases h1
   ·cases hrr:Xt s (Qv s) Qm with
    | ok y=>rw[hrr]at h1;cases h1
    | error k=>exact(Qkl (hI.a (by decide)) hrr).symm
  | 2,_,hI=>
   obtain⟨y,hy⟩:=hI.r (by decide);refine(Qpu root f t s pa (len P) pc b0 b2 b3 bf bt bh _ w1 hI.b).mono ?_;rintro e w2 ⟨rfl,hb⟩;refine⟨_,rfl,λ h1=>⟨Q7 _ _ _ _ hI.e (Zm hb bh),hI.b.below hb,λ h=>absurd h (by decide),λ _=>hI.a (by decide),λ _=>⟨y,hy⟩,λ _=>?_,λ h=>absurd h (by decide)⟩,λ h1=>⟨?_,Q7 _ _ _ _ hI.e (Zm hb bh),_,λ h=>absurd h (by decide),(hI.b.below hb).h_⟩,QhY.of hb⟩
   ·simp only[Bool.and_eq_true,decide_eq_true_eq]at h1
    exact h1
   ·refine(Qk4 (hI.a (by decide)) hy (λ h9=>?_)).symm
    have h9':f<=(QuF (Xt s (Qv s) Qm) 2 0).n/\(QuF (Xt s (Qv s) Qm) 2 0).n<=t:=by rw[hy];exact h9
    rw[decide_eq_true h9'.1,decide_eq_true h9'.2]at h1
    cases h1
  | 3,_,hI=>
   obtain⟨y,hy⟩:=hI.r (by decide);have hA:=QtN (hI.a (by decide));refine(Qqc root f t s P pa pc b0 b2 b3 bf bt bh _ w1 hI.b (QpK hp hI.e hnp) hl hc hf ht hA.2 (hI.n (by decide)) hs).mono ?_;rintro e w2 ⟨rfl,hb⟩;refine⟨_,rfl,λ h1=>⟨Q7 _ _ _ _ hI.e (Zm hb bh),hI.b.below hb,λ h=>absurd h (by decide),λ _=>hI.a (by decide),λ _=>⟨y,hy⟩,λ _=>hI.n (by decide),λ _=>of_decide_eq_true h1⟩,λ h1=>⟨?_,Q7 _ _ _ _ hI.e (Zm hb bh),_,λ h=>absurd h (by decide),(hI.b.below hb).h_⟩,QhY.of hb⟩;have hn1:=hI.n (by decide);have h2:=of_decide_eq_false h1;have h2':¬Ja root (t - f+1) [(QiZ (Xt s (Qv s) Qm) Qm 0).n - f] [s] P=0:=h2;rw[hy]at hn1 h2';exact(Qi9 (hI.a (by decide)) hy hn1 h2').symm
 ·obtain⟨y,hy⟩:=hI.r (by decide)
  have hn1:=hI.n (by decide);have h2:=hI.c (by decide);refine⟨?_,hI.e,_,λ _=>rfl,hI.b.h_⟩;rw[hy]at hn1 h2;exact(Qno (hI.a (by decide)) hy hn1 h2).symm
theorem QkC(B:Nat)(root:ByteArray)(f t:Int)(s:ByteArray)(P:List ByteArray)(pa:Option Addr)(pc:Nat)(w:World)(hT:TE7 B w)(hp:Jk w pa P)(hl:len P<=1000000)(hc:len P<=pc)(hf:U64 f)(ht:U64 t)(hs:s.size<=1000000):
  Calls Tryz.prog 57 #[.string root,.agg #[.int .u64 f,.int .u64 t],.string s,.slice pa (len P) pc] w (Qu3 root f t s P w):=by
 have HT:=QLh hT;have HP:=QLh hp;have HPN:Hid (∀b o,pa=some ⟨b,o,none⟩->0<len P->b<w.heap.size):=QLh (λ b o e h0=>by
  obtain⟨b9,o9,e9,h9⟩:=hp 0 h0;rw[e]at e9
  cases e9
  exact Ql h9)
 have HL:=QLh hl;have HC:=QLh hc;have HF:=QLh hf;have HTT:=QLh ht;have HS:=QLh hs;clear hT hp hl hc hf ht hs
 go_enter Tryz.func57,Tryz.ntmps57
 go_upto_region 1 with fail;obtain⟨V,hV⟩:∃V,((((w.alloc (.cells #[.string root] 9)).alloc (.cells #[.int .u64 f,.int .u64 t] 76)).alloc (.cells #[.string s] 9)).alloc (.cells #[.slice pa (len P) pc] 36)).alloc (.cells #[.int .u64 0,.string ⟨#[]⟩,.string ⟨#[]⟩,.string ⟨#[]⟩] 33)=V:=⟨_,rfl⟩;have HBV:Hid (Below w.heap.size w V):=QLh (by rw[<-hV];(repeat (first | exact Below.refl _ _ | assumption | (refine Zy ?_) | (refine Zg ?_ _) | (refine Qf ?_ _) | (refine Ji ?_ (by first | omega | (simp;done) | (simp;omega)) _) | (refine Qj ?_ (by assumption)))))
 have V0:Hid (V.heap[w.heap.size]?=some (.cells #[.string root] 9 (0,0))):=QLh (by rw[<-hV];(repeat (first | exact Qg _ (by repeat (first | rfl | refine Q3 _ ?_)) | refine Qe ?_ _)))
 have V1:Hid (V.heap[w.heap.size+1]?=some (.cells #[.int .u64 f,.int .u64 t] 76 (0,0))):=QLh (by rw[<-hV];(repeat (first | exact Qg _ (by repeat (first | rfl | refine Q3 _ ?_)) | refine Qe ?_ _)))
 have V2:Hid (V.heap[w.heap.size+1+1]?=some (.cells #[.string s] 9 (0,0))):=QLh (by rw[<-hV];(repeat (first | exact Qg _ (by repeat (first | rfl | refine Q3 _ ?_)) | refine Qe ?_ _)))
 have V3:Hid (V.heap[w.heap.size+1+1+1]?=some (.cells #[.slice pa (len P) pc] 36 (0,0))):=QLh (by rw[<-hV];(repeat (first | exact Qg _ (by repeat (first | rfl | refine Q3 _ ?_)) | refine Qe ?_ _)))
 have V4:Hid (V.heap[w.heap.size+1+1+1+1]?=some (.cells #[.int .u64 0,.string ⟨#[]⟩,.string ⟨#[]⟩,.string ⟨#[]⟩] 33 (0,0))):=QLh (by rw[<-hV];(repeat (first | exact Qg _ (by repeat (first | rfl | refine Q3 _ ?_)) | refine Qe ?_ _)))
 have HSZ:Hid (V.heap.size=w.heap.size+5):=QLh (by rw[<-hV];simp);rw[hV];obtain⟨b,hb⟩:∃b,w.heap.size=b:=⟨_,rfl⟩;rw[hb]at V0 V1 V2 V3 V4 HSZ ⊢;have HWB:Hid (w.heap.size<=b):=QLh (Nat.le_of_eq hb);clear hV hb;obtain⟨b1,hb1⟩:∃b1,b+1=b1:=⟨_,rfl⟩;have z0:b1<V.heap.size:=by have:=HSZ.out;omega
 have z1:b1≠V.heap.size:=by have:=HSZ.out;omega
 have z2:b1≠V.heap.size+1:=by have:=HSZ.out;omega
 have HB1:Hid (b+1=b1):=QLh hb1;rw[hb1]at V1 V2 V3 V4 ⊢;clear hb1;have y0:V.cell? ⟨b1,0,none⟩=some (.int .u64 f):=Qa V1.out 0;have y1:V.cell? ⟨b1,1,none⟩=some (.int .u64 t):=Qa V1.out 1
 go_cut [10,11] (λ s9 s10 wx=>∃bf bt:Nat,s9=.pointer (some ⟨bf,0,none⟩)/\s10=.pointer (some ⟨bt,0,none⟩)/\Hid (wx.heap[bf]?=some (.cells #[.int .u64 f] 23 (0,0)))/\Hid (wx.heap[bt]?=some (.cells #[.int .u64 t] 23 (0,0)))/\Hid (Below V.heap.size V wx))
 case first=>
  go_region
  all_goals
   go_wp2_with fail;go_meet
   first
    | exact⟨_,_,rfl,rfl,QLh (Qe (heap_alloc_new _ _) _),QLh (Qg _ (by simp)),QLh (Zy (Qf (Qf (Below.refl _ _) _) _))⟩
    | exact⟨_,_,rfl,rfl,QLh (Qg _ (by simp)),QLh (Qe (heap_alloc_new _ _) _),QLh (Zy (Qf (Qf (Below.refl _ _) _) _))⟩
 case rest=>
  obtain⟨bf,bt,rfl,rfl,HX,HY,HCB⟩:=hcut;have K0:=QLh ((HCB.out.block _ (lt_of_block V0.out)).trans V0.out);have K2:=QLh ((HCB.out.block _ (lt_of_block V2.out)).trans V2.out);have K3:=QLh ((HCB.out.block _ (lt_of_block V3.out)).trans V3.out);have K4:=QLh ((HCB.out.block _ (lt_of_block V4.out)).trans V4.out);have HWC:Hid (Below w.heap.size w wc):=QLh (Qj HBV.out HCB.out);clear y0 y1 z0 z1 z2;go_upto_region 3 with fail;obtain⟨U,hU⟩:∃U,wc.alloc (.cells #[.int .u64 0,.string ⟨#[]⟩,.string ⟨#[]⟩,.string ⟨#[]⟩] 33)=U:=⟨_,rfl⟩;obtain⟨bh,hbh⟩:∃bh,wc.heap.size=bh:=⟨_,rfl⟩;have HUB:Hid (Below wc.heap.size wc U):=QLh (by rw[<-hU];exact Qf (Below.refl _ _) _);have HIB:Hid (IsB root f t s pa (len P) pc b (b1+1) (b1+1+1) bf bt bh Qm U):=QLh ⟨(HUB.out.block _ (lt_of_block K0.out)).trans K0.out,(HUB.out.block _ (lt_of_block K2.out)).trans K2.out,(HUB.out.block _ (lt_of_block K3.out)).trans K3.out,(HUB.out.block _ (lt_of_block HX.out)).trans HX.out,(HUB.out.block _ (lt_of_block HY.out)).trans HY.out,by rw[<-hU,<-hbh];exact heap_alloc_new _ _⟩;have K5:=QLh ((HUB.out.block _ (lt_of_block K4.out)).trans K4.out);have HNE:Hid (b≠bh/\b1+1≠bh/\b1+1+1≠bh/\bf≠bh/\bt≠bh):=QLh (by
   have q0:=lt_of_block K0.out;have q2:=lt_of_block K2.out;have q3:=lt_of_block K3.out;have q4:=lt_of_block HX.out;have q5:=lt_of_block HY.out;omega)
  have HN8:Hid (b1+1+1+1≠bh/\w.heap.size<=bh/\bh<U.heap.size):=QLh (by
   have q0:=lt_of_block K4.out;have q1:=HWC.out.size;have q2:=lt_of_block HIB.out.h_;omega)
  have HWU:Hid (Below w.heap.size w U):=QLh (Qj HWC.out HUB.out);rw[hU,hbh];clear hU hbh;go_wp2_with fail;refine(QoS B root f t s P pa pc b (b1+1) (b1+1+1) bf bt bh _ _ ((HT.out.below HWU.out).below (Qf (Below.refl _ _) _)) (HIB.out.below (Qf (Below.refl _ _) _)) ((HP.out.below HWU.out).below (Qf (Below.refl _ _) _)) HL.out HC.out HF.out HTT.out HS.out HNE.out (λ b9 o9 e9 h9=>by have:=HPN.out b9 o9 e9 h9;have:=HN8.out;omega) (by have:=HN8.out;omega) (heap_alloc_new _ _)).mono ?_;rintro e w2 ⟨x,rfl,hx,hE,y,hy,hh⟩;have HEX:=QLh hx;have HE:=QLh hE;have HYY:=QLh hy;have HH:=QLh hh;have K6:Hid (w2.heap[b1+1+1+1]?=some (.cells #[.int .u64 0,.string ⟨#[]⟩,.string ⟨#[]⟩,.string ⟨#[]⟩] 33 (0,0))):=QLh (Qw hE (λ e=>HN8.out.1 (Option.some.inj e)) (Qe K5.out _));have HB2:Hid (Below w.heap.size w w2):=QLh (by
   have q:=Qj HWU.out (Qf (Below.refl _ _) (.cells #[] 9));have q1:=HWU.out;refine⟨hE.os.trans q1.os,hE.tape.trans q1.tape,hE.output.trans q1.output,Nat.le_trans (Nat.le_trans q1.size (by simp)) hE.size,λ i hi=>?_⟩;rw[hE.block i (by simp;have:=q1.size;omega) (λ e9=>by have:=HN8.out;have:=Option.some.inj e9;omega)];exact((Qf (Below.refl U.heap.size U) _).block i (Nat.lt_of_lt_of_le hi q1.size)).trans (q1.block i hi))
  clear hx hE hy hh;have k0:w2.cell? ⟨b1+1+1+1,0,none⟩=some (.int .u64 0):=Qa K6.out 0;have k1:w2.cell? ⟨b1+1+1+1,1,none⟩=some (.string ⟨#[]⟩):=Qa K6.out 1;have k2:w2.cell? ⟨b1+1+1+1,2,none⟩=some (.string ⟨#[]⟩):=Qa K6.out 2;have k3:w2.cell? ⟨b1+1+1+1,3,none⟩=some (.string ⟨#[]⟩):=Qa K6.out 3;have kf:∀o,w2.frozen? ⟨b1+1+1+1,o,none⟩=false:=Qk K6.out;have h0:w2.cell? ⟨bh,0,none⟩=some (.int .u64 (y 0).n):=Qa HH.out 0;have h1:w2.cell? ⟨bh,1,none⟩=some (.string (y 1).s):=Qa HH.out 1;have h2:w2.cell? ⟨bh,2,none⟩=some (.string (y 2).s):=Qa HH.out 2;have h3:w2.cell? ⟨bh,3,none⟩=some (.string (y 3).s):=Qa HH.out 3;have H8:Hid (w.heap.size<=b1+1+1+1):=QLh (by have:=HWB.out;have:=HB1.out;omega)
  by_cases hx0:x=0
  ·subst hx0
   go_wp2;have hb:=Qc (Qc (Qc (Qc K6.out (o:=0) (.int .u64 (y 0).n)) (o:=1) (.string (y 1).s)) (o:=2) (.string (y 2).s)) (o:=3) (.string (y 3).s);have d:∀o,_=_:=Qa hb;refine bodyPost_ret (v:=.tuple #[.agg #[.int .u64 (y 0).n,.string (y 1).s,.string (y 2).s,.string (y 3).s],.int .i64 0]) ?_ rfl ⟨?_,(((HB2.out.setCell H8.out _).setCell H8.out _).setCell H8.out _).setCell H8.out _⟩
   ·simp[results,Tryz.results57,go_sem,d]
   ·rw[show isH root f t s P=y by unfold isH;rw[<-HEX.out,if_pos rfl];exact(HYY.out (by first | trivial | rfl)).symm,<-HEX.out]
  ·have hxb:(x == 0)=false:=by simp;exact hx0
   have HX0:=QLh hx0;go_wp2;have hb:=Qc (Qc (Qc (Qc K6.out (o:=0) (.int .u64 0)) (o:=1) (.string ⟨#[]⟩)) (o:=2) (.string ⟨#[]⟩)) (o:=3) (.string ⟨#[]⟩);have d:∀o,_=_:=Qa hb;refine bodyPost_ret (v:=.tuple #[.agg #[.int .u64 0,.string ⟨#[]⟩,.string ⟨#[]⟩,.string ⟨#[]⟩],.int .i64 x]) ?_ rfl ⟨?_,(((HB2.out.setCell H8.out _).setCell H8.out _).setCell H8.out _).setCell H8.out _⟩
   ·simp[results,Tryz.results57,go_sem,d]
   ·rw[show isH root f t s P=Qm by unfold isH;rw[<-HEX.out,if_neg HX0.out],<-HEX.out];rfl
theorem QiD(els:List ByteArray)(a:Option Addr)(cap:Nat)(w:World)(ht:Jk w a els)(hn:len els<=65536)(hz:∀i,i<len els->(tth els i).size<=140737488355200):
  Calls Tryz.prog 54 #[.slice a (len els) cap] w λ e w'=>e=.returned (.string (QaU els))/\Below w.heap.size w w':=by
 have HD:=QLh (U9 els a cap (Qa1 els) (QaG hn) hn hz (Qa1 els) 0 w (Nat.le_refl _) (by rw[Nat.sub_self];decide) ht);have HN:=QLh hn;clear ht hn hz
 go_enter Tryz.func54,Tryz.ntmps54
 go_wp2_with fail;refine(QaN (len els:Nat) w (by omega) (by have:=HN.out;omega)).mono ?_;rintro e w1 ⟨rfl,rfl⟩;rw[Yw HN.out];obtain⟨d,hd⟩:∃d,Qa1 els=d:=⟨_,rfl⟩;have HE:Hid (QaU els=plD els d d 0):=QLh (by unfold QaU;rw[hd]);rw[hd]at HD ⊢;clear hd;go_wp2_with fail;refine HD.out.mono ?_;rintro e w2 ⟨rfl,hb⟩;rw[<-HE.out];go_wp2;go_ret;exact⟨rfl,hb⟩
theorem QqW(l:List ByteArray)(a:Option Addr)(cap:Nat)(i:Int)(w:World)(hc:Jk w a l)(hn:len l<=65536)(hz:∀i,i<len l->(tth l i).size<=140737488355200):
  Calls Tryz.prog 60 #[.slice a (len l) cap,.int .i64 i] w (ItIs l i w):=by
 have HZ:=QLh hz;have HN:=QLh hn;have HEL:=QLh (Qq8 l a cap w hc (by omega) (λ i hi=>Nat.le_trans (hz i hi) (by decide)));clear hc hn hz
 cases hb:Qfl l with
 | false=>
  have HE:=QLh (Qvd (i:=i) hb)
  go_enter Tryz.func60,Tryz.ntmps60
  go_wp2_with fail;refine HEL.out.mono ?_;rintro e w1 ⟨v,rfl,hv,hbl⟩;rw[hb];have HB:=QLh hbl;clear hv hbl hb HEL;go_wp2
  go_ret2
  exact⟨_,by rw[HE.out.2];rfl,by rw[HE.out.1];exact Zk.nil _,HB.out⟩
 | true=>
  have HBD:=QLh hb
  by_cases hi:0<=i/\i<(len l:Nat)
  ·obtain⟨k,rfl⟩:=Int.eq_ofNat_of_zero_le hi.1
   have hk:k<len l:=by omega
   have HE:=QLh (Qoa hb hk);have HK:=QLh hk;have i1:¬((k:Nat):Int)<0:=by omega
   have i2:¬((len l:Nat):Int)<=((k:Nat):Int):=by omega
   have i3:¬len l<=k:=by omega
   clear hi hk
   go_enter Tryz.func60,Tryz.ntmps60
   go_wp2_with fail;refine HEL.out.mono ?_;rintro e w1 ⟨v,rfl,hv,hbl⟩;obtain⟨a1,c1,rfl,ht,-,-⟩:=hv hb;rw[hb];have HB:=QLh hbl;have HT:=QLh ht;clear hv hbl ht hb HEL;go_wp2_with fail;refine(Qf2 l a1 c1 k w1 HT.out HN.out HZ.out HK.out).mono ?_;rintro e w2 ⟨v,rfl,hv,hb⟩;have HB2:=QLh (Qj HB.out hb);have HV:=QLh hv;clear hv hb;go_wp2
   go_ret2
   exact⟨v,by rw[HE.out.2];rfl,by rw[HE.out.1];exact HV.out,HB2.out⟩
  ·have HE:=QLh (QrH hb hi)
   have HI:=QLh hi
   by_cases h0:i<0
   ·clear hi
    go_enter Tryz.func60,Tryz.ntmps60
    go_wp2_with fail;refine HEL.out.mono ?_;rintro e w1 ⟨v,rfl,hv,hbl⟩;obtain⟨a1,c1,rfl,ht,-,-⟩:=hv hb;rw[hb];have HB:=QLh hbl;clear hv hbl ht hb HEL;go_wp2
    go_ret2
    exact⟨_,by rw[HE.out.2];rfl,by rw[HE.out.1];exact Zk.nil _,HB.out⟩
   ·have i2:((len l:Nat):Int)<=i:=by omega
    clear hi
    go_enter Tryz.func60,Tryz.ntmps60
    go_wp2_with fail;refine HEL.out.mono ?_;rintro e w1 ⟨v,rfl,hv,hbl⟩;obtain⟨a1,c1,rfl,ht,-,-⟩:=hv hb;rw[hb];have HB:=QLh hbl;clear hv hbl ht hb HEL;go_wp2
    go_ret2
    exact⟨_,by rw[HE.out.2];rfl,by rw[HE.out.1];exact Zk.nil _,HB.out⟩
theorem Qdr(l:List Hdr)(a:Option Addr)(cap:Nat)(w:World)(hn:len l<=100000)(hc:Qdm w a l)(ho:∀i,(Xw l i).Ok):
  Calls Tryz.prog 53 #[.slice a (len l) cap] w (Qto l w):=by
 have HC:=QLh hc;have HO:=QLh ho;have HN:=QLh hn;clear hc ho hn;obtain⟨i0,hi,hz0,hz1,hz2⟩:=info_parts U6;have HZ:=QLh hz0;clear hz0
 go_enter Tryz.func53,Tryz.ntmps53
 go_wp2
 go_loopg [4,5] (len l) (λ gg v i wr=>∃m:Nat,gg+m=len l/\i=.int .i64 (m:Nat)/\Hid (ElSt l w wr v m))
 case atStart=>exact⟨0,rfl,rfl,QLh ⟨Below.refl _ _,World.ownsRow_nil _ _ _ _,λ j h=>by omega,λ j _ h=>by omega⟩⟩
 case round=>
  obtain⟨m,hm,rfl,HS⟩:=hrel
  by_cases hlt:m<len l
  ·obtain⟨b,off,rfl,⟨e0,e1,e2,e3⟩⟩:=(HC.out.below HS.out.b) m hlt
   have HR:=QLh (λ w9=>Qsq (Xw l m) w9 (HO.out m));have HRN:=QLh (λ w9=>QtP (Xw l m) w9 (HO.out m));obtain⟨r,hr⟩:∃r,Xw l m=r:=⟨_,rfl⟩;have HRO:=QLh (HO.out m);rw[hr]at e0 e1 e2 e3 HR HRN HRO;have HRE:=QLh hr;have b0:(m:Int)<len l:=by omega
   have HLT:=QLh hlt;have HB:=QLh (HS.out.b);clear hr
   by_cases hok:hOk r=true
   ·have HSZ:Hid ((hbs r).size<=1000):=QLh (QdO hok)
    have HOK:=QLh hok;go_wp2_with fail;refine(HR.out _ hok).mono ?_;rintro e w1 ⟨rfl,hb⟩;have HB1:Hid (Below w.heap.size w w1):=QLh (Qj HB.out hb);have HOWN:=QLh (Qs HS.out.o hb);clear hb hok
    by_cases hm0:m=0
    ·subst hm0
     clear e0 e1 e2 e3;go_upto_region 6 with fail;refine Yt rfl (by kernel_rfl) λ w' hE=>?_
     repeat go_big_quiet_step (fail)
     refine wpQuiet_nil ?_;have HB2:Hid (Below w.heap.size w w'):=QLh (Qj HB1.out (Q0 hE));have HO2:=QLh (Qs HOWN.out (Q0 hE));clear hE
     go_wp2_with (at_builtin;refine wpList_append_own _ rfl _ _ 36 rfl w.heap.size 9 i0 (.string ⟨#[]⟩) 1 16 Tryz.underlying36 hi HZ.out hz1 hz2 rfl (by decide) _ _ _ rfl (HO2.out.alloc _) ⟨w'.heap.size,0,none⟩ 1 1 [.string (hbs r)] rfl rfl ?c1 ?c2 ?c3 ?c4 ?c5 ?_)
     case c1=>exact World.news_of_block (Qg _ rfl)
     case c2=>intro u hu;simp at hu;subst hu;rfl
     case c3=>unfold maxLen;have:=HN.out;have:=Qtj l 0 (by omega);omega
     case c4=>have:=Qtj l 0 (by omega);omega
     case c5=>have:=HB2.out.size;simp;omega
     intro v' w2 hown' hgrow _;have HB3:Hid (Below w.heap.size w w2):=QLh (Qq (Qf HB2.out _) hgrow (λ k hk=>(HO2.out.lt k hk).1));have HO3:Hid (w2.ownsRow w.heap.size 9 1 v' (len (elL (l.take (0+1)))) ((elL (l.take (0+1))).map Value.string)):=QLh (by
      rw[Qg8 l 0 HLT.out,HRE.out,List.map_append,Qbj,show len [hbs r]=1 from rfl];exact hown')
     clear hown' hgrow;go_wp2
     go_roundg (gk - 1)
     case rel=>exact⟨0+1,by omega,by go_num,QLh ⟨HB3.out,HO3.out,λ j hj=>by
      by_cases e:j=0
      ·subst e;rw[HRE.out];exact HOK.out
      ·exact HS.out.y j (by omega),λ j h0 hj=>by
      by_cases e:j=0
      ·omega
      ·exact HS.out.s j h0 (by omega)⟩⟩
     case measure=>omega
    ·obtain⟨k,rfl⟩:∃k,m=k+1:=⟨m - 1,by omega⟩
     obtain⟨b',off',he,⟨f0,f1,f2,f3⟩⟩:=(HC.out.below HB1.out) k (by omega)
     cases he
     obtain⟨g,hg⟩:∃g,Xw l k=g:=⟨_,rfl⟩;have HGO:=QLh (HO.out k);rw[hg]at f0 f1 f2 f3 HGO;have HGE:=QLh hg;obtain⟨b',off',he,⟨g0,g1,g2,g3⟩⟩:=(HC.out.below HB1.out) (k+1) hlt
     cases he
     rw[HRE.out]at g0;have HST:Hid (Qak g r=(!(r.rnd == 0) && (r.rnd - 1 == g.rnd))):=QLh (Qsw g r HGO.out HRO.out);clear hg f1 f2 f3 g1 g2 g3 e0 e1 e2 e3;have HFK:Hid (w1.cell? ⟨b,off+k * 4,none⟩=some (.int .u64 g.rnd)):=QLh f0;have HEK:Hid (w1.cell? ⟨b,off+(k+1) * 4,none⟩=some (.int .u64 r.rnd)):=QLh g0;have hr0:=HRO.out.r0;obtain⟨m,hmk⟩:∃m,k+1=m:=⟨_,rfl⟩;have HMK:=QLh hmk;clear f0 g0 hm0;have HNN:=HN.out;rw[hmk]at HEK HLT HOWN HRE HS hlt hm b0 ⊢
     by_cases hz:r.rnd=0
     ·have HNO:Hid (Qac l=false):=QLh (Qnv (m:=k) (by rw[HMK.out];exact HLT.out) (by rw[HMK.out,HGE.out,HRE.out,HST.out,hz];rfl))
      have cr:w1.cell? ⟨b,off+m * 4,none⟩=some (.int .u64 0):=by rw[<-hz];exact HEK.out
      have cq:=HFK.out;have i1:0<m:=by omega
      have i2:(m:Int)<len l:=by omega
      have i3:0<=(m:Int):=by omega
      have i4:m<len l:=hlt;have i5:0<=(m:Int):=by omega
      have i6:0<=(m:Int):=by omega
      clear hz hmk hr0;go_upto_region 6 with fail;refine Yt rfl (by kernel_rfl) λ w' hE=>?_;have cr:=Qb hE (by simp) cr;have cq:=Qb hE (by simp) cq
      repeat go_big_quiet_step (fail)
      refine wpQuiet_nil ?_;have HB2:Hid (Below w.heap.size w w'):=QLh (Qj HB1.out (Q0 hE));clear hE;go_wp2
      go_ret2
      exact⟨.slice none 0 0,by rw[HNO.out];rfl,λ h=>absurd h (by rw[HNO.out];decide),HB2.out⟩
     ·obtain⟨rr,hrr⟩:∃rr,r.rnd=rr:=⟨_,rfl⟩
      obtain⟨q,hq⟩:∃q,g.rnd=q:=⟨_,rfl⟩;have HRR:=QLh hrr;have HQQ:=QLh hq;have hq0:=HGO.out.r0;have cr:w1.cell? ⟨b,off+m * 4,none⟩=some (.int .u64 rr):=by rw[<-hrr];exact HEK.out
      have cq:w1.cell? ⟨b,off+k * 4,none⟩=some (.int .u64 q):=by rw[<-hq];exact HFK.out
      rw[hrr]at hz hr0;rw[hq]at hq0;have hr1:=hr0.1;have hr2:=hr0.2;have HZZ:=QLh hz;obtain⟨y,hy0⟩:∃y,(rr - 1 == q)=y:=⟨_,rfl⟩;have HY:=QLh hy0;have hy:(rr - 1 != q)=!y:=by rw[<-hy0];rfl
      clear hy0;have i1:0<m:=by omega
      have i2:(m:Int)<len l:=by omega
      have i3:(rr == 0)=false:=by simpa using hz
      have i4:IntKind.u64.wrap (rr - 1)=rr - 1:=IntWalk.u64_in _ (by omega);have i5:IntKind.i64.wrap ((m:Int) - 1)=(k:Int):=by rw[IntWalk.i64_in _ (by omega)];omega
      have i6:(k:Int)<len l:=by omega
      clear hz hmk hr0 hq0 hr1 hr2 hrr hq;go_upto_region 6 with fail;refine Yt rfl (by kernel_rfl) λ w' hE=>?_;have cr:=Qb hE (by simp) cr;have cq:=Qb hE (by simp) cq
      repeat go_big_quiet_step (fail)
      refine wpQuiet_nil ?_;have HB2:Hid (Below w.heap.size w w'):=QLh (Qj HB1.out (Q0 hE));have HO2:=QLh (Qs HOWN.out (Q0 hE));clear hE i1 i3 i4 i5 i6 cr cq hy
      cases y
      ·have HNO:Hid (Qac l=false):=QLh (Qnv (m:=k) (by rw[HMK.out];exact HLT.out) (by rw[HMK.out,HGE.out,HRE.out,HST.out,HRR.out,HQQ.out,HY.out];simp))
       go_wp2
       go_ret2
       exact⟨.slice none 0 0,by rw[HNO.out];rfl,λ h=>absurd h (by rw[HNO.out];decide),HB2.out⟩
      ·have HYS:Hid (Qak (Xw l k) (Xw l m)=true):=QLh (by rw[HGE.out,HRE.out,HST.out,HRR.out,HQQ.out,HY.out];simp;exact HZZ.out)
       go_wp2_with (at_builtin;refine wpList_append_own _ rfl _ _ 36 rfl w.heap.size 9 i0 (.string ⟨#[]⟩) 1 16 Tryz.underlying36 hi HZ.out hz1 hz2 rfl (by decide) _ _ _ rfl (HO2.out.alloc _) ⟨w'.heap.size,0,none⟩ 1 1 [.string (hbs r)] rfl rfl ?c1 ?c2 ?c3 ?c4 ?c5 ?_)
       case c1=>exact World.news_of_block (Qg _ rfl)
       case c2=>intro u hu;simp at hu;subst hu;rfl
       case c3=>unfold maxLen;have:=HN.out;have:=Qtj l m (by omega);omega
       case c4=>have:=Qtj l m (by omega);omega
       case c5=>have:=HB2.out.size;simp;omega
       intro v' w2 hown' hgrow _;have HB3:Hid (Below w.heap.size w w2):=QLh (Qq (Qf HB2.out _) hgrow (λ k hk=>(HO2.out.lt k hk).1));have HO3:Hid (w2.ownsRow w.heap.size 9 1 v' (len (elL (l.take (m+1)))) ((elL (l.take (m+1))).map Value.string)):=QLh (by
        rw[Qg8 l m HLT.out,HRE.out,List.map_append,Qbj,show len [hbs r]=1 from rfl];exact hown')
       clear hown' hgrow;go_wp2
       go_roundg (gk - 1)
       case rel=>exact⟨m+1,by omega,by go_num,QLh ⟨HB3.out,HO3.out,λ j hj=>by
        by_cases e:j=m
        ·subst e;rw[HRE.out];exact HOK.out
        ·exact HS.out.y j (by omega),λ j h0 hj=>by
        by_cases e:j=m
        ·(subst e;rw[show j - 1=k by have:=HMK.out;omega];exact HYS.out)
        ·exact HS.out.s j h0 (by omega)⟩⟩
       case measure=>omega
   ·have hok:hOk r=false:=by simpa using hok
    have HE:Hid (Qac l=false):=QLh (QtY hlt (by rw[HRE.out];exact hok));go_wp2_with fail;refine(HRN.out _ hok).mono ?_;rintro e w1 ⟨rfl,hb⟩;have HB1:Hid (Below w.heap.size w w1):=QLh (Qj HB.out hb);clear e0 e1 e2 e3 hb hok;go_upto_region 6 with fail;refine Yt rfl (by kernel_rfl) λ w' hE=>?_
    repeat go_big_quiet_step (fail)
    refine wpQuiet_nil ?_;have HB2:Hid (Below w.heap.size w w'):=QLh (Qj HB1.out (Q0 hE));clear hE;go_wp2
    go_ret2
    exact⟨.slice none 0 0,by rw[HE.out];rfl,λ h=>absurd h (by rw[HE.out];decide),HB2.out⟩
  ·obtain rfl:m=len l:=by omega
   have b0:¬((len l:Nat):Int)<(len l:Nat):=by omega
   have HTK:Hid (l.take (len l)=l):=QLh (Xh l);have HSO:=QLh HS.out.o;rw[HTK.out]at HSO;have HSB:=QLh HS.out.b;have HY1:Hid (QeT l=true):=QLh (QeJ (λ i hi=>HS.out.y i hi));have HY2:Hid (Vm Qak l=true):=QLh (QbL (λ i hi h0=>HS.out.s i h0 hi));have HEO:Hid (Qac l=(decide (0<len l) && decide (len l<=64))):=QLh (by unfold Qac;rw[HY1.out,HY2.out];simp)
   by_cases h0:len l=0
   ·have c1:¬(1:Int)<=len l:=by omega
    have HE:Hid (Qac l=false):=QLh (by rw[HEO.out,decide_eq_false (by omega)];rfl);clear h0;go_wp2
    go_ret2
    exact⟨_,by rw[HE.out];rfl,λ h=>absurd h (by rw[HE.out];decide),HSB.out⟩
   ·have c1:(1:Int)<=len l:=by omega
    by_cases h64:len l<=64
    ·have c2:(len l:Int)<=64:=by omega
     have HE:Hid (Qac l=true):=QLh (by rw[HEO.out,decide_eq_true (by omega),decide_eq_true h64];rfl);clear h0 h64;go_wp2
     go_ret2
     exact⟨_,by rw[HE.out];rfl,λ h=>Zk.own HSO.out,HSB.out⟩
    ·have c2:¬(len l:Int)<=64:=by omega
     have HE:Hid (Qac l=false):=QLh (by rw[HEO.out,decide_eq_false h64];simp);clear h0 h64;go_wp2
     go_ret2
     exact⟨_,by rw[HE.out];rfl,λ h=>absurd h (by rw[HE.out];decide),HSB.out⟩
section
set_option linter.constructorNameAsVariable false
theorem QiP(els:List ByteArray)(a:Option Addr)(cap:Nat)(w:World)(ht:Jk w a els)(hn:len els<=65536)(hz:∀i,i<len els->(tth els i).size<=140737488355200):
  Calls Tryz.prog 64 #[.slice a (len els) cap] w λ e w'=>e=.returned (.string (QaU els))/\Below w.heap.size w w':=by
 have HB:=QLh (Qij els a cap w ht hn hz);clear ht hn hz
 go_enter Tryz.func64,Tryz.ntmps64
 go_wp2_with fail;refine HB.out.mono ?_;rintro e w1 ⟨b,rfl,hs,ht,hb⟩;have HT:=QLh ht;have HB1:=QLh hb;clear hs ht hb HB;go_wp2_with fail;refine(QqZ els b w1 HT.out).mono ?_;rintro e w2 ⟨rfl,rfl⟩;rw[show plD els (Qa1 els) (Qa1 els) 0=QaU els from rfl];go_wp2;go_ret;exact⟨rfl,HB1.out⟩
theorem Qgk(l:List Hdr)(a:Option Addr)(cap:Nat)(rd:Int)(w:World)(hc:Qdm w a l)(ho:∀i,(Xw l i).Ok)(hn:len l<=65536):
  Calls Tryz.prog 50 #[.slice a (len l) cap,.int .u64 rd] w (IhIs l rd w):=by
 have HC:=QLh hc;have HN:=QLh hn;have HEL:=QLh (Qdr l a cap w (by omega) hc ho);clear hc hn ho
 cases hel:Qac l with
 | false=>
  have HE:=QLh (Qtt (r:=rd) hel)
  go_enter Tryz.func50,Tryz.ntmps50
  go_wp2_with fail;refine HEL.out.mono ?_;rintro e w1 ⟨v,rfl,hv,hb⟩;rw[hel];have HB:=QLh hb;clear hv hb hel HEL;go_wp2;refine bodyPost_ret (v:=.tuple #[.string ⟨#[]⟩,.slice none 0 0,.int .i64 2]) (by simp[results,Tryz.results50,go_sem]) rfl ⟨_,by rw[HE.out.1,HE.out.2.2],by rw[HE.out.2.1];exact Zk.nil _,HB.out⟩
 | true=>
  have HOK:=QLh hel;have HSZ:=QLh (QgG hel)
  go_enter Tryz.func50,Tryz.ntmps50
  go_wp2_with fail;refine HEL.out.mono ?_;rintro e w1 ⟨v,rfl,hv,hb⟩;obtain⟨a1,c1,rfl,ht1,-,-⟩:=hv hel;rw[hel];have HB:=QLh hb;have HT1:=QLh ht1;rw[Y8];have HLE:Hid (len (elL l)=len l/\len (elL l)<=65536):=QLh ⟨Y8 l,by rw[Y8];exact HN.out⟩;have HPV:=QLh (fun (k:Nat) (w9:World) (h:Jk w9 a1 (elL l)) (hk:k<len l)=>QnW (elL l) a1 c1 [((k:Nat):Int)] (some ⟨w9.heap.size,0,none⟩) 1 (w9.alloc (.cells #[.int .u64 (k:Nat)] 23)) (h.below (Qf (Below.refl _ _) _)) HLE.out.2 (λ i hi=>Nat.le_trans (HSZ.out i hi) (by decide)) (λ i hi=>⟨_,0,rfl,by
   have hi:i<1:=hi;obtain rfl:i=0:=by omega
   rw[Qa (heap_alloc_new _ _)];rfl⟩) (by show 1<=100;decide) (Qj4 HLE.out.2 (by rw[HLE.out.1];exact hk)) (Qjo (by rw[HLE.out.1];exact hk)))
  rw[show(Value.slice a1 (len (elL l)) c1)=.slice a1 (len l) c1 by rw[Y8]]at HPV;clear hv hb hel ht1 HEL;go_wp2_with fail
  go_loopg [9] (len l) (λ gg i wr=>∃m:Nat,gg+m=len l/\i=.int .i64 (m:Nat)/\Hid (Below w.heap.size w wr)/\Hid (Below w1.heap.size w1 wr)/\Hid (∀j,j<m->(Xw l j).rnd≠rd))
  case atStart=>exact⟨0,rfl,rfl,HB,QLh (Below.refl _ _),QLh (λ j h=>by omega)⟩
  case round=>
   obtain⟨m,hm,rfl,HW,HW1,HI⟩:=hrel
   by_cases hlt:m<len l
   ·have b0:(m:Int)<len l:=by omega
    obtain⟨b,off,rfl,⟨e0,e1,e2,e3⟩⟩:=(HC.out.below HW.out) m hlt;obtain⟨r,hr⟩:∃r,Xw l m=r:=⟨_,rfl⟩;have HRE:=QLh hr;rw[hr]at e0 e1 e2 e3;have HLT:=QLh hlt;have HM:=QLh hm;clear hr hlt hm;have HNN:=HN.out;have kw:IntKind.u64.wrap ((m:Nat):Int)=((m:Nat):Int):=by have:=HLT.out;exact IntWalk.u64_in _ (by omega)
    by_cases hrd:r.rnd=rd
    ·have hq:(r.rnd == rd)=true:=by simp[hrd]
     have HF:=QLh (QeM HOK.out (QeP HLT.out HI.out (by rw[HRE.out];exact hrd)));clear hrd;go_wp2_with fail;refine(HPV.out m wr (HT1.out.below HW1.out) HLT.out).mono ?_;rintro e x1 ⟨v,rfl,ho,hb⟩;have HB1:Hid (Below w.heap.size w x1):=QLh (Qj HW.out (Qj (Qf (Below.refl _ _) _) hb));have HV:Hid (Zk (Qdn (elL l) m) v x1):=QLh (Zk.own ho);obtain⟨g,o,rfl,hcc⟩:=((HT1.out.below HW1.out).below (Qj (Qf (Below.refl _ _) _) hb)) m (by rw[Y8];exact HLT.out);rw[QoD l m HLT.out,HRE.out]at hcc;have HLL:=HLT.out;clear hb ho e0 e1 e2 e3 hq;go_wp2;refine bodyPost_ret (v:=.tuple #[.string (hbs r),v,.int .i64 0]) (by simp[results,Tryz.results50,go_sem]) rfl ⟨v,by rw[HF.out.1,HF.out.2.2,HRE.out],by rw[HF.out.2.1];exact HV.out,HB1.out⟩
    ·have hq:(r.rnd == rd)=false:=by simp[hrd]
     have HR:=QLh hrd;clear hrd;have HLL:=HLT.out;go_wp2
     go_roundg (gk - 1)
     case rel=>exact⟨m+1,by have:=HM.out;omega,by go_num,QLh HW.out,QLh HW1.out,QLh (λ j hj=>by
      by_cases e:j=m
      ·subst e;rw[HRE.out];exact HR.out
      ·exact HI.out j (by omega))⟩
     case measure=>have:=HM.out;omega
   ·obtain rfl:m=len l:=by omega
    have b0:¬((len l:Nat):Int)<(len l:Nat):=by omega
    have HF:=QLh (QnM HOK.out (Qf9 HI.out));go_wp2;refine bodyPost_ret (v:=.tuple #[.string ⟨#[]⟩,.slice none 0 0,.int .i64 19]) (by simp[results,Tryz.results50,go_sem]) rfl ⟨_,by rw[HF.out.1,HF.out.2.2],by rw[HF.out.2.1];exact Zk.nil _,HW.out⟩
end
theorem Qeg(la lb:List ByteArray)(a b:Option Addr)(ca cb:Nat)(w:World)(ha:Jk w a la)(hb:Jk w b lb)(hn:len la<=1000000)(hn2:len lb<=1000000):Calls Tryz.prog 51 #[.slice a (len la) ca,.slice b (len lb) cb] w λ e w'=>e=.returned (.bool (decide (la=lb)))/\Below w.heap.size w w':=by
 have HA:=QLh ha;have HB:=QLh hb;have HN:=QLh hn;have HN2:=QLh hn2;clear ha hb
 by_cases hl:len la=len lb
 ·have l1:((len la:Nat):Int)=(len lb:Nat):=by omega
  have HL:=QLh hl;clear hn hn2 hl
  go_enter Tryz.func51,Tryz.ntmps51
  go_wp2
  go_loopg [5] (len la) (λ g i wr=>∃m:Nat,g+m=len la/\i=.int .i64 m/\Hid (∀j,j<m->tth la j=tth lb j)/\Hid (Below w.heap.size w wr))
  case atStart=>exact⟨0,rfl,rfl,QLh (λ j hj=>by omega),QLh (Below.refl _ _)⟩
  case round=>
   obtain⟨m,hm,rfl,HE,HW⟩:=hrel;have HNN:=HN.out
   by_cases hlt:m<len la
   ·have b0:(m:Int)<len la:=by omega
    have b1:(m:Int)<len lb:=by have:=HL.out;omega
    obtain⟨ba,oa,rfl,e1⟩:=(HA.out.below HW.out) m hlt;obtain⟨bb,ob,rfl,e2⟩:=(HB.out.below HW.out) m (by have:=HL.out;omega);obtain⟨x,hx⟩:∃x,tth la m=x:=⟨_,rfl⟩;obtain⟨y,hy⟩:∃y,tth lb m=y:=⟨_,rfl⟩;rw[hx]at e1;rw[hy]at e2;have HX:=QLh hx;have HY:=QLh hy;have l3:=Ql e1;have l4:=Ql e2;clear hx hy
    cases hq:(x.toList == y.toList)with
    | true=>
     have HQ:=QLh hq;go_wp2
     go_quiet (fail)
     go_wp2
     go_roundg (len la - (m+1))
     case rel=>exact⟨m+1,by omega,by go_num,QLh (λ j hj=>by
      by_cases e:j=m
      ·subst e
       rw[HX.out,HY.out];have:=HQ.out;rw[Yq]at this;exact of_decide_eq_true this
      ·exact HE.out j (by omega)),by(repeat (first | exact Below.refl _ _ | assumption | (refine Zy ?_) | (refine Zg ?_ _) | (refine Qf ?_ _) | (refine Ji ?_ (by first | omega | (simp;done) | (simp;omega)) _) | (refine Qj ?_ (by assumption))))⟩
     case measure=>omega
    | false=>
     have HQ:=QLh hq;go_wp2
     go_quiet (fail)
     go_wp2;go_ret;refine⟨?_,Qj HW.out (by(repeat (first | exact Below.refl _ _ | assumption | (refine Zy ?_) | (refine Zg ?_ _) | (refine Qf ?_ _) | (refine Ji ?_ (by first | omega | (simp;done) | (simp;omega)) _) | (refine Qj ?_ (by assumption)))))⟩
     have:¬la=lb:=λ h9=>by have:=HQ.out;rw[Yq,<-HX.out,<-HY.out,h9]at this;simp at this
     rw[decide_eq_false this];rfl
   ·obtain rfl:m=len la:=by omega
    have b0:¬((len la:Nat):Int)<len la:=by omega
    go_wp2;go_ret;exact⟨by rw[decide_eq_true (Qsz HL.out HE.out)];rfl,HW.out⟩
 ·have l1:¬((len la:Nat):Int)=(len lb:Nat):=by omega
  have HL:Hid (decide (la=lb)=false):=QLh (decide_eq_false (λ h9=>hl (by rw[h9])));clear hn hn2 hl
  go_enter Tryz.func51,Tryz.ntmps51
  go_wp2;go_ret;exact⟨by rw[HL.out];rfl,Below.refl _ _⟩
section
set_option linter.constructorNameAsVariable false
theorem lv21:Qr [1] ((1:Nat):Int)=[1]:=by decide
theorem Qr5:Xy 2=((1:Nat):Int):=by decide
theorem Qug:Qd7 2 [1]=[[0]]:=by
 unfold Qd7;rw[Qr5,Us (d:=1) (by decide) (by decide),lv21];have e1:Za [1] 1=[Qat (Ke [1])]:=by simp[Za,List.range_succ_eq_map]
 rw[e1,Qq7 (l:=[0]) (m:=[0]) (by decide) (by decide) (λ k=>Iff.rfl)]
theorem Qva:Qf8 2 [1]=[(0,0)]:=by show Xu (Qd7 2 [1])=_;rw[Qug];rfl
theorem QtH(a b:ByteArray):Qdn [a,b] 1=[Xi Kf [a]]:=by
 unfold Qdn;show Vf [a,b] (Qf8 2 [1])=_;rw[Qva];show [plD [a,b] (Qa1 [a,b]) 0 0]=_;have hd:Qa1 [a,b]=1:=by have h:=Yw (els:=[a,b]) (by show 2<=65536;decide);rw[show((len [a,b]:Nat):Int)=2 from rfl,Qr5]at h;omega
 rw[hd];unfold plD;rw[show Xr 0 1=0 by decide,if_pos (show 0<len [a,b]from(by decide:0<2))];rfl
theorem one1(a:ByteArray):Qdn [a] 0=[]:=by have h:len (Qdn [a] 0)=0:=QkF (els:=[a]) (by show 1<=65536;decide);exact List.eq_nil_of_length_eq_zero h
theorem Qo6(f c i:Nat):hOk (QcX f c i)=true:=by rw[QtK];unfold QcX;simp[Uv]
theorem QtB{r:Hdr}(h:hOk r=true):Qac [r]=true:=
 Qtb (by decide:0<1) (by decide:1<=64) (QbL (λ i hi h0=>by have hi:i<1:=hi;omega)) (QeJ (λ i hi=>by
  have hi:i<1:=hi;obtain rfl:i=0:=by omega
  exact h))
theorem QtQ{f t:Int}{els:List ByteArray}{k:Nat}{h:Hdr}(ho:h.Ok)(hm:hOk h=true)(hk:k<len els)(hn:len els<=64)(he:tth els k=hbs h)(hf:h.rnd=f+k)(ht:t=f+len els - 1):
  isE (QaU els) f t (hbs h) (Qdn els k)=0/\Qx (isH (QaU els) f t (hbs h) (Qdn els k))=#[.int .u64 h.rnd,.string h.prev,.string h.txns,.string h.seed]:=by
 obtain⟨y,hy,e0,e1,e2,e3⟩:=QhA (rnd:=h.rnd) (prev:=h.prev) (txns:=h.txns) (seed:=h.seed) ho.r0 hm (s:=hbs h) rfl;have hA:isA (QaU els) f t=true:=by unfold isA;rw[decide_eq_true (QcL els),decide_eq_true (by omega),decide_eq_true (by omega)];rfl
 have hE:isE (QaU els) f t (hbs h) (Qdn els k)=0:=by refine Qno hA hy (by rw[e0];omega) ?_;rw[e0,show t - f+1=(len els:Nat)by omega,show h.rnd - f=((k:Nat):Int)by omega,<-he];exact QhN (by omega) hk
 refine⟨hE,?_⟩;unfold isH;rw[if_pos hE,hy];show Qx y=_;unfold Qx;rw[e0,e1,e2,e3]
theorem Quo{els:List ByteArray}{k:Nat}(hk:k<len els)(hn:len els<=64)(hs:0<(tth els k).size/\(tth els k).size<=64):tiE (QaU els) (k:Nat) (len els:Nat) (tth els k) (Qdn els k)=0:=by unfold tiE tiA;rw[decide_eq_true (QcL els),decide_eq_true (by omega),decide_eq_true (by omega),decide_eq_true (by omega),decide_eq_true hs.1,decide_eq_true hs.2];exact(if_pos (by rfl)).trans (if_pos (QhN (by omega) hk))
theorem Qsf{B:Nat}{w:World}(h:TE7 B w):PT B w:=⟨h.p,h.s⟩
theorem Qta:QoI 5 [97] 0 0=[QcX 5 97 0]:=by rfl
theorem QuP:Qfl abT=true:=by decide
theorem Qt5:itP abT 1=[Xi Kf [⟨#[97]⟩]]/\itE abT 1=0:=by have h:=Qoa (l:=abT) (k:=1) QuP (by decide:1<2);have e:Qdn abT 1=[Xi Kf [⟨#[97]⟩]]:=QtH _ _;rw[e]at h;exact h
theorem QuQ:tiE (QaU abT) 1 2 ⟨#[98]⟩ [Xi Kf [⟨#[97]⟩]]=0:=by have h:=Quo (els:=abT) (k:=1) (by decide:1<2) (by decide:2<=64) (by decide);have e:Qdn abT 1=[Xi Kf [⟨#[97]⟩]]:=QtH _ _;rw[e]at h;exact h
theorem Qex(B:Nat)(w:World)(ht:TE7 B w):Calls Tryz.prog 52 #[] w λ e w'=>e=.returned (.bool true)/\Below w.heap.size w w':=by
 have HT:=QLh ht;clear ht
 go_enter Tryz.func52,Tryz.ntmps52
 go_wp2_with fail;refine(Qic 5 [97] (some ⟨w.heap.size,0,none⟩) 1 0 0 _ (by decide) (λ i hi=>⟨_,0,rfl,by
  have hi:i<1:=hi;obtain rfl:i=0:=by omega
  rw[Qa (heap_alloc_new _ _)];rfl⟩) (λ i=>by
  match i with
  | 0=>decide
  | i+1=>show 0<=(0:Int)/\(0:Int)<=255;decide) (by decide) (by decide) (by decide)).mono ?_
 rintro e w1 ⟨v,rfl,hown,hb⟩;rw[Qta]at hown;obtain⟨r,hr⟩:∃r,QcX 5 97 0=r:=⟨_,rfl⟩;have HRO:Hid r.Ok:=QLh (by rw[<-hr];exact QkA _ _ _);have HRM:Hid (hOk r=true):=QLh (by rw[<-hr];exact Qo6 _ _ _);have HRN:Hid (r.rnd=5):=QLh (by rw[<-hr];rfl);rw[hr]at hown;clear hr;have B1:Hid (Below w.heap.size w w1):=QLh (Qj (Qf (Below.refl _ _) _) hb)
 rcases Qnj hown with⟨-,hnil⟩ | ⟨g,c,rfl,ho⟩
 ·cases hnil
 have HO:=QLh ho;clear hown hb ho;have HOKS:Hid (∀i,(Xw [r] i).Ok):=QLh (oks1 HRO.out);go_wp2_with fail;refine(QeK B [r] (some ⟨g,0,none⟩) c 5 w1 ((Qsf HT.out).below B1.out) HO.out.hdrs HOKS.out (by decide:1<=65536)).mono ?_;rintro e w2 ⟨v,rfl,hv,hb⟩;have hih:=QeM (r:=5) (QtB HRM.out) (QeP (i:=0) (by decide:0<1) (λ j hj=>by omega) HRN.out);rw[show Xw [r] 0=r from rfl,show elL [r]=[hbs r]from rfl,one1]at hih;rw[hih.2.1]at hv;rw[hih.1,hih.2.2];obtain⟨p3,c3,rfl,ht3,hc3,hn3⟩:=hv;have B2:Hid (Below w.heap.size w w2):=QLh (Qj B1.out hb);have HO2:=QLh (HO.out.below hb);obtain⟨s,hs⟩:∃s,hbs r=s:=⟨_,rfl⟩;have HS:=QLh hs;have HSZ:Hid (s.size<=1000):=QLh (by rw[<-hs];exact QdO HRM.out);have HHW:=QLh (λ w9 h9=>Qr7 B r w9 h9 HRO.out HRM.out);rw[hs]at HHW;rw[hs];clear hs hb hih ht3 hc3 hn3;rw[show len ([]:List ByteArray)=0 from rfl];have hc:=HO2.out.at (i:=0) (by decide:0<1);rw[show Xw [r] 0=r from rfl]at hc;obtain⟨g0,g1,g2,g3,-⟩:=hc;have hl1:len [r]=1:=rfl;go_wp2_with fail;refine(HHW.out _ ((Qsf HT.out).below B2.out)).mono ?_;rintro e w3 ⟨rfl,hb⟩;have B3:Hid (Below w.heap.size w w3):=QLh (Qj B2.out hb);have HO3:=QLh (HO2.out.below hb);clear hb g0 g1 g2 g3;go_wp2_with fail;refine(Qah Kf [s] (some ⟨w3.heap.size,0,none⟩) 1 _ (by decide) (by decide) (Qa8 (heap_alloc_new _ _)) (by rw[show Jh [s]=Qay s by simp[Jh],Jm];have:=HSZ.out;omega)).mono ?_;rintro e w4 ⟨rfl,hb⟩;have B4:Hid (Below w3.heap.size w3 w4):=QLh (Qj (Qf (Below.refl _ _) _) hb);clear hb;have hiy:=QtQ (f:=5) (t:=5) (els:=[s]) (k:=0) HRO.out HRM.out (by decide:0<1) (by decide:1<=64) HS.out.symm (by rw[HRN.out];rfl) (by rfl);rw[one1,HS.out]at hiy;have HIY:=QLh hiy;obtain⟨rt,hrt⟩:∃rt,QaU [s]=rt:=⟨_,rfl⟩;rw[show Xi Kf [s]=rt from hrt];rw[hrt]at HIY;clear hrt hiy;go_wp2_with fail;refine(QkC B rt 5 5 s [] p3 c3 w4 ((HT.out.below B3.out).below B4.out) (Jk.nil _ _) (by decide) (Nat.zero_le _) ⟨by decide,by decide⟩ ⟨by decide,by decide⟩ (by have:=HSZ.out;omega)).mono ?_;rintro e w5 ⟨rfl,hb⟩;rw[HIY.out.1,HIY.out.2];have B5:Hid (Below w3.heap.size w3 w5):=QLh (Qj B4.out hb);clear hb;go_upto_region 5 with fail;obtain⟨V,hV⟩:∃V,w5.alloc (.cells #[.int .u64 r.rnd,.string r.prev,.string r.txns,.string r.seed] 33)=V:=⟨_,rfl⟩;obtain⟨xb,hxb⟩:∃xb,w5.heap.size=xb:=⟨_,rfl⟩;have HVX:Hid (V.heap[xb]?=some (.cells #[.int .u64 r.rnd,.string r.prev,.string r.txns,.string r.seed] 33 (0,0))):=QLh (by rw[<-hV,<-hxb];exact heap_alloc_new _ _);have BV:Hid (Below w3.heap.size w3 V):=QLh (by rw[<-hV];exact Qf B5.out _);rw[hV,hxb];clear hV hxb;go_wp2_with fail;refine(QqW abT (some ⟨V.heap.size,0,none⟩) 2 1 _ (Qkr (heap_alloc_new _ _)) (by decide) (λ i hi=>Nat.le_trans (Qk2 i hi) (by decide))).mono ?_;rintro e w6 ⟨vq,rfl,hv,hb⟩;rw[Qt5.1]at hv;rw[Qt5.2];have hti:=QuQ;obtain⟨ta,hta⟩:∃ta,Xi Kf [⟨#[97]⟩]=ta:=⟨_,rfl⟩;rw[hta]at hv hti;have HTA:Hid (∀(wv:World) (bq:Nat),wv.heap[bq]?=some (.cells #[.string ⟨#[97]⟩] 9 (0,0))->Calls Tryz.prog 45 #[.string ⟨#[108,101,97,102]⟩,.slice (some ⟨bq,0,none⟩) 1 1] wv λ e w'=>e=.returned (.string ta)/\Below wv.heap.size wv w'):=QLh (λ wv bq h=>by
  rw[<-hta];exact Qah Kf [⟨#[97]⟩] (some ⟨bq,0,none⟩) 1 wv (by decide) (by decide) (Qa8 h) (by decide))
 obtain⟨rab,hrab⟩:∃rab,QaU abT=rab:=⟨_,rfl⟩;rw[hrab]at hti;have HRB:Hid (∀(wv:World) (bq:Nat),wv.heap[bq]?=some (.cells #[.string ⟨#[97]⟩,.string ⟨#[98]⟩] 9 (0,0))->Calls Tryz.prog 64 #[.slice (some ⟨bq,0,none⟩) 2 2] wv λ e w'=>e=.returned (.string rab)/\Below wv.heap.size wv w'):=QLh (λ wv bq h=>by
  rw[<-hrab];exact QiP abT (some ⟨bq,0,none⟩) 2 wv (Qkr h) (by decide) (λ i hi=>Nat.le_trans (Qk2 i hi) (by decide)))
 obtain⟨aq,cq,rfl,htq,hcq,-⟩:=hv;have BV6:Hid (Below V.heap.size V w6):=QLh (Qj (Qf (Below.refl _ _) _) hb);have HTQ:=QLh (And.intro htq hcq);have HAL:Hid (∀(wv:World) (bq:Nat),Below w6.heap.size w6 wv->wv.heap[bq]?=some (.cells #[.string ta] 9 (0,0))->Calls Tryz.prog 51 #[.slice aq 1 cq,.slice (some ⟨bq,0,none⟩) 1 1] wv λ e w'=>e=.returned (.bool true)/\Below wv.heap.size wv w'):=QLh (λ wv bq hb h=>by
  have h2:=Qeg [ta] [ta] aq (some ⟨bq,0,none⟩) cq 1 wv (HTQ.out.1.below hb) (Qa8 h) (by show 1<=1000000;decide) (by show 1<=1000000;decide);rw[decide_eq_true rfl]at h2;exact h2)
 have HTI:Hid (∀(wv:World),Below w6.heap.size w6 wv->Calls Tryz.prog 62 #[.string rab,.agg #[.int .u64 1,.int .u64 2],.string ⟨#[98]⟩,.slice aq 1 cq] wv λ e w'=>e=.returned (.int .i64 0)/\Below wv.heap.size wv w'):=QLh (λ wv hb=>by
  have h2:=Qqn rab 1 2 ⟨#[98]⟩ [ta] aq cq wv (HTQ.out.1.below hb) (by show 1<=1000000;decide) HTQ.out.2 ⟨by decide,by decide⟩ ⟨by decide,by decide⟩ (by decide);rw[hti]at h2;exact h2)
 rw[show len [ta]=1 from rfl];have HVX6:=QLh ((BV6.out.block _ (lt_of_block HVX.out)).trans HVX.out);have B6:Hid (Below w.heap.size w w6):=QLh (Qj (Qj B3.out BV.out) BV6.out);have hc:=((HO3.out.below BV.out).below BV6.out).at (i:=0) (by decide:0<1);rw[show Xw [r] 0=r from rfl]at hc;obtain⟨g0,g1,g2,g3,-⟩:=hc;rw[Nat.zero_mul]at g0 g1 g2 g3;have x0:w6.cell? ⟨xb,0,none⟩=some (.int .u64 r.rnd):=Qa HVX6.out 0;have x1:w6.cell? ⟨xb,1,none⟩=some (.string r.prev):=Qa HVX6.out 1;have x2:w6.cell? ⟨xb,2,none⟩=some (.string r.txns):=Qa HVX6.out 2;have x3:w6.cell? ⟨xb,3,none⟩=some (.string r.seed):=Qa HVX6.out 3;have sa:(s.toList == s.toList)=true:=by rw[Yq,decide_eq_true rfl]
 have r1:(r.prev.toList == r.prev.toList)=true:=by rw[Yq,decide_eq_true rfl]
 have r2:(r.txns.toList == r.txns.toList)=true:=by rw[Yq,decide_eq_true rfl]
 have r3:(r.seed.toList == r.seed.toList)=true:=by rw[Yq,decide_eq_true rfl]
 clear hb hta hrab hti htq hcq HIY;go_upto_region 6 with fail;refine Zp 1000 (none) (Kx [λ u _=>u=(.int .i64 0),λ u _=>u=(.bool true),λ u _=>u=(.bool true),λ u _=>u=(.int .i64 0),λ u _=>u=(.bool true),λ u _=>u=(.bool true),λ u _=>u=(.bool true),λ u _=>u=(.string s),λ u _=>u=(.string s),λ u _=>u=(.bool true),λ u _=>u=(.bool true),λ u _=>u=(.bool true),λ u _=>u=(.slice p3 0 c3),λ u _=>u=(.int .i64 0),λ u _=>u=(.bool true),λ u _=>u=(.bool true),λ u _=>u=(.bool true),λ u _=>u=(.int .i64 0),λ u _=>u=(.bool true),λ u _=>u=(.bool true),λ u _=>u=(.bool true),λ u _=>u=(.agg #[.int .u64 r.rnd,.string r.prev,.string r.txns,.string r.seed]),λ u _=>u=(.slice (some ⟨g,0,none⟩) 1 c),λ u _=>u=(.pointer (some ⟨g,0,none⟩)),λ u _=>u=(.agg #[.int .u64 r.rnd,.string r.prev,.string r.txns,.string r.seed]),λ u _=>u=(.bool true),λ u _=>u=(.bool true),λ u _=>u=(.bool true),λ u _=>u=(.int .i64 0),λ u _=>u=(.bool true),λ u _=>u=(.bool true),λ u _=>u=(.bool true),λ u _=>u=(.slice aq 1 cq),λ u w'=>∃b,u=.slice (some ⟨b,0,none⟩) 1 1/\w'.heap[b]?=some (.cells #[.string ⟨#[97]⟩] 9 (0,0)),λ u _=>u=(.string ta),λ u w'=>∃b,u=.slice (some ⟨b,0,none⟩) 1 1/\w'.heap[b]?=some (.cells #[.string ta] 9 (0,0)),λ u _=>u=(.bool true),λ u _=>u=(.bool true),λ u _=>u=(.bool true),λ u w'=>∃b,u=.slice (some ⟨b,0,none⟩) 2 2/\w'.heap[b]?=some (.cells #[.string ⟨#[97]⟩,.string ⟨#[98]⟩] 9 (0,0)),λ u _=>u=(.string rab),λ u _=>u=(.agg #[.int .u64 1,.int .u64 2]),λ u _=>u=(.slice aq 1 cq),λ u _=>u=(.int .i64 0),λ u _=>u=(.bool true),λ u _=>u=(.bool true),λ u _=>u=(.bool true)]) rfl (by kernel_rfl) (Q9 ⟨Qd,Qd,Qd,Qd,Qd,Qd,Qd,Qd,Qd,Qd,Qd,Qd,Qd,Qd,Qd,Qd,Qd,Qd,Qd,Qd,Qd,Qd,Qd,Qd,Qd,Qd,Qd,Qd,Qd,Qd,Qd,Qd,Qd,?m33,Qd,?m35,Qd,Qd,Qd,?m39,Qd,Qd,Qd,Qd,Qd,Qd,Qd,trivial⟩) (Q6 47 ⟨?s0,?s1,?s2,?s3,?s4,?s5,?s6,?s7,?s8,?s9,?s10,?s11,?s12,?s13,?s14,?s15,?s16,?s17,?s18,?s19,?s20,?s21,?s22,?s23,?s24,?s25,?s26,?s27,?s28,?s29,?s30,?s31,?s32,?s33,?s34,?s35,?s36,?s37,?s38,?s39,?s40,?s41,?s42,?s43,?s44,?s45,?s46,trivial⟩) ?_
 case m33=>exact⟨λ u w1 w' h ⟨b,h1,hb⟩=>⟨b,h1,Zo h hb⟩,λ _ u w1 w' h ⟨b,h1,hb⟩=>⟨b,h1,Qw h (by simp) hb⟩⟩
 case m35=>exact⟨λ u w1 w' h ⟨b,h1,hb⟩=>⟨b,h1,Zo h hb⟩,λ _ u w1 w' h ⟨b,h1,hb⟩=>⟨b,h1,Qw h (by simp) hb⟩⟩
 case m39=>exact⟨λ u w1 w' h ⟨b,h1,hb⟩=>⟨b,h1,Zo h hb⟩,λ _ u w1 w' h ⟨b,h1,hb⟩=>⟨b,h1,Qw h (by simp) hb⟩⟩
 case s0=>refine qV (λ _=>rfl) rfl λ av wv hE hO hD=>?_;simp[go_sem,qF av 4 (.int .i64 0) (hO.2.2 4 rfl),sa,r1,r2,r3]
 case s1=>refine qV (λ _=>rfl) rfl λ av wv hE hO hD=>?_;simp[go_sem,qE (hD.1 rfl _ rfl),sa,r1,r2,r3]
 case s2=>refine qV (λ _=>rfl) rfl λ av wv hE hO hD=>?_;simp[go_sem,qE (hD.1 rfl _ rfl),sa,r1,r2,r3]
 case s3=>refine Qi (λ av wv hE hS hO hD=>⟨(wY rfl rfl rfl (hD.1 rfl _ rfl)),?_⟩) (λ _=>rfl);simp[go_sem,qF av 6 (.int .i64 0) (hO.2.2 6 rfl),qE (hD.1 rfl _ rfl),sa,r1,r2,r3]
 case s4=>refine Qi (λ av wv hE hS hO hD=>⟨(wY rfl rfl rfl (hD.2.1 rfl _ rfl)),?_⟩) (λ _=>rfl);simp[go_sem,qE (hD.1 rfl _ rfl),qE (hD.2.1 rfl _ rfl),sa,r1,r2,r3]
 case s5=>refine qV (λ _=>rfl) rfl λ av wv hE hO hD=>?_;simp[go_sem,qE (hD.1 rfl _ rfl),qE (hD.2.1 rfl _ rfl),sa,r1,r2,r3]
 case s6=>refine qV (λ _=>rfl) rfl λ av wv hE hO hD=>?_;simp[go_sem,qE (hD.1 rfl _ rfl),sa,r1,r2,r3]
 case s7=>refine Qi (λ av wv hE hS hO hD=>⟨(wY rfl rfl rfl (hD.1 rfl _ rfl)),?_⟩) (λ _=>rfl);simp[go_sem,qF av 2 (.string s) (hO.2.2 2 rfl),qE (hD.1 rfl _ rfl),sa,r1,r2,r3]
 case s8=>refine Qi (λ av wv hE hS hO hD=>⟨(wY rfl rfl rfl (hD.1 rfl _ rfl)),?_⟩) (λ _=>rfl);simp[go_sem,qF av 5 (.string s) (hO.2.2 5 rfl),qE (hD.1 rfl _ rfl),sa,r1,r2,r3]
 case s9=>refine Qi (λ av wv hE hS hO hD=>⟨(wY rfl rfl rfl (hD.2.2.1 rfl _ rfl)),?_⟩) (λ _=>rfl);simp[go_sem,qE (hD.1 rfl _ rfl),qE (hD.2.1 rfl _ rfl),qE (hD.2.2.1 rfl _ rfl),sa,r1,r2,r3]
 case s10=>refine qV (λ _=>rfl) rfl λ av wv hE hO hD=>?_;simp[go_sem,qE (hD.1 rfl _ rfl),qE (hD.2.1 rfl _ rfl),sa,r1,r2,r3]
 case s11=>refine qV (λ _=>rfl) rfl λ av wv hE hO hD=>?_;simp[go_sem,qE (hD.1 rfl _ rfl),sa,r1,r2,r3]
 case s12=>refine Qi (λ av wv hE hS hO hD=>⟨(wY rfl rfl rfl (hD.1 rfl _ rfl)),?_⟩) (λ _=>rfl);simp[go_sem,qF av 3 (.slice p3 0 c3) (hO.2.2 3 rfl),qE (hD.1 rfl _ rfl),sa,r1,r2,r3]
 case s13=>refine Qi (λ av wv hE hS hO hD=>⟨(wY rfl rfl rfl (hD.2.1 rfl _ rfl)),?_⟩) (λ _=>rfl);simp[go_sem,qE (hD.1 rfl _ rfl),qE (hD.2.1 rfl _ rfl),sa,r1,r2,r3]
 case s14=>refine Qi (λ av wv hE hS hO hD=>⟨(wY rfl rfl rfl (hD.2.1 rfl _ rfl)),?_⟩) (λ _=>rfl);simp[go_sem,qE (hD.1 rfl _ rfl),qE (hD.2.1 rfl _ rfl),sa,r1,r2,r3]
 case s15=>refine qV (λ _=>rfl) rfl λ av wv hE hO hD=>?_;simp[go_sem,qE (hD.1 rfl _ rfl),qE (hD.2.1 rfl _ rfl),sa,r1,r2,r3]
 case s16=>refine qV (λ _=>rfl) rfl λ av wv hE hO hD=>?_;simp[go_sem,qE (hD.1 rfl _ rfl),sa,r1,r2,r3]
 case s17=>refine Qi (λ av wv hE hS hO hD=>⟨(wY rfl rfl rfl (hD.1 rfl _ rfl)),?_⟩) (λ _=>rfl);simp[go_sem,qF av 8 (.int .i64 0) (hO.2.2 8 rfl),qE (hD.1 rfl _ rfl),sa,r1,r2,r3]
 case s18=>refine Qi (λ av wv hE hS hO hD=>⟨(wY rfl rfl rfl (hD.2.1 rfl _ rfl)),?_⟩) (λ _=>rfl);simp[go_sem,qE (hD.1 rfl _ rfl),qE (hD.2.1 rfl _ rfl),sa,r1,r2,r3]
 case s19=>refine qV (λ _=>rfl) rfl λ av wv hE hO hD=>?_;simp[go_sem,qE (hD.1 rfl _ rfl),qE (hD.2.1 rfl _ rfl),sa,r1,r2,r3]
 case s20=>refine qV (λ _=>rfl) rfl λ av wv hE hO hD=>?_;simp[go_sem,qE (hD.1 rfl _ rfl),sa,r1,r2,r3]
 case s21=>refine Qi (λ av wv hE hS hO hD=>⟨(wY rfl rfl rfl (hD.1 rfl _ rfl)),?_⟩) (λ _=>rfl);simp[go_sem,qF av 7 (.pointer (some ⟨xb,0,none⟩)) (hO.2.2 7 rfl),qE (hD.1 rfl _ rfl),Qb hE (by simp) x0,Qb hE (by simp) x1,Qb hE (by simp) x2,Qb hE (by simp) x3,Qb hE (by simp) g0,Qb hE (by simp) g1,Qb hE (by simp) g2,Qb hE (by simp) g3,sa,r1,r2,r3]
 case s22=>refine Qi (λ av wv hE hS hO hD=>⟨(wY rfl rfl rfl (hD.1 rfl _ rfl)),?_⟩) (λ _=>rfl);simp[go_sem,qF av 1 (.slice (some ⟨g,0,none⟩) 1 c) (hO.2.2 1 rfl),qE (hD.1 rfl _ rfl),sa,r1,r2,r3]
 case s23=>refine Qi (λ av wv hE hS hO hD=>⟨(wY rfl rfl rfl (hD.2.1 rfl _ rfl)),?_⟩) (λ _=>rfl);simp[go_sem,qE (hD.1 rfl _ rfl),qE (hD.2.1 rfl _ rfl),sa,r1,r2,r3]
 case s24=>refine Qi (λ av wv hE hS hO hD=>⟨(wY rfl rfl rfl (hD.2.1 rfl _ rfl)),?_⟩) (λ _=>rfl);simp[go_sem,qE (hD.1 rfl _ rfl),qE (hD.2.1 rfl _ rfl),Qb hE (by simp) x0,Qb hE (by simp) x1,Qb hE (by simp) x2,Qb hE (by simp) x3,Qb hE (by simp) g0,Qb hE (by simp) g1,Qb hE (by simp) g2,Qb hE (by simp) g3,sa,r1,r2,r3]
 case s25=>refine Qi (λ av wv hE hS hO hD=>⟨(wY rfl rfl rfl (hD.2.2.1 rfl _ rfl)),?_⟩) (λ _=>rfl);simp[go_sem,qE (hD.1 rfl _ rfl),qE (hD.2.1 rfl _ rfl),qE (hD.2.2.1 rfl _ rfl),sa,r1,r2,r3]
 case s26=>refine qV (λ _=>rfl) rfl λ av wv hE hO hD=>?_;simp[go_sem,qE (hD.1 rfl _ rfl),qE (hD.2.1 rfl _ rfl),sa,r1,r2,r3]
 case s27=>refine qV (λ _=>rfl) rfl λ av wv hE hO hD=>?_;simp[go_sem,qE (hD.1 rfl _ rfl),sa,r1,r2,r3]
 case s28=>refine Qi (λ av wv hE hS hO hD=>⟨(wY rfl rfl rfl (hD.1 rfl _ rfl)),?_⟩) (λ _=>rfl);simp[go_sem,qF av 10 (.int .i64 0) (hO.2.2 10 rfl),qE (hD.1 rfl _ rfl),sa,r1,r2,r3]
 case s29=>refine Qi (λ av wv hE hS hO hD=>⟨(wY rfl rfl rfl (hD.2.1 rfl _ rfl)),?_⟩) (λ _=>rfl);simp[go_sem,qE (hD.1 rfl _ rfl),qE (hD.2.1 rfl _ rfl),sa,r1,r2,r3]
 case s30=>refine qV (λ _=>rfl) rfl λ av wv hE hO hD=>?_;simp[go_sem,qE (hD.1 rfl _ rfl),qE (hD.2.1 rfl _ rfl),sa,r1,r2,r3]
 case s31=>refine qV (λ _=>rfl) rfl λ av wv hE hO hD=>?_;simp[go_sem,qE (hD.1 rfl _ rfl),sa,r1,r2,r3]
 case s32=>refine Qi (λ av wv hE hS hO hD=>⟨(wY rfl rfl rfl (hD.1 rfl _ rfl)),?_⟩) (λ _=>rfl);simp[go_sem,qF av 9 (.slice aq 1 cq) (hO.2.2 9 rfl),qE (hD.1 rfl _ rfl),sa,r1,r2,r3]
 case s33=>refine Qu (λ av wv hE hS hO hD=>⟨(wY rfl rfl rfl (hD.1 rfl _ rfl)),?_⟩);exact Zn (v:=.slice (some ⟨wv.heap.size,0,none⟩) 1 1) (w':=wv.alloc (.cells #[.string ⟨#[97]⟩] 9)) (by simp[go_sem]) ⟨_,rfl,Qo (Qf (Zj _) _),wv.heap.size,rfl,heap_alloc_new _ _⟩
 case s34=>refine Qu (λ av wv hE hS hO hD=>⟨(wY rfl rfl rfl (hD.2.1 rfl _ rfl)),?_⟩);have d75:(λ u w'=>∃b,u=.slice (some ⟨b,0,none⟩) 1 1/\w'.heap[b]?=some (.cells #[.string ⟨#[97]⟩] 9 (0,0))) (av.eval (.tmp 75)) wv:=hD.1 rfl _ rfl;obtain⟨bq,hq,hcq⟩:=d75;have fq:=(Xd av 75).symm.trans hq;refine Zb (v:=.string ta) (by simp[go_sem,fq]) (HTA.out wv bq hcq) (λ w2 hb=>⟨_,rfl,Qo hb,rfl⟩)
 case s35=>refine Qu (λ av wv hE hS hO hD=>⟨(wY rfl rfl rfl (hD.2.1 rfl _ rfl)),?_⟩);have f76:=qE (hD.1 rfl _ rfl);exact Zn (v:=.slice (some ⟨wv.heap.size,0,none⟩) 1 1) (w':=wv.alloc (.cells #[.string ta] 9)) (by simp[go_sem,f76]) ⟨_,rfl,Qo (Qf (Zj _) _),wv.heap.size,rfl,heap_alloc_new _ _⟩
 case s36=>refine Qu (λ av wv hE hS hO hD=>⟨(wY rfl rfl rfl (hD.2.2.2.1 rfl _ rfl)),?_⟩);have f74:=qE (hD.1 rfl _ rfl);have d77:(λ u w'=>∃b,u=.slice (some ⟨b,0,none⟩) 1 1/\w'.heap[b]?=some (.cells #[.string ta] 9 (0,0))) (av.eval (.tmp 77)) wv:=hD.2.1 rfl _ rfl;obtain⟨bq,hq,hcq⟩:=d77;have fq:=(Xd av 77).symm.trans hq;refine Zb (v:=.bool true) (by simp[go_sem,fq,f74]) (HAL.out wv bq (Q0 hE) hcq) (λ w2 hb=>⟨_,rfl,Qo hb,rfl⟩)
 case s37=>refine qV (λ _=>rfl) rfl λ av wv hE hO hD=>?_;simp[go_sem,qE (hD.1 rfl _ rfl),qE (hD.2.1 rfl _ rfl),sa,r1,r2,r3]
 case s38=>refine qV (λ _=>rfl) rfl λ av wv hE hO hD=>?_;simp[go_sem,qE (hD.1 rfl _ rfl),sa,r1,r2,r3]
 case s39=>refine Qu (λ av wv hE hS hO hD=>⟨(wY rfl rfl rfl (hD.1 rfl _ rfl)),?_⟩);exact Zn (v:=.slice (some ⟨wv.heap.size,0,none⟩) 2 2) (w':=wv.alloc (.cells #[.string ⟨#[97]⟩,.string ⟨#[98]⟩] 9)) (by simp[go_sem]) ⟨_,rfl,Qo (Qf (Zj _) _),wv.heap.size,rfl,heap_alloc_new _ _⟩
 case s40=>refine Qu (λ av wv hE hS hO hD=>⟨(wY rfl rfl rfl (hD.2.1 rfl _ rfl)),?_⟩);have d81:(λ u w'=>∃b,u=.slice (some ⟨b,0,none⟩) 2 2/\w'.heap[b]?=some (.cells #[.string ⟨#[97]⟩,.string ⟨#[98]⟩] 9 (0,0))) (av.eval (.tmp 81)) wv:=hD.1 rfl _ rfl;obtain⟨bq,hq,hcq⟩:=d81;have fq:=(Xd av 81).symm.trans hq;refine Zb (v:=.string rab) (by simp[go_sem,fq]) (HRB.out wv bq hcq) (λ w2 hb=>⟨_,rfl,Qo hb,rfl⟩)
 case s41=>refine Qi (λ av wv hE hS hO hD=>⟨(wY rfl rfl rfl (hD.1 rfl _ rfl)),?_⟩) (λ _=>rfl);simp[go_sem,qE (hD.1 rfl _ rfl),sa,r1,r2,r3]
 case s42=>refine Qi (λ av wv hE hS hO hD=>⟨(wY rfl rfl rfl (hD.1 rfl _ rfl)),?_⟩) (λ _=>rfl);simp[go_sem,qF av 9 (.slice aq 1 cq) (hO.2.2 9 rfl),qE (hD.1 rfl _ rfl),sa,r1,r2,r3]
 case s43=>refine Qu (λ av wv hE hS hO hD=>⟨(wY rfl rfl rfl (hD.2.2.2.2.1 rfl _ rfl)),?_⟩);have f82:=qE (hD.1 rfl _ rfl);have f83:=qE (hD.2.1 rfl _ rfl);have f84:=qE (hD.2.2.1 rfl _ rfl);refine Zb (v:=.int .i64 0) (by simp[go_sem,f82,f83,f84]) (HTI.out wv (Q0 hE)) (λ w2 hb=>⟨_,rfl,Qo hb,rfl⟩)
 case s44=>refine Qi (λ av wv hE hS hO hD=>⟨(wY rfl rfl rfl (hD.2.1 rfl _ rfl)),?_⟩) (λ _=>rfl);simp[go_sem,qE (hD.1 rfl _ rfl),qE (hD.2.1 rfl _ rfl),sa,r1,r2,r3]
 case s45=>refine qV (λ _=>rfl) rfl λ av wv hE hO hD=>?_;simp[go_sem,qE (hD.1 rfl _ rfl),qE (hD.2.1 rfl _ rfl),sa,r1,r2,r3]
 case s46=>refine qV (λ _=>rfl) rfl λ av wv hE hO hD=>?_;simp[go_sem,qE (hD.1 rfl _ rfl),sa,r1,r2,r3]
 intro a' w' hE hO hall;have hA:=Qn (ds:=[42,43,44,45,46,47,48,49,50,51,52,53,54,55,56,57,58,59,60,61,62,63,64,65,66,67,68,69,70,71,72,73,74,75,76,77,78,79,80,81,82,83,84,85,86,87,0]) rfl hO (by kernel_rfl);obtain⟨j0,j1,j2,j3,j4,j5,j6,j7,j8,j9,j10,j11,j12,j13,j14,j15,j16,j17,j18,j19,j20,j21,j22,j23,j24,j25,j26,j27,j28,j29,j30,j31,j32,j33,j34,j35,j36,j37,j38,j39,j40,j41,j42,j43,j44,j45,j46,-⟩:=hall;have e75:(λ u w'=>∃b,u=.slice (some ⟨b,0,none⟩) 1 1/\w'.heap[b]?=some (.cells #[.string ⟨#[97]⟩] 9 (0,0))) (a'.eval (.tmp 75)) w':=j33 _ rfl;have e77:(λ u w'=>∃b,u=.slice (some ⟨b,0,none⟩) 1 1/\w'.heap[b]?=some (.cells #[.string ta] 9 (0,0))) (a'.eval (.tmp 77)) w':=j35 _ rfl;have e81:(λ u w'=>∃b,u=.slice (some ⟨b,0,none⟩) 2 2/\w'.heap[b]?=some (.cells #[.string ⟨#[97]⟩,.string ⟨#[98]⟩] 9 (0,0))) (a'.eval (.tmp 81)) w':=j39 _ rfl;obtain⟨v75,hv75⟩:∃v,a'.eval (.tmp 75)=v:=⟨_,rfl⟩;rw[hv75]at e75;obtain⟨v77,hv77⟩:∃v,a'.eval (.tmp 77)=v:=⟨_,rfl⟩;rw[hv77]at e77;obtain⟨v81,hv81⟩:∃v,a'.eval (.tmp 81)=v:=⟨_,rfl⟩;rw[hv81]at e81;simp only[List.foldl_cons,List.foldl_nil,Act.put,List.setIfInBounds_toArray,List.set_cons_succ,List.set_cons_zero,qJ 42 (j0 _ rfl),qJ 43 (j1 _ rfl),qJ 44 (j2 _ rfl),qJ 45 (j3 _ rfl),qJ 46 (j4 _ rfl),qJ 47 (j5 _ rfl),qJ 48 (j6 _ rfl),qJ 49 (j7 _ rfl),qJ 50 (j8 _ rfl),qJ 51 (j9 _ rfl),qJ 52 (j10 _ rfl),qJ 53 (j11 _ rfl),qJ 54 (j12 _ rfl),qJ 55 (j13 _ rfl),qJ 56 (j14 _ rfl),qJ 57 (j15 _ rfl),qJ 58 (j16 _ rfl),qJ 59 (j17 _ rfl),qJ 60 (j18 _ rfl),qJ 61 (j19 _ rfl),qJ 62 (j20 _ rfl),qJ 63 (j21 _ rfl),qJ 64 (j22 _ rfl),qJ 65 (j23 _ rfl),qJ 66 (j24 _ rfl),qJ 67 (j25 _ rfl),qJ 68 (j26 _ rfl),qJ 69 (j27 _ rfl),qJ 70 (j28 _ rfl),qJ 71 (j29 _ rfl),qJ 72 (j30 _ rfl),qJ 73 (j31 _ rfl),qJ 74 (j32 _ rfl),hv75,qJ 76 (j34 _ rfl),hv77,qJ 78 (j36 _ rfl),qJ 79 (j37 _ rfl),qJ 80 (j38 _ rfl),hv81,qJ 82 (j40 _ rfl),qJ 83 (j41 _ rfl),qJ 84 (j42 _ rfl),qJ 85 (j43 _ rfl),qJ 86 (j44 _ rfl),qJ 87 (j45 _ rfl),qJ 0 (j46 _ rfl)]at hA;clear hO j33 j35 j39 j0 j1 j2 j3 j4 j5 j6 j7 j8 j9 j10 j11 j12 j13 j14 j15 j16 j17 j18 j19 j20 j21 j22 j23 j24 j25 j26 j27 j28 j29 j30 j31 j32 hv75 j34 hv77 j36 j37 j38 hv81 j40 j41 j42 j43 j44 j45 j46;subst hA;have HBE:=QLh (Q0 hE);clear hE;go_wp2;go_ret;exact⟨rfl,Qj B6.out HBE.out⟩
end
theorem QaW(s:ByteArray)(a y:Int)(w:World)(ha:0<=a/\a<=255)(hs:s.size<=140737488355328):Calls Tryz.prog 55 #[.string s,.int .u8 a,.int .u8 y] w λ e w'=>(∃t:ByteArray,e=.returned (.string t)/\t.size=s.size)/\Below w.heap.size w w':=by
 obtain⟨n,hn⟩:∃n,s.size=n:=⟨_,rfl⟩;have hc:=Lib.run_convert_string_bytes (P:=Tryz.prog) w 9 41 5 s Tryz.underlying9 Tryz.underlying41 Tryz.underlying5
 go_enter Tryz.func55,Tryz.ntmps55
 go_upto_region 2 with fail;obtain⟨cap,hcap⟩:∃cap,grownCap w n 0 5=cap:=⟨_,rfl⟩;obtain⟨W,hW⟩:∃W,Lib.bytesWorld w 5 s=W:=⟨_,rfl⟩;obtain⟨B,hB⟩:∃B,w.heap.size=B:=⟨_,rfl⟩;obtain⟨cs,hcs⟩:∃cs,Lib.bytesCells w 5 s=cs:=⟨_,rfl⟩;have HBK0:=Lib.bytesWorld_at_new w 5 s;have HCE0:=λ j (hj:j<s.size)=>Lib.bytesWorld_cell w 5 s j hj;have WB:Hid (Below w.heap.size w W):=QLh (by rw[<-hW];exact Qio w 5 s);have CAP:Hid (n<=cap):=QLh (by rw[<-hcap];exact grownCap_ge _ _ _ _);have HWB:Hid (w.heap.size<=B):=QLh (Nat.le_of_eq hB);simp only[hn,hcap,hW,hB];rw[hW,hB]at HBK0;rw[hcs]at HBK0;have HCE:Hid (∀j,j<s.size->cs[j]?=some (.int .u8 (Jl s j))):=QLh (λ j hj=>by have:=HCE0 j hj;rw[hW,hB]at this;exact(Qa HBK0 j).symm.trans this);obtain⟨fr,hfr⟩:∃fr,(cs.size,cs.size+1)=fr:=⟨_,rfl⟩;rw[hfr]at HBK0;have HFR:Hid (fr=(cs.size,cs.size+1)):=QLh hfr.symm;have HBK:=QLh HBK0;clear HBK0 HCE0 hc hW hcs hcap hfr hB;rw[hn]at HCE;have HN:=QLh hn;have HSN:Hid (n<=140737488355328):=QLh (by omega);clear hn hs
 by_cases h0:n=0
 ·have hpos:decide (0<n)=false:=by simp;omega
  have H0:=QLh h0;clear h0;have HC:Hid (∀j,j<n->∃v,W.cell? ⟨B,j,none⟩=some (.int .u8 v)):=QLh (λ j hj=>absurd hj (by have:=H0.out;omega));obtain⟨t,hts,cv⟩:=Qh2 W B n cap HC.out;have HTS:=QLh hts;clear hts;go_wp2;go_ret;exact⟨⟨t,rfl,by rw[HTS.out,HN.out]⟩,WB.out⟩
 ·have hpos:decide (0<n)=true:=by simp;omega
  obtain⟨k,hk⟩:∃k:Nat,a.toNat % n=k:=⟨_,rfl⟩;have hkn:k<n:=by rw[<-hk];exact Nat.mod_lt _ (by omega)
  have KK:Hid (a.tmod (n:Int)=(k:Int)):=QLh (by rw[<-hk];exact(congrArg (λ z=>Int.tmod z (n:Int)) (Int.toNat_of_nonneg ha.1).symm).trans (Int.ofNat_tmod _ _).symm);obtain⟨x,hx⟩:∃x,Jl s k=x:=⟨_,rfl⟩;have QK:Hid (cs[k]?=some (.int .u8 x)):=QLh (by rw[<-hx];exact HCE.out k hkn);have FZ:W.frozen? ⟨B,k,none⟩=false:=by unfold World.frozen?;rw[HBK.out];have:=(Array.getElem?_eq_some_iff.1 QK.out).1;rw[HFR.out];simp;omega
  have hBl:B<W.heap.size:=lt_of_block HBK.out;obtain⟨z,r4⟩:∃z:Int,bits BinOp.xor IntKind.u8 x y=z:=⟨_,rfl⟩;have q0:W.cell? ⟨B,k,none⟩=some (.int .u8 x):=(Qa HBK.out k).trans QK.out;have r0:IntKind.i64.wrap a=a:=wrap_small a ha.1 (by omega);have r1:(n=0)=False:=by simp[h0]
  have r2:a.tmod (n:Int)=(k:Int):=KK.out;have r3:(n<=k)=False:=by simp;omega
  clear hk hx ha;go_upto_region 4 with fail;obtain⟨W2,hW2⟩:∃W2,W.setCell ⟨B,k,none⟩ (.int .u8 z)=W2:=⟨_,rfl⟩;rw[hW2];have W2B:Hid (Below w.heap.size w W2):=QLh (by rw[<-hW2];exact Ji WB.out HWB.out _);have HC:Hid (∀j,j<n->∃v,W2.cell? ⟨B,j,none⟩=some (.int .u8 v)):=QLh (λ j hj=>by
   have e:=Qa (show W2.heap[B]?=_ by rw[<-hW2];exact Qc HBK.out _) j;rw[e,Array.getElem?_setIfInBounds]
   by_cases h:k=j
   ·subst h
    have:=(Array.getElem?_eq_some_iff.1 QK.out).1;simp[this]
   ·rw[if_neg h];exact⟨_,HCE.out j hj⟩)
  clear hW2 q0 FZ hBl r0 r1 r2 r3 r4;obtain⟨t,hts,cv⟩:=Qh2 W2 B n cap HC.out;have HTS:=QLh hts;clear hts;go_wp2;go_ret;exact⟨⟨t,rfl,by rw[HTS.out,HN.out]⟩,W2B.out⟩
section
set_option linter.constructorNameAsVariable false
theorem Qc8{base n k tb:Nat}{e:TypeId}{v:Value}{w:World}{xs:List Value}(h:w.ownsRow base e k v n xs)(hb:tb<base)(o:Nat)(u:Value):(w.setCell ⟨tb,o,none⟩ u).ownsRow base e k v n xs:=
 ⟨h.1,h.2.imp id (fun ⟨g,cap,cur,hv,hg,hh,r⟩=>⟨g,cap,cur,hv,hg,(Below.heap_setCell _ _ _ _ (λ e9=>by have e8:g=tb:=e9;omega)).trans hh,r⟩)⟩
end
section
set_option linter.constructorNameAsVariable false
theorem QpE(root:ByteArray)(f t:Int)(s:ByteArray)(P:List ByteArray)(pa:Option Addr)(pc:Nat)(w:World)(hp:Jk w pa P)(hl:len P<=1000000)(hc:len P<=pc)(hf:U64 f)(ht:U64 t)(hs:s.size<=1000000):
  Calls Tryz.prog 58 #[.string root,.agg #[.int .u64 f,.int .u64 t],.string s,.slice pa (len P) pc] w (Qu3 root f t s P w):=by
 have HP:=QLh hp;have HL:=QLh hl;have HC:=QLh hc;have HF:=QLh hf;have HT:=QLh ht;have HS:=QLh hs;have HRR:=QLh (λ w9=>QhT s w9 (Nat.le_trans hs (by decide)));have HGA:Hid (isA root f t=false->isE root f t s P=2):=QLh QoC;have HGF:Hid (isA root f t=true->∀k,Xt s (Qv s) Qm=.error k->isE root f t s P=5):=QLh (λ h k hr=>Qkl h hr);have HGN:Hid (isA root f t=true->∀y,Xt s (Qv s) Qm=.ok y->¬(f<=(y 0).n/\(y 0).n<=t)->isE root f t s P=19):=QLh (λ h y hr hn=>Qk4 h hr hn);have HGP:Hid (isA root f t=true->∀y,Xt s (Qv s) Qm=.ok y->(f<=(y 0).n/\(y 0).n<=t)->¬Ja root (t - f+1) [(y 0).n - f] [s] P=0->isE root f t s P=20):=QLh (λ h y hr hn hc=>Qi9 h hr hn hc);have HGO:Hid (isA root f t=true->∀y,Xt s (Qv s) Qm=.ok y->(f<=(y 0).n/\(y 0).n<=t)->Ja root (t - f+1) [(y 0).n - f] [s] P=0->isE root f t s P=0):=QLh (λ h y hr hn hc=>Qno h hr hn hc);have HZZ:Hid (isE root f t s P≠0->isH root f t s P=Qm):=QLh (λ h=>if_neg h);have HYY:Hid (isE root f t s P=0->isH root f t s P=QiZ (Xt s (Qv s) Qm) Qm):=QLh (λ h=>if_pos h);obtain⟨q,hq⟩:∃q,Xt s (Qv s) Qm=q:=⟨_,rfl⟩;rw[hq]at HRR HGF HGN HGP HGO HYY;clear hp hl hc hf ht hs hq
 go_enter Tryz.func58,Tryz.ntmps58
 go_upto_region 1 with fail;obtain⟨V,hV⟩:∃V,(w.alloc (.cells #[.int .u64 f,.int .u64 t] 76)).alloc (.cells #[.int .u64 0,.string ⟨#[]⟩,.string ⟨#[]⟩,.string ⟨#[]⟩] 33)=V:=⟨_,rfl⟩;have HBV:Hid (Below w.heap.size w V):=QLh (by rw[<-hV];(repeat (first | exact Below.refl _ _ | assumption | (refine Zy ?_) | (refine Zg ?_ _) | (refine Qf ?_ _) | (refine Ji ?_ (by first | omega | (simp;done) | (simp;omega)) _) | (refine Qj ?_ (by assumption)))))
 have V1:Hid (V.heap[w.heap.size]?=some (.cells #[.int .u64 f,.int .u64 t] 76 (0,0))):=QLh (by rw[<-hV];(repeat (first | exact Qg _ (by repeat (first | rfl | refine Q3 _ ?_)) | refine Qe ?_ _)))
 have V8:Hid (V.heap[w.heap.size+1]?=some (.cells #[.int .u64 0,.string ⟨#[]⟩,.string ⟨#[]⟩,.string ⟨#[]⟩] 33 (0,0))):=QLh (by rw[<-hV];(repeat (first | exact Qg _ (by repeat (first | rfl | refine Q3 _ ?_)) | refine Qe ?_ _)))
 rw[hV];obtain⟨b,hb⟩:∃b,w.heap.size=b:=⟨_,rfl⟩;rw[hb]at V1 V8 ⊢;have H8:Hid (w.heap.size<=b+1):=QLh (by omega);clear hV hb;have y0:V.cell? ⟨b,0,none⟩=some (.int .u64 f):=Qa V1.out 0;have y1:V.cell? ⟨b,1,none⟩=some (.int .u64 t):=Qa V1.out 1
 by_cases h0:root.size=32
 ·have e0:((root.size:Nat):Int)=32:=by omega
  by_cases h1:f<=t
  ·have e1:¬t<f:=by omega
   have sb:IntKind.u64.wrap (t - f)=t - f:=by have:=HF.out.1;have:=HT.out.2;exact IntWalk.u64_in _ (by omega)
   by_cases h2:t - f<64
   ·have e2:¬64<=t - f:=by omega
    have HA:Hid (isA root f t=true):=QLh (by unfold isA;rw[decide_eq_true h0,decide_eq_true h1,decide_eq_true h2];rfl);have HFT:Hid (f<=t/\t - f<64):=QLh ⟨h1,h2⟩;clear h0 h1 h2;go_wp2_with fail;refine(HRR.out V).mono ?_;rintro e w1 ⟨rfl,hne,hb⟩;have HB1:Hid (Below V.heap.size V w1):=QLh hb;have HNE:=QLh hne;clear hb hne y0 y1 e0 e1 e2
    cases q with
    | ok y=>
     rw[show Qx (QiZ (.ok y) Qm)=#[.int .u64 (y 0).n,.string (y 1).s,.string (y 2).s,.string (y 3).s]from rfl,show Quz (.ok y)=(0,0)from rfl];go_upto_region 4 with fail;obtain⟨U,hU⟩:∃U,(w1.alloc (.cells #[.int .u64 (y 0).n,.string (y 1).s,.string (y 2).s,.string (y 3).s] 33)).alloc (.cells #[.int .i64 0,.int .i64 0] 145)=U:=⟨_,rfl⟩;obtain⟨hb9,hhb⟩:∃hb9,w1.heap.size=hb9:=⟨_,rfl⟩;have HBU:Hid (Below V.heap.size V U):=QLh (by rw[<-hU];exact Qf (Qf HB1.out _) _);have UH:Hid (U.heap[hb9]?=some (.cells #[.int .u64 (y 0).n,.string (y 1).s,.string (y 2).s,.string (y 3).s] 33 (0,0))):=QLh (by rw[<-hU,<-hhb];exact Qe (heap_alloc_new _ _) _);have UC:Hid (U.heap[hb9+1]?=some (.cells #[.int .i64 0,.int .i64 0] 145 (0,0))):=QLh (by rw[<-hU,<-hhb];exact Qg _ (by simp));have U1:=QLh ((HBU.out.block _ (lt_of_block V1.out)).trans V1.out);have U8:=QLh ((HBU.out.block _ (lt_of_block V8.out)).trans V8.out);have HWU:Hid (Below w.heap.size w U):=QLh (Qj HBV.out HBU.out);rw[hU,hhb];clear hU hhb;have u0:U.cell? ⟨hb9+1,0,none⟩=some (.int .i64 0):=Qa UC.out 0;have z0:U.cell? ⟨b,0,none⟩=some (.int .u64 f):=Qa U1.out 0;have z1:U.cell? ⟨b,1,none⟩=some (.int .u64 t):=Qa U1.out 1;have v0:U.cell? ⟨hb9,0,none⟩=some (.int .u64 (y 0).n):=Qa UH.out 0;have v1:U.cell? ⟨hb9,1,none⟩=some (.string (y 1).s):=Qa UH.out 1;have v2:U.cell? ⟨hb9,2,none⟩=some (.string (y 2).s):=Qa UH.out 2;have v3:U.cell? ⟨hb9,3,none⟩=some (.string (y 3).s):=Qa UH.out 3
     by_cases g0:f<=(y 0).n
     ·have e0:¬(y 0).n<f:=by omega
      by_cases g1:(y 0).n<=t
      ·have e1:¬t<(y 0).n:=by omega
       have s1:IntKind.u64.wrap ((y 0).n - f)=(y 0).n - f:=by have:=HF.out.1;have:=HT.out.2;exact IntWalk.u64_in _ (by omega)
       have s2:IntKind.u64.wrap (t - f)=t - f:=by have:=HF.out.1;have:=HT.out.2;have:=HFT.out;exact IntWalk.u64_in _ (by omega)
       have s3:IntKind.i64.wrap (t - f)=t - f:=by have:=HFT.out;exact IntWalk.i64_in _ (by omega)
       have s4:IntKind.i64.wrap (t - f+1)=t - f+1:=by have:=HFT.out;exact IntWalk.i64_in _ (by omega)
       have HG1:=QLh (HGP.out HA.out y rfl ⟨g0,g1⟩);have HG2:=QLh (HGO.out HA.out y rfl ⟨g0,g1⟩);have HPU:Hid (U64 ((y 0).n - f)):=QLh ⟨by omega,by have:=HF.out.1;have:=HT.out.2;omega⟩;have HPR:Hid (Qqq [(y 0).n - f] [s] P (some ⟨U.heap.size,0,none⟩) (some ⟨U.heap.size+1,0,none⟩) pa pc ((U.alloc (.cells #[.int .u64 ((y 0).n - f)] 23)).alloc (.cells #[.string s] 9))):=QLh
        { p:=λ j hj=>⟨_,0,rfl,by
           have hj:j<1:=hj;obtain rfl:j=0:=by omega
           rw[Qa (Qe (heap_alloc_new _ _) _)];rfl⟩
          e:=Qa8 (Qg _ (by simp))
          d:=(HP.out.below HWU.out).below (Qf (Qf (Below.refl _ _) _) _)
          pl:=by show 1<=12;decide
          pu:=λ k hk=>by obtain rfl:=List.mem_singleton.1 hk;exact HPU.out
          el:=by show 1<=1000000;decide
          dl:=HL.out
          dc_:=HC.out
          ez:=λ j hj=>by
           have hj:j<1:=hj;obtain rfl:j=0:=by omega
           exact HS.out }
       have HCK:=QLh (QlO root (t - f+1) [(y 0).n - f] [s] P (some ⟨U.heap.size,0,none⟩) (some ⟨U.heap.size+1,0,none⟩) pa 1 1 pc _ HPR.out (by have:=HFT.out;omega) (by have:=HFT.out;omega));clear HPR g0 g1;obtain⟨K,hK⟩:∃K,Ja root (t - f+1) [(y 0).n - f] [s] P=K:=⟨_,rfl⟩;rw[hK]at HCK HG1 HG2;clear hK;go_wp2_with fail;refine HCK.out.mono ?_;rintro e w2 ⟨rfl,hb⟩;have HB2:Hid (Below U.heap.size U w2):=QLh (Qj (Qf (Qf (Below.refl _ _) _) _) hb);have HW2:Hid (Below w.heap.size w w2):=QLh (Qj HWU.out HB2.out);have W8:=QLh ((HB2.out.block _ (lt_of_block U8.out)).trans U8.out);have WH:=QLh ((HB2.out.block _ (lt_of_block UH.out)).trans UH.out);clear hb HCK z0 z1 v0 v1 v2 v3 u0;have v0:w2.cell? ⟨hb9,0,none⟩=some (.int .u64 (y 0).n):=Qa WH.out 0;have v1:w2.cell? ⟨hb9,1,none⟩=some (.string (y 1).s):=Qa WH.out 1;have v2:w2.cell? ⟨hb9,2,none⟩=some (.string (y 2).s):=Qa WH.out 2;have v3:w2.cell? ⟨hb9,3,none⟩=some (.string (y 3).s):=Qa WH.out 3
       by_cases hk0:K=0
       ·have hq:(K == 0)=true:=by simp[hk0]
        have HE:=QLh (HG2.out hk0);clear hk0;have k0:w2.cell? ⟨b+1,0,none⟩=some (.int .u64 0):=Qa W8.out 0;have k1:w2.cell? ⟨b+1,1,none⟩=some (.string ⟨#[]⟩):=Qa W8.out 1;have k2:w2.cell? ⟨b+1,2,none⟩=some (.string ⟨#[]⟩):=Qa W8.out 2;have k3:w2.cell? ⟨b+1,3,none⟩=some (.string ⟨#[]⟩):=Qa W8.out 3;have kf:∀o,w2.frozen? ⟨b+1,o,none⟩=false:=Qk W8.out;have kl:b+1<w2.heap.size:=lt_of_block W8.out;go_wp2;have hb:=Qc (Qc (Qc (Qc W8.out (o:=0) (.int .u64 (y 0).n)) (o:=1) (.string (y 1).s)) (o:=2) (.string (y 2).s)) (o:=3) (.string (y 3).s);have d:∀o,_=_:=Qa hb;refine bodyPost_ret (v:=.tuple #[.agg #[.int .u64 (y 0).n,.string (y 1).s,.string (y 2).s,.string (y 3).s],.int .i64 0]) ?_ rfl ⟨?_,(((HW2.out.setCell H8.out _).setCell H8.out _).setCell H8.out _).setCell H8.out _⟩
        ·simp[results,Tryz.results58,go_sem,d]
        ·rw[HYY.out HE.out,HE.out];rfl
       ·have hq:(K == 0)=false:=by simp[hk0]
        have HE:=QLh (HG1.out hk0);clear hk0;have k0:w2.cell? ⟨b+1,0,none⟩=some (.int .u64 0):=Qa W8.out 0;have k1:w2.cell? ⟨b+1,1,none⟩=some (.string ⟨#[]⟩):=Qa W8.out 1;have k2:w2.cell? ⟨b+1,2,none⟩=some (.string ⟨#[]⟩):=Qa W8.out 2;have k3:w2.cell? ⟨b+1,3,none⟩=some (.string ⟨#[]⟩):=Qa W8.out 3;have kf:∀o,w2.frozen? ⟨b+1,o,none⟩=false:=Qk W8.out;have kl:b+1<w2.heap.size:=lt_of_block W8.out;go_wp2;have hb:=Qc (Qc (Qc (Qc W8.out (o:=0) (.int .u64 0)) (o:=1) (.string ⟨#[]⟩)) (o:=2) (.string ⟨#[]⟩)) (o:=3) (.string ⟨#[]⟩);have d:∀o,_=_:=Qa hb;refine bodyPost_ret (v:=.tuple #[.agg #[.int .u64 0,.string ⟨#[]⟩,.string ⟨#[]⟩,.string ⟨#[]⟩],.int .i64 20]) ?_ rfl ⟨?_,(((HW2.out.setCell H8.out _).setCell H8.out _).setCell H8.out _).setCell H8.out _⟩
        ·simp[results,Tryz.results58,go_sem,d]
        ·rw[HZZ.out (by rw[HE.out];decide),HE.out];rfl
      ·have e1:t<(y 0).n:=by omega
       have HE:Hid (isE root f t s P=19):=QLh (HGN.out HA.out y rfl (λ h=>g1 h.2));clear g1 g0;have k0:U.cell? ⟨b+1,0,none⟩=some (.int .u64 0):=Qa U8.out 0;have k1:U.cell? ⟨b+1,1,none⟩=some (.string ⟨#[]⟩):=Qa U8.out 1;have k2:U.cell? ⟨b+1,2,none⟩=some (.string ⟨#[]⟩):=Qa U8.out 2;have k3:U.cell? ⟨b+1,3,none⟩=some (.string ⟨#[]⟩):=Qa U8.out 3;have kf:∀o,U.frozen? ⟨b+1,o,none⟩=false:=Qk U8.out;have kl:b+1<U.heap.size:=lt_of_block U8.out;go_wp2;have hb:=Qc (Qc (Qc (Qc U8.out (o:=0) (.int .u64 0)) (o:=1) (.string ⟨#[]⟩)) (o:=2) (.string ⟨#[]⟩)) (o:=3) (.string ⟨#[]⟩);have d:∀o,_=_:=Qa hb;refine bodyPost_ret (v:=.tuple #[.agg #[.int .u64 0,.string ⟨#[]⟩,.string ⟨#[]⟩,.string ⟨#[]⟩],.int .i64 19]) ?_ rfl ⟨?_,(((HWU.out.setCell H8.out _).setCell H8.out _).setCell H8.out _).setCell H8.out _⟩
       ·simp[results,Tryz.results58,go_sem,d]
       ·rw[HZZ.out (by rw[HE.out];decide),HE.out];rfl
     ·have e0:(y 0).n<f:=by omega
      have HE:Hid (isE root f t s P=19):=QLh (HGN.out HA.out y rfl (λ h=>g0 h.1));clear g0;have k0:U.cell? ⟨b+1,0,none⟩=some (.int .u64 0):=Qa U8.out 0;have k1:U.cell? ⟨b+1,1,none⟩=some (.string ⟨#[]⟩):=Qa U8.out 1;have k2:U.cell? ⟨b+1,2,none⟩=some (.string ⟨#[]⟩):=Qa U8.out 2;have k3:U.cell? ⟨b+1,3,none⟩=some (.string ⟨#[]⟩):=Qa U8.out 3;have kf:∀o,U.frozen? ⟨b+1,o,none⟩=false:=Qk U8.out;have kl:b+1<U.heap.size:=lt_of_block U8.out;go_wp2;have hb:=Qc (Qc (Qc (Qc U8.out (o:=0) (.int .u64 0)) (o:=1) (.string ⟨#[]⟩)) (o:=2) (.string ⟨#[]⟩)) (o:=3) (.string ⟨#[]⟩);have d:∀o,_=_:=Qa hb;refine bodyPost_ret (v:=.tuple #[.agg #[.int .u64 0,.string ⟨#[]⟩,.string ⟨#[]⟩,.string ⟨#[]⟩],.int .i64 19]) ?_ rfl ⟨?_,(((HWU.out.setCell H8.out _).setCell H8.out _).setCell H8.out _).setCell H8.out _⟩
      ·simp[results,Tryz.results58,go_sem,d]
      ·rw[HZZ.out (by rw[HE.out];decide),HE.out];rfl
    | error k=>
     obtain⟨k1,k2⟩:=k;rw[show Qx (QiZ (.error (k1,k2)) Qm)=#[.int .u64 0,.string ⟨#[]⟩,.string ⟨#[]⟩,.string ⟨#[]⟩]from rfl,show Quz (.error (k1,k2))=(k1,k2)from rfl];have hk1:(k1 == 0)=false:=by have:k1≠0:=HNE.out;simp[this]
     go_upto_region 4 with fail;obtain⟨U,hU⟩:∃U,(w1.alloc (.cells #[.int .u64 0,.string ⟨#[]⟩,.string ⟨#[]⟩,.string ⟨#[]⟩] 33)).alloc (.cells #[.int .i64 k1,.int .i64 k2] 145)=U:=⟨_,rfl⟩;obtain⟨hb9,hhb⟩:∃hb9,w1.heap.size=hb9:=⟨_,rfl⟩;have HBU:Hid (Below V.heap.size V U):=QLh (by rw[<-hU];exact Qf (Qf HB1.out _) _);have UH:Hid (U.heap[hb9]?=some (.cells #[.int .u64 0,.string ⟨#[]⟩,.string ⟨#[]⟩,.string ⟨#[]⟩] 33 (0,0))):=QLh (by rw[<-hU,<-hhb];exact Qe (heap_alloc_new _ _) _);have UC:Hid (U.heap[hb9+1]?=some (.cells #[.int .i64 k1,.int .i64 k2] 145 (0,0))):=QLh (by rw[<-hU,<-hhb];exact Qg _ (by simp));have U1:=QLh ((HBU.out.block _ (lt_of_block V1.out)).trans V1.out);have U8:=QLh ((HBU.out.block _ (lt_of_block V8.out)).trans V8.out);have HWU:Hid (Below w.heap.size w U):=QLh (Qj HBV.out HBU.out);rw[hU,hhb];clear hU hhb;have u0:U.cell? ⟨hb9+1,0,none⟩=some (.int .i64 k1):=Qa UC.out 0;have HE:Hid (isE root f t s P=5):=QLh (HGF.out HA.out _ rfl);have k0:U.cell? ⟨b+1,0,none⟩=some (.int .u64 0):=Qa U8.out 0;have k1:U.cell? ⟨b+1,1,none⟩=some (.string ⟨#[]⟩):=Qa U8.out 1;have k2:U.cell? ⟨b+1,2,none⟩=some (.string ⟨#[]⟩):=Qa U8.out 2;have k3:U.cell? ⟨b+1,3,none⟩=some (.string ⟨#[]⟩):=Qa U8.out 3;have kf:∀o,U.frozen? ⟨b+1,o,none⟩=false:=Qk U8.out;have kl:b+1<U.heap.size:=lt_of_block U8.out;go_wp2;have hb:=Qc (Qc (Qc (Qc U8.out (o:=0) (.int .u64 0)) (o:=1) (.string ⟨#[]⟩)) (o:=2) (.string ⟨#[]⟩)) (o:=3) (.string ⟨#[]⟩);have d:∀o,_=_:=Qa hb;refine bodyPost_ret (v:=.tuple #[.agg #[.int .u64 0,.string ⟨#[]⟩,.string ⟨#[]⟩,.string ⟨#[]⟩],.int .i64 5]) ?_ rfl ⟨?_,(((HWU.out.setCell H8.out _).setCell H8.out _).setCell H8.out _).setCell H8.out _⟩
     ·simp[results,Tryz.results58,go_sem,d]
     ·rw[HZZ.out (by rw[HE.out];decide),HE.out];rfl
   ·have e2:64<=t - f:=by omega
    have HE:Hid (isE root f t s P=2):=QLh (HGA.out (by unfold isA;rw[decide_eq_false h2];simp));clear h0 h1 h2;have k0:V.cell? ⟨b+1,0,none⟩=some (.int .u64 0):=Qa V8.out 0;have k1:V.cell? ⟨b+1,1,none⟩=some (.string ⟨#[]⟩):=Qa V8.out 1;have k2:V.cell? ⟨b+1,2,none⟩=some (.string ⟨#[]⟩):=Qa V8.out 2;have k3:V.cell? ⟨b+1,3,none⟩=some (.string ⟨#[]⟩):=Qa V8.out 3;have kf:∀o,V.frozen? ⟨b+1,o,none⟩=false:=Qk V8.out;have kl:b+1<V.heap.size:=lt_of_block V8.out;go_wp2;have hb:=Qc (Qc (Qc (Qc V8.out (o:=0) (.int .u64 0)) (o:=1) (.string ⟨#[]⟩)) (o:=2) (.string ⟨#[]⟩)) (o:=3) (.string ⟨#[]⟩);have d:∀o,_=_:=Qa hb;refine bodyPost_ret (v:=.tuple #[.agg #[.int .u64 0,.string ⟨#[]⟩,.string ⟨#[]⟩,.string ⟨#[]⟩],.int .i64 2]) ?_ rfl ⟨?_,(((HBV.out.setCell H8.out _).setCell H8.out _).setCell H8.out _).setCell H8.out _⟩
    ·simp[results,Tryz.results58,go_sem,d]
    ·rw[HZZ.out (by rw[HE.out];decide),HE.out];rfl
  ·have e1:t<f:=by omega
   have HE:Hid (isE root f t s P=2):=QLh (HGA.out (by unfold isA;rw[decide_eq_false h1];simp));clear h0 h1;have k0:V.cell? ⟨b+1,0,none⟩=some (.int .u64 0):=Qa V8.out 0;have k1:V.cell? ⟨b+1,1,none⟩=some (.string ⟨#[]⟩):=Qa V8.out 1;have k2:V.cell? ⟨b+1,2,none⟩=some (.string ⟨#[]⟩):=Qa V8.out 2;have k3:V.cell? ⟨b+1,3,none⟩=some (.string ⟨#[]⟩):=Qa V8.out 3;have kf:∀o,V.frozen? ⟨b+1,o,none⟩=false:=Qk V8.out;have kl:b+1<V.heap.size:=lt_of_block V8.out;go_wp2;have hb:=Qc (Qc (Qc (Qc V8.out (o:=0) (.int .u64 0)) (o:=1) (.string ⟨#[]⟩)) (o:=2) (.string ⟨#[]⟩)) (o:=3) (.string ⟨#[]⟩);have d:∀o,_=_:=Qa hb;refine bodyPost_ret (v:=.tuple #[.agg #[.int .u64 0,.string ⟨#[]⟩,.string ⟨#[]⟩,.string ⟨#[]⟩],.int .i64 2]) ?_ rfl ⟨?_,(((HBV.out.setCell H8.out _).setCell H8.out _).setCell H8.out _).setCell H8.out _⟩
   ·simp[results,Tryz.results58,go_sem,d]
   ·rw[HZZ.out (by rw[HE.out];decide),HE.out];rfl
 ·have e0:¬((root.size:Nat):Int)=32:=by omega
  have HE:Hid (isE root f t s P=2):=QLh (HGA.out (by unfold isA;rw[decide_eq_false h0];simp));clear h0;have k0:V.cell? ⟨b+1,0,none⟩=some (.int .u64 0):=Qa V8.out 0;have k1:V.cell? ⟨b+1,1,none⟩=some (.string ⟨#[]⟩):=Qa V8.out 1;have k2:V.cell? ⟨b+1,2,none⟩=some (.string ⟨#[]⟩):=Qa V8.out 2;have k3:V.cell? ⟨b+1,3,none⟩=some (.string ⟨#[]⟩):=Qa V8.out 3;have kf:∀o,V.frozen? ⟨b+1,o,none⟩=false:=Qk V8.out;have kl:b+1<V.heap.size:=lt_of_block V8.out;go_wp2;have hb:=Qc (Qc (Qc (Qc V8.out (o:=0) (.int .u64 0)) (o:=1) (.string ⟨#[]⟩)) (o:=2) (.string ⟨#[]⟩)) (o:=3) (.string ⟨#[]⟩);have d:∀o,_=_:=Qa hb;refine bodyPost_ret (v:=.tuple #[.agg #[.int .u64 0,.string ⟨#[]⟩,.string ⟨#[]⟩,.string ⟨#[]⟩],.int .i64 2]) ?_ rfl ⟨?_,(((HBV.out.setCell H8.out _).setCell H8.out _).setCell H8.out _).setCell H8.out _⟩
  ·simp[results,Tryz.results58,go_sem,d]
  ·rw[HZZ.out (by rw[HE.out];decide),HE.out];rfl
end
section
set_option linter.constructorNameAsVariable false
theorem Qqd{l:List Hdr}{r:Int}{k:Nat}(h:QeL l r=some k):k<len l:=by unfold QeL at h;rw[List.findIdx?_eq_some_iff_getElem]at h;exact h.1
theorem QqN{l:List Hdr}{r:Int}(h:ihE l r=0):∃k:Nat,k<len l/\Qac l=true/\ihS l r=hbs (Xw l k)/\ihP l r=Qdn (elL l) k:=by
 unfold ihE at h
 by_cases hb:Qac l=true
 ·rw[if_pos hb]at h
  cases hf:QeL l r with
  | some k=>exact⟨k,Qqd hf,hb,(QeM hb hf).1,(QeM hb hf).2.1⟩
  | none=>rw[hf]at h;exact absurd h (by decide)
 ·rw[if_neg hb]at h;exact absurd h (by decide)
theorem Qsp(l:List Hdr)(r:Int):len (ihP l r)<=16:=by
 cases h:ihO l r with
 | none=>unfold ihP;rw[h];exact Nat.zero_le _
 | some k=>
  have he:Qac l=true:=by
   unfold ihO at h
   split at h
   ·assumption
   ·cases h
  have hn:len (elL l)<=65536:=by rw[Y8];have:=(QeG he).2.1;omega
  unfold ihP;rw[h];show len (Qdn (elL l) k)<=16;rw[QkF hn];exact QaG hn
theorem QpU(l:List Hdr)(r:Int):∀j,j<len (ihP l r)->(tth (ihP l r) j).size<=32:=λ j hj=>by
 rw[Y9 _ j hj];have hm:=List.getElem_mem hj;generalize (ihP l r)[j]=d at hm;unfold ihP at hm
 split at hm
 ·exact Nat.le_of_eq (Qnr _ _ d hm)
 ·cases hm
theorem QnG(g n c:Nat)(h:1<=n)(hc:n<=c)(W:World):∃a',(Instr.slice 36 (.slice (some ⟨g,0,none⟩) n c) (some (.int .i64 1)) none none).run Tryz.prog W=.ok (.slice a' (n - 1) (c - 1)) W/\(1<n->a'=some ⟨g,1,none⟩)/\a'≠none:=by
 have h1:¬n<1:=by omega
 have h3:¬c<n:=by omega
 have h5:¬((n:Nat):Int)<1:=by omega
 by_cases h2:c=1
 ·have h4:n=1:=by omega
  subst h4;exact⟨some ⟨g,0,none⟩,by simp[go_sem,h2],λ h=>by omega,by simp⟩
 ·exact⟨some ⟨g,1,none⟩,by simp[go_sem,h,hc,h2,h5],λ _=>rfl,by simp⟩
theorem Qj2{w:World}{g:Nat}{L:List ByteArray}{a':Option Addr}(h:Jk w (some ⟨g,0,none⟩) L)(ha:1<len L->a'=some ⟨g,1,none⟩):Jk w a' (L.drop 1):=λ i hi=>by
 have hl:len (L.drop 1)=len L - 1:=by rw[Qy,Qy,List.length_drop]
 rw[hl]at hi;obtain⟨b,o,e,hc⟩:=h (i+1) (by omega)
 cases e
 refine⟨g,1,ha (by omega),?_⟩;rw[show tth (L.drop 1) i=tth L (i+1)by rw[Ud];congr 1;omega,show 1+i=0+(i+1)by omega];exact hc
theorem Qkb(x:Int):U64 (IntKind.u64.wrap x):=by rw[IntKind.wrap_u64];refine⟨?_,?_⟩ <;> omega
theorem Qib(B:Nat)(f:Nat)(l:List Int)(a:Option Addr)(cap:Nat)(n0 n1 n2 n3 n4 n5 n6 n7:Nat)(w:World)(ht:TE7 B w)(hf:f<18446744073709551616)(hc:U8s w a l)(hl:∀i,0<=nth l i/\nth l i<=255)(hn:len l<=9223372036854775807)(h0:n0<=255)(h1:n1<=255)(h2:n2<=255)(h3:n3<=255)(h4:n4<=255)(h5:n5<=255)(h6:n6<=255)(h7:n7<=255):
  Calls Tryz.prog 10 #[.int .u64 (f:Nat),.slice a (len l) cap,.agg #[.int .u8 (n0:Nat),.int .u8 (n1:Nat),.int .u8 (n2:Nat),.int .u8 (n3:Nat),.int .u8 (n4:Nat),.int .u8 (n5:Nat),.int .u8 (n6:Nat),.int .u8 (n7:Nat)]] w λ e w'=>e=.returned (.bool true)/\Below w.heap.size w w':=by
 have HT:=QLh ht;have HC:=QLh hc;have HLB:=QLh hl;have HLN:=QLh hn;have HF:=QLh hf;have H0:=QLh h0;have H1:=QLh h1;have H2:=QLh h2;have H3:=QLh h3;have H4:=QLh h4;have H5:=QLh h5;have H6:=QLh h6;have H7:=QLh h7;clear ht hc hl hn hf h0 h1 h2 h3 h4 h5 h6 h7;obtain⟨i0,hi,hz0,hz1,hz2⟩:=info_parts U6;have HZ:=QLh hz0;clear hz0
 go_enter Tryz.func10,Tryz.ntmps10
 go_upto_region 1 with fail;obtain⟨V,hV⟩:∃V,w.alloc (.cells #[.int .u8 (n0:Nat),.int .u8 (n1:Nat),.int .u8 (n2:Nat),.int .u8 (n3:Nat),.int .u8 (n4:Nat),.int .u8 (n5:Nat),.int .u8 (n6:Nat),.int .u8 (n7:Nat)] 68)=V:=⟨_,rfl⟩;obtain⟨nb,hnb⟩:∃nb,w.heap.size=nb:=⟨_,rfl⟩;have HV:Hid (Below w.heap.size w V):=QLh (by rw[<-hV];exact Qf (Below.refl _ _) _);have HNB:Hid (V.heap[nb]?=some (.cells #[.int .u8 (n0:Nat),.int .u8 (n1:Nat),.int .u8 (n2:Nat),.int .u8 (n3:Nat),.int .u8 (n4:Nat),.int .u8 (n5:Nat),.int .u8 (n6:Nat),.int .u8 (n7:Nat)] 68 (0,0))):=QLh (by rw[<-hV,<-hnb];exact heap_alloc_new _ _);rw[hV,hnb];clear hV hnb;have m0:V.cell? ⟨nb,0,none⟩=some (.int .u8 (n0:Nat)):=Qa HNB.out 0;have m1:V.cell? ⟨nb,1,none⟩=some (.int .u8 (n1:Nat)):=Qa HNB.out 1;have m2:V.cell? ⟨nb,2,none⟩=some (.int .u8 (n2:Nat)):=Qa HNB.out 2;have m3:V.cell? ⟨nb,3,none⟩=some (.int .u8 (n3:Nat)):=Qa HNB.out 3;go_wp2_with fail;refine(Qic f l a cap n0 n1 V HF.out (HC.out.below HV.out) HLB.out HLN.out H0.out H1.out).mono ?_;rintro e w1 ⟨v,rfl,hown,hb⟩;have B1:=QLh hb;obtain⟨L,hL⟩:∃L,QoI f l n0 n1=L:=⟨_,rfl⟩;have HLO:Hid (∀i,(Xw L i).Ok):=QLh (by rw[<-hL];exact Qsx (Qol _ _ _));have HL70:Hid (len L<=70):=QLh (by rw[<-hL];unfold QoI;rw[QqU,QkP];omega);rw[hL]at hown;obtain⟨la,lc,rfl,hH,hlc⟩:=Qdm.own hown;have HH:=QLh hH;have HN1:=QLh ((hb.block _ (lt_of_block HNB.out)).trans HNB.out);clear hown hb hL hH hlc m0 m1 m2 m3;have m0:w1.cell? ⟨nb,0,none⟩=some (.int .u8 (n0:Nat)):=Qa HN1.out 0;have m1:w1.cell? ⟨nb,1,none⟩=some (.int .u8 (n1:Nat)):=Qa HN1.out 1;have m2:w1.cell? ⟨nb,2,none⟩=some (.int .u8 (n2:Nat)):=Qa HN1.out 2;have m3:w1.cell? ⟨nb,3,none⟩=some (.int .u8 (n3:Nat)):=Qa HN1.out 3;go_upto_region 3 with fail;obtain⟨rd,hrd⟩:∃rd,IntKind.u64.wrap (IntKind.u64.wrap ((f:Int)+(n2:Int) % 72) - (n3:Int) / 128 % 256)=rd:=⟨_,rfl⟩;rw[hrd];clear hrd m0 m1 m2 m3;have HT1:Hid (TE7 B w1):=QLh ((HT.out.below HV.out).below B1.out);go_wp2_with fail;refine(QeK B L la lc rd w1 (Qsf HT1.out) HH.out HLO.out (by have:=HL70.out;omega)).mono ?_;rintro e w2 ⟨va,rfl,hva,hb⟩;have B2:=QLh hb;have HH2:=QLh (HH.out.below hb);obtain⟨aa,ca,rfl,hva,hcv,hnv⟩:=hva;have HVA:=QLh hva;clear hb hva hcv hnv;go_wp2_with fail;refine(Qgk L la lc rd w2 HH2.out HLO.out (by have:=HL70.out;omega)).mono ?_;rintro e w3 ⟨vb,rfl,hvb,hb⟩;have B3:=QLh (Qj B2.out hb);have HH3:=QLh (HH2.out.below hb);have HVA3:=QLh (HVA.out.below hb);obtain⟨ab,cb,rfl,hvb,hcb,hnb⟩:=hvb;have HVB:=QLh hvb;have HCB:=QLh (And.intro hcb hnb);clear hb hvb hcb hnb;obtain⟨P,hP⟩:∃P,ihP L rd=P:=⟨_,rfl⟩;obtain⟨S,hS⟩:∃S,ihS L rd=S:=⟨_,rfl⟩;obtain⟨E,hE⟩:∃E,ihE L rd=E:=⟨_,rfl⟩;have HPL:Hid (len P<=16):=QLh (by rw[<-hP];exact Qsp L rd);have HPZ:Hid (∀j,j<len P->(tth P j).size<=32):=QLh (by rw[<-hP];exact QpU L rd);have HEZ:Hid (E=0->Qac L=true/\S.size<=1000):=QLh (λ h=>by
  obtain⟨k,h1,h2,h3,_⟩:=QqN (hE.trans h);exact⟨h2,by rw[<-hS,h3];exact QdO (QgW (QeG h2).2.2.2 h1)⟩)
 rw[hP]at HVA3 HVB HCB;rw[hP,hE,hS];clear hP hE hS HVA;have HAL:=QLh (Qeg P P aa ab ca cb w3 HVA3.out HVB.out (by have:=HPL.out;omega) (by have:=HPL.out;omega));rw[decide_eq_true rfl]at HAL;have rr:(S.toList != S.toList)=false:=by unfold bne;rw[Yq,decide_eq_true rfl];rfl
 go_wp2_with fail;refine HAL.out.mono ?_;rintro e w4 ⟨rfl,hb⟩;have B4:=QLh (Qj B3.out hb);have HH4:=QLh (HH3.out.below hb);have HVB4:=QLh (HVB.out.below hb);have HT4:Hid (TE7 B w4):=QLh (HT1.out.below B4.out);have HBW4:Hid (Below w.heap.size w w4):=QLh (Qj (Qj HV.out B1.out) B4.out);clear hb HAL rr
 by_cases hE0:E=0
 ·have HOK:=QLh (HEZ.out hE0)
  subst hE0;have HEL:=QLh (QeG HOK.out.1);go_wp2_with fail;refine(Qdr L la lc w4 (by have:=HL70.out;omega) HH4.out HLO.out).mono ?_;rintro e w5 ⟨vc,rfl,hvc,hb⟩;obtain⟨ac,cc,rfl,hvc,-,-⟩:=hvc HOK.out.1;rw[HOK.out.1];have B5:=QLh hb;have HVC:=QLh hvc;have HH5:=QLh (HH4.out.below hb);clear hb hvc;have HLE:Hid (len (elL L)=len L):=QLh (Y8 L);go_wp2_with fail;refine(QiD (elL L) ac cc w5 HVC.out (by rw[HLE.out];have:=HL70.out;omega) (λ i hi=>Nat.le_trans (QgG HOK.out.1 i hi) (by decide))).mono ?_;rintro e w6 ⟨rfl,hb⟩;have B6:=QLh (Qj B5.out hb);have HH6:=QLh (HH5.out.below hb);obtain⟨rt,hrt⟩:∃rt,QaU (elL L)=rt:=⟨_,rfl⟩;have HRS:Hid (rt.size=32):=QLh (by rw[<-hrt];exact QcL _);rw[hrt];clear hrt hb;obtain⟨g,o,rfl,⟨e0,-,-,-⟩⟩:=HH6.out 0 HEL.out.1;obtain⟨_,_,he,⟨e1,-,-,-⟩⟩:=HH6.out (len L - 1) (by have:=HEL.out.1;omega)
  cases he
  obtain⟨q0,hq0⟩:∃q,(Xw L 0).rnd=q:=⟨_,rfl⟩;obtain⟨q1,hq1⟩:∃q,(Xw L (len L - 1)).rnd=q:=⟨_,rfl⟩;have HQU:Hid (U64 q0/\U64 q1):=QLh (by
   have a0:=(HLO.out 0).r0;have a1:=(HLO.out (len L - 1)).r0;rw[hq0]at a0;rw[hq1]at a1;exact⟨⟨a0.1,by have:=a0.2;omega⟩,⟨a1.1,by have:=a1.2;omega⟩⟩)
  rw[hq0]at e0;rw[hq1]at e1;clear hq0 hq1;obtain⟨j,hj⟩:∃j,len L - 1=j:=⟨_,rfl⟩;rw[hj]at e1;have d0:0<len L:=HEL.out.1;have d1:IntKind.i64.wrap ((len L:Int) - 1)=(j:Int):=by have:=HL70.out;rw[IntWalk.i64_in _ (by omega)];omega
  have d2:(j:Int)<len L:=by omega
  have d3:j<len L:=by omega
  have d4:(0:Int)<len L:=by omega
  have z0:g≠w6.heap.size:=by have:=Ql e0;omega
  have zl:g<w6.heap.size:=Ql e0;have e0:w6.cell? ⟨g,o,none⟩=some (.int .u64 q0):=by rw[Nat.zero_mul,Nat.add_zero]at e0;exact e0
  clear hj;go_upto_region 11 with fail
  go_cut [18] (λ s18 wx=>∃tb:Nat,s18=.pointer (some ⟨tb,0,none⟩)/\Hid (w6.heap.size<=tb)/\Hid (wx.heap[tb]?=some (.cells #[.int .u64 q0,.int .u64 q1] 76 (0,0)))/\Hid (Below w6.heap.size w6 wx))
  case first=>
   as_aux_lemma=>
    go_region
    all_goals
     go_wp2_with fail;go_meet;exact⟨_,rfl,QLh (Nat.le_refl _),QLh (heap_alloc_new _ _),QLh (Zy (Qf (Below.refl _ _) _))⟩
  case rest=>
    obtain⟨tb,rfl,HTB0,HUT,BC0⟩:=hcut;have BU:Hid (Below w4.heap.size w4 wc):=QLh (Qj B6.out BC0.out);have HTB:Hid (w4.heap.size<=tb):=QLh (Nat.le_trans B6.out.size HTB0.out);obtain⟨U,hU⟩:∃U,U=wc:=⟨_,rfl⟩;subst hU;clear e0 e1 d0 d1 d2 d3 d4 z0 zl;have E0:Hid ((U.alloc (.cells #[] 9)).ownsRow U.heap.size 9 1 (.slice (some ⟨U.heap.size,0,none⟩) 0 0) (len ([]:List ByteArray)) (([]:List ByteArray).map Value.string)):=QLh (World.ownsRow_lit U #[] 0 (Nat.le_refl _) (Nat.zero_le _) rfl)
    go_wp2_with (at_builtin;refine Qcd rfl _ _ rfl U.heap.size _ [] P ab cb rfl E0.out rfl ((HVB4.out.below BU.out).below (Qf (Below.refl _ _) _)) HCB.out.2 (show 0+len P<=100000 by have:=HPL.out;omega) (by simp) ?_)
    intro v4 x4 hown hgrow;have HG4:Hid (Below U.heap.size U x4):=QLh (Qq (Qf (Below.refl _ _) _) hgrow (λ k hk=>by simp[Value.ownBlock]at hk;omega));have HO4:Hid (x4.ownsRow U.heap.size 9 1 v4 (len P) (P.map Value.string)):=QLh hown;clear hown hgrow E0;have HN4:Hid (x4.heap[nb]?=some (.cells #[.int .u8 (n0:Nat),.int .u8 (n1:Nat),.int .u8 (n2:Nat),.int .u8 (n3:Nat),.int .u8 (n4:Nat),.int .u8 (n5:Nat),.int .u8 (n6:Nat),.int .u8 (n7:Nat)] 68 (0,0))):=QLh (by
     have q1:=(B4.out.block _ (lt_of_block HN1.out)).trans HN1.out;have q2:=(BU.out.block _ (lt_of_block q1)).trans q1;exact(HG4.out.block _ (lt_of_block q2)).trans q2)
    have HU4:=QLh ((HG4.out.block _ (lt_of_block HUT.out)).trans HUT.out);have m4:x4.cell? ⟨nb,4,none⟩=some (.int .u8 (n4:Nat)):=Qa HN4.out 4;have m5:x4.cell? ⟨nb,5,none⟩=some (.int .u8 (n5:Nat)):=Qa HN4.out 5;have m6:x4.cell? ⟨nb,6,none⟩=some (.int .u8 (n6:Nat)):=Qa HN4.out 6;have m7:x4.cell? ⟨nb,7,none⟩=some (.int .u8 (n7:Nat)):=Qa HN4.out 7
    go_upto_block 0 with fail
    have HBX:Hid (Below w4.heap.size w4 x4):=QLh (Qj BU.out HG4.out)
    go_cut [12,13,17] (λ s12 s13 s17 wx=>∃(Q:List ByteArray) (rr bb:ByteArray) (x y:Int),s17=.string rr/\s12=.string bb/\Hid (Zk Q s13 wx/\len Q<=100)/\Hid (wx.heap[tb]?=some (.cells #[.int .u64 x,.int .u64 y] 76 (0,0)))/\Hid (U64 x/\U64 y/\bb.size<=1000)/\Hid (Below w4.heap.size w4 wx))
    case first=>
      have HTA:Hid (Zk P v4 x4):=QLh (Zk.own HO4.out);have HTU:Hid (tb<x4.heap.size/\tb<U.heap.size/\nb<tb):=QLh ⟨lt_of_block HU4.out,lt_of_block HUT.out,by have:=lt_of_block ((B4.out.block _ (lt_of_block HN1.out)).trans HN1.out);have:=HTB.out;omega⟩
      by_cases q1:n4 % 9=1
      ·as_aux_lemma=>
        have k1:(((n4:Nat):Int) % 9 == 1)=true:=by simp;omega
        clear q1;go_wp2_with fail;refine(QaW S (n5:Nat) (n6:Nat) x4 (by have:=H5.out;omega) (Nat.le_trans HOK.out.2 (by decide))).mono ?_;rintro e x5 ⟨⟨t,rfl,hts⟩,hb⟩;have HTS:=QLh hts;have HB5:=QLh hb;clear hts hb;go_wp2_with fail;go_meet;exact⟨P,rt,t,_,_,rfl,rfl,QLh ⟨HTA.out.below HB5.out,by have:=HPL.out;omega⟩,QLh ((HB5.out.block _ (lt_of_block HU4.out)).trans HU4.out),QLh ⟨HQU.out.1,HQU.out.2,by rw[HTS.out];exact HOK.out.2⟩,QLh (Qj HBX.out HB5.out)⟩
      have k1:(((n4:Nat):Int) % 9 == 1)=false:=by simp;omega
      by_cases q2:n4 % 9=2
      ·as_aux_lemma=>
        have k2:(((n4:Nat):Int) % 9 == 2)=true:=by simp;omega
        clear q1 q2;go_wp2_with fail;refine(QaW rt (n5:Nat) (n6:Nat) x4 (by have:=H5.out;omega) (by rw[HRS.out];decide)).mono ?_;rintro e x5 ⟨⟨t,rfl,hts⟩,hb⟩;have HTS:=QLh hts;have HB5:=QLh hb;clear hts hb;go_wp2_with fail;go_meet;exact⟨P,t,S,_,_,rfl,rfl,QLh ⟨HTA.out.below HB5.out,by have:=HPL.out;omega⟩,QLh ((HB5.out.block _ (lt_of_block HU4.out)).trans HU4.out),QLh ⟨HQU.out.1,HQU.out.2,by exact HOK.out.2⟩,QLh (Qj HBX.out HB5.out)⟩
      have k2:(((n4:Nat):Int) % 9 == 2)=false:=by simp;omega
      by_cases q3:n4 % 9=3
      ·have k3:(((n4:Nat):Int) % 9 == 3)=true:=by simp;omega
       clear q1 q2 q3;obtain⟨a4,c4,rfl,-,-,-⟩:=HTA.out
       by_cases hp:0<len P
       ·have hpI:(0:Int)<len P:=by omega
        obtain⟨q,hq⟩:∃q,n5 % len P=q:=⟨_,rfl⟩;have HQ:Hid (q<len P):=QLh (by rw[<-hq];exact Nat.mod_lt _ hp);obtain⟨g4,rfl,hg4,cp,fz4,hl4⟩:=Qnn HO4.out q HQ.out;have HPX:Hid ((tth P q).size<=140737488355328):=QLh (Nat.le_trans (HPZ.out q HQ.out) (by decide));obtain⟨px,hpx⟩:∃px,tth P q=px:=⟨_,rfl⟩;rw[hpx]at cp HPX;have z1:IntKind.i64.wrap ((n5:Nat):Int)=((n5:Nat):Int):=by have:=H5.out;exact IntWalk.i64_in _ (by omega)
        have z2:((n5:Nat):Int) % ((len P:Nat):Int)=((q:Nat):Int):=by rw[<-hq];simp
        have z3:((n5:Nat):Int).tmod ((len P:Nat):Int)=((q:Nat):Int):=by rw[Int.tmod_eq_emod_of_nonneg (by omega)];exact z2
        have z4:¬len P=0:=by omega
        have z5:q<len P:=HQ.out;have z6:(q:Int)<len P:=by omega
        clear hq hpx hg4 hl4;go_upto_region 20 with fail;refine Qp 22 1000 (none) (Kx [λ u _=>u=(.slice (some ⟨g4,0,none⟩) (len P) c4),λ u _=>u=(.pointer (some ⟨nb,5,none⟩)),λ u _=>u=(.int .u8 (n5:Nat)),λ u _=>u=(.int .i64 (n5:Nat)),λ u _=>u=(.slice (some ⟨g4,0,none⟩) (len P) c4),λ u _=>u=(.int .i64 (len P:Nat)),λ u _=>u=(.int .i64 (q:Nat)),λ u _=>u=(.slice (some ⟨g4,0,none⟩) (len P) c4),λ u _=>u=(.pointer (some ⟨nb,5,none⟩)),λ u _=>u=(.int .u8 (n5:Nat)),λ u _=>u=(.int .i64 (n5:Nat)),λ u _=>u=(.slice (some ⟨g4,0,none⟩) (len P) c4),λ u _=>u=(.int .i64 (len P:Nat)),λ u _=>u=(.int .i64 (q:Nat)),λ u _=>u=(.pointer (some ⟨g4,q,none⟩)),λ u _=>u=(.string px),λ u _=>u=(.pointer (some ⟨nb,6,none⟩)),λ u _=>u=(.int .u8 (n6:Nat)),λ u _=>u=(.pointer (some ⟨nb,7,none⟩)),λ u _=>u=(.int .u8 (n7:Nat)),λ u w'=>∃t:ByteArray,u=.string t,λ u _=>u=(.pointer (some ⟨g4,q,none⟩))]) rfl (by kernel_rfl) (by kernel_rfl) (Q9 ⟨Qd,Qd,Qd,Qd,Qd,Qd,Qd,Qd,Qd,Qd,Qd,Qd,Qd,Qd,Qd,Qd,Qd,Qd,Qd,Qd,Qd,Qd,trivial⟩) (Q6 22 ⟨?s0,?s1,?s2,?s3,?s4,?s5,?s6,?s7,?s8,?s9,?s10,?s11,?s12,?s13,?s14,?s15,?s16,?s17,?s18,?s19,?s20,?s21,trivial⟩) ?_
        case s0=>refine qV (λ _=>rfl) rfl λ av wv hE hO hD=>?_;simp[go_sem,qF av 13 (.slice (some ⟨g4,0,none⟩) (len P) c4) (hO.2.2 13 rfl),z1,z2,z3,z4,z5,z6]
        case s1=>refine qV (λ _=>rfl) rfl λ av wv hE hO hD=>?_;simp[go_sem,qF av 5 (.pointer (some ⟨nb,0,none⟩)) (hO.2.2 5 rfl),z1,z2,z3,z4,z5,z6]
        case s2=>refine qV (λ _=>rfl) rfl λ av wv hE hO hD=>?_;simp[go_sem,qE (hD.1 rfl _ rfl),Qb hE (by simp) m5,Qb hE (by simp) m6,Qb hE (by simp) m7,Qb hE (by simp) cp,z1,z2,z3,z4,z5,z6]
        case s3=>refine qV (λ _=>rfl) rfl λ av wv hE hO hD=>?_;simp[go_sem,qE (hD.1 rfl _ rfl),z1,z2,z3,z4,z5,z6]
        case s4=>refine qV (λ _=>rfl) rfl λ av wv hE hO hD=>?_;simp[go_sem,qF av 13 (.slice (some ⟨g4,0,none⟩) (len P) c4) (hO.2.2 13 rfl),z1,z2,z3,z4,z5,z6]
        case s5=>refine qV (λ _=>rfl) rfl λ av wv hE hO hD=>?_;simp[go_sem,qE (hD.1 rfl _ rfl),z1,z2,z3,z4,z5,z6]
        case s6=>refine qV (λ _=>rfl) rfl λ av wv hE hO hD=>?_;simp[go_sem,qE (hD.1 rfl _ rfl),qE (hD.2.1 rfl _ rfl),z1,z2,z3,z4,z5,z6]
        case s7=>refine qV (λ _=>rfl) rfl λ av wv hE hO hD=>?_;simp[go_sem,qF av 13 (.slice (some ⟨g4,0,none⟩) (len P) c4) (hO.2.2 13 rfl),z1,z2,z3,z4,z5,z6]
        case s8=>refine qV (λ _=>rfl) rfl λ av wv hE hO hD=>?_;simp[go_sem,qF av 5 (.pointer (some ⟨nb,0,none⟩)) (hO.2.2 5 rfl),z1,z2,z3,z4,z5,z6]
        case s9=>refine qV (λ _=>rfl) rfl λ av wv hE hO hD=>?_;simp[go_sem,qE (hD.1 rfl _ rfl),Qb hE (by simp) m5,Qb hE (by simp) m6,Qb hE (by simp) m7,Qb hE (by simp) cp,z1,z2,z3,z4,z5,z6]
        case s10=>refine qV (λ _=>rfl) rfl λ av wv hE hO hD=>?_;simp[go_sem,qE (hD.1 rfl _ rfl),z1,z2,z3,z4,z5,z6]
        case s11=>refine qV (λ _=>rfl) rfl λ av wv hE hO hD=>?_;simp[go_sem,qF av 13 (.slice (some ⟨g4,0,none⟩) (len P) c4) (hO.2.2 13 rfl),z1,z2,z3,z4,z5,z6]
        case s12=>refine qV (λ _=>rfl) rfl λ av wv hE hO hD=>?_;simp[go_sem,qE (hD.1 rfl _ rfl),z1,z2,z3,z4,z5,z6]
        case s13=>refine qV (λ _=>rfl) rfl λ av wv hE hO hD=>?_;simp[go_sem,qE (hD.1 rfl _ rfl),qE (hD.2.1 rfl _ rfl),z1,z2,z3,z4,z5,z6]
        case s14=>refine qV (λ _=>rfl) rfl λ av wv hE hO hD=>?_;simp[go_sem,qE (hD.1 rfl _ rfl),qE (hD.2.1 rfl _ rfl),z1,z2,z3,z4,z5,z6]
        case s15=>refine qV (λ _=>rfl) rfl λ av wv hE hO hD=>?_;simp[go_sem,qE (hD.1 rfl _ rfl),Qb hE (by simp) m5,Qb hE (by simp) m6,Qb hE (by simp) m7,Qb hE (by simp) cp,z1,z2,z3,z4,z5,z6]
        case s16=>refine qV (λ _=>rfl) rfl λ av wv hE hO hD=>?_;simp[go_sem,qF av 5 (.pointer (some ⟨nb,0,none⟩)) (hO.2.2 5 rfl),z1,z2,z3,z4,z5,z6]
        case s17=>refine qV (λ _=>rfl) rfl λ av wv hE hO hD=>?_;simp[go_sem,qE (hD.1 rfl _ rfl),Qb hE (by simp) m5,Qb hE (by simp) m6,Qb hE (by simp) m7,Qb hE (by simp) cp,z1,z2,z3,z4,z5,z6]
        case s18=>refine qV (λ _=>rfl) rfl λ av wv hE hO hD=>?_;simp[go_sem,qF av 5 (.pointer (some ⟨nb,0,none⟩)) (hO.2.2 5 rfl),z1,z2,z3,z4,z5,z6]
        case s19=>refine qV (λ _=>rfl) rfl λ av wv hE hO hD=>?_;simp[go_sem,qE (hD.1 rfl _ rfl),Qb hE (by simp) m5,Qb hE (by simp) m6,Qb hE (by simp) m7,Qb hE (by simp) cp,z1,z2,z3,z4,z5,z6]
        case s20=>refine Qu (λ av wv hE hS hO hD=>⟨rfl,?_⟩);have f134:=qE (hD.1 rfl _ rfl);have f136:=qE (hD.2.1 rfl _ rfl);have f138:=qE (hD.2.2.1 rfl _ rfl);refine Vn (f:=55) (args:=#[.string px,.int .u8 (n6:Nat),.int .u8 (n7:Nat)]) (R:=λ u w2=>(∃t:ByteArray,u=.string t)/\Below wv.heap.size wv w2) (by simp[go_sem,f134,f136,f138]) ((QaW px (n6:Nat) (n7:Nat) wv (by have:=H6.out;omega) HPX.out).mono ?_) (λ u w2 h=>⟨_,rfl,Qo h.2,h.1⟩);rintro e w2 ⟨⟨t,rfl,-⟩,hb⟩;exact⟨_,rfl,⟨t,rfl⟩,hb⟩
        case s21=>refine qV (λ _=>rfl) rfl λ av wv hE hO hD=>?_;simp[go_sem,qE (hD.1 rfl _ rfl),qE (hD.2.1 rfl _ rfl),z1,z2,z3,z4,z5,z6]
        intro a' w' hE hO hall;have hA:=Qn (ds:=[119,120,121,122,123,124,125,126,127,128,129,130,131,132,133,134,135,136,137,138,139,140]) rfl hO (by kernel_rfl);obtain⟨j0,j1,j2,j3,j4,j5,j6,j7,j8,j9,j10,j11,j12,j13,j14,j15,j16,j17,j18,j19,j20,j21,-⟩:=hall;have e139:(λ u w'=>∃t:ByteArray,u=.string t) (a'.eval (.tmp 139)) w':=j20 _ rfl;obtain⟨v139,hv139⟩:∃v,a'.eval (.tmp 139)=v:=⟨_,rfl⟩;rw[hv139]at e139;simp only[List.foldl_cons,List.foldl_nil,Act.put,List.setIfInBounds_toArray,List.set_cons_succ,List.set_cons_zero,qJ 119 (j0 _ rfl),qJ 120 (j1 _ rfl),qJ 121 (j2 _ rfl),qJ 122 (j3 _ rfl),qJ 123 (j4 _ rfl),qJ 124 (j5 _ rfl),qJ 125 (j6 _ rfl),qJ 126 (j7 _ rfl),qJ 127 (j8 _ rfl),qJ 128 (j9 _ rfl),qJ 129 (j10 _ rfl),qJ 130 (j11 _ rfl),qJ 131 (j12 _ rfl),qJ 132 (j13 _ rfl),qJ 133 (j14 _ rfl),qJ 134 (j15 _ rfl),qJ 135 (j16 _ rfl),qJ 136 (j17 _ rfl),qJ 137 (j18 _ rfl),qJ 138 (j19 _ rfl),hv139,qJ 140 (j21 _ rfl)]at hA;clear hO j20 j0 j1 j2 j3 j4 j5 j6 j7 j8 j9 j10 j11 j12 j13 j14 j15 j16 j17 j18 j19 hv139 j21;subst hA;have e139:∃t:ByteArray,v139=.string t:=e139;obtain⟨t9,rfl⟩:=e139;have HB7:=QLh (Q0 hE);have HO7:=QLh (Qs HO4.out HB7.out);have HU7:=QLh ((HB7.out.block _ (lt_of_block HU4.out)).trans HU4.out);clear hE cp fz4 z1 z2 z3 z4 m4 m5 m6 m7;obtain⟨_,hg7,-,cp7,fz7,hl7⟩:=Qnn HO7.out q HQ.out
        cases hg7
        simp only[List.drop_succ_cons,List.drop_zero];go_wp2_with fail;go_meet;have HO8:=Qks (m:=q) (u:=.string t9) HO7.out;rw[<-List.map_set]at HO8;have hlq:len (P.set q t9)=len P:=by rw[Qy,Qy,List.length_set]
        rw[<-hlq]at HO8;refine⟨P.set q t9,rt,S,_,_,rfl,rfl,QLh ⟨?_,by rw[hlq];have:=HPL.out;omega⟩,QLh ?_,QLh ⟨HQU.out.1,HQU.out.2,HOK.out.2⟩,QLh (Ji (Qj HBX.out HB7.out) ?_ _)⟩
        ·have h8:=Zk.own HO8
         rw[hlq]at h8;exact h8
        ·exact(Below.heap_setCell _ _ _ _ (λ e9=>by have e8:tb=g4:=e9;have h1:=(HO7.out.lt g4 rfl).1;have:=HTU.out;omega)).trans HU7.out
        ·have h1:=(HO7.out.lt g4 rfl).1
         exact Nat.le_trans BU.out.size h1
       ·have hpI:¬(0:Int)<len P:=by omega
        clear hp;go_wp2_with fail;go_meet;exact⟨P,rt,S,_,_,rfl,rfl,QLh ⟨HTA.out,by have:=HPL.out;omega⟩,QLh HU4.out,QLh ⟨HQU.out.1,HQU.out.2,HOK.out.2⟩,HBX⟩
      have k3:(((n4:Nat):Int) % 9 == 3)=false:=by simp;omega
      by_cases q4:n4 % 9=4
      ·as_aux_lemma=>
        have k4:(((n4:Nat):Int) % 9 == 4)=true:=by simp;omega
        clear q1 q2 q3 q4;go_wp2_with fail;refine(Qbo n5 x4 H5.out).mono ?_;rintro e x5 ⟨rfl,hb⟩;have HB5:Hid (Below U.heap.size U x5):=QLh (Qj HG4.out hb);have HO5:=QLh (Qs HO4.out hb);obtain⟨t,ht⟩:∃t,QcN n5=t:=⟨_,rfl⟩;rw[ht];clear hb ht
        go_wp2_with (at_builtin;refine wpList_append_own _ rfl _ _ 36 rfl U.heap.size 9 i0 (.string ⟨#[]⟩) 1 16 Tryz.underlying36 hi HZ.out hz1 hz2 rfl (by decide) _ _ _ rfl (HO5.out.alloc _) ⟨x5.heap.size,0,none⟩ 1 1 [.string t] rfl rfl ?c1 ?c2 ?c3 ?c4 ?c5 ?_)
        case c1=>exact World.news_of_block (Qg _ rfl)
        case c2=>intro u hu;simp at hu;subst hu;rfl
        case c3=>unfold maxLen;have:=HPL.out;omega
        case c4=>have:=HPL.out;omega
        case c5=>have:=HB5.out.size;simp;omega
        intro v5 x6 hown hgrow _;have HB6:Hid (Below U.heap.size U x6):=QLh (Qq (Qf HB5.out _) hgrow (λ k hk=>(HO5.out.lt k hk).1));have HO6:Hid (x6.ownsRow U.heap.size 9 1 v5 (len (P++[t])) ((P++[t]).map Value.string)):=QLh (by
         rw[List.map_append,Qbj,show len [t]=1 from rfl];exact hown)
        have HU6:=QLh ((HB6.out.block _ (lt_of_block HUT.out)).trans HUT.out);clear hown hgrow;go_wp2_with fail;go_meet;exact⟨P++[t],rt,S,_,_,rfl,rfl,QLh ⟨Zk.own HO6.out,by rw[Qbj];have:=HPL.out;show len P+1<=100;omega⟩,QLh HU6.out,QLh ⟨HQU.out.1,HQU.out.2,HOK.out.2⟩,QLh (Qj BU.out HB6.out)⟩
      have k4:(((n4:Nat):Int) % 9 == 4)=false:=by simp;omega
      by_cases q5:n4 % 9=5
      ·as_aux_lemma=>
        have k5:(((n4:Nat):Int) % 9 == 5)=true:=by simp;omega
        clear q1 q2 q3 q4 q5;obtain⟨a4,c4,rfl,ht4,hc4,-⟩:=HTA.out
        by_cases hp:0<len P
        ·have hpI:(0:Int)<len P:=by omega
         obtain⟨g4,rfl,-,-,-,-⟩:=Qnn HO4.out 0 hp;have HD:=QLh (λ W9=>QnG g4 (len P) c4 hp hc4 W9);obtain⟨a9,hrun,ha9⟩:=HD.out x4;have HA9:=QLh ha9;have HTD:=QLh (Qj2 ht4 ha9.1);have HLD:Hid (len (P.drop 1)=len P - 1/\len P - 1<=c4 - 1):=QLh ⟨by rw[Qy,Qy,List.length_drop],by omega⟩;have HLP:=QLh hp;clear ht4 hc4 hp ha9;go_wp2_with fail;go_meet;refine⟨P.drop 1,rt,S,_,_,rfl,rfl,QLh ⟨⟨a9,c4 - 1,by rw[HLD.out.1],HTD.out,by rw[HLD.out.1];exact HLD.out.2,λ h=>absurd h HA9.out.2⟩,by rw[HLD.out.1];have:=HPL.out;omega⟩,QLh HU4.out,QLh ⟨HQU.out.1,HQU.out.2,HOK.out.2⟩,HBX⟩
        ·have hpI:¬(0:Int)<len P:=by omega
         clear hp;go_wp2_with fail;go_meet;exact⟨P,rt,S,_,_,rfl,rfl,QLh ⟨HTA.out,by have:=HPL.out;omega⟩,QLh HU4.out,QLh ⟨HQU.out.1,HQU.out.2,HOK.out.2⟩,HBX⟩
      have k5:(((n4:Nat):Int) % 9 == 5)=false:=by simp;omega
      by_cases q6:n4 % 9=6
      ·as_aux_lemma=>
        have k6:(((n4:Nat):Int) % 9 == 6)=true:=by simp;omega
        clear q1 q2 q3 q4 q5 q6;have t0:x4.cell? ⟨tb,0,none⟩=some (.int .u64 q0):=Qa HU4.out 0;have t1:x4.cell? ⟨tb,1,none⟩=some (.int .u64 q1):=Qa HU4.out 1;have tf:∀o,x4.frozen? ⟨tb,o,none⟩=false:=Qk HU4.out;have tl:tb<x4.heap.size:=HTU.out.1;go_wp2_with fail;go_meet;exact⟨P,rt,S,_,_,rfl,rfl,QLh ⟨Zk.own (Qc8 HO4.out HTU.out.2.1 _ _),by have:=HPL.out;omega⟩,QLh (Qc HU4.out _),QLh ⟨Qkb _,HQU.out.2,HOK.out.2⟩,QLh (Ji HBX.out HTB.out _)⟩
      have k6:(((n4:Nat):Int) % 9 == 6)=false:=by simp;omega
      by_cases q7:n4 % 9=7
      ·as_aux_lemma=>
        have k7:(((n4:Nat):Int) % 9 == 7)=true:=by simp;omega
        clear q1 q2 q3 q4 q5 q6 q7;have t0:x4.cell? ⟨tb,0,none⟩=some (.int .u64 q0):=Qa HU4.out 0;have t1:x4.cell? ⟨tb,1,none⟩=some (.int .u64 q1):=Qa HU4.out 1;have tf:∀o,x4.frozen? ⟨tb,o,none⟩=false:=Qk HU4.out;have tl:tb<x4.heap.size:=HTU.out.1;go_wp2_with fail;go_meet;exact⟨P,rt,S,_,_,rfl,rfl,QLh ⟨Zk.own (Qc8 HO4.out HTU.out.2.1 _ _),by have:=HPL.out;omega⟩,QLh (Qc HU4.out _),QLh ⟨HQU.out.1,Qkb _,HOK.out.2⟩,QLh (Ji HBX.out HTB.out _)⟩
      have k7:(((n4:Nat):Int) % 9 == 7)=false:=by simp;omega
      by_cases q8:n4 % 9=8
      ·as_aux_lemma=>
        have k8:(((n4:Nat):Int) % 9 == 8)=true:=by simp;omega
        clear q1 q2 q3 q4 q5 q6 q7 q8;obtain⟨q,hq⟩:∃q,n5 % 33=q:=⟨_,rfl⟩;have HQ:Hid (q<=32):=QLh (by omega);have z1:IntKind.i64.wrap ((n5:Nat):Int)=((n5:Nat):Int):=by have:=H5.out;exact IntWalk.i64_in _ (by omega)
        have z2:((n5:Nat):Int) % 33=((q:Nat):Int):=by omega
        have z5:q<=rt.size:=by rw[HRS.out];exact HQ.out
        have z6:¬rt.size<q:=by omega
        obtain⟨re,hre⟩:∃re,rt.extract 0 q=re:=⟨_,rfl⟩;clear hq;go_wp2_with fail;go_meet;exact⟨P,re,S,_,_,rfl,rfl,QLh ⟨HTA.out,by have:=HPL.out;omega⟩,QLh HU4.out,QLh ⟨HQU.out.1,HQU.out.2,HOK.out.2⟩,HBX⟩
      have k8:(((n4:Nat):Int) % 9 == 8)=false:=by simp;omega
      clear q1 q2 q3 q4 q5 q6 q7 q8;go_wp2_with fail;go_meet;exact⟨P,rt,S,_,_,rfl,rfl,QLh ⟨HTA.out,by have:=HPL.out;omega⟩,QLh HU4.out,QLh ⟨HQU.out.1,HQU.out.2,HOK.out.2⟩,HBX⟩
    case rest=>
     as_aux_lemma=>
      obtain⟨Q,rr,bb,x,y,rfl,rfl,HQ,HXY,HUU,HBC⟩:=hcut;obtain⟨⟨aq,cq,rfl,htq,hcq,-⟩,hq100⟩:=HQ.out;have HTQ:=QLh (And.intro htq (And.intro hcq hq100));have HWC:Hid (Below w.heap.size w wc):=QLh (Qj HBW4.out HBC.out);have HPI:=QLh (QkC B rr x y bb Q aq cq wc (HT4.out.below HBC.out) htq (by omega) hcq HUU.out.1 HUU.out.2.1 (by have:=HUU.out.2.2;omega));have HRI:=QLh (λ w9 (hb:Below wc.heap.size wc w9)=>QpE rr x y bb Q aq cq w9 (htq.below hb) (by omega) hcq HUU.out.1 HUU.out.2.1 (by have:=HUU.out.2.2;omega));clear htq hcq hq100;unfold Qu3 at HPI HRI;obtain⟨yh,hyh⟩:∃yh,isH rr x y bb Q=yh:=⟨_,rfl⟩;obtain⟨K,hK⟩:∃K,isE rr x y bb Q=K:=⟨_,rfl⟩;rw[hyh,hK]at HPI HRI;rw[show Qx yh=#[.int .u64 (yh 0).n,.string (yh 1).s,.string (yh 2).s,.string (yh 3).s]from rfl]at HPI HRI;clear hyh hK;obtain⟨h0,hh0⟩:∃x,(yh 0).n=x:=⟨_,rfl⟩;obtain⟨h1,hh1⟩:∃x,(yh 1).s=x:=⟨_,rfl⟩;obtain⟨h2,hh2⟩:∃x,(yh 2).s=x:=⟨_,rfl⟩;obtain⟨h3,hh3⟩:∃x,(yh 3).s=x:=⟨_,rfl⟩;rw[hh0,hh1,hh2,hh3]at HPI HRI;clear hh0 hh1 hh2 hh3;have c0:wc.cell? ⟨tb,0,none⟩=some (.int .u64 x):=Qa HXY.out 0;have c1:wc.cell? ⟨tb,1,none⟩=some (.int .u64 y):=Qa HXY.out 1;go_wp2_with fail;refine HPI.out.mono ?_;rintro e x1 ⟨rfl,hb⟩;have BX1:=QLh hb;have HXY1:=QLh ((hb.block _ (lt_of_block HXY.out)).trans HXY.out);clear hb c0 c1 HPI;go_upto_region 33 with fail;obtain⟨V1,hV1⟩:∃V1,x1.alloc (.cells #[.int .u64 h0,.string h1,.string h2,.string h3] 33)=V1:=⟨_,rfl⟩;obtain⟨xa,hxa⟩:∃xa,x1.heap.size=xa:=⟨_,rfl⟩;have HXA:Hid (V1.heap[xa]?=some (.cells #[.int .u64 h0,.string h1,.string h2,.string h3] 33 (0,0))):=QLh (by rw[<-hV1,<-hxa];exact heap_alloc_new _ _);have BV1:Hid (Below wc.heap.size wc V1):=QLh (by rw[<-hV1];exact Qf BX1.out _);have HXY2:Hid (V1.heap[tb]?=some (.cells #[.int .u64 x,.int .u64 y] 76 (0,0))):=QLh (by rw[<-hV1];exact Qe HXY1.out _);rw[hV1,hxa];clear hV1 hxa;have c0:V1.cell? ⟨tb,0,none⟩=some (.int .u64 x):=Qa HXY2.out 0;have c1:V1.cell? ⟨tb,1,none⟩=some (.int .u64 y):=Qa HXY2.out 1;go_wp2_with fail;refine(HRI.out V1 BV1.out).mono ?_;rintro e x2 ⟨rfl,hb⟩;have BX2:=QLh (Qj BV1.out hb);have HXA2:=QLh ((hb.block _ (lt_of_block HXA.out)).trans HXA.out);clear hb c0 c1 HRI;go_upto_region 34 with fail;obtain⟨V2,hV2⟩:∃V2,x2.alloc (.cells #[.int .u64 h0,.string h1,.string h2,.string h3] 33)=V2:=⟨_,rfl⟩;obtain⟨xb,hxb⟩:∃xb,x2.heap.size=xb:=⟨_,rfl⟩;have HXB:Hid (V2.heap[xb]?=some (.cells #[.int .u64 h0,.string h1,.string h2,.string h3] 33 (0,0))):=QLh (by rw[<-hV2,<-hxb];exact heap_alloc_new _ _);have HXA3:Hid (V2.heap[xa]?=some (.cells #[.int .u64 h0,.string h1,.string h2,.string h3] 33 (0,0))):=QLh (by rw[<-hV2];exact Qe HXA2.out _);have BV2:Hid (Below wc.heap.size wc V2):=QLh (by rw[<-hV2];exact Qf BX2.out _);rw[hV2,hxb];clear hV2 hxb;have ca:∀o,V2.cell? ⟨xa,o,none⟩=_:=Qa HXA3.out;have cb:∀o,V2.cell? ⟨xb,o,none⟩=_:=Qa HXB.out;have r1:(h1.toList == h1.toList)=true:=by rw[Yq,decide_eq_true rfl]
      have r2:(h2.toList == h2.toList)=true:=by rw[Yq,decide_eq_true rfl]
      have r3:(h3.toList == h3.toList)=true:=by rw[Yq,decide_eq_true rfl]
      go_wp2_with fail;refine(Qex B V2 ((HT4.out.below HBC.out).below BV2.out)).mono ?_;rintro e x3 ⟨rfl,hb⟩;have BX3:=QLh (Qj (Qj HWC.out BV2.out) hb);clear hb ca cb;go_wp2;go_ret;exact⟨rfl,BX3.out⟩
 ·have hq:(E != 0)=true:=by simp[hE0]
  have hq2:(E == 0)=false:=by simp[hE0]
  clear hE0;go_wp2_with fail;refine(Qex B w4 HT4.out).mono ?_;rintro e w5 ⟨rfl,hb⟩;have HB5:=QLh (Qj HBW4.out hb);clear hb;go_wp2;go_ret;exact⟨rfl,HB5.out⟩
end
section
open Go.RowKit Go.ChangeShapes Go.WideShapes Go.ChangeAt Go.Deep
section
variable {P : Program} {H : Type} {enc : TypeId × Value → H} {w : World}
theorem QoO{t e:TypeId}{k:IntKind}(ht:P.underlying t=some (.array 8 e))(he:P.underlying e=some (.int k))(hC:P.cellsOf e=1)(hCt:P.cellsOf t=8)
  {v:Value} {d:DataW H} {p:List MemPlace} {r:Reach} {base:Nat} (hv:Value.okWide P w r base t v) (h:DataW.Trod enc P w 0 (λ _=>true) true t v d p):
  ∃x0 x1 x2 x3 x4 x5 x6 x7,v=.agg #[.int k x0,.int k x1,.int k x2,.int k x3,.int k x4,.int k x5,.int k x6,.int k x7]/\(Lit.int k x0).wf=true/\(Lit.int k x1).wf=true/\(Lit.int k x2).wf=true/\(Lit.int k x3).wf=true/\(Lit.int k x4).wf=true/\(Lit.int k x5).wf=true/\(Lit.int k x6).wf=true/\(Lit.int k x7).wf=true:=by
 have hv':∃cs,v=.agg cs/\cs.size=P.cellsOf t:=by simp only[Value.okWide,ht]at hv;obtain⟨cs,h1,h2,_⟩:=hv;exact⟨cs,h1,h2⟩
 obtain⟨cs,rfl,hsz⟩:=hv';obtain⟨fuel,hf⟩:=h;obtain⟨xs,m,_,_,_,hxl,hx⟩:=DataW.trod_array ht hf;obtain⟨l⟩:=cs
 match l,hsz.trans hCt with
 | [c0,c1,c2,c3,c4,c5,c6,c7],_=>
  have h0:=hx 0 (by decide);have h1:=hx 1 (by decide);have h2:=hx 2 (by decide);have h3:=hx 3 (by decide);have h4:=hx 4 (by decide);have h5:=hx 5 (by decide);have h6:=hx 6 (by decide);have h7:=hx 7 (by decide);rw[hC]at h0 h1 h2 h3 h4 h5 h6 h7;have e0:xs[0]?=some (xs[0]'(by omega)):=List.getElem?_eq_getElem (by omega);have e1:xs[1]?=some (xs[1]'(by omega)):=List.getElem?_eq_getElem (by omega);have e2:xs[2]?=some (xs[2]'(by omega)):=List.getElem?_eq_getElem (by omega);have e3:xs[3]?=some (xs[3]'(by omega)):=List.getElem?_eq_getElem (by omega);have e4:xs[4]?=some (xs[4]'(by omega)):=List.getElem?_eq_getElem (by omega);have e5:xs[5]?=some (xs[5]'(by omega)):=List.getElem?_eq_getElem (by omega);have e6:xs[6]?=some (xs[6]'(by omega)):=List.getElem?_eq_getElem (by omega);have e7:xs[7]?=some (xs[7]'(by omega)):=List.getElem?_eq_getElem (by omega);obtain⟨x0,rfl,w0⟩:=Y3 he (h0.trans e0);obtain⟨x1,rfl,w1⟩:=Y3 he (h1.trans e1);obtain⟨x2,rfl,w2⟩:=Y3 he (h2.trans e2);obtain⟨x3,rfl,w3⟩:=Y3 he (h3.trans e3);obtain⟨x4,rfl,w4⟩:=Y3 he (h4.trans e4);obtain⟨x5,rfl,w5⟩:=Y3 he (h5.trans e5);obtain⟨x6,rfl,w6⟩:=Y3 he (h6.trans e6);obtain⟨x7,rfl,w7⟩:=Y3 he (h7.trans e7);exact⟨x0,x1,x2,x3,x4,x5,x6,x7,rfl,w0,w1,w2,w3,w4,w5,w6,w7⟩
end
end
section
open Go.RowKit Go.ChangeShapes Go.WideShapes Go.ChangeAt
def Qtl(r:Yz):DataW Unit:=.agg [.lit (.int .u8 r.lo),.lit (.int .u8 r.hi),.lit (.int .i64 r.size),.lit (.int .u64 r.least)]
theorem QpL{w:World}{fuel:Nat}{cs':List Value}{r:Yz}{q:List MemPlace}(hl:cs'.length=4)(h:DataW.trod (λ _=>()) Tryz.prog w 0 (λ _=>true) false fuel 342 cs'=some (Qtl r,q)):cs'=r.cells:=by
 match cs',hl with
 | [v0,v1,v2,v3],_=>
  obtain⟨xs,m,_,e,_,hxl,hx⟩:=DataW.trod_struct Tryz.underlying342 h;have cu:Tryz.prog.cellsOf 5=1:=by kernel_rfl
  have ci:Tryz.prog.cellsOf 3=1:=by kernel_rfl
  have cq:Tryz.prog.cellsOf 23=1:=by kernel_rfl
  have hxl':xs.length=4:=hxl;have h0:DataW.trod (λ _=>()) Tryz.prog w 0 (λ _=>true) false m 5 (([v0,v1,v2,v3].drop 0).take (Tryz.prog.cellsOf 5))=xs[0]?:=hx 0 _ rfl;have h1:DataW.trod (λ _=>()) Tryz.prog w 0 (λ _=>true) false m 5 (([v0,v1,v2,v3].drop 1).take (Tryz.prog.cellsOf 5))=xs[1]?:=hx 1 _ rfl;have h2:DataW.trod (λ _=>()) Tryz.prog w 0 (λ _=>true) false m 3 (([v0,v1,v2,v3].drop 2).take (Tryz.prog.cellsOf 3))=xs[2]?:=hx 2 _ rfl;have h3:DataW.trod (λ _=>()) Tryz.prog w 0 (λ _=>true) false m 23 (([v0,v1,v2,v3].drop 3).take (Tryz.prog.cellsOf 23))=xs[3]?:=hx 3 _ rfl;rw[cu]at h0 h1;rw[ci]at h2;rw[cq]at h3
  match xs,hxl' with
  | [x0,x1,x2,x3],_=>
   obtain⟨n0,e0,y0,_⟩:=DataW.trod_int Tryz.underlying5 (show DataW.trod (λ _=>()) Tryz.prog w 0 (λ _=>true) false m 5 [v0]=some x0 from h0);obtain⟨n1,e1,y1,_⟩:=DataW.trod_int Tryz.underlying5 (show DataW.trod (λ _=>()) Tryz.prog w 0 (λ _=>true) false m 5 [v1]=some x1 from h1);obtain⟨n2,e2,y2,_⟩:=DataW.trod_int Tryz.underlying3 (show DataW.trod (λ _=>()) Tryz.prog w 0 (λ _=>true) false m 3 [v2]=some x2 from h2);obtain⟨n3,e3,y3,_⟩:=DataW.trod_int Tryz.underlying23 (show DataW.trod (λ _=>()) Tryz.prog w 0 (λ _=>true) false m 23 [v3]=some x3 from h3);subst y0 y1 y2 y3;simp[Qtl]at e e0 e1 e2 e3;obtain⟨⟨a0,a1,a2,a3⟩,_⟩:=e;subst e0 e1 e2 e3;unfold Yz.cells;rw[a0,a1,a2,a3]
theorem Qmr{w:World}{fuel:Nat}{cs:List Value}{l:List Yz}{p:List MemPlace}(h:DataW.trod (λ _=>()) Tryz.prog w 0 (λ _=>true) false fuel 308 cs=some (.slice (l.map Qtl) [],p))(hl:0<len l):
  ∃tb tq rc,cs=[.slice (some ⟨tb,tq,none⟩) (len l) rc]/\Qfh w (some ⟨tb,tq,none⟩) l:=by
 have hC:Tryz.prog.cellsOf 342=4:=by kernel_rfl
 rcases Go.Deep.open_slice Tryz.underlying308 h with⟨_,hx⟩ | ⟨a,n,c,m,q,D,Pl,hcs,_,hln,hm,hmm,hx,hi⟩
 ·simp at hx
 ·simp only[Prod.mk.injEq,DataW.slice.injEq]at hx
  obtain⟨⟨hD,_⟩,_⟩:=hx;have hn:len l=n:=by have:=congrArg List.length hD;simpa [len] using this
  have hnm:n<=m:=by rw[hmm];simp;exact hln
  have each:∀i,i<len l->∃b off,a=⟨b,off,none⟩/\Qin w b (off+i * 4) (Ye l i):=λ i hil=>by
   obtain⟨cs',hc,htr⟩:=hi i (by omega);rw[hC]at hc;obtain⟨_,hcl,hat⟩:=World.cells?_some hc;have hDi:D i=Qtl (Ye l i):=by
    have h1:(l.map Qtl)[i]?=((List.range n).map D)[i]?:=by rw[hD]
    have hil':i<l.length:=hil;rw[List.getElem?_map,List.getElem?_map,List.getElem?_eq_getElem hil',List.getElem?_range (by omega)]at h1;rw[QaJ l i hil];exact(Option.some.inj h1).symm
   rw[hDi]at htr;have hcs':=QpL hcl htr;obtain⟨b,off,spot⟩:=a;have hat0:=hat 0 (by decide);rw[hcs']at hat;have hspot:spot=none:=by
    obtain⟨cs0,hc0,htr0⟩:=hi 0 (by omega);rw[hC]at hc0;obtain⟨_,hcl0,hat0⟩:=World.cells?_some hc0;have h1:=hat0 0 (by decide);have h2:cs0[0]?=some (cs0[0]'(by omega)):=List.getElem?_eq_getElem (by omega);rw[h2]at h1
    simpa [Addr.add] using World.cell?_spot h1
   subst hspot;have key:∀j,j<4->w.cell? ⟨b,off+i * 4+j,none⟩=(Ye l i).cells[j]?:=λ j hj=>by
    have h1:=hat j hj;rw[Go.Deep.add_add]at h1;have e:(⟨b,off,none⟩:Addr).add (i * 4+j)=⟨b,off+i * 4+j,none⟩:=by
     unfold Addr.add;split
     ·rename_i h0;simp <;> omega
     ·simp[Nat.add_assoc]
    rw[e]at h1;exact h1
   exact⟨b,off,rfl,key 0 (by decide),key 1 (by decide),key 2 (by decide),key 3 (by decide)⟩
  obtain⟨b,off,rfl,_⟩:=each 0 hl;refine⟨b,off,c,by rw[hn];exact hcs,λ i hil=>?_⟩;obtain⟨b',off',e,hR⟩:=each i hil
  cases e
  exact⟨b,off,rfl,hR⟩
theorem Qki{W:World}{nm:String}{g:Nat}{l:List Yz}{cs:Array Value}{fuel:Nat}{p:List MemPlace}(hl:0<len l)(hg:Tryz.prog.globalNamed nm=some g)(hv:W.var? Tryz.prog nm=some cs)
  (h:DataW.trod (λ _=>()) Tryz.prog W 0 (λ _=>true) false fuel 308 cs.toList=some (.slice (l.map Qtl) [],p)):Qbp W.heap.size W g l:=by
 obtain⟨tb,tq,rc,hcs,hr⟩:=Qmr h hl;have hc:W.cell? ⟨g,0,none⟩=some (.slice (some ⟨tb,tq,none⟩) (len l) rc):=by
  have:=World.var?_cell hg hv 0;rw[Array.eq_one_of_toList hcs]at this
  simpa using this
 obtain⟨b',off',e,hR⟩:=hr 0 hl
 cases e
 exact⟨tb,tq,rc,Ql hc,Ql hR.c0,Nat.le_refl _,hc,hr⟩
theorem Qt8:((List.range Tryz.prog.types.size).filter λ t=>Tryz.prog.rowNamed t [101,114,114,111,114])=[89]:=by kernel_rfl
end
section
open Go.RowKit Go.ChangeShapes Go.WideShapes Go.ChangeAt
def QgE(r:Qda):DataW Unit:=.agg [.lit (.int .u64 r.below),.lit (.int .u8 r.first),.lit (.int .i64 r.size)]
theorem Qnp{w:World}{fuel:Nat}{cs':List Value}{r:Qda}{q:List MemPlace}(hl:cs'.length=3)(h:DataW.trod (λ _=>()) Tryz.prog w 0 (λ _=>true) false fuel 336 cs'=some (QgE r,q)):cs'=r.cells:=by
 match cs',hl with
 | [v0,v1,v2],_=>
  obtain⟨xs,m,_,e,_,hxl,hx⟩:=DataW.trod_struct Tryz.underlying336 h;have cu:Tryz.prog.cellsOf 5=1:=by kernel_rfl
  have ci:Tryz.prog.cellsOf 3=1:=by kernel_rfl
  have cq:Tryz.prog.cellsOf 23=1:=by kernel_rfl
  have hxl':xs.length=3:=hxl;have h0:DataW.trod (λ _=>()) Tryz.prog w 0 (λ _=>true) false m 23 (([v0,v1,v2].drop 0).take (Tryz.prog.cellsOf 23))=xs[0]?:=hx 0 _ rfl;have h1:DataW.trod (λ _=>()) Tryz.prog w 0 (λ _=>true) false m 5 (([v0,v1,v2].drop 1).take (Tryz.prog.cellsOf 5))=xs[1]?:=hx 1 _ rfl;have h2:DataW.trod (λ _=>()) Tryz.prog w 0 (λ _=>true) false m 3 (([v0,v1,v2].drop 2).take (Tryz.prog.cellsOf 3))=xs[2]?:=hx 2 _ rfl;rw[cq]at h0;rw[cu]at h1;rw[ci]at h2
  match xs,hxl' with
  | [x0,x1,x2],_=>
   obtain⟨n0,e0,y0,_⟩:=DataW.trod_int Tryz.underlying23 (show DataW.trod (λ _=>()) Tryz.prog w 0 (λ _=>true) false m 23 [v0]=some x0 from h0);obtain⟨n1,e1,y1,_⟩:=DataW.trod_int Tryz.underlying5 (show DataW.trod (λ _=>()) Tryz.prog w 0 (λ _=>true) false m 5 [v1]=some x1 from h1);obtain⟨n2,e2,y2,_⟩:=DataW.trod_int Tryz.underlying3 (show DataW.trod (λ _=>()) Tryz.prog w 0 (λ _=>true) false m 3 [v2]=some x2 from h2);subst y0 y1 y2;simp[QgE]at e e0 e1 e2;obtain⟨⟨a0,a1,a2⟩,_⟩:=e;subst e0 e1 e2;unfold Qda.cells;rw[a0,a1,a2]
theorem Qmi{w:World}{fuel:Nat}{cs:List Value}{l:List Qda}{p:List MemPlace}(h:DataW.trod (λ _=>()) Tryz.prog w 0 (λ _=>true) false fuel 338 cs=some (.slice (l.map QgE) [],p))(hl:0<len l):
  ∃tb tq rc,cs=[.slice (some ⟨tb,tq,none⟩) (len l) rc]/\Qel w (some ⟨tb,tq,none⟩) l:=by
 have hC:Tryz.prog.cellsOf 336=3:=by kernel_rfl
 rcases Go.Deep.open_slice Tryz.underlying338 h with⟨_,hx⟩ | ⟨a,n,c,m,q,D,Pl,hcs,_,hln,hm,hmm,hx,hi⟩
 ·simp at hx
 ·simp only[Prod.mk.injEq,DataW.slice.injEq]at hx
  obtain⟨⟨hD,_⟩,_⟩:=hx;have hn:len l=n:=by have:=congrArg List.length hD;simpa [len] using this
  have hnm:n<=m:=by rw[hmm];simp;exact hln
  have each:∀i,i<len l->∃b off,a=⟨b,off,none⟩/\Qig w b (off+i * 3) (Qec l i):=λ i hil=>by
   obtain⟨cs',hc,htr⟩:=hi i (by omega);rw[hC]at hc;obtain⟨_,hcl,hat⟩:=World.cells?_some hc;have hDi:D i=QgE (Qec l i):=by
    have h1:(l.map QgE)[i]?=((List.range n).map D)[i]?:=by rw[hD]
    have hil':i<l.length:=hil;rw[List.getElem?_map,List.getElem?_map,List.getElem?_eq_getElem hil',List.getElem?_range (by omega)]at h1;rw[U3 l i hil];exact(Option.some.inj h1).symm
   rw[hDi]at htr;have hcs':=Qnp hcl htr;obtain⟨b,off,spot⟩:=a;have hat0:=hat 0 (by decide);rw[hcs']at hat;have hspot:spot=none:=by
    obtain⟨cs0,hc0,htr0⟩:=hi 0 (by omega);rw[hC]at hc0;obtain⟨_,hcl0,hat0⟩:=World.cells?_some hc0;have h1:=hat0 0 (by decide);have h2:cs0[0]?=some (cs0[0]'(by omega)):=List.getElem?_eq_getElem (by omega);rw[h2]at h1
    simpa [Addr.add] using World.cell?_spot h1
   subst hspot;have key:∀j,j<3->w.cell? ⟨b,off+i * 3+j,none⟩=(Qec l i).cells[j]?:=λ j hj=>by
    have h1:=hat j hj;rw[Go.Deep.add_add]at h1;have e:(⟨b,off,none⟩:Addr).add (i * 3+j)=⟨b,off+i * 3+j,none⟩:=by
     unfold Addr.add;split
     ·rename_i h0;simp <;> omega
     ·simp[Nat.add_assoc]
    rw[e]at h1;exact h1
   exact⟨b,off,rfl,key 0 (by decide),key 1 (by decide),key 2 (by decide)⟩
  obtain⟨b,off,rfl,_⟩:=each 0 hl;refine⟨b,off,c,by rw[hn];exact hcs,λ i hil=>?_⟩;obtain⟨b',off',e,hR⟩:=each i hil
  cases e
  exact⟨b,off,rfl,hR⟩
def QrQ:DataW Unit:=.agg ([0,1,2,3,4].map λ k=>.slice ((Zw k).map QgE) [])
theorem QsZ{W:World}{g:Nat}{cs:Array Value}{fuel:Nat}{p:List MemPlace}(hgg:g=5)(hg:Tryz.prog.globalNamed "sextant/pack.rows"=some g)(hv:W.var? Tryz.prog "sextant/pack.rows"=some cs)
  (h:DataW.trod (λ _=>()) Tryz.prog W 0 (λ _=>true) false fuel 339 cs.toList=some (QrQ,p)):Qf5 W.heap.size W:=by
 obtain⟨xs,m,_,e,hcl,hxl,hx⟩:=DataW.trod_array Tryz.underlying339 h;have hC:Tryz.prog.cellsOf 338=1:=by kernel_rfl
 have hC5:Tryz.prog.cellsOf 339=5:=by kernel_rfl
 rw[hC5]at hcl;rw[hC]at hx;have hd:QrQ=.agg (xs.map (·.1)):=congrArg Prod.fst e;unfold QrQ at hd;have hd2:([0,1,2,3,4].map λ k=>(DataW.slice ((Zw k).map QgE) []:DataW Unit))=xs.map (·.1):=by injection hd
 subst hgg;have key:∀k,k<5->∃tb tq rc,cs[k]?=some (.slice (some ⟨tb,tq,none⟩) (len (Zw k)) rc)/\Qel W (some ⟨tb,tq,none⟩) (Zw k):=λ k hk=>by
  have hxk:k<xs.length:=by omega
  have h1:=hx k hk;rw[List.getElem?_eq_getElem hxk]at h1;have h2:(xs[k]'hxk).1=.slice ((Zw k).map QgE) []:=by
   have h3:(xs.map (·.1))[k]?=some (xs[k]'hxk).1:=by rw[List.getElem?_map,List.getElem?_eq_getElem hxk];rfl
   rw[<-hd2,List.getElem?_map]at h3;have h4:[0,1,2,3,4][k]?=some k:=by
    have:k=0 \/ k=1 \/ k=2 \/ k=3 \/ k=4:=by omega
    rcases this with rfl | rfl | rfl | rfl | rfl <;> rfl
   rw[h4]at h3;exact(Option.some.inj h3).symm
  have h5:DataW.trod (λ _=>()) Tryz.prog W 0 (λ _=>true) false m 338 ((cs.toList.drop (k * 1)).take 1)=some (.slice ((Zw k).map QgE) [],(xs[k]'hxk).2):=by rw[h1,<-h2]
  obtain⟨tb,tq,rc,hcs,hr⟩:=Qmi h5 (Qi1 k);refine⟨tb,tq,rc,?_,hr⟩;have h6:((cs.toList.drop (k * 1)).take 1)[0]?=some (.slice (some ⟨tb,tq,none⟩) (len (Zw k)) rc):=by rw[hcs];rfl
  rw[List.getElem?_take,if_pos (by decide),List.getElem?_drop]at h6
  simpa using h6
 have hlt:5<W.heap.size:=by obtain⟨tb,tq,rc,h1,h2⟩:=key 0 (by decide);have:=World.var?_cell hg hv 0;exact Ql (this.trans h1)
 refine⟨hlt,Nat.le_refl _,λ k hk=>?_⟩;obtain⟨tb,tq,rc,h1,h2⟩:=key k hk;refine⟨tb,tq,rc,?_,(World.var?_cell hg hv k).trans h1,h2⟩;obtain⟨b,off,e,hR⟩:=h2 0 (Qi1 k)
 cases e
 exact Ql hR.c0
end
section
open Go.RowKit Go.ChangeShapes Go.WideShapes Go.ChangeAt
theorem Qpv{W:World}(h:laidMetH Tryz.prog Rows.partProvesRow.laid W):TE7 W.heap.size W:=by
 have h':laidMet Tryz.prog (Rows.partProvesRow.laid.filter λ x=>x.2.handleName?.isNone) W/\handlesMet Tryz.prog (Rows.partProvesRow.laid.filter λ x=>x.2.handleName?.isSome) W:=h;obtain⟨⟨ps,⟨gp,tp,csp,fp,pp,qp,hgp,htp,hvp,hdp,⟨g0,t0,cs0,f0,p0,q0,hg0,ht0,hv0,hd0,⟨g1,t1,cs1,f1,p1,q1,hg1,ht1,hv1,hd1,⟨g2,t2,cs2,f2,p2,q2,hg2,ht2,hv2,hd2,⟨g4,t4,cs4,f4,p4,q4,hg4,ht4,hv4,hd4,_⟩,_⟩,_⟩,_⟩,_⟩,_,_⟩,hH⟩:=h';obtain rfl:5=gp:=Option.some.inj ((show _=some 5 by kernel_rfl).symm.trans hgp);obtain rfl:339=tp:=Option.some.inj ((show _=some 339 by kernel_rfl).symm.trans htp);obtain rfl:0=g0:=Option.some.inj ((show _=some 0 by kernel_rfl).symm.trans hg0);obtain rfl:308=t0:=Option.some.inj ((show _=some 308 by kernel_rfl).symm.trans ht0);obtain rfl:6=g1:=Option.some.inj ((show _=some 6 by kernel_rfl).symm.trans hg1);obtain rfl:308=t1:=Option.some.inj ((show _=some 308 by kernel_rfl).symm.trans ht1);obtain rfl:2=g2:=Option.some.inj ((show _=some 2 by kernel_rfl).symm.trans hg2);obtain rfl:308=t2:=Option.some.inj ((show _=some 308 by kernel_rfl).symm.trans ht2);obtain rfl:1=g4:=Option.some.inj ((show _=some 1 by kernel_rfl).symm.trans hg4);obtain rfl:308=t4:=Option.some.inj ((show _=some 308 by kernel_rfl).symm.trans ht4);have hET:Yo W:=by obtain⟨name,u,ty,e1,e2,e3,e4,e5⟩:=hH Rows.partProvesRow.laid[1] (List.mem_singleton.2 rfl);have en:name=[101,114,114,111,114]:=(Option.some.inj e1).symm;subst en;obtain rfl:349=u:=Option.some.inj ((show _=some 349 by kernel_rfl).symm.trans e2);have hm:ty ∈ (List.range Tryz.prog.types.size).filter λ t=>Tryz.prog.rowNamed t [101,114,114,111,114]:=List.mem_filter.2 ⟨List.mem_range.2 e3,e4⟩;rw[Qt8]at hm;obtain rfl:=List.mem_singleton.1 hm;have hg:Tryz.prog.globalNamed Rows.partProvesRow.laid[1].1=some 3:=(by kernel_rfl);exact World.var?_cell hg e5 0
 exact⟨QsZ rfl hgp hvp hdp,⟨Qki (by decide) hg0 hv0 hd0,trivial,Qki (by decide) hg1 hv1 hd1,Qki (by decide) hg2 hv2 hd2,Qki (by decide) hg4 hv4 hd4⟩,hET,Nat.le_refl _,Ql hET⟩
end
end Go.Proofs.YtpobhbdomldecaaGreatDoor
namespace Go.Proofs.YtpobhbdomldecaaGreatDoor.ihdrs
open Go.RowKit Go.ChangeShapes Go.WideShapes Go.ChangeAt
theorem Qp1(os:Os)(args:Array Value):laidMetH Tryz.prog Rows.inclusionHeadersRow.laid ((World.doorLaid Tryz.prog 79 os).forCall (λ _ _=>0) ⟨#[],args,[]⟩).memory:=
 laidMetH_of_parts3 (fuel:=8) (laidMet_of_run' 8 (by kernel_rfl) (by kernel_rfl)) (by kernel_rfl) (by kernel_rfl)
theorem Qtx(os:Os)(started:os.Started)(H:Type)(enc:TypeId × Value->H):
  ReturnsInHanded {} Tryz.checked os 10 .any (λ w args=>(Rows.inclusionHeadersSpec.pre enc Tryz.prog Tryz.f10 [] false w args/\laidMetH Tryz.prog Rows.inclusionHeadersRow.laid w)/\sizedMet enc Tryz.prog Tryz.f10 (OpenSpec.ofChange Rows.inclusionHeadersSpec) false w args)
   (Rows.inclusionHeadersSpec.post enc Tryz.prog Tryz.f10 false true false false):=by
 refine returnsInHanded_of_change_and (C:=Tryz.checked) (X:=λ w _=>laidMetH Tryz.prog Rows.inclusionHeadersRow.laid w) (λ _ _ _ hh h=>h.of_heap hh) own started (by kernel_rfl) Tryz.func10
  (ChangeSpec.witness_shaped (enc:=enc) (C:=Tryz.checked) (os:=os) (X:=λ w _=>laidMetH Tryz.prog Rows.inclusionHeadersRow.laid w) false (World.doorLaid Tryz.prog 79 os) #[.int .u64 0,.slice none 0 0,.agg #[.int .u8 0,.int .u8 0,.int .u8 0,.int .u8 0,.int .u8 0,.int .u8 0,.int .u8 0,.int .u8 0]] 8 rfl (World.shaped_of_RefB (by kernel_rfl) (by kernel_rfl)) (by kernel_rfl) (by kernel_rfl) (by kernel_rfl) (Qp1 os _)) ?_
 intro W base args ds gs before hval0 hW _ _ hL _;have hval:∀(j:Nat) t v,Tryz.f10.params[j]?=some t->args[j]?=some v->Value.okWide Tryz.prog W .any base t v:=hval0;have hW':=hW;obtain⟨p,q,hA0,hV,rfl,hfz,hnd⟩:=hW;have hA:DataW.TrodAll enc Tryz.prog W 0 (λ _=>true) true Tryz.f10.params.toList args.toList ds p:=hA0;rw[Tryz.params10]at hA hval;have hAA:=hA;obtain⟨v0,vs0,d0,ds0,p0,q0,hargs,rfl,rfl,h0,r0⟩:=trodAll_cons hA;obtain⟨v1,vs1,d1,ds1,p1,q1,rfl,rfl,rfl,h1,r1⟩:=trodAll_cons r0;obtain⟨v2,vs2,d2,ds2,p2,q2,rfl,rfl,rfl,h2,r2⟩:=trodAll_cons r1;obtain⟨rfl,rfl,rfl⟩:=trodAll_nil r2;obtain rfl:args=#[v0,v1,v2]:=by cases args;simp_all
 obtain⟨rfl,rfl⟩:=trodVars_none hV;obtain⟨x0,rfl,_,_,w0⟩:=open_int Tryz.underlying23 (hval 0 _ _ rfl rfl) h0;have u0:=Qud w0;obtain⟨F,rfl⟩:=Int.eq_ofNat_of_zero_le u0.1;obtain⟨a1,c1,l1,rfl,lc1,cm1,o1,k1⟩:=Qqh Tryz.underlying41 Tryz.underlying5 (by kernel_rfl) (hval 1 _ _ rfl rfl) h1;obtain⟨y0,y1,y2,y3,y4,y5,y6,y7,rfl,v0,v1,v2,v3,v4,v5,v6,v7⟩:=QoO Tryz.underlying68 Tryz.underlying5 (by kernel_rfl) (by kernel_rfl) (hval 2 _ _ rfl rfl) h2;have s0:=Qgl v0;have s1:=Qgl v1;have s2:=Qgl v2;have s3:=Qgl v3;have s4:=Qgl v4;have s5:=Qgl v5;have s6:=Qgl v6;have s7:=Qgl v7;obtain⟨y0,rfl⟩:=Int.eq_ofNat_of_zero_le s0.1;obtain⟨y1,rfl⟩:=Int.eq_ofNat_of_zero_le s1.1;obtain⟨y2,rfl⟩:=Int.eq_ofNat_of_zero_le s2.1;obtain⟨y3,rfl⟩:=Int.eq_ofNat_of_zero_le s3.1;obtain⟨y4,rfl⟩:=Int.eq_ofNat_of_zero_le s4.1;obtain⟨y5,rfl⟩:=Int.eq_ofNat_of_zero_le s5.1;obtain⟨y6,rfl⟩:=Int.eq_ofNat_of_zero_le s6.1;obtain⟨y7,rfl⟩:=Int.eq_ofNat_of_zero_le s7.1;have hT:=Qpv (show laidMetH Tryz.prog Rows.partProvesRow.laid W from hL);unfold maxLen at cm1;clear hA0 hval0;refine(Qib W.heap.size F l1 a1 c1 y0 y1 y2 y3 y4 y5 y6 y7 W hT (by omega) o1 k1 (by omega) (by omega) (by omega) (by omega) (by omega) (by omega) (by omega) (by omega) (by omega)).mono λ e W' ⟨he,bel⟩=>?_;subst he;have hback:=Qc3 Qsk bel (λ t ht=>⟨by revert t;exact of_decide_eq_true (by kernel_rfl),by revert t;exact of_decide_eq_true (by kernel_rfl)⟩) hAA;exact⟨_,rfl,_,_,_,[],_,[],hW',trodAll_mk1 (shut_bool Tryz.underlying4 _),hback,rfl,bel.frame _,λ h=>by cases h⟩
end Go.Proofs.YtpobhbdomldecaaGreatDoor.ihdrs
namespace Go.Proofs.YtpobhbdomldecaaGreatDoor
open Go.RowKit
end Go.Proofs.YtpobhbdomldecaaGreatDoor

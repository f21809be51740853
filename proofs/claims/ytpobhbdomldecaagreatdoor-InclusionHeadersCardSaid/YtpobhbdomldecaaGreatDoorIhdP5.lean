/- Parts of the proof, one behind the other. -/
import Derived.Test.YtpobhbdomldecaaGreatDoorIhdP4
import Derived.Carry
import Derived.BigQuiet
import Derived.Lib.Strings
import Derived.Great.Walk
import Derived.Laws.AppendOwn
import Derived.Laws.MakeOwn
import Derived.Maps.AppendAt
import Derived.ArgAppend
import Derived.Laws.AppendOwnNone
import Derived.ProofKit
import Derived.OpenShut
import Derived.ShutString
import Derived.ChangeOld
import Derived.Deep.Slices
import Derived.Deep.Fields
import Derived.ChangeMaps5
import Derived.WideShapes
import Derived.StillTailTactics
import Derived.Defers
import Derived.Recover
set_option linter.unusedSimpArgs false
set_option linter.unusedVariables false
set_option maxRecDepth 100000
set_option maxHeartbeats 40000000
namespace Go.Proofs.YtpobhbdomldecaaGreatDoor
open Go.RowKit
section
open Go.RowKit Go.ChangeMaps
def Qa3(L:List (Int × Value)):List Int:=L.map (·.1)
theorem Qfx(L:List (Int × Value)):(Qa3 L).length=L.length:=by simp[Qa3]
theorem Qld(L:List (Int × Value))(i:Nat)(h:i<L.length):(Qa3 L)[i]'(by rw[Qfx];exact h)=L[i].1:=by simp[Qa3]
theorem Qfb.snoc{L:List (Int × Value)}{nb:Nat}{seen:Array Nat}{pre:List Int}(h:Qfb (Qa3 L) nb seen pre)(hn:(L.map (·.1)).Nodup){i:Nat}(hi:i<L.length)(hs:¬nb+i ∈ seen):Qfb (Qa3 L) nb (seen.push (nb+i)) (pre++[L[i].1]):=by have:=(h.next hn (i:=i) (by rw[Qfx];exact hi) hs).2;rw[Qld L i hi]at this;exact this
theorem Qfb.fin{L:List (Int × Value)}{nb:Nat}{seen:Array Nat}{pre:List Int}(h:Qfb (Qa3 L) nb seen pre)(ha:∀i,i<L.length->nb+i ∈ seen):∀k,k ∈ pre ↔ k ∈ L.map (·.1):=λ k=>by
 rw[h.2]
 constructor
 ·rintro⟨i,hi,_,e⟩;exact e ▸ List.getElem_mem hi
 ·intro hk
  obtain⟨i,hi,e⟩:=List.getElem_of_mem hk;exact⟨i,hi,ha i (by simpa using hi),e⟩
theorem Zs.keep{w w':World}{b r n:Nat}{q:IntKind}{l:List (Int × Value)}{seen:Array Nat}(h:Zs w b r q n l seen)(h1:w'.heap[b]?=w.heap[b]?)(h2:w'.heap[r]?=w.heap[r]?):Zs w' b r q n l seen:=⟨h1.trans h.map,h2.trans h.iter⟩
def QiO(b n:Nat)(g:KnF)(w:World):Prop:=∃L,w.heap[b]?=some (Jd .u64 n L)/\Qhg L g
def Qs6(g:KnF)(w:World)(e:Ending)(w':World):Prop:=∃b,e=.returned (.map (some b))/\QiO b 0 (Kq g) w'/\w.heap.size<=b/\Below w.heap.size w w'
theorem Qo2(b n:Nat)(g:KnF)(w:World)(h:QiO b n g w)(hz:∀k d,g k=some d->d.size<=1000):
  Calls Tryz.prog 170 #[.map (some b)] w (Qs6 g w):=by
 obtain⟨L,hb,hm⟩:=h;have HL:=QLh hb;have HM:=QLh hm;have HZ:=QLh hz;have HBL:Hid (b<w.heap.size):=QLh (lt_of_block hb);have hmm:=@run_makeMap Tryz.prog;clear hb hm hz
 go_enter Tryz.func170,Tryz.ntmps170
 go_upto_region 2 with fail;clear hmm;obtain⟨pb,hpb⟩:∃pb,w.heap.size=pb:=⟨_,rfl⟩;obtain⟨V,hV⟩:∃V,w.alloc (Obj.map #[] 0)=V:=⟨_,rfl⟩;have HVP:Hid (V.heap[pb]?=some (Jd .u64 0 [])):=QLh (by rw[<-hV];exact Qg _ hpb);have HVL:Hid (V.heap[b]?=some (Jd .u64 n L)):=QLh (by rw[<-hV];exact Qe HL.out _);have HVW:Hid (Below w.heap.size w V):=QLh (by rw[<-hV];exact Qf (Below.refl _ _) _);have HBP:Hid (b<pb/\w.heap.size<=pb):=QLh ⟨by have:=HBL.out;omega,by omega⟩;rw[hV,hpb];clear hV hpb HL
 go_wp2_with (at_range;refine Qbv rfl _ 200 23 9 .u64 rfl Tryz.underlying200 b n _ rfl HVL.out ?_;intro hrg)
 go_frame
 obtain⟨r,hr⟩:∃r,V.heap.size=r:=⟨_,rfl⟩;obtain⟨U,hU⟩:∃U,V.alloc (.mapIter (some b) (n+L.length) #[] (n+L.length))=U:=⟨_,rfl⟩;rw[hr,hU]at hrg ⊢;have HR:=QLh hrg;have HUP:Hid (U.heap[pb]?=some (Jd .u64 0 [])):=QLh (by rw[<-hU];exact Qe HVP.out _);have HUW:Hid (Below w.heap.size w U):=QLh (by rw[<-hU];exact Qf HVW.out _);have HRP:Hid (pb<r):=QLh (by rw[<-hr];exact lt_of_block HVP.out);clear hU hr hrg HVL HVP HVW
 go_loopw [4,5,6] (λ _ _ _ wr=>∃(seen:Array Nat) (pre:List Int) (QL:List (Int × Value)),Hid (Zs wr b r .u64 n L seen)/\Hid (Qfb (Qa3 L) n seen pre)/\Hid (wr.heap[pb]?=some (Jd .u64 0 QL))/\Hid (Qb9 QL (Qf7 g pre))/\Hid (Below w.heap.size w wr)) (λ _ _ _ wr=>Ue wr r (n+L.length))
 case atStart=>exact⟨#[],[],[],HR,QLh (Qfb.start _ _),HUP,QLh (by rw[Qgu];exact Qb9.nil),HUW⟩
 case round=>
  clear HR HUP HUW;obtain⟨seen,pre,QL,HR,HC,HP,HF,HW⟩:=hrel
  go_wp2_with (at_next;refine QcA rfl _ rfl b r .u64 n _ seen rfl HR.out ?_ ?_)
  ·intro hall
   have HALL:=QLh hall;clear hall;have HQA:Hid (Qb9 QL g):=QLh (by
    have h1:=HF.out;rw[Qgg (g:=g) (pre:=pre) (λ k hk=>(HC.out.fin HALL.out k).2 (HM.out.keys hk))]at h1;exact h1)
   clear HALL HC HF HR;have hmm:=@run_makeMap Tryz.prog;go_upto_region 9 with fail;clear hmm;obtain⟨ob,hob⟩:∃ob,wr.heap.size=ob:=⟨_,rfl⟩;obtain⟨V,hV⟩:∃V,wr.alloc (Obj.map #[] 0)=V:=⟨_,rfl⟩;have HVO:Hid (V.heap[ob]?=some (Jd .u64 0 [])):=QLh (by rw[<-hV];exact Qg _ hob);have HVP:Hid (V.heap[pb]?=some (Jd .u64 0 QL)):=QLh (by rw[<-hV];exact Qe HP.out _);have HVW:Hid (Below w.heap.size w V):=QLh (by rw[<-hV];exact Qf HW.out _);have HOP:Hid (pb<ob/\w.heap.size<=ob):=QLh ⟨by rw[<-hob];exact lt_of_block HP.out,by rw[<-hob];exact HW.out.size⟩;rw[hV,hob];clear hV hob HP HW;obtain⟨zn,hzn⟩:∃zn:Nat,0=zn:=⟨_,rfl⟩;have HVP:=QLh (by have h:=HVP.out;rw[hzn]at h;exact h);clear hzn
   go_wp2_with (at_range;refine Qbv rfl _ 263 23 265 .u64 rfl Tryz.underlying263 pb zn _ rfl HVP.out ?_;intro hrg)
   go_frame
   obtain⟨r2,hr2⟩:∃r2,V.heap.size=r2:=⟨_,rfl⟩;obtain⟨U2,hU2⟩:∃U2,V.alloc (.mapIter (some pb) (zn+QL.length) #[] (zn+QL.length))=U2:=⟨_,rfl⟩;rw[hr2,hU2]at hrg ⊢;have HR:=QLh hrg;have HUO:Hid (U2.heap[ob]?=some (Jd .u64 0 [])):=QLh (by rw[<-hU2];exact Qe HVO.out _);have HUW:Hid (Below w.heap.size w U2):=QLh (by rw[<-hU2];exact Qf HVW.out _);have HRO:Hid (ob<r2):=QLh (by rw[<-hr2];exact lt_of_block HVO.out);clear hU2 hr2 hrg HVO HVP HVW
   go_loopw [8,9] (λ _ _ wr=>∃(seen:Array Nat) (pre:List Int) (OL:List (Int × Value)),Hid (Zs wr pb r2 .u64 zn QL seen)/\Hid (Qfb (Qa3 QL) zn seen pre)/\Hid (wr.heap[ob]?=some (Jd .u64 0 OL))/\Hid (Qhg OL (Qf7 (Kq g) pre))/\Hid (Below w.heap.size w wr)) (λ _ _ wr=>Ue wr r2 (zn+QL.length))
   case atStart=>exact⟨#[],[],[],HR,QLh (Qfb.start _ _),HUO,QLh (by rw[Qgu];exact Qhg.nil),HUW⟩
   case round=>
    clear HR HUO HUW;obtain⟨seen,pre,OL,HR,HC,HO,HF,HW⟩:=hrel
    go_wp2_with (at_next;refine QcA rfl _ rfl pb r2 .u64 zn _ seen rfl HR.out ?_ ?_)
    ·intro hall
     have HALL:=QLh hall;clear hall;have HOA:Hid (Qhg OL (Kq g)):=QLh (by
      have h1:=HF.out;rw[Qgg (g:=Kq g) (pre:=pre) (λ k hk=>(HC.out.fin HALL.out k).2 (HQA.out.keys hk))]at h1;exact h1)
     clear HALL HC HF HR;go_wp2;go_ret;exact⟨ob,rfl,⟨OL,HO.out,HOA.out⟩,HOP.out.2,HW.out⟩
    ·intro i hi w1 hns hr1 hlt hb1 hsz hoth hen
     have HR1:=QLh hr1;have HRX9:=QLh hr1;have HLT:=QLh hlt;have HC1:Hid (Qfb (Qa3 QL) zn (seen.push (zn+i)) (pre++[QL[i].1])):=QLh (HC.out.snoc HQA.out.nodup hi hns);have HO1:Hid (w1.heap[ob]?=some (Jd .u64 0 OL)):=QLh ((hoth ob (by have:=HRO.out;omega)).trans HO.out);have HW1:Hid (Below w.heap.size w w1):=QLh (HW.out.trans (hb1 _ (by have:=HRO.out;have:=HOP.out;omega)));obtain⟨hd,hpi⟩:=HQA.out.at i hi;have hku:=HQA.out.u64 _ (List.getElem_mem hi);obtain⟨k,hk⟩:∃k,QL[i].1=k:=⟨_,rfl⟩;rw[hk]at hku hen HC1 hd hpi ⊢;obtain⟨x0,hx0⟩:∃x0,Vv g (2 * k)=x0:=⟨_,rfl⟩;obtain⟨x1,hx1⟩:∃x1,Vv g (2 * k+1)=x1:=⟨_,rfl⟩;have hd2:QL[i].2=.agg #[.string x0,.string x1]:=by rw[hd,<-hx0,<-hx1];rfl
     rw[hd2]at hen ⊢;have hov:Kq g k=some (Xi QaB [x0,x1]):=by rw[<-hx0,<-hx1];exact QaA hpi
     have HOV:=QLh hov;have HKU:=QLh hku;have HXZ:Hid (x0.size<=1000000/\x1.size<=1000000):=QLh (by
      have hkz:∀j,(Vv g j).size<=1000000:=λ j=>by
       unfold Vv
       cases hg:g j with
       | none=>show(0:Nat)<=_;omega
       | some d=>have:=HZ.out j d hg;show d.size<=_;omega
      rw[<-hx0,<-hx1];exact⟨hkz _,hkz _⟩)
     clear hd hd2 hku hk hns hr1 hlt hb1 hsz hoth hx0 hx1 hov hpi;go_upto_region 12 with fail;obtain⟨q,hq⟩:∃q,w1.heap.size=q:=⟨_,rfl⟩;obtain⟨X,hX⟩:∃X,w1.alloc (Obj.cells #[.string x0,.string x1] 265)=X:=⟨_,rfl⟩;have HQ0:Hid (X.heap[q]?=some (.cells #[.string x0,.string x1] 265 (0,0))):=QLh (by rw[<-hX];exact Qg _ hq);have HRX:Hid (Zs X pb r2 .u64 zn QL (seen.push (zn+i))):=QLh (HR1.out.keep (by rw[<-hX];exact Below.heap_alloc _ _ _ (lt_of_block HR1.out.map)) (by rw[<-hX];exact Below.heap_alloc _ _ _ (lt_of_block HR1.out.iter)));have HOX:Hid (X.heap[ob]?=some (Jd .u64 0 OL)):=QLh (by rw[<-hX];exact Qe HO1.out _);have HWX:Hid (Below w.heap.size w X):=QLh (by rw[<-hX];exact Qf HW1.out _);rw[hq,hX];clear hq hX HR1 HO1 HW1 HR HC HO HW;have c0:X.cell? ⟨q,0,none⟩=some (.string x0):=by rw[Qa HQ0.out];rfl
     have c1:X.cell? ⟨q,1,none⟩=some (.string x1):=by rw[Qa HQ0.out];rfl
     have c2:q<X.heap.size:=lt_of_block HQ0.out;go_wp2_with fail;clear c0 c1 c2;refine(QnO QaB x0 x1 X (by decide) (by decide) HXZ.out.1 HXZ.out.2).mono ?_;rintro e w' ⟨rfl,hXd⟩;have HRZ:Hid (Zs w' pb r2 .u64 zn QL (seen.push (zn+i))):=QLh (HRX.out.keep (hXd.block _ (lt_of_block HRX.out.map)) (hXd.block _ (lt_of_block HRX.out.iter)));have HOZ:Hid (w'.heap[ob]?=some (Jd .u64 0 OL)):=QLh ((hXd.block _ (lt_of_block HOX.out)).trans HOX.out);have HWZ:Hid (Below w.heap.size w w'):=QLh (Qj HWX.out hXd);obtain⟨D,hD⟩:∃D,Xi QaB [x0,x1]=D:=⟨_,rfl⟩;rw[hD]at HOV ⊢;clear hXd HRX HOX HWX HQ0 hD
     go_wp2_with (at_mapUpdate;refine J2 rfl _ _ _ 200 23 9 .u64 rfl Tryz.underlying200 Tryz.underlying23 ob 0 _ rfl HOZ.out _ _ rfl rfl ?_)
     have HPP:Hid ((setBlock w' ob (Jd .u64 0 (Vy OL k (.string D)))).heap[ob]?=some (Jd .u64 0 (Vy OL k (.string D)))):=QLh (Jq HOZ.out);have HFF:Hid (Qhg (Vy OL k (.string D)) (Qf7 (Kq g) (pre++[k]))):=QLh (by
      rw[Qe4 pre HOV.out];exact HF.out.put _ D HKU.out)
     have HRR:Hid (Zs (setBlock w' ob (Jd .u64 0 (Vy OL k (.string D)))) pb r2 .u64 zn QL (seen.push (zn+i))):=QLh (HRZ.out.keep (Zh (by have:=HOP.out;omega)) (Zh (by have:=HRO.out;omega)));have HWW:Hid (Below w.heap.size w (setBlock w' ob (Jd .u64 0 (Vy OL k (.string D))))):=QLh (Js HWZ.out HOP.out.2);have HLL:Hid (Ue (setBlock w' ob (Jd .u64 0 (Vy OL k (.string D)))) r2 (zn+QL.length)<Ue wr r2 (zn+QL.length)):=QLh (by have:=HLT.out;rw[HRX9.out.left]at this;rw[HRR.out.left];exact this)
     go_roundw
     case rel=>
      (repeat apply Exists.intro)
      exact⟨⟨_,_,_,HRR,HC1,HPP,HFF,HWW⟩,rfl⟩
     case measure=>exact HLL.out
  ·intro i hi w1 hns hr1 hlt hb1 hsz hoth hen
   have HR1:=QLh hr1;have HRX9:=QLh hr1;have HLT:=QLh hlt;have HC1:Hid (Qfb (Qa3 L) n (seen.push (n+i)) (pre++[L[i].1])):=QLh (HC.out.snoc HM.out.nodup hi hns);have HP1:Hid (w1.heap[pb]?=some (Jd .u64 0 QL)):=QLh ((hoth pb (by have:=HRP.out;omega)).trans HP.out);have HW1:Hid (Below w.heap.size w w1):=QLh (HW.out.trans (hb1 _ (by have:=HRP.out;have:=HBP.out;omega)));obtain⟨d,hd,hg⟩:=HM.out.at i hi;have hku:=HM.out.u64 _ (List.getElem_mem hi);obtain⟨k,hk⟩:∃k,L[i].1=k:=⟨_,rfl⟩;obtain⟨kn,rfl⟩:∃kn:Nat,k=(kn:Nat):=⟨k.toNat,by unfold U64 at hku;omega⟩;rw[hk]at hg hku hen HC1 ⊢;rw[hd]at hen ⊢;have HG:=QLh hg;have hk1:kn<18446744073709551616:=by unfold U64 at hku;omega
   have HKU:=QLh hku;clear hd hg hku hk hns hr1 hlt hb1 hsz hoth;obtain⟨y,hy⟩:∃y,kn % 2=y:=⟨_,rfl⟩;have s3:bits .and .u64 ((kn:Nat):Int) 1=((y:Nat):Int):=by rw[show(1:Int)=((1:Nat):Int)from rfl,u64_and_nat _ _ hk1 (by omega),Nat.and_one_is_mod,hy]
   have HPA:Hid (∀w9,Calls Tryz.prog 228 #[.int .u64 ((kn:Nat):Int)] w9 λ e w'=>e=.returned (.int .u64 (((kn:Nat):Int) / 2))/\w9=w'):=QLh (λ w9=>(QfC ((kn:Nat):Int) w9 (by omega) (by omega)).mono (λ e w' h9=>⟨h9.1,h9.2.symm⟩));go_wp2_with fail;refine(HPA.out w1).mono ?_;rintro e w2 ⟨rfl,rfl⟩;obtain⟨ph,hph⟩:∃ph:Int,((kn:Nat):Int) / 2=ph:=⟨_,rfl⟩;have HPH:=QLh hph;obtain⟨x0,hx0⟩:∃x0,Vv (Qf7 g pre) (2 * ph)=x0:=⟨_,rfl⟩;obtain⟨x1,hx1⟩:∃x1,Vv (Qf7 g pre) (2 * ph+1)=x1:=⟨_,rfl⟩;have HLK:Hid ((QeD QL ph).getD (.agg #[.string ⟨#[]⟩,.string ⟨#[]⟩])=.agg #[.string x0,.string x1]):=QLh (by rw[<-hx0,<-hx1];exact HF.out.look ph);have HX0:=QLh hx0;have HX1:=QLh hx1;rw[hph]at HPA ⊢;clear hph hx0 hx1
   go_upto_region 6 with(at_lookup;refine QaK rfl _ _ 263 23 265 .u64 rfl Tryz.underlying263 Tryz.underlying23 (.agg #[.string ⟨#[]⟩,.string ⟨#[]⟩]) (Tryz.zeroValue265 _) pb 0 _ rfl HP1.out _ rfl ?_;rw[HLK.out])
   obtain⟨q,hq⟩:∃q,w1.heap.size=q:=⟨_,rfl⟩;obtain⟨X,hX⟩:∃X,w1.alloc (Obj.cells #[.string x0,.string x1] 265)=X:=⟨_,rfl⟩;have HQ0:Hid (X.heap[q]?=some (.cells #[.string x0,.string x1] 265 (0,0))):=QLh (by rw[<-hX];exact Qg _ hq);have HRX:Hid (Zs X b r .u64 n L (seen.push (n+i))):=QLh (HR1.out.keep (by rw[<-hX];exact Below.heap_alloc _ _ _ (lt_of_block HR1.out.map)) (by rw[<-hX];exact Below.heap_alloc _ _ _ (lt_of_block HR1.out.iter)));have HPX:Hid (X.heap[pb]?=some (Jd .u64 0 QL)):=QLh (by rw[<-hX];exact Qe HP1.out _);have HWX:Hid (Below w.heap.size w X):=QLh (by rw[<-hX];exact Qf HW1.out _);have HQL:Hid (r<q/\b<q/\pb<q):=QLh ⟨by rw[<-hq];exact lt_of_block HR1.out.iter,by rw[<-hq];exact lt_of_block HR1.out.map,by rw[<-hq];exact lt_of_block HP1.out⟩;rw[hq,hX];clear hq hX HR1 HP1 HW1 HR HC HP HW;have hy2:y<2:=by omega
   obtain⟨v0,hv0⟩:∃v0,(#[Value.string x0,.string x1]:Array Value)[y]?=some v0:=by
    rcases(by omega:y=0 \/ y=1)with rfl | rfl <;> exact⟨_,rfl⟩
   have c0:X.cell? ⟨q,y,none⟩=some v0:=by rw[Qa HQ0.out,hv0]
   have c1:X.frozen? ⟨q,y,none⟩=false:=Qk HQ0.out y;have c2:q<X.heap.size:=lt_of_block HQ0.out;have b1:¬2<=y:=by omega
   have b2:¬(2:Int)<=(y:Int):=by omega
   obtain⟨z0,hz0⟩:∃z0,(if y=0 then d else x0)=z0:=⟨_,rfl⟩;obtain⟨z1,hz1⟩:∃z1,(if y=0 then x1 else d)=z1:=⟨_,rfl⟩;have HZS:Hid ((#[Value.string x0,.string x1]:Array Value).setIfInBounds y (.string d)=#[.string z0,.string z1]):=QLh (by
    rw[<-hz0,<-hz1]
    rcases(by omega:y=0 \/ y=1)with rfl | rfl <;> rfl)
   have HZP:Hid (QmS (Qf7 g pre) ((kn:Nat):Int) d=.agg #[.string z0,.string z1]):=QLh (by
    unfold QmS;rw[HPH.out,HX0.out,HX1.out,<-hz0,<-hz1]
    rcases(by omega:y=0 \/ y=1)with rfl | rfl
    ·rw[if_pos (show((kn:Nat):Int) % 2=0 by omega)];rfl
    ·rw[if_neg (show ¬((kn:Nat):Int) % 2=0 by omega)];rfl)
   clear hv0 hy hy2 hz0 hz1;go_upto_region 7 with fail;clear c0 c1 c2 b1 b2 s3;obtain⟨Y,hY⟩:∃Y,X.setCell ⟨q,y,none⟩ (.string d)=Y:=⟨_,rfl⟩;have HQB:Hid (Y.heap[q]?=some (.cells #[.string z0,.string z1] 265 (0,0))):=QLh (by rw[<-hY,<-HZS.out];exact Qc HQ0.out _);have HRY:Hid (Zs Y b r .u64 n L (seen.push (n+i))):=QLh (HRX.out.keep (by rw[<-hY];exact Below.heap_setCell _ _ _ _ (show b≠q by have:=HQL.out;omega)) (by rw[<-hY];exact Below.heap_setCell _ _ _ _ (show r≠q by have:=HQL.out;omega)));have HPY:Hid (Y.heap[pb]?=some (Jd .u64 0 QL)):=QLh (by rw[<-hY];exact(Below.heap_setCell _ _ _ _ (show pb≠q by have:=HQL.out;omega)).trans HPX.out);have HWY:Hid (Below w.heap.size w Y):=QLh (by rw[<-hY];exact Ji HWX.out (show w.heap.size<=q by have:=HQL.out;have:=HBP.out;omega) _);rw[hY];clear hY HQ0 HRX HPX HWX HZS;have HPB:Hid (∀w9,Calls Tryz.prog 228 #[.int .u64 ((kn:Nat):Int)] w9 λ e w'=>e=.returned (.int .u64 ph)/\Below w9.heap.size w9 w'):=QLh (λ w9=>(HPA.out w9).mono (λ e w' h9=>⟨h9.1,by rw[<-h9.2];exact Below.refl _ _⟩));have HI2:Hid ((Tryz.prog.info? 265).map (·.size)=some (#[Value.string z0,.string z1]:Array Value).size):=QLh (by kernel_rfl);refine Qp 4 1000 (none) (Kx (List.map qv [.map (some pb),.int .u64 (kn:Nat),.int .u64 ph,.agg #[.string z0,.string z1]])) rfl (by kernel_rfl) (by kernel_rfl) (Q9 Xz) (Q6 4 ⟨?s0,?s1,?s2,?s3,trivial⟩) ?_
   case s0=>refine qV (λ _=>rfl) rfl λ av wv hE hO hD=>?_;simp[go_sem,qF av 3 (.map (some pb)) (hO.2.2 3 rfl)]
   case s1=>refine qV (λ _=>rfl) rfl λ av wv hE hO hD=>?_;simp[go_sem,qF av 4 (.int .u64 (kn:Nat)) (hO.2.2 4 rfl)]
   case s2=>refine Qu (λ av wv hE hS hO hD=>⟨rfl,?_⟩);have f27:=qE (hD.1 rfl _ rfl);refine Zb (v:=.int .u64 ph) (by simp[go_sem,f27]) (HPB.out wv) (λ w2 hb=>⟨_,rfl,Qo hb,rfl⟩)
   case s3=>refine Qu (λ av wv hE hS hO hD=>⟨rfl,?_⟩);have h6:av.eval (.tmp 6)=(.pointer (some ⟨q,0,none⟩)):=hO.2.2 6 rfl;exact wp_load_row 265 _ rfl q h6 265 #[.string z0,.string z1] (0,0) _ (Qw hE (by simp) HQB.out) Tryz.underlying265 rfl HI2.out ⟨_,rfl,Qo (Zj _),rfl⟩
   intro a' w' hE hO hall;have hA:=Qn (ds:=[26,27,28,29]) rfl hO (by kernel_rfl);obtain⟨j0,j1,j2,j3,-⟩:=hall;simp only[List.foldl_cons,List.foldl_nil,Act.put,List.setIfInBounds_toArray,List.set_cons_succ,List.set_cons_zero,qJ 26 (j0 _ rfl),qJ 27 (j1 _ rfl),qJ 28 (j2 _ rfl),qJ 29 (j3 _ rfl)]at hA;clear hO j0 j1 j2 j3;subst hA;have hXd:=Q0 hE;have HRZ:Hid (Zs w' b r .u64 n L (seen.push (n+i))):=QLh (HRY.out.keep (hXd.block _ (lt_of_block HRY.out.map)) (hXd.block _ (lt_of_block HRY.out.iter)));have HPZ:Hid (w'.heap[pb]?=some (Jd .u64 0 QL)):=QLh ((hXd.block _ (lt_of_block HPY.out)).trans HPY.out);have HWZ:Hid (Below w.heap.size w w'):=QLh (Qj HWY.out hXd);clear hE hXd HPB HI2 HQB HRY HPY HWY;simp only[List.drop_succ_cons,List.drop_zero]
   go_wp2_with (at_mapUpdate;refine J2 rfl _ _ _ 263 23 265 .u64 rfl Tryz.underlying263 Tryz.underlying23 pb 0 _ rfl HPZ.out _ _ rfl rfl ?_)
   have HPP:Hid ((setBlock w' pb (Jd .u64 0 (Vy QL ph (.agg #[.string z0,.string z1])))).heap[pb]?=some (Jd .u64 0 (Vy QL ph (.agg #[.string z0,.string z1])))):=QLh (Jq HPZ.out);have HFF:Hid (Qb9 (Vy QL ph (.agg #[.string z0,.string z1])) (Qf7 g (pre++[((kn:Nat):Int)]))):=QLh (by
    rw[Qe4 pre HG.out,<-HZP.out,<-HPH.out];exact HF.out.put _ d HKU.out)
   have HRR:Hid (Zs (setBlock w' pb (Jd .u64 0 (Vy QL ph (.agg #[.string z0,.string z1])))) b r .u64 n L (seen.push (n+i))):=QLh (HRZ.out.keep (Zh (by have:=HBP.out;omega)) (Zh (by have:=HRP.out;omega)));have HWW:Hid (Below w.heap.size w (setBlock w' pb (Jd .u64 0 (Vy QL ph (.agg #[.string z0,.string z1]))))):=QLh (Js HWZ.out HBP.out.2);have HLL:Hid (Ue (setBlock w' pb (Jd .u64 0 (Vy QL ph (.agg #[.string z0,.string z1])))) r (n+L.length)<Ue wr r (n+L.length)):=QLh (by have:=HLT.out;rw[HRX9.out.left]at this;rw[HRR.out.left];exact this)
   go_roundw
   case rel=>
    (repeat apply Exists.intro)
    exact⟨⟨_,_,_,HRR,HC1,HPP,HFF,HWW⟩,rfl⟩
   case measure=>exact HLL.out
end
section
open Go.RowKit Go.ChangeMaps
theorem QnD(n:Int)(ps:List Int)(es ds:List ByteArray)(pa ea da:Option Addr)(pc ec dc:Nat)(w:World)(hp:QaO w pa ps)(hl:len ps<=100)(h0:-9223372036854775808<=n)(h1:n<=9223372036854775807)(hb:¬QdG n ps es)(hle:len es<=1000000):
  Calls Tryz.prog 102 #[.int .i64 n,.slice pa (len ps) pc,.slice ea (len es) ec,.slice da (len ds) dc] w (Qeu n ps es ds w):=by
 have HE:Hid (X4 n ps es ds=2/\Yl n ps es ds=⟨#[]⟩):=QLh (by
  have h9:X4 n ps es ds=2:=by unfold X4;rw[if_pos hb]
  exact⟨h9,by unfold Yl;rw[h9];rfl⟩)
 have HM:=QLh (λ w9 hb9=>Qhc n ps pa pc w9 (hp.below hb9) (by omega) h0 h1)
 by_cases hs:Ki n ps
 ·have hne:¬len es=len ps:=λ h9=>hb ⟨hs,h9⟩
  have z1:¬((len es:Nat):Int)=((len ps:Nat):Int):=by omega
  rw[decide_eq_true hs]at HM;clear hb hs hp hl h0 h1 hne hle
  go_enter Tryz.func102,Tryz.ntmps102
  go_wp2_with fail;refine(HM.out _ (Qf (Below.refl _ _) _)).mono ?_;rintro e w1 ⟨rfl,hb1⟩;have HB1:Hid (Below w.heap.size w w1):=QLh (Qj (Qf (Below.refl _ _) _) hb1);clear hb1;go_wp2
  go_ret2
  exact⟨by rw[HE.out.1,HE.out.2];rfl,HB1.out⟩
 ·rw[decide_eq_false hs]at HM
  clear hb hs hp hl h0 h1 hle
  go_enter Tryz.func102,Tryz.ntmps102
  go_wp2_with fail;refine(HM.out _ (Qf (Below.refl _ _) _)).mono ?_;rintro e w1 ⟨rfl,hb1⟩;have HB1:Hid (Below w.heap.size w w1):=QLh (Qj (Qf (Below.refl _ _) _) hb1);clear hb1;go_wp2
  go_ret2
  exact⟨by rw[HE.out.1,HE.out.2];rfl,HB1.out⟩
theorem QlA(n:Int)(ps:List Int)(es ds:List ByteArray)(pa ea da:Option Addr)(pc ec dc:Nat)(w:World)(hp:QaO w pa ps)(hd:Jk w da ds)(hl:len ps<=100)(hld:len ds<=1000000)(h0:-9223372036854775808<=n)(h1:n<=9223372036854775807)(hb:QdG n ps es)(hbad:Qmq ds=true):
  Calls Tryz.prog 102 #[.int .i64 n,.slice pa (len ps) pc,.slice ea (len es) ec,.slice da (len ds) dc] w (Qeu n ps es ds w):=by
 have HE:Hid (X4 n ps es ds=5/\Yl n ps es ds=⟨#[]⟩):=QLh (by
  have h9:X4 n ps es ds=5:=by unfold X4;rw[if_neg (λ h=>h hb),if_pos hbad]
  exact⟨h9,by unfold Yl;rw[h9];rfl⟩)
 have HM:=QLh (λ w9 hb9=>Qhc n ps pa pc w9 (hp.below hb9) (by omega) h0 h1);rw[decide_eq_true hb.1]at HM;have hel:=hb.2;have HBD:=QLh (λ w9 hb9=>QoH da dc ds w9 (hd.below hb9) (by omega));rw[hbad]at HBD;clear hb hp hl h0 h1 hbad hld hd
 go_enter Tryz.func102,Tryz.ntmps102
 rw[hel];go_upto_region 1 with fail;obtain⟨pb,hpb⟩:∃pb,w.heap.size=pb:=⟨_,rfl⟩;obtain⟨V,hV⟩:∃V,w.alloc (.cells #[.slice da (len ds) dc] 36)=V:=⟨_,rfl⟩;have HVP:Hid (V.heap[pb]?=some (.cells #[.slice da (len ds) dc] 36 (0,0))):=QLh (by rw[<-hV];exact Qg _ hpb);have HVW:Hid (Below w.heap.size w V):=QLh (by rw[<-hV];exact Qf (Below.refl _ _) _);rw[hpb,hV];clear hV hpb;go_wp2_with fail;refine(HM.out _ HVW.out).mono ?_;rintro e w1 ⟨rfl,hb1⟩;have HP1:Hid (w1.heap[pb]?=some (.cells #[.slice da (len ds) dc] 36 (0,0))):=QLh ((hb1.block _ (lt_of_block HVP.out)).trans HVP.out);have HB1:Hid (Below w.heap.size w w1):=QLh (Qj HVW.out hb1);clear hb1;have c0:w1.cell? ⟨pb,0,none⟩=some (.slice da (len ds) dc):=by rw[Qa HP1.out];rfl
 have c2:pb<w1.heap.size:=lt_of_block HP1.out;go_wp2_with fail;refine(HBD.out w1 HB1.out).mono ?_;rintro e w2 ⟨rfl,rfl⟩;clear c0 c2;go_wp2
 go_ret2
 exact⟨by rw[HE.out.1,HE.out.2];rfl,HB1.out⟩
end
section
open Go.RowKit Go.ChangeMaps
def QtX(pb:Nat)(a:Option Addr)(ds:List ByteArray)(w:World)(e:Ending)(w':World):Prop:=∃a' c',e=.returned (.string (tth ds 0))/\w'=w.setCell ⟨pb,0,none⟩ (.slice a' (len ds - 1) c')/\len ds - 1<=c'/\(∀w9,Jk w9 a ds->Jk w9 a' (ds.drop 1))
theorem QfY{w:World}{b off:Nat}{ds:List ByteArray}(h:Jk w (some ⟨b,off,none⟩) ds):Jk w (some ⟨b,off+1,none⟩) (ds.drop 1):=λ i hi=>by
 have h1:i<(ds.drop 1).length:=hi;rw[List.length_drop]at h1;obtain⟨b2,off2,e,hc⟩:=h (i+1) (by omega:i+1<ds.length)
 cases e
 refine⟨b,off+1,rfl,?_⟩;rw[Ud,Nat.add_assoc,Nat.add_comm 1 i];exact hc
theorem Qna(pb:Nat)(a:Option Addr)(c:Nat)(ds:List ByteArray)(w:World)(hb:w.heap[pb]?=some (.cells #[.slice a (len ds) c] 36 (0,0)))(ht:Jk w a ds)(h0:0<len ds)(hc:len ds<=c):
  Calls Tryz.prog 169 #[.pointer (some ⟨pb,0,none⟩)] w (QtX pb a ds w):=by
 obtain⟨b,off,rfl,hcell⟩:=ht 0 h0;have c0:w.cell? ⟨pb,0,none⟩=some (.slice (some ⟨b,off,none⟩) (len ds) c):=by rw[Qa hb];rfl
 have c1:w.frozen? ⟨pb,0,none⟩=false:=Qk hb 0;have c2:pb<w.heap.size:=lt_of_block hb;have l1:=Ql hcell;have z0:(0:Int)<(len ds:Int):=by omega
 have z1:¬len ds<=0:=by omega
 rw[Nat.add_zero]at hcell;clear hb ht
 go_enter Tryz.func169,Tryz.ntmps169
 go_wp2_with fail
 ·skip
  go_ret;refine⟨_,_,rfl,rfl,by omega,λ w9 h9=>?_⟩;rw[show ds.drop 1=[]from List.drop_eq_nil_of_le (by have:len ds=ds.length:=rfl;omega)];exact Jk.nil _ _
 ·skip
  go_ret;exact⟨_,_,rfl,rfl,by omega,λ w9 h9=>QfY h9⟩
end
section
open Go.RowKit Go.ChangeMaps
theorem Qft(ps:List Int)(d:Int)(m:Nat)(h:m<len ps):nth (Qr ps d) m=Zt (nth ps m) d:=by have h2:m<ps.length:=h;unfold Qr nth;simp[h2]
structure Qfc(mb:Nat)(g:KnF)(w:World):Prop where
 at_:QiO mb 0 g w
 small:SmF g
theorem Qfc.keep{mb:Nat}{g:KnF}{w w':World}(h:Qfc mb g w)(hk:w'.heap[mb]?=w.heap[mb]?):Qfc mb g w':=by obtain⟨⟨L,h1,h2⟩,h3⟩:=h;exact⟨⟨L,hk.trans h1,h2⟩,h3⟩
theorem Qfc.lt{mb:Nat}{g:KnF}{w:World}(h:Qfc mb g w):mb<w.heap.size:=by obtain⟨⟨L,h1,h2⟩,h3⟩:=h;exact lt_of_block h1
theorem QhH{wr W4:World}{T:TypeId}{base b n size:Nat}{v:Value}{xs:List Value}(h:wr.ownsRow base T size v n xs)(hg:wr.grownBy W4 v.ownBlock)(hb:b<base)(hl:b<wr.heap.size):W4.heap[b]?=wr.heap[b]?:=
 hg.block b hl (λ e=>by have:=(h.lt b e.symm).1;omega)
theorem Qcs{l:List Int}{m:Nat}(h:m<len l):l.take (m+1)=l.take m++[nth l m]:=by have h2:m<l.length:=h;rw[List.take_succ_eq_append_getElem h2,Jb l m h2]
theorem QhK{w:World}{base n:Nat}{T:TypeId}{size:Nat}{v:Value}{xs:List Value}{p:Nat}(h:w.ownsRow base T size v n xs)(hp:p<base)(o:Obj):(setBlock w p o).ownsRow base T size v n xs:=by
 refine⟨h.1,?_⟩
 rcases h.2 with h2 | ⟨g,cap,cur,rfl,hg,hgb,h3⟩
 ·exact .inl h2
 ·exact .inr ⟨g,cap,cur,rfl,hg,(Zh (by omega)).trans hgb,h3⟩
def QuY(B:Nat)(w:World)(a:Option Addr)(rs:List (List Int)):Prop:=
 ∀m,m<len rs->∃rb ro ra rc,a=some ⟨rb,ro,none⟩/\B<=rb/\w.cell? ⟨rb,ro+m,none⟩=some (.slice ra (len (Jj rs m)) rc)/\∀q,q<len (Jj rs m)->∃ub uo,ra=some ⟨ub,uo,none⟩/\B<=ub/\w.cell? ⟨ub,uo+q,none⟩=some (.int .u64 (nth (Jj rs m) q))
theorem Qqs{w:World}{B:Nat}{v:Value}{vals:List Value}{rs:List (List Int)}(h:w.ownsRow B 64 1 v vals.length vals)(hr:Z7 w B vals rs):∃a cap,v=.slice a (len rs) cap/\QuY B w a rs:=by
 have hl:vals.length=len rs:=hr.1
 rcases h.2 with⟨rfl,h2⟩ | ⟨g,cap,cur,rfl,hg,hgb,_⟩
 ·exact⟨none,0,by rw[<-hl,h2],λ m hm=>by omega⟩
 ·refine⟨some ⟨g,0,none⟩,cap,by rw[hl],λ m hm=>?_⟩
  have hm2:m<rs.length:=hm;obtain⟨u,h1,h2⟩:=hr.2 m hm2;have hc:=h.cellAt m (by omega);rw[h1]at hc;rw[<-K7 rs m hm2]at h2;obtain⟨ra,rc,rfl,hU,_,_⟩:=Qb7 h2;refine⟨g,0,ra,rc,rfl,hg,by rw[Nat.zero_add];exact hc,λ q hq=>?_⟩;obtain⟨ub,uo,rfl,hcq⟩:=hU q hq;refine⟨ub,uo,rfl,?_,hcq⟩;exact(h2.lt ub rfl).1
def Qaf(B:Nat)(w w':World):Prop:=∀b,B<=b->b<w.heap.size->w'.heap[b]?=w.heap[b]?
theorem Qaf.refl(B:Nat)(w:World):Qaf B w w:=λ b _ _=>rfl
theorem Qaf.cell{B:Nat}{w w':World}(h:Qaf B w w'){b o:Nat}{v:Value}(hb:B<=b)(hc:w.cell? ⟨b,o,none⟩=some v):w'.cell? ⟨b,o,none⟩=some v:=
 (World.cell?_of_block (w:=w) (h b hb (Ql hc))).trans hc
theorem Qaf.bel{B:Nat}{w w' w2:World}(h:Qaf B w w')(hs:w.heap.size<=w'.heap.size)(hb:Below w'.heap.size w' w2):Qaf B w w2:=λ b h1 h2=>(hb.block b (by omega)).trans (h b h1 h2)
theorem Qaf.set{B:Nat}{w w':World}(h:Qaf B w w'){p:Nat}(hp:p<B)(k:Nat)(v:Value):Qaf B w (w'.setCell ⟨p,k,none⟩ v):=λ b h1 h2=>(Below.heap_setCell _ _ _ _ (by omega:b≠p)).trans (h b h1 h2)
theorem Qaf.map{B:Nat}{w w':World}(h:Qaf B w w'){p:Nat}(hp:p<B \/ w.heap.size<=p)(o:Obj):Qaf B w (setBlock w' p o):=λ b h1 h2=>(Zh (by omega)).trans (h b h1 h2)
theorem Qcc{rs:List (List Int)}(h:∀i,len (Jj rs i)<=100):∀m,m<=len rs->Xp rs m<=100 * m
 | 0,_=>Nat.le_refl _
 | m+1,hm=>by rw[Jw rs m (by omega)];have:=Qcc h m (by omega);have:=h m;omega
theorem Qfc.put{mb:Nat}{g:KnF}{w:World}{L:List (Int × Value)}(hl:w.heap[mb]?=some (Jd .u64 0 L))(hm:Qhg L g)(hs:SmF g){t:Int}{D:ByteArray}(ht:U64 t)(hd:D.size<=1000):Qfc mb (QcF g t D) (setBlock w mb (Jd .u64 0 (Vy L t (.string D)))):=
 ⟨⟨_,Jq hl,hm.put t D ht⟩,hs.put t D hd⟩
theorem QrX{ps:List Int}{d i:Nat}{t:Int}(hd:d<=16)(hi:i<d)(h:t ∈ Jj (Za (Qr ps (d:Nat)) d) i):U64 t:=by
 obtain⟨⟨y,hy,rfl⟩,_⟩:=(QbE _ d i hi t).1 h;obtain⟨h1,h2⟩:=Kc hd y hy;have h3:=QgX h1 h2 (Nat.le_of_lt hi);obtain⟨e,he⟩:∃e,d - i=e+1:=⟨d - i - 1,by omega⟩;rw[he]at h3;have h4:=Qkc h3.1 h3.2;have h5:(2:Int) ^ (e+1)<=65536:=by rw[Zr];have:2 ^ (e+1)<=65536:=Nat.pow_le_pow_right (n:=2) (by decide) (by omega:e+1<=16);omega
 unfold U64;omega
theorem QlP(nn:Nat)(ps:List Int)(es ds:List ByteArray)(pa ea da:Option Addr)(pc ec dc:Nat)(w:World)(hp:QaO w pa ps)(he:Jk w ea es)(hd:Jk w da ds)(hl:len ps<=12)(hu:∀k ∈ ps,U64 k)(hld:len ds<=1000000)(hdc:len ds<=dc)(hez:∀i,i<len es->(tth es i).size<=1000000)(hb:QdG (nn:Nat) ps es)(hbad:Qmq ds=false):
  Calls Tryz.prog 102 #[.int .i64 (nn:Nat),.slice pa (len ps) pc,.slice ea (len es) ec,.slice da (len ds) dc] w (Qeu (nn:Nat) ps es ds w):=by
 have hn16:nn<=65536:=by have:=hb.1.2.1;omega
 obtain⟨d,hdd⟩:∃d:Nat,Lib.bitLen (nn - 1)=d:=⟨_,rfl⟩;have hdz:Xy (nn:Nat)=(d:Nat):=by unfold Xy;rw[if_neg (by omega),Int.toNat_natCast,hdd]
 have hdb:=Qci nn hn16;rw[hdd]at hdb;have HD16:Hid (d<=16):=QLh hdb.1;obtain⟨lv,hlv⟩:∃lv,Qr ps (d:Nat)=lv:=⟨_,rfl⟩;have HLN:Hid (len lv=len ps):=QLh (by rw[<-hlv,Xf]);have HLU:Hid (∀k ∈ lv,U64 k):=QLh (by rw[<-hlv];exact Qan ps _);obtain⟨rs,hrs⟩:∃rs,Za lv d=rs:=⟨_,rfl⟩;have HNR:Hid (Z4 lv (d:Nat)=rs):=QLh (by rw[<-hrs,<-hlv];exact Qek hdb.1 hb.1.2.2);have HRL:Hid (len rs=d):=QLh (by rw[<-hrs,Ui]);have HLV:=QLh hlv;have HRS:=QLh hrs;have HNM:Hid ((∀i,len (Jj rs i)<=100)/\(Xu rs).length<=1600):=QLh (by
  rw[<-HNR.out];exact⟨Qe0 _ _ (by rw[HLN.out];omega),Qjk _ _ (by rw[HLN.out];omega)⟩)
 have HRP:Hid (Qd7 (nn:Nat) ps=rs):=QLh (by unfold Qd7;rw[hdz,hlv];exact HNR.out);have HDP:Hid (QrZ (nn:Nat) ps es ds=Vv (Qfi (g0F lv es) rs ds) 0):=QLh (by unfold QrZ;rw[HRP.out,hdz,hlv]);have HNP:Hid (U4 (nn:Nat) ps=Xp rs (len rs)):=QLh (by unfold U4;rw[HRP.out]);have HM:=QLh (λ w9 hb9=>Qhc (nn:Nat) ps pa pc w9 (hp.below hb9) (by omega) (by omega) (by omega));rw[decide_eq_true hb.1]at HM;have hel:=hb.2;have HBD:=QLh (λ w9 hb9=>QoH da dc ds w9 (hd.below hb9) (by omega));rw[hbad]at HBD;have HDE:=QLh (λ w9=>Qir (nn:Nat) w9 (by omega) (by omega));rw[hdz]at HDE;have HLF:=QLh (λ k (hk:U64 k) w9=>QjV k (d:Nat) w9 hk.1 hk.2);have HP:=QLh hp;have HES:=QLh he;have HDS:=QLh hd;have HU:=QLh hu;have HL100:=QLh hl;have HEZ:=QLh hez;have HEL:=QLh hel;have HLD:=QLh hld;have HDC:=QLh hdc;have HARG:=QLh hb;have HBADF:=QLh hbad;obtain⟨i0,hi,hz0,hz1,hz2⟩:=info_parts Qbh;have HZ0:=QLh hz0;clear hp he hd hl hu hld hdc hez hb hbad hn16 hdd hdz hdb hlv hrs hel hz0
 go_enter Tryz.func102,Tryz.ntmps102
 rw[HEL.out];go_upto_region 1 with fail;obtain⟨pb,hpb⟩:∃pb,w.heap.size=pb:=⟨_,rfl⟩;obtain⟨V,hV⟩:∃V,w.alloc (.cells #[.slice da (len ds) dc] 36)=V:=⟨_,rfl⟩;have HVP:Hid (V.heap[pb]?=some (.cells #[.slice da (len ds) dc] 36 (0,0))):=QLh (by rw[<-hV];exact Qg _ hpb);have HVW:Hid (Below w.heap.size w V):=QLh (by rw[<-hV];exact Qf (Below.refl _ _) _);have HPB:Hid (w.heap.size<=pb):=QLh (Nat.le_of_eq hpb);rw[hpb,hV];clear hV hpb;go_wp2_with fail;refine(HM.out _ HVW.out).mono ?_;rintro e w1 ⟨rfl,hb1⟩;have HP1:Hid (w1.heap[pb]?=some (.cells #[.slice da (len ds) dc] 36 (0,0))):=QLh ((hb1.block _ (lt_of_block HVP.out)).trans HVP.out);have HB1:Hid (Below w.heap.size w w1):=QLh (Qj HVW.out hb1);clear hb1 HVP HVW HM;have c0:w1.cell? ⟨pb,0,none⟩=some (.slice da (len ds) dc):=by rw[Qa HP1.out];rfl
 have c2:pb<w1.heap.size:=lt_of_block HP1.out;go_wp2_with fail;refine(HBD.out w1 HB1.out).mono ?_;rintro e w2 ⟨rfl,rfl⟩;clear c0 c2 HBD;go_wp2_with fail;refine(HDE.out w1).mono ?_;rintro e w2 ⟨rfl,rfl⟩;have hmm:=@run_makeMap Tryz.prog;go_upto_region 9 with fail;clear hmm HDE;obtain⟨mb,hmb⟩:∃mb,w1.heap.size=mb:=⟨_,rfl⟩;obtain⟨V,hV⟩:∃V,w1.alloc (Obj.map #[] 0)=V:=⟨_,rfl⟩;have HVM:Hid (Qfc mb (Vx noF (lv.take 0) (Qc0 es)) V):=QLh ⟨⟨[],by rw[<-hV];exact Qg _ hmb,by rw[List.take_zero];exact Qhg.nil⟩,by rw[List.take_zero];exact SmF.no⟩;have HVP:Hid (V.heap[pb]?=some (.cells #[.slice da (len ds) dc] 36 (0,0))):=QLh (by rw[<-hV];exact Qe HP1.out _);have HVW:Hid (Below w.heap.size w V):=QLh (by rw[<-hV];exact Qf HB1.out _);have HMB:Hid (pb<mb/\w.heap.size<=mb):=QLh ⟨by rw[<-hmb];exact lt_of_block HP1.out,by rw[<-hmb];exact HB1.out.size⟩;obtain⟨B,hB⟩:∃B,V.heap.size=B:=⟨_,rfl⟩;have HBM:Hid (mb<B):=QLh (by rw[<-hB];exact HVM.out.lt);have HVB:Hid (B<=V.heap.size):=QLh (Nat.le_of_eq hB.symm);rw[hmb,hV];clear hV hmb HB1 HP1 hB
 go_loopg [45,12] (len ps) (λ g i v wr=>∃m:Nat,g+m=len ps/\i=.int .i64 m/\Hid (wr.ownsRow B 23 1 v m ((lv.take m).map (Value.int .u64)))/\Hid (Qfc mb (Vx noF (lv.take m) (Qc0 es)) wr)/\Hid (wr.heap[pb]?=some (.cells #[.slice da (len ds) dc] 36 (0,0)))/\Hid (Below w.heap.size w wr)/\Hid (B<=wr.heap.size))
 case atStart=>exact⟨0,rfl,rfl,QLh (World.ownsRow_nil _ _ _ _),HVM,HVP,HVW,HVB⟩
 case round=>
  clear HVM HVP HVW HVB;obtain⟨m,hm,rfl,HO,HG,HPX,HW,HBS⟩:=hrel;have HNN:=HL100.out
  by_cases hlt:m<len ps
  ·have b0:(m:Int)<len ps:=by omega
   have b1:¬len ps<=m:=by omega
   obtain⟨b,off,hra,hcell⟩:=HP.out.below HW.out m hlt;subst hra;obtain⟨eb,eo,hea,hcel⟩:=HES.out.below HW.out m (by rw[HEL.out];exact hlt);subst hea;obtain⟨k,hk⟩:∃k,nth ps m=k:=⟨_,rfl⟩;have hku:U64 k:=by rw[<-hk];exact HU.out _ (Vk hlt)
   obtain⟨s,hs⟩:∃s,tth es m=s:=⟨_,rfl⟩;have HSZ:Hid (s.size<=1000000):=QLh (by rw[<-hs];exact HEZ.out m (by rw[HEL.out];exact hlt));obtain⟨t,ht⟩:∃t,Zt k (d:Nat)=t:=⟨_,rfl⟩;have HSS:=QLh hs;have HTN:Hid (nth lv m=t):=QLh (by rw[<-HLV.out,Qft ps _ m hlt,hk,ht]);have HTU:Hid (U64 t):=QLh (by rw[<-HTN.out];exact HLU.out _ (Vk (by rw[HLN.out];exact hlt)));have HLK:=QLh (HLF.out k hku wr);rw[ht]at HLK;have HLD9:Hid (tth (Qc0 es) m=Xi Kf [s]):=QLh (by rw[Qgy es m (by rw[HEL.out];exact hlt),hs]);rw[hk]at hcell;rw[hs]at hcel;have l1:=Ql hcell;have HCE:=QLh hcel;clear hk hku hs ht hcel;go_upto_region 11 with fail;clear hcell l1;go_wp2_with fail;refine HLK.out.mono ?_;rintro e w2 ⟨rfl,rfl⟩
   go_upto_region 13 with(at_builtin;refine wpList_append_own _ rfl _ _ 64 rfl B 23 i0 (.int .u64 0) 1 8 Tryz.underlying64 hi HZ0.out hz1 hz2 rfl (by decide) _ _ _ rfl (HO.out.alloc _) ⟨wr.heap.size,0,none⟩ 1 1 [.int .u64 t] rfl rfl (World.news_of_block (heap_alloc_new _ _)) (by intro u hu9;simp at hu9;subst hu9;rfl) (by unfold maxLen;omega) (by omega) (by have:=HBS.out;simp;omega) ?_;intro v2 w4 hown2 hgrow2 _)
   have HX9:Hid (Below wr.heap.size wr (wr.alloc (.cells #[.int .u64 t] 23))):=QLh (Qf (Below.refl _ _) _);have HO4:Hid (w4.ownsRow B 23 1 v2 (m+1) ((lv.take (m+1)).map (Value.int .u64))):=QLh (by
    rw[Qcs (by rw[HLN.out];exact hlt),HTN.out,List.map_append];exact hown2)
   have HG4:Hid (Qfc mb (Vx noF (lv.take m) (Qc0 es)) w4):=QLh (HG.out.keep ((QhH (HO.out.alloc _) hgrow2 HBM.out (by have:=HG.out.lt;simp;omega)).trans (HX9.out.block _ HG.out.lt)));have HP4:Hid (w4.heap[pb]?=some (.cells #[.slice da (len ds) dc] 36 (0,0))):=QLh (((QhH (HO.out.alloc _) hgrow2 (by have:=HBM.out;have:=HMB.out;omega) (by have:=lt_of_block HPX.out;simp;omega)).trans (HX9.out.block _ (lt_of_block HPX.out))).trans HPX.out);have HW4:Hid (Below w.heap.size w w4):=QLh (Qq (Qf HW.out _) hgrow2 (λ k hk'=>Nat.le_trans (Nat.le_trans HMB.out.2 (Nat.le_of_lt HBM.out)) (HO.out.lt k hk').1));have HB4:Hid (B<=w4.heap.size):=QLh (by have h9:=hgrow2.size;have:=HBS.out;simp at h9;omega);clear hown2 hgrow2 HX9 HO HG HPX HW HBS HLK HCE;obtain⟨eb2,eo2,he2,hcel2⟩:=HES.out.below HW4.out m (by rw[HEL.out];exact hlt)
   cases he2
   rw[HSS.out]at hcel2;have l2:=Ql hcel2;have HELL:=HEL.out;have b3:(m:Int)<(len es:Int):=by omega
   have b4:¬len es<=m:=by omega
   go_wp2_with fail;refine(Qn7 Kf s w4 (by decide) (by decide) HSZ.out).mono ?_;rintro e w5 ⟨rfl,hb5⟩;clear hcel2 l2 b3 b4 HELL;have HO5:Hid (w5.ownsRow B 23 1 v2 (m+1) ((lv.take (m+1)).map (Value.int .u64))):=QLh (Qs HO4.out hb5);have HG5:Hid (Qfc mb (Vx noF (lv.take m) (Qc0 es)) w5):=QLh (HG4.out.keep (hb5.block _ HG4.out.lt));have HP5:Hid (w5.heap[pb]?=some (.cells #[.slice da (len ds) dc] 36 (0,0))):=QLh ((hb5.block _ (lt_of_block HP4.out)).trans HP4.out);have HW5:Hid (Below w.heap.size w w5):=QLh (Qj HW4.out hb5);have HB5:Hid (B<=w5.heap.size):=QLh (Nat.le_trans HB4.out hb5.size);obtain⟨⟨L,hL,hmf⟩,hsm⟩:=HG5.out;have HLL:=QLh hL;have HMF:=QLh hmf;have HSM:=QLh hsm;obtain⟨D,hD⟩:∃D,Xi Kf [s]=D:=⟨_,rfl⟩;have HDZ9:Hid (D.size<=1000):=QLh (by rw[<-hD,Kl];omega);have HAF:Hid (Vx noF (lv.take (m+1)) (Qc0 es)=QcF (Vx noF (lv.take m) (Qc0 es)) t D):=QLh (by rw[Qa4 _ _ _ m (by rw[HLN.out];exact hlt),HTN.out,HLD9.out,hD]);rw[hD];clear hb5 hL hmf hsm hD HO4 HG4 HP4 HW4 HB4 HG5
   go_upto_region 14 with(at_mapUpdate;refine J2 rfl _ _ _ 200 23 9 .u64 rfl Tryz.underlying200 Tryz.underlying23 mb 0 _ rfl HLL.out t (.string D) rfl rfl ?_)
   obtain⟨U,hU⟩:∃U,setBlock w5 mb (Jd .u64 0 (Vy L t (.string D)))=U:=⟨_,rfl⟩;have HG6:Hid (Qfc mb (Vx noF (lv.take (m+1)) (Qc0 es)) U):=QLh (by rw[HAF.out,<-hU];exact Qfc.put HLL.out HMF.out HSM.out HTU.out HDZ9.out);have HO6:Hid (U.ownsRow B 23 1 v2 (m+1) ((lv.take (m+1)).map (Value.int .u64))):=QLh (by rw[<-hU];exact QhK HO5.out HBM.out _);have HP6:Hid (U.heap[pb]?=some (.cells #[.slice da (len ds) dc] 36 (0,0))):=QLh (by rw[<-hU];exact(Zh (by have:=HMB.out;omega)).trans HP5.out);have HW6:Hid (Below w.heap.size w U):=QLh (by rw[<-hU];exact Js HW5.out HMB.out.2);have HB6:Hid (B<=U.heap.size):=QLh (by rw[<-hU,Vb];exact HB5.out);rw[hU];clear hU HO5 HP5 HW5 HB5 HLL;go_wp2
   go_roundg (len ps - (m+1))
   case rel=>exact⟨m+1,by omega,by go_num,HO6,HG6,HP6,HW6,HB6⟩
   case measure=>omega
  ·obtain rfl:m=len ps:=by omega
   have b0:¬((len ps:Nat):Int)<len ps:=by omega
   have HGZ:Hid (Qfc mb (g0F lv es) wr):=QLh (by
    have h9:=HG.out;rw[show lv.take (len ps)=lv by rw[<-HLN.out,Xh]]at h9;exact h9)
   have HOZ:Hid (wr.ownsRow B 23 1 u12 (len ps) (lv.map (Value.int .u64))):=QLh (by
    have h9:=HO.out;rw[show lv.take (len ps)=lv by rw[<-HLN.out,Xh]]at h9;exact h9)
   obtain⟨al,cl,rfl,hUl,_,_⟩:=Qb7 HOZ.out;have HND:=QLh (Qht al cl lv (d:Nat) wr hUl (by rw[HLN.out];exact HL100.out) HLU.out);rw[HNR.out]at HND;clear hUl HO HG HOZ hm;go_wp2_with fail;refine HND.out.mono ?_;rintro e w3 ⟨v,vals,rfl,hr1,hr2,hb3⟩;obtain⟨a3,cap3,rfl,hRU⟩:=Qqs hr1 hr2;have HRU:=QLh hRU;obtain⟨B2,hB2⟩:∃B2,wr.heap.size=B2:=⟨_,rfl⟩;rw[hB2]at HRU;have HB2:Hid (mb<B2/\pb<B2):=QLh ⟨by rw[<-hB2];exact HGZ.out.lt,by rw[<-hB2];exact lt_of_block HPX.out⟩;have HG3:Hid (Qfc mb (g0F lv es) w3):=QLh (HGZ.out.keep (hb3.block _ HGZ.out.lt));have HP3:Hid (w3.heap[pb]?=some (.cells #[.slice da (len ds) dc] 36 (0,0))):=QLh ((hb3.block _ (lt_of_block HPX.out)).trans HPX.out);have HW3:Hid (Below w.heap.size w w3):=QLh (Qj HW.out hb3);have HB23:Hid (B2<=w3.heap.size):=QLh (by rw[<-hB2];exact hb3.size);clear hr1 hr2 hRU hB2 hb3 HND HGZ HPX HW HBS;go_upto_region 18 with fail
   go_loopg [71,17] (len rs) (λ g i v wr=>∃m:Nat,g+m=len rs/\i=.int .i64 m/\v=.int .i64 (Xp rs m:Nat)/\wr=w3)
   case atStart=>exact⟨0,rfl,rfl,rfl,rfl⟩
   case round=>
    obtain⟨m,hm,rfl,rfl,rfl⟩:=hrel;have hr16:len rs<=16:=by have:=HRL.out;have:=HD16.out;omega
    by_cases hlt:m<len rs
    ·have b1:(m:Int)<len rs:=by omega
     have b2:¬len rs<=m:=by omega
     obtain⟨rb,ro,ra,rc,hra3,_,hrc,_⟩:=HRU.out m hlt;subst hra3;have l1:=Ql hrc;have HN9:Hid (Xp rs (m+1)=Xp rs m+len (Jj rs m)):=QLh (Jw rs m hlt);have hub:Xp rs m+len (Jj rs m)<=1600:=by rw[<-Jw rs m hlt];have:=Qcc HNM.out.1 (m+1) (by omega);omega
     obtain⟨u,hu⟩:∃u,Xp rs m=u:=⟨_,rfl⟩;obtain⟨q,hq⟩:∃q,len (Jj rs m)=q:=⟨_,rfl⟩;rw[hu,hq]at hub HN9;rw[hq]at hrc;rw[hu];clear hu hq;go_wp2
     go_roundg (len rs - (m+1))
     case rel=>exact⟨m+1,by omega,by go_num,by rw[HN9.out];go_num,rfl⟩
     case measure=>omega
    ·obtain rfl:m=len rs:=by omega
     have b1:¬((len rs:Nat):Int)<len rs:=by omega
     have hub:Xp rs (len rs)<=1600:=by have:=Qcc HNM.out.1 (len rs) (Nat.le_refl _);omega
     obtain⟨N,hN⟩:∃N,Xp rs (len rs)=N:=⟨_,rfl⟩;have HNN:=QLh hN;rw[hN]at hub HNP ⊢;have HUB:=QLh hub;clear hN hub hm hr16;have c0:wr.cell? ⟨pb,0,none⟩=some (.slice da (len ds) dc):=by rw[Qa HP3.out];rfl
     have c2:pb<wr.heap.size:=lt_of_block HP3.out
     by_cases hlt4:len ds<N
     ·have z1:((len ds:Nat):Int)<((N:Nat):Int):=by omega
      have HE:Hid (X4 (nn:Nat) ps es ds=4/\Yl (nn:Nat) ps es ds=⟨#[]⟩):=QLh (by
       have h9:X4 (nn:Nat) ps es ds=4:=by unfold X4;rw[if_neg (λ h=>h HARG.out),if_neg (by rw[HBADF.out];simp),HNP.out,if_pos hlt4]
       exact⟨h9,by unfold Yl;rw[h9];rfl⟩)
      clear hlt4;go_wp2
      go_ret2
      exact⟨by rw[HE.out.1,HE.out.2];rfl,HW3.out⟩
     ·have z1:¬((len ds:Nat):Int)<((N:Nat):Int):=by omega
      by_cases hlt3:N<len ds
      ·have z2:((N:Nat):Int)<((len ds:Nat):Int):=by omega
       have HE:Hid (X4 (nn:Nat) ps es ds=3/\Yl (nn:Nat) ps es ds=⟨#[]⟩):=QLh (by
        have h9:X4 (nn:Nat) ps es ds=3:=by unfold X4;rw[if_neg (λ h=>h HARG.out),if_neg (by rw[HBADF.out];simp),HNP.out,if_neg hlt4,if_pos hlt3]
        exact⟨h9,by unfold Yl;rw[h9];rfl⟩)
       clear hlt4 hlt3;go_wp2
       go_ret2
       exact⟨by rw[HE.out.1,HE.out.2];rfl,HW3.out⟩
      ·have z2:¬((N:Nat):Int)<((len ds:Nat):Int):=by omega
       have HEQ:Hid (len ds=N):=QLh (by omega);have HE:Hid (X4 (nn:Nat) ps es ds=0/\Yl (nn:Nat) ps es ds=Vv (Qfi (g0F lv es) rs ds) 0):=QLh (by
        have h9:X4 (nn:Nat) ps es ds=0:=by unfold X4;rw[if_neg (λ h=>h HARG.out),if_neg (by rw[HBADF.out];simp),HNP.out,if_neg hlt4,if_neg hlt3]
        exact⟨h9,by unfold Yl;rw[h9,if_pos rfl];exact HDP.out⟩)
       clear hlt4 hlt3;go_upto_region 28 with fail;clear z1 z2 c0 c2;obtain⟨W3,hW3⟩:∃W3,W3=wr:=⟨_,rfl⟩;subst hW3;have HG9:Hid (Qfc mb (Qal (g0F lv es) rs ds 0) W3):=HG3;have HBX9:Hid (∃a' c',W3.heap[pb]?=some (.cells #[.slice a' (len (ds.drop (Xp rs 0))) c'] 36 (0,0))/\len (ds.drop (Xp rs 0))<=c'/\∀w9,Jk w9 da ds->Jk w9 a' (ds.drop (Xp rs 0))):=QLh ⟨da,dc,HP3.out,HDC.out,λ _ h9=>h9⟩;clear HG3 HP3
       go_loopg [93,11] (len rs) (λ g i v wz=>∃m kb:Nat,g+m=len rs/\i=.int .i64 m/\v=.map (some kb)/\Hid (Qfc kb (Qal (g0F lv es) rs ds m) wz)/\Hid (∃a' c',wz.heap[pb]?=some (.cells #[.slice a' (len (ds.drop (Xp rs m))) c'] 36 (0,0))/\len (ds.drop (Xp rs m))<=c'/\∀w9,Jk w9 da ds->Jk w9 a' (ds.drop (Xp rs m)))/\Hid (Below w.heap.size w wz)/\Hid (Qaf B2 W3 wz)/\Hid (pb<kb/\w.heap.size<=kb/\(kb<B2 \/ W3.heap.size<=kb)/\W3.heap.size<=wz.heap.size))
       case atStart=>exact⟨0,mb,rfl,rfl,rfl,HG9,HBX9,HW3,QLh (Qaf.refl _ _),QLh ⟨HMB.out.1,HMB.out.2,.inl HB2.out.1,Nat.le_refl _⟩⟩
       case round=>
        clear HG9 HBX9;obtain⟨m,kb,hm,rfl,rfl,HG,HBX,HWZ,HUP,HKB⟩:=hrel;obtain⟨wz,hwz⟩:∃wz,wz=wr:=⟨_,rfl⟩;subst hwz;have hr16:len rs<=16:=by have:=HRL.out;have:=HD16.out;omega
        by_cases hlt:m<len rs
        ·have b1:(m:Int)<len rs:=by omega
         have b2:¬len rs<=m:=by omega
         obtain⟨rb,ro,ra,rc,hra3,hrb,hrc,hrq⟩:=HRU.out m hlt;subst hra3;have hrc2:=HUP.out.cell hrb hrc;have l1:=Ql hrc2;obtain⟨row,hrow⟩:∃row,Jj rs m=row:=⟨_,rfl⟩;have HROW:=QLh hrow;rw[hrow]at hrc2 hrq;have HRQ:=QLh hrq;have HRLN:Hid (len row<=100):=QLh (by rw[<-hrow];exact HNM.out.1 m);have HHM:=QLh hm;have HHL:=QLh hlt;obtain⟨u,hu⟩:∃u,Xp rs m=u:=⟨_,rfl⟩;have HUU:Hid (Xp rs m=u):=QLh hu;have HUT:Hid (u+len row<=len ds):=QLh (by
          have h1:=Jw rs m hlt;have h2:=QkN rs (m+1);rw[hrow,hu]at h1;rw[HEQ.out,<-HNN.out];omega)
         obtain⟨GT,hGT⟩:∃GT,Qal (g0F lv es) rs ds m=GT:=⟨_,rfl⟩;have HGT:=QLh hGT;rw[hGT]at HG;rw[hu]at HBX;have HG0:Hid (Qfc kb (Vx GT (row.take 0) (ds.drop u)) wz):=QLh (by rw[List.take_zero];exact HG.out);have HBX0:Hid (∃a' c',wz.heap[pb]?=some (.cells #[.slice a' (len (ds.drop (u+0))) c'] 36 (0,0))/\len (ds.drop (u+0))<=c'/\∀w9,Jk w9 da ds->Jk w9 a' (ds.drop (u+0))):=HBX;obtain⟨GK,hGK⟩:∃G,G=gk:=⟨_,rfl⟩;subst hGK;clear hrc hrq hrow hu hGT HG HBX hm hlt hr16;go_upto_region 31 with fail;clear hrc2 l1 b1 b2
         go_loopg [99] (len row) (λ g j wy=>∃q:Nat,g+q=len row/\j=.int .i64 q/\Hid (Qfc kb (Vx GT (row.take q) (ds.drop u)) wy)/\Hid (∃a' c',wy.heap[pb]?=some (.cells #[.slice a' (len (ds.drop (u+q))) c'] 36 (0,0))/\len (ds.drop (u+q))<=c'/\∀w9,Jk w9 da ds->Jk w9 a' (ds.drop (u+q)))/\Hid (Below w.heap.size w wy)/\Hid (Qaf B2 W3 wy)/\Hid (W3.heap.size<=wy.heap.size))
         case atStart=>exact⟨0,rfl,rfl,HG0,HBX0,HWZ,HUP,QLh HKB.out.2.2.2⟩
         case round=>
          clear HG0 HBX0 HWZ HUP;obtain⟨q,hq,rfl,HG,HBX,HWZ,HUP,HSZ⟩:=hrel;obtain⟨wy,hwy⟩:∃wy,wy=wr:=⟨_,rfl⟩;subst hwy;have hr100:=HRLN.out
          by_cases hlq:q<len row
          ·have b1:(q:Int)<len row:=by omega
           have b2:¬len row<=q:=by omega
           obtain⟨ub,uo,hua,hub,huc⟩:=HRQ.out q hlq;subst hua;have huc2:=HUP.out.cell hub huc;have l2:=Ql huc2;obtain⟨t,ht⟩:∃t,nth row q=t:=⟨_,rfl⟩;rw[ht]at huc2;have HTU:Hid (U64 t):=QLh (by
            have h1:t ∈ Jj rs m:=by rw[HROW.out,<-ht];exact Vk hlq
            rw[<-HRS.out,<-HLV.out]at h1;exact QrX HD16.out (by rw[<-HRL.out];exact HHL.out) h1)
           obtain⟨a9,c9,hbx,hc9,hta⟩:=HBX.out;have HTN:Hid (Vx GT (row.take (q+1)) (ds.drop u)=QcF (Vx GT (row.take q) (ds.drop u)) t (tth ds (u+q))):=QLh (by rw[Qa4 _ _ _ q hlq,ht,Ud]);have hdl:len (ds.drop (u+q))=len ds - (u+q):=by rw[Qy,List.length_drop];rfl
           have hut:=HUT.out;have HNX:=QLh (Qna pb a9 c9 (ds.drop (u+q)) wy hbx (hta _ (HDS.out.below HWZ.out)) (by omega) hc9);have HDD:Hid ((tth ds (u+q)).size<=1000):=QLh (by
            have h1:=of_decide_eq_false HBADF.out;have h2:u+q<ds.length:=by have:len ds=ds.length:=rfl;omega
            apply Classical.byContradiction;intro h3;exact h1 ⟨ds[u+q],List.getElem_mem h2,λ h4=>h3 (by rw[Y9 ds (u+q) h2,h4];omega)⟩)
           have HC9:Hid (len (ds.drop (u+q)) - 1<=c9):=QLh (by omega);have HBQ:=QLh hbx;have HDL1:Hid (len (ds.drop (u+(q+1)))=len (ds.drop (u+q)) - 1):=QLh (by rw[Qy,List.length_drop,hdl];have:len ds=ds.length:=rfl;omega);obtain⟨⟨L,hL,hmf⟩,hsm⟩:=HG.out;have HLW:=QLh hL;have HMF:=QLh hmf;have HSM:=QLh hsm;obtain⟨D,hD⟩:∃D,tth ds (u+q)=D:=⟨_,rfl⟩;have HT0:Hid (tth (ds.drop (u+q)) 0=D):=QLh (by rw[Ud,Nat.add_zero,hD]);rw[hD]at HDD HTN;clear hbx hc9 hut hdl hL hmf hsm hD huc ht;go_wp2_with fail;refine HNX.out.mono ?_;rintro e w2 ⟨a',c',rfl,hw2,hc',hta'⟩;rw[HT0.out];have HCC:=QLh hc';have HTA:=QLh hta';have HKP:Hid (pb≠kb):=QLh (by have:=HKB.out.1;omega);have HL2:Hid (w2.heap[kb]?=some (Jd .u64 0 L)):=QLh (by rw[hw2];exact(Below.heap_setCell _ _ _ _ (show kb≠pb by have:=HKP.out;omega)).trans HLW.out);have HP2:Hid (w2.heap[pb]?=some (.cells #[.slice a' (len (ds.drop (u+q)) - 1) c'] 36 (0,0))):=QLh (by rw[hw2];exact Qc HBQ.out _);have HW2:Hid (Below w.heap.size w w2):=QLh (by rw[hw2];exact Ji HWZ.out HPB.out _);have HU2:Hid (Qaf B2 W3 w2):=QLh (by rw[hw2];exact HUP.out.set HB2.out.2 _ _);have HS2:Hid (W3.heap.size<=w2.heap.size):=QLh (by rw[hw2];have:=HSZ.out;simp[World.setCell];exact this);clear hw2 hc' hta' HLW HBQ HBX HWZ HUP HSZ HNX huc2 l2 b2
           go_upto_region 34 with(at_mapUpdate;refine J2 rfl _ _ _ 200 23 9 .u64 rfl Tryz.underlying200 Tryz.underlying23 kb 0 _ rfl HL2.out t (.string D) rfl rfl ?_)
           obtain⟨U,hU⟩:∃U,setBlock w2 kb (Jd .u64 0 (Vy L t (.string D)))=U:=⟨_,rfl⟩;have HG6:Hid (Qfc kb (Vx GT (row.take (q+1)) (ds.drop u)) U):=QLh (by rw[HTN.out,<-hU];exact Qfc.put HL2.out HMF.out HSM.out HTU.out HDD.out);have HBX6:Hid (∃a' c',U.heap[pb]?=some (.cells #[.slice a' (len (ds.drop (u+(q+1)))) c'] 36 (0,0))/\len (ds.drop (u+(q+1)))<=c'/\∀w9,Jk w9 da ds->Jk w9 a' (ds.drop (u+(q+1)))):=QLh (by
            rw[HDL1.out,<-hU];refine⟨a',c',(Zh HKP.out).trans HP2.out,HCC.out,λ w9 h9=>?_⟩;have h8:=HTA.out w9 (hta w9 h9);rw[List.drop_drop]at h8;exact h8)
           have HW6:Hid (Below w.heap.size w U):=QLh (by rw[<-hU];exact Js HW2.out HKB.out.2.1);have HU6:Hid (Qaf B2 W3 U):=QLh (by rw[<-hU];exact HU2.out.map HKB.out.2.2.1 _);have HS6:Hid (W3.heap.size<=U.heap.size):=QLh (by rw[<-hU,Vb];exact HS2.out);rw[hU];clear hU HL2 HP2 HW2 HU2 HS2;go_wp2
           go_roundg (len row - (q+1))
           case rel=>exact⟨q+1,by omega,by go_num,HG6,HBX6,HW6,HU6,HS6⟩
           case measure=>omega
          ·obtain rfl:q=len row:=by omega
           have b1:¬((len row:Nat):Int)<len row:=by omega
           have HOV:=QLh (Qo2 kb 0 _ wy HG.out.at_ HG.out.small);have hm:=HHM.out;have hlt:=HHL.out;have hr16:len rs<=16:=by have:=HRL.out;have:=HD16.out;omega
           have HRT:Hid (Qal (g0F lv es) rs ds (m+1)=Kq (Vx GT (row.take (len row)) (ds.drop u))):=QLh (by rw[Qbg _ _ _ m hlt,HGT.out,HROW.out,HUU.out,Xh]);have HUN:Hid (Xp rs (m+1)=u+len row):=QLh (by rw[Jw rs m hlt,HUU.out,HROW.out]);have HPLT:Hid (pb<wy.heap.size):=QLh (by obtain⟨a9,c9,hbx,_⟩:=HBX.out;exact lt_of_block hbx);go_wp2_with fail;refine HOV.out.mono ?_;rintro e w2 ⟨b9,rfl,hk9,hb9,hbel⟩;have HG6:Hid (Qfc b9 (Qal (g0F lv es) rs ds (m+1)) w2):=QLh (by rw[HRT.out];exact⟨hk9,SmF.over _⟩);have HBX6:Hid (∃a' c',w2.heap[pb]?=some (.cells #[.slice a' (len (ds.drop (Xp rs (m+1)))) c'] 36 (0,0))/\len (ds.drop (Xp rs (m+1)))<=c'/\∀w9,Jk w9 da ds->Jk w9 a' (ds.drop (Xp rs (m+1)))):=QLh (by
            rw[HUN.out];obtain⟨a9,c9,hbx,h2,h3⟩:=HBX.out;exact⟨a9,c9,(hbel.block _ (lt_of_block hbx)).trans hbx,h2,h3⟩)
           have HW6:Hid (Below w.heap.size w w2):=QLh (Qj HWZ.out hbel);have HUP6:Hid (Qaf B2 W3 w2):=QLh (HUP.out.bel HSZ.out hbel);have HKB6:Hid (pb<b9/\w.heap.size<=b9/\(b9<B2 \/ W3.heap.size<=b9)/\W3.heap.size<=w2.heap.size):=QLh (by
            have h1:=HPLT.out;have h2:=HSZ.out;have h3:=hbel.size;have h4:=HWZ.out.size;exact⟨by omega,by omega,.inr (by omega),by omega⟩)
           clear hk9 hb9 hbel;go_wp2
           go_roundg (len rs - (m+1))
           case rel=>exact⟨m+1,b9,by omega,by go_num,rfl,HG6,HBX6,HW6,HUP6,HKB6⟩
           case measure=>omega
        ·obtain rfl:m=len rs:=by omega
         have b1:¬((len rs:Nat):Int)<len rs:=by omega
         obtain⟨⟨L,hL,hmf⟩,_⟩:=HG.out;have HLL:=QLh hL;have HLK:Hid ((QeD L 0).getD (.string ⟨#[]⟩)=.string (Yl (nn:Nat) ps es ds)):=QLh (by
          have h1:=hmf.look 0;rw[HE.out.2];unfold Qal at h1;rw[Xh]at h1;exact h1)
         clear hL hmf
         go_wp2_with (at_lookup;refine QaK rfl _ _ 200 23 9 .u64 rfl Tryz.underlying200 Tryz.underlying23 (.string ⟨#[]⟩) (Tryz.zeroValue9 _) kb 0 _ rfl HLL.out 0 rfl ?_;rw[HLK.out])
         go_ret2
         exact⟨by rw[HE.out.1];rfl,HWZ.out⟩
end
structure Plc where
 K:Int
 d:ByteArray
abbrev Plc.val(r:Plc):Value:=.agg #[.int .u64 r.K,.string r.d]
def Plc.cells(r:Plc):List Value:=[.int .u64 r.K,.string r.d]
theorem Plc.cells_len(r:Plc):r.cells.length=2:=rfl
def Plc.zero:Plc:=⟨0,ByteArray.empty⟩
def Qom(l:List Plc)(i:Nat):Plc:=l.getD i Plc.zero
theorem Qgr(l:List Plc)(i:Nat)(h:i<l.length):Qom l i=l[i]:=by unfold Qom;rw[List.getD_eq_getElem?_getD,List.getElem?_eq_getElem h];rfl
structure Qp0(w:World)(b o:Nat)(r:Plc):Prop where
 c0:w.cell? ⟨b,o,none⟩=some (.int .u64 r.K)
 c1:w.cell? ⟨b,o+1,none⟩=some (.string r.d)
theorem Qp0.below{w w':World}{b o:Nat}{r:Plc}(h:Qp0 w b o r)(hb:Below w.heap.size w w'):Qp0 w' b o r:=by
 have hl:=Ql h.c0;have e:∀q,w'.cell? ⟨b,q,none⟩=w.cell? ⟨b,q,none⟩:=λ q=>hb.cell (p:=⟨b,q,none⟩) hl;obtain⟨c0,c1⟩:=h
 constructor <;> (rw[e];assumption)
def Qov(w:World)(a:Option Addr)(l:List Plc):Prop:=∀i,i<len l->∃b off,a=some ⟨b,off,none⟩/\Qp0 w b (off+i * 2) (Qom l i)
theorem Qov.nil(w:World)(a:Option Addr):Qov w a []:=λ i hi=>absurd hi (by simp[len])
theorem Qov.below{w w':World}{a:Option Addr}{l:List Plc}(h:Qov w a l)(hb:Below w.heap.size w w'):Qov w' a l:=λ i hi=>by obtain⟨b,off,rfl,hc⟩:=h i hi;exact⟨b,off,rfl,hc.below hb⟩
theorem Qov.own{w:World}{base e n:Nat}{v:Value}{l:List Plc}(h:w.ownsRow base e 2 v n (l.flatMap Plc.cells)):∃a cap,v=.slice a (len l) cap/\Qov w a l/\len l<=cap:=by
 have hn:len l=n:=by have:=h.1;rw[Yr Plc.cells 2 Plc.cells_len]at this;rw[Qy];omega
 obtain⟨h1,h2⟩:=h
 rcases h2 with⟨rfl,h2⟩ | ⟨g,cap,cur,rfl,hg,hh,hc1,hc2,hc3,hc4⟩
 ·obtain rfl:l=[]:=List.eq_nil_of_length_eq_zero (by rw[<-Qy];omega)
  exact⟨none,0,rfl,Qov.nil _ _,Nat.le_refl _⟩
 ·refine⟨some ⟨g,0,none⟩,cap,by rw[hn],λ i hi=>⟨g,0,rfl,?_⟩,by omega⟩
  have hown:w.ownsRow base e 2 (.slice (some ⟨g,0,none⟩) n cap) n (l.flatMap Plc.cells):=⟨h1,.inr ⟨g,cap,cur,rfl,hg,hh,hc1,hc2,hc3,hc4⟩⟩;have key:∀r,r<2->w.cell? ⟨g,0+i * 2+r,none⟩=(Qom l i).cells[r]?:=λ r hr=>by have:=hown.cellAt (i * 2+r) (by rw[<-hn];omega);rw[Nat.zero_add,this,V9 Plc.cells 2 Plc.cells_len l i r hi hr,Qgr l i hi]
  exact⟨key 0 (by decide),key 1 (by decide)⟩
theorem Qpr:(Tryz.prog.info? 279).map (λ i=>(i.zero,i.size,i.bytes))=some (some Plc.zero.val,2,24):=by kernel_rfl
def Qa2(l:List Plc):KnF:=λ k=>(l.find? (λ x=>x.K == k)).map (·.d)
theorem Yd(x:Plc)(l:List Plc)(k:Int):Qa2 (x :: l) k=if x.K=k then some x.d else Qa2 l k:=by
 unfold Qa2;rw[List.find?_cons]
 by_cases h:x.K=k
 ·simp[h]
 ·have:(x.K == k)=false:=by simpa using h
  simp[this,h]
theorem Qiz:∀(l:List Plc) (k:Int),(∀j,j<len l->(Qom l j).K≠k)->Qa2 l k=none
 | [],k,_=>rfl
 | x :: l,k,h=>by rw[Yd,if_neg (show ¬x.K=k from h 0 (show 0<(x :: l).length by simp))];exact Qiz l k (λ j hj=>h (j+1) (show j+1<(x :: l).length by simp;exact hj))
theorem QmK:∀(l:List Plc) (k:Int) (m:Nat),m<len l->(∀j,j<m->(Qom l j).K≠k)->(Qom l m).K=k->Qa2 l k=some (Qom l m).d
 | x :: l,k,0,_,_,h=>by rw[Yd];exact if_pos h
 | x :: l,k,m+1,hm,hn,h=>by rw[Yd,if_neg (show ¬x.K=k from hn 0 (Nat.succ_pos _))];exact QmK l k m (Nat.lt_of_succ_lt_succ hm) (λ j hj=>hn (j+1) (Nat.succ_lt_succ hj)) h
theorem QbQ:∀(l:List Plc) (x:Plc),Qa2 l x.K=none->Qa2 (l++[x])=QcF (Qa2 l) x.K x.d
 | [],x,_=>by
  funext k
  show Qa2 [x] k=_;rw[Yd];unfold QcF
  by_cases h:x.K=k
  ·rw[if_pos h,if_pos h.symm]
  ·rw[if_neg h,if_neg (λ e=>h e.symm)]
 | y :: l,x,h=>by
  rw[Yd]at h
  by_cases e:y.K=x.K
  ·rw[if_pos e]at h;cases h
  ·rw[if_neg e]at h
   have ih:=QbQ l x h
   funext k
   show Qa2 (y :: (l++[x])) k=_;rw[Yd,ih]
   by_cases e2:y.K=k
   ·rw[if_pos e2,Jt _ _ (λ e3=>e (e2.trans e3)),Yd,if_pos e2]
   ·rw[if_neg e2]
    by_cases e3:k=x.K
    ·subst e3;rw[Y5,Y5]
    ·rw[Jt _ _ e3,Jt _ _ e3,Yd,if_neg e2]
theorem QdL(l:List Plc)(k:Int)(a:Option Addr)(cap:Nat)(w:World)(h:Qov w a l)(hn:len l<=1000000):
  Calls Tryz.prog 243 #[.slice a (len l) cap,.int .u64 k] w λ e w'=>e=.returned (.string (Vv (Qa2 l) k))/\Below w.heap.size w w':=by
 have H:=QLh h;have HN:=QLh hn;clear h hn
 go_enter Tryz.func243,Tryz.ntmps243
 go_wp2
 go_loopg [5] (len l) (λ g i wr=>∃m:Nat,g+m=len l/\i=.int .i64 m/\Hid (∀j,j<m->(Qom l j).K≠k)/\Hid (Below w.heap.size w wr))
 case atStart=>exact⟨0,rfl,rfl,QLh (λ j hj=>by omega),QLh (Below.refl _ _)⟩
 case round=>
  obtain⟨m,hm,rfl,HE,HW⟩:=hrel;have hnn:=HN.out
  by_cases hlt:m<len l
  ·have b0:(m:Int)<len l:=by omega
   have b2:¬len l<=m:=by omega
   obtain⟨b,off,rfl,hc⟩:=(H.out.below HW.out) m hlt;have c0:=hc.c0;have c1:=hc.c1;have l1:=Ql c0;have HLT:=QLh hlt;obtain⟨x,hx⟩:∃x,Qom l m=x:=⟨_,rfl⟩;have HX:=QLh hx;rw[hx]at c0 c1;clear hx hc
   by_cases e:x.K=k
   ·have HEQ:=QLh e
    have d0:(x.K == k)=true:=by simpa using e
    clear e;go_wp2;go_ret;refine⟨?_,HW.out⟩;have h1:=QmK l k m HLT.out HE.out (by rw[HX.out];exact HEQ.out);unfold Vv;rw[h1,HX.out];rfl
   ·have HNE:=QLh e
    have d0:(x.K == k)=false:=by simpa using e
    clear e;go_wp2
    go_roundg (len l - (m+1))
    case rel=>exact⟨m+1,by omega,by go_num,QLh (λ j hj=>by
     by_cases e:j=m
     ·subst e;rw[HX.out];exact HNE.out
     ·exact HE.out j (by omega)),HW⟩
    case measure=>omega
  ·obtain rfl:m=len l:=by omega
   have b0:¬((len l:Nat):Int)<len l:=by omega
   go_wp2;go_ret;refine⟨?_,HW.out⟩;have h1:=Qiz l k HE.out;unfold Vv;rw[h1];rfl
theorem Je(x:W32)(n:Nat)(w:World)(h1:1<=n)(h2:n<=31):Calls Tryz.prog 257 #[.int .u32 (wI x),.int .i64 (n:Nat)] w λ e w'=>e=.returned (.int .u32 (wI (Jr x n)))/\Qr2 w w':=by
 have s1:=Zi x n;have s2:=QmV x (32 - n);have s3:bits .or .u32 (wI (x >>> n)) (wI (x <<< (32 - n)))=wI (Jr x n):=by rw[Yx];rfl
 have m1:min n 32=n:=by omega
 have m2:min (32 - n) 32=32 - n:=by omega
 have a1:¬((n:Nat):Int)<0:=by omega
 have a2:¬(32:Int) - ((n:Nat):Int)<0:=by omega
 have a3:IntKind.i64.wrap (32 - ((n:Nat):Int))=32 - ((n:Nat):Int):=IntWalk.i64_in _ (by omega);have a4:((32:Int) - ((n:Nat):Int)).toNat=32 - n:=by omega
 go_enter Tryz.func257,Tryz.ntmps257
 go_wp2
 go_quiet (fail)
 go_wp2;go_ret;exact⟨rfl,_,rfl⟩
theorem Qad(a b:ByteArray):(a++b).data.toList=a.data.toList++b.data.toList:=by rw[ByteArray.data_append,Array.toList_append]
theorem Ka(a:ByteArray):a.data.toList.length=a.size:=by rw[Array.length_toList];rfl
theorem Qso{a:ByteArray}{L:List UInt8}(h:a.data.toList=L):a=⟨L.toArray⟩:=by refine ByteArray.ext (Array.ext' ?_);rw[h]
def QuW(s:ByteArray):ByteArray:=⟨(Qme s.data.toList).toArray⟩
theorem Qj6(s:ByteArray)(w:World)(hs:s.size<=1152921504606846976):Calls Tryz.prog 187 #[.string s] w λ e w'=>e=.returned (.string (QuW s))/\Below w.heap.size w w':=by
 obtain⟨n,hn⟩:∃n,s.size=n:=⟨_,rfl⟩;have HN:=QLh hn;rw[hn]at hs;have HS:=QLh hs;have HL:Hid (s.data.toList.length=n):=QLh (by rw[Ka,hn]);have u1:IntKind.u64.wrap ((n:Nat):Int)=(n:Int):=IntWalk.u64_in _ (by omega);have u2:IntKind.u64.wrap (8 * ((n:Nat):Int))=8 * (n:Int):=IntWalk.u64_in _ (by omega);have hn2:((s.size:Nat):Int)=(n:Int):=by omega
 have q0:s.size+1<=9223372036854775807:=by omega
 clear hs
 go_enter Tryz.func187,Tryz.ntmps187
 go_upto_region 3 with fail;obtain⟨N,hN⟩:∃N:Nat,8 * n=N:=⟨_,rfl⟩;have HN8:=QLh hN;rw[show 8 * ((n:Nat):Int)=((N:Nat):Int)by omega];obtain⟨X0,hX0⟩:∃X0,s++(⟨#[128]⟩:ByteArray)=X0:=⟨_,rfl⟩;rw[hX0];have HX0:Hid (X0.data.toList=s.data.toList++[128]++List.replicate 0 0):=QLh (by rw[<-hX0,Qad];simp);clear hX0 hN u1 u2 hn2 hn q0
 go_loopg [0] (Jz n) (λ g x wr=>∃(m:Nat) (X:ByteArray),g+m=Jz n/\x=.string X/\Hid (X.data.toList=s.data.toList++[128]++List.replicate m 0)/\Hid (Below w.heap.size w wr))
 case atStart=>exact⟨0,X0,rfl,rfl,HX0,QLh (Below.refl _ _)⟩
 case round=>
  clear HX0;obtain⟨m,X,hm,rfl,HX,HW⟩:=hrel;have hz:=QeR n;have HSZ:Hid (X.size=n+1+m):=QLh (by
   have h1:=congrArg List.length HX.out;rw[Ka]at h1;simp only[List.length_append,List.length_replicate,List.length_singleton]at h1;have:=HL.out;omega)
  by_cases hlt:m<Jz n
  ·have q1:¬((X.size:Nat):Int) % 64=56:=by have:=QfL n m hlt;have:=HSZ.out;omega
   have q2:X.size+1<=9223372036854775807:=by have:=HSZ.out;have:=HS.out;omega
   have HX2:Hid ((X++(⟨#[0]⟩:ByteArray)).data.toList=s.data.toList++[128]++List.replicate (m+1) 0):=QLh (by
    rw[Qad,HX.out,List.replicate_succ',List.append_assoc (s.data.toList++[128])])
   go_wp2
   go_roundg (Jz n - (m+1))
   case rel=>exact⟨m+1,_,by omega,rfl,HX2,HW⟩
   case measure=>omega
  ·obtain rfl:m=Jz n:=by omega
   have q1:((X.size:Nat):Int) % 64=56:=by have:=QfW n;have:=HSZ.out;omega
   clear hz hlt hm;go_upto_region 6 with fail;have HX0:Hid (X.data.toList=(s.data.toList++[128]++List.replicate (Jz n) 0)++(Ve N).take 0):=QLh (by rw[List.take_zero,List.append_nil];exact HX.out)
   go_loopg [4,0] 8 (λ g i x wr=>∃(m:Nat) (X:ByteArray),g+m=8/\i=.int .i64 (56 - 8 * (m:Int))/\x=.string X/\Hid (X.data.toList=(s.data.toList++[128]++List.replicate (Jz n) 0)++(Ve N).take m)/\Hid (Below w.heap.size w wr))
   case atStart=>exact⟨0,X,rfl,rfl,rfl,HX0,HW⟩
   case round=>
    clear HX HX0 HW HSZ q1;obtain⟨m,X,hm,rfl,rfl,HX,HW⟩:=hrel
    by_cases hlt:m<8
    ·obtain⟨e,he⟩:∃e:Nat,56 - 8 * m=e:=⟨_,rfl⟩
     rw[show(56:Int) - 8 * (m:Int)=((e:Nat):Int)by omega];have a1:(0:Int)<=((e:Nat):Int):=by omega
     have a2:¬((e:Nat):Int)<0:=by omega
     have a3:min e 64=e:=by omega
     have a4:IntKind.i64.wrap (((e:Nat):Int) - 8)=((e:Nat):Int) - 8:=IntWalk.i64_in _ (by omega);have HB9:Hid (Value.int .u8 ((N:Int) / 2 ^ e % 256)=byV ((Ve N).getD m 0)):=QLh (by
      have:=Qe8 N m hlt;rw[show 8 * (7 - m)=e by omega]at this;exact this)
     obtain⟨b9,hb9⟩:∃b9,(Ve N).getD m 0=b9:=⟨_,rfl⟩;rw[hb9]at HB9;have cv:(convert 41 9 (.slice (some ⟨wr.heap.size,0,none⟩) 1 1)).run Tryz.prog (wr.alloc (.cells #[.int .u8 ((N:Int) / 2 ^ e % 256)] 5))=.ok (.string ⟨#[b9]⟩) (wr.alloc (.cells #[.int .u8 ((N:Int) / 2 ^ e % 256)] 5)):=by rw[HB9.out];exact QdM wr 5 1 1 [b9] rfl
     have HX2:Hid ((X++(⟨#[b9]⟩:ByteArray)).data.toList=(s.data.toList++[128]++List.replicate (Jz n) 0)++(Ve N).take (m+1)):=QLh (by
      have h8:m<(Ve N).length:=by rw[Xo];exact hlt
      rw[Qad,HX.out,List.take_succ_eq_append_getElem h8,List.append_assoc]
      congr 2
      rw[<-hb9,List.getD_eq_getElem?_getD,List.getElem?_eq_getElem h8];rfl)
     have q2:X.size+1<=9223372036854775807:=by have h1:=congrArg List.length HX.out;rw[Ka]at h1;simp only[List.length_append,List.length_replicate,List.length_singleton,List.length_take]at h1;have:=HL.out;have:=HS.out;have:=QeR n;omega
     have HE:=QLh he;clear he hb9;go_wp2
     go_roundg (8 - (m+1))
     case rel=>exact⟨m+1,_,by omega,by have:=HE.out;congr 1;omega,rfl,HX2,by(repeat (first | exact Below.refl _ _ | assumption | (refine Zy ?_) | (refine Zg ?_ _) | (refine Qf ?_ _) | (refine Ji ?_ (by first | omega | (simp;done) | (simp;omega)) _) | (refine Qj ?_ (by assumption))))⟩
     case measure=>omega
    ·obtain rfl:m=8:=by omega
     have a1:¬(0:Int)<=56 - 8 * ((8:Nat):Int):=by decide
     have HF:Hid (X=QuW s):=QLh (Qso (by
      rw[HX.out,Qf0,HL.out,HN8.out,Nat.mod_eq_of_lt (by have:=HN8.out;have:=HS.out;omega),List.take_of_length_le (by rw[Xo];exact Nat.le_refl _)]))
     go_wp2;go_ret;exact⟨by rw[HF.out];rfl,HW.out⟩
section
open Go.RowKit Go.Great
theorem QgY(s:ByteArray)(i:Nat)(x:Int)(hx:x=(i:Int))(h:i<s.size)(w:World):(Instr.index 9 (.string s) (.int .i64 x)).run Tryz.prog w=.ok (.int .u8 (wI (bW (bth s.data.toList i)))) w:=by
 subst hx;have h2:i<s.data.toList.length:=by rw[Ka];exact h
 have e:(s[i]).toNat=(bth s.data.toList i).toNat:=by unfold bth;rw[List.getD_eq_getElem?_getD,List.getElem?_eq_getElem h2];rfl
 have e3:((s[i]).toNat:Int)=wI (bW (bth s.data.toList i)):=by rw[e,Que]
 rw[run_index_string (P:=Tryz.prog) (w:=w) 9 s .i64 ((i:Nat):Int) Tryz.underlying9,dif_pos ⟨by omega,by omega⟩];have e4:∀(k:Nat) (hk:k<s.size),k=i->((s[k]'hk).toNat:Int)=wI (bW (bth s.data.toList i)):=λ k hk he=>by subst he;exact e3
 rw[e4 _ _ (Int.toNat_natCast i)]
theorem Xn(x:W32):bits .xor .u32 (if IntKind.u32.signed=true then -1 else IntKind.u32.max) (wI x)=wI (~~~ x):=Qtz x
theorem QdF{P:Program}{ops:Array Oper}{rest:List Oper}{o:Oper}{a:Act}{w:World}{Q:Exit->Act->World->Prop}(hg:o.guard=none)(t:TypeId)(parts:Array (Nat × Operand))(ho:o.op=.build t parts)(cs:Array Value)
  (hf:P.built t (parts.map fun (i,x)=>(i,a.eval x)).toList=some cs) (h:wpList P ops Q rest (a.put o.dst (.agg cs)) w):wpList P ops Q (o :: rest) a w:=
 wpList_build hg t parts ho (by rw[hf];rfl) (by rw[hf];exact h)
def Ev(a:Act)(n:Nat)(l:List (Nat × Value)):Prop:=a.tmps.size=n/\a.defers=[]/\∀p ∈ l,a.eval (.tmp p.1)=p.2
theorem Ev.put{a:Act}{n:Nat}{l:List (Nat × Value)}(h:Ev a n l)(d:Nat)(v:Value)(hd:d<n)(hf:l.all (λ p=>p.1 != d)=true):Ev (a.put (some d) v) n ((d,v) :: l):=by
 refine⟨by simp[Act.put,h.1],h.2.1,?_⟩;intro p hp
 rcases List.mem_cons.1 hp with rfl | hp
 ·exact Y7 (by rw[h.1];exact hd)
 ·have h1:=List.all_eq_true.1 hf p hp
  rw[Yn (by simpa using h1)];exact h.2.2 p hp
theorem Ev.at{a:Act}{n:Nat}{l:List (Nat × Value)}(h:Ev a n l)(k d:Nat)(v:Value)(hk:l[k]?=some (d,v)):a.eval (.tmp d)=v:=h.2.2 (d,v) (List.mem_of_getElem? hk)
theorem Ev.atf{a:Act}{n:Nat}{l:List (Nat × Value)}(h:Ev a n l)(k d:Nat)(v:Value)(hk:l[k]?=some (d,v)):a.tmps[d]?.getD undef=v:=(Xd a d).symm.trans (h.at k d v hk)
theorem Qpa{P:Program}{c:Code}{Q:Exit->Act->World->Prop}{a:Act}{w:World}(h:∀a0:Act,a0=a->Code.wp P c Q a0 w):Code.wp P c Q a w:=h a rfl
def Qm5:List W32:=List.replicate 8 0
structure QdA(pb rb:Nat)(A9:Array Value)(w wr:World):Prop where
 below:Below w.heap.size w wr
 p:wr.heap[pb]?=some (.cells A9 222 (0,0))
 r:wr.heap[rb]?=some (.cells (wsC Qm5) 222 (0,0))
theorem QdA.next{pb rb:Nat}{A9:Array Value}{w wr w':World}(h:QdA pb rb A9 w wr)(hb:Below wr.heap.size wr w'):QdA pb rb A9 w w':=
 ⟨Qj h.below hb,(hb.block _ (lt_of_block h.p)).trans h.p,(hb.block _ (lt_of_block h.r)).trans h.r⟩
theorem QdA.set{pb rb b o:Nat}{A9:Array Value}{w wr:World}{v:Value}(h:QdA pb rb A9 w wr)(h0:w.heap.size<=b)(h1:pb≠b)(h2:rb≠b):QdA pb rb A9 w (wr.setCell ⟨b,o,none⟩ v):=
 ⟨Ji h.below h0 _,Qh h.p h1 _,Qh h.r h2 _⟩
theorem Qji(w:World):Calls Tryz.prog 258 #[] w λ e w'=>e=.returned (.agg (wsC kW))/\Below w.heap.size w w':=by
 go_enter Tryz.func258,Tryz.ntmps258
 go_upto_region 1 with fail;obtain⟨b,hb⟩:∃b,w.heap.size=b:=⟨_,rfl⟩;show Code.wp _ _ _ _ (w.alloc (.cells (wsC Qbu) 294));obtain⟨V,hV⟩:∃V,w.alloc (.cells (wsC Qbu) 294)=V:=⟨_,rfl⟩;have HV:Hid (V.heap[b]?=some (.cells (wsC Qbu) 294 (0,0))):=QLh (by rw[<-hV,<-hb];exact heap_alloc_new _ _);have HS:Hid (Below w.heap.size w V):=QLh (by rw[<-hV];exact Qf (Below.refl _ _) _);have HBW:Hid (w.heap.size<=b):=QLh (Nat.le_of_eq hb);rw[hV,hb];clear hV hb;apply wp_region_lit;refine wpList_build rfl 294 _ rfl (by as_aux_lemma=>kernel_rfl) ?_;refine wpList_store_row rfl 294 _ _ rfl b (wsC kW) rfl (by as_aux_lemma=>kernel_rfl) 294 (wsC Qbu) HV.out (by as_aux_lemma=>kernel_rfl) (by as_aux_lemma=>kernel_rfl) (by as_aux_lemma=>kernel_rfl) ?_;apply wpList_nil;obtain⟨U,hU⟩:∃U,V.setRow b (wsC kW)=U:=⟨_,rfl⟩;have HU:Hid (U.heap[b]?=some (.cells (wsC kW) 294 (0,0))):=QLh (by rw[<-hU];exact setRow_heap V b _ _ _ _ HV.out);have HUB:Hid (Below w.heap.size w U):=QLh (by
  rw[<-hU];exact⟨HS.out.os,HS.out.tape,HS.out.output,by rw[setRow_size];exact HS.out.size,λ i hi=>by rw[setRow_other _ _ _ _ (show i≠b by have:=HBW.out;omega)];exact HS.out.block i hi⟩)
 rw[hU];rename_i Q' K hK;refine hK _ _ ?_;apply wp_ret;refine bodyPost_ret (v:=.agg (wsC kW)) ?_ rfl ?_
 ·exact results_cell_row rfl _ _ b 294 (wsC kW) (0,0) _ rfl HU.out rfl rfl (by as_aux_lemma=>kernel_rfl)
 ·exact⟨rfl,HUB.out⟩
attribute [local go_sem] Qz Zx Yx Q5 Qt
theorem QkS(v:St8)(s:ByteArray)(w:World)(hs:s.size=64):
  Calls Tryz.prog 188 #[.agg (wsC (stL v)),.string s] w λ e w'=>e=.returned (.agg (wsC (stL (Vu v s.data.toList))))/\Below w.heap.size w w':=by
 have HS:=QLh hs;obtain⟨A9,hA9⟩:∃A9,wsC (stL v)=A9:=⟨_,rfl⟩;have HA9:=QLh hA9;rw[hA9];clear hs hA9
 go_enter Tryz.func188,Tryz.ntmps188
 go_upto_region 3 with fail;obtain⟨pb,hpb⟩:∃pb,w.heap.size=pb:=⟨_,rfl⟩;obtain⟨rb,hrb⟩:∃rb,pb+1=rb:=⟨_,rfl⟩;obtain⟨wb,hwb⟩:∃wb,rb+1=wb:=⟨_,rfl⟩;have e1:w.heap.size+1=rb:=by omega
 have e2:w.heap.size+1+1=wb:=by omega
 rw[e2,e1,hpb];obtain⟨L,hL⟩:∃L,s.data.toList=L:=⟨_,rfl⟩;have HLL:=QLh hL;have HLN:Hid (L.length=64):=QLh (by rw[<-hL,Ka];exact HS.out);have HNE:Hid (w.heap.size<=pb/\w.heap.size<=rb/\w.heap.size<=wb/\pb≠wb/\rb≠wb/\pb<wb/\rb<wb):=QLh (by omega);change Code.wp _ _ _ _ (((w.alloc (.cells A9 222)).alloc (.cells (wsC Qm5) 222)).alloc (.cells (wsC Qbu) 294));obtain⟨U,hU⟩:∃U,(((w.alloc (.cells A9 222)).alloc (.cells (wsC Qm5) 222)).alloc (.cells (wsC Qbu) 294))=U:=⟨_,rfl⟩;rw[hU];have HB0:Hid (QdA pb rb A9 w U):=QLh ⟨by rw[<-hU];exact Qf (Qf (Qf (Below.refl _ _) _) _) _,by rw[<-hU];exact Qe (Qe (Qg _ hpb) _) _,by rw[<-hU];exact Qe (Qg _ (by rw[Q3 _ rfl];omega)) _⟩;have HW0:Hid (U.heap[wb]?=some (.cells (wsC (Qdl L 0)) 294 (0,0))):=QLh (by rw[<-hU];exact Qg _ (by rw[Q3 _ (Q3 _ rfl)];omega));clear hU e1 e2 hwb hrb hpb
 go_loopg [6] 16 (λ g i wr=>∃m:Nat,g+m=16/\i=.int .i64 m/\Hid (wr.heap[wb]?=some (.cells (wsC (Qdl L m)) 294 (0,0)))/\Hid (QdA pb rb A9 w wr))
 case atStart=>exact⟨0,rfl,rfl,HW0,HB0⟩
 case round=>
  clear HW0 HB0;obtain⟨m,hm,rfl,HW,HB⟩:=hrel
  by_cases hlt:m<16
  ·have i1:(m:Int)<16:=by omega
   have i4:IntKind.i64.wrap (4 * ((m:Nat):Int))=4 * ((m:Nat):Int):=IntWalk.i64_in _ (by omega);have i5:IntKind.i64.wrap (4 * ((m:Nat):Int)+1)=4 * ((m:Nat):Int)+1:=IntWalk.i64_in _ (by omega);have i6:IntKind.i64.wrap (4 * ((m:Nat):Int)+2)=4 * ((m:Nat):Int)+2:=IntWalk.i64_in _ (by omega);have i7:IntKind.i64.wrap (4 * ((m:Nat):Int)+3)=4 * ((m:Nat):Int)+3:=IntWalk.i64_in _ (by omega);have m64:¬(64:Int)<=(m:Int):=by omega
   have m65:¬64<=m:=by omega
   obtain⟨B0,hB0⟩:∃B,bW (bth L (4 * m))=B:=⟨_,rfl⟩;obtain⟨B1,hB1⟩:∃B,bW (bth L (4 * m+1))=B:=⟨_,rfl⟩;obtain⟨B2,hB2⟩:∃B,bW (bth L (4 * m+2))=B:=⟨_,rfl⟩;obtain⟨B3,hB3⟩:∃B,bW (bth L (4 * m+3))=B:=⟨_,rfl⟩;have hs4:=HS.out;have x0:∀wv:World,(Instr.index 9 (.string s) (.int .i64 (4 * ((m:Nat):Int)))).run Tryz.prog wv=.ok (.int .u8 (wI B0)) wv:=λ wv=>by rw[QgY s (4 * m) _ (by omega) (by omega),HLL.out,hB0]
   have x1:∀wv:World,(Instr.index 9 (.string s) (.int .i64 (4 * ((m:Nat):Int)+1))).run Tryz.prog wv=.ok (.int .u8 (wI B1)) wv:=λ wv=>by rw[QgY s (4 * m+1) _ (by omega) (by omega),HLL.out,hB1]
   have x2:∀wv:World,(Instr.index 9 (.string s) (.int .i64 (4 * ((m:Nat):Int)+2))).run Tryz.prog wv=.ok (.int .u8 (wI B2)) wv:=λ wv=>by rw[QgY s (4 * m+2) _ (by omega) (by omega),HLL.out,hB2]
   have x3:∀wv:World,(Instr.index 9 (.string s) (.int .i64 (4 * ((m:Nat):Int)+3))).run Tryz.prog wv=.ok (.int .u8 (wI B3)) wv:=λ wv=>by rw[QgY s (4 * m+3) _ (by omega) (by omega),HLL.out,hB3]
   have HW4:Hid (B0 <<< 24 ||| B1 <<< 16 ||| B2 <<< 8 ||| B3=w4 (bth L (4 * m)) (bth L (4 * m+1)) (bth L (4 * m+2)) (bth L (4 * m+3))):=QLh (by rw[<-hB0,<-hB1,<-hB2,<-hB3];rfl)
   clear hB0 hB1 hB2 hB3 hs4;go_upto_region 5 with fail;refine V6 31 rfl (by kernel_rfl) λ w' hE=>?_;have y1:=@Qn6;have y2:=@Qrx;have y3:=@QjG;have y4:=@QjH;have y5:=@QmW;have y6:=@Yx;simp only[List.take_succ_cons,List.take_zero,List.drop_succ_cons,List.drop_zero]
   repeat go_big_quiet_step (fail)
   refine wpQuiet_nil ?_;clear y1 y2 y3 y4 y5 y6;have hEw:=Q0 hE;have HW1:=QLh ((hEw.block _ (lt_of_block HW.out)).trans HW.out);have HB1:=QLh (HB.out.next hEw);have cw:w'.cell? ⟨wb,m,none⟩=some (.int .u32 (wI (wth (Qdl L m) m))):=by rw[Qa HW1.out,Xk _ _ (by rw[QhI _ _ (by omega)];omega)]
   have cf:w'.frozen? ⟨wb,m,none⟩=false:=Qk HW1.out m;have cl:wb<w'.heap.size:=lt_of_block HW1.out;have HW2:Hid ((w'.setCell ⟨wb,m,none⟩ (.int .u32 (wI (B0 <<< 24 ||| B1 <<< 16 ||| B2 <<< 8 ||| B3)))).heap[wb]?=some (.cells (wsC (Qdl L (m+1))) 294 (0,0))):=QLh (by
    have:=Qc HW1.out (o:=m) (.int .u32 (wI (B0 <<< 24 ||| B1 <<< 16 ||| B2 <<< 8 ||| B3)))
    rw[HW4.out]at this ⊢;rw[Qe6,Qfr _ _ (by omega)]at this;exact this)
   have HB2:Hid (QdA pb rb A9 w (w'.setCell ⟨wb,m,none⟩ (.int .u32 (wI (B0 <<< 24 ||| B1 <<< 16 ||| B2 <<< 8 ||| B3))))):=QLh (HB1.out.set HNE.out.2.2.1 HNE.out.2.2.2.1 HNE.out.2.2.2.2.1)
   clear hE hEw x0 x1 x2 x3 i4 i5 i6 i7 m64 m65;go_wp2
   go_roundg (16 - (m+1))
   case rel=>exact⟨m+1,by omega,by go_num,HW2,HB2⟩
   case measure=>omega
  ·obtain rfl:m=16:=by omega
   have i1:¬((16:Nat):Int)<16:=by decide
   rw[Qfv]at HW;go_upto_region 7 with fail
   go_loopg [7,8,9] 48 (λ g i _ _ wr=>∃j:Nat,g+j=48/\i=.int .i64 ((16+j:Nat):Int)/\Hid (wr.heap[wb]?=some (.cells (wsC (Kt L j)) 294 (0,0)))/\Hid (QdA pb rb A9 w wr))
   case atStart=>exact⟨0,rfl,rfl,HW,HB⟩
   case round=>
    clear HW HB;obtain⟨j,hj,rfl,HW,HB⟩:=hrel
    by_cases hlt:j<48
    ·obtain⟨t,ht⟩:∃t,16+j=t:=⟨_,rfl⟩
     rw[ht];have i1:(t:Int)<64:=by omega
     obtain⟨p15,hp15⟩:∃p,t=p+15:=⟨t - 15,by omega⟩;obtain⟨p2,hp2⟩:∃p,t=p+2:=⟨t - 2,by omega⟩;obtain⟨p16,hp16⟩:∃p,t=p+16:=⟨t - 16,by omega⟩;obtain⟨p7,hp7⟩:∃p,t=p+7:=⟨t - 7,by omega⟩;have k15:IntKind.i64.wrap (((t:Nat):Int) - 15)=((p15:Nat):Int):=by rw[IntWalk.i64_in _ (by omega)];omega
     have k2:IntKind.i64.wrap (((t:Nat):Int) - 2)=((p2:Nat):Int):=by rw[IntWalk.i64_in _ (by omega)];omega
     have k16:IntKind.i64.wrap (((t:Nat):Int) - 16)=((p16:Nat):Int):=by rw[IntWalk.i64_in _ (by omega)];omega
     have k7:IntKind.i64.wrap (((t:Nat):Int) - 7)=((p7:Nat):Int):=by rw[IntWalk.i64_in _ (by omega)];omega
     have b15:¬(64:Int)<=(p15:Int):=by omega
     have b15n:¬64<=p15:=by omega
     have b2:¬(64:Int)<=(p2:Int):=by omega
     have b2n:¬64<=p2:=by omega
     have b16:¬(64:Int)<=(p16:Int):=by omega
     have b16n:¬64<=p16:=by omega
     have b7:¬(64:Int)<=(p7:Int):=by omega
     have b7n:¬64<=p7:=by omega
     have bt:¬(64:Int)<=(t:Int):=by omega
     have btn:¬64<=t:=by omega
     have hml:=Qho L j (by omega);have HNX:Hid (QjC (Uu (Ul L 16) j) (16+j)=wth (Kt L j) p16+s0W (wth (Kt L j) p15)+wth (Kt L j) p7+s1W (wth (Kt L j) p2)):=QLh (by
      unfold QjC;rw[Uc _ _ p16 (by omega),Uc _ _ p15 (by omega),Uc _ _ p7 (by omega),Uc _ _ p2 (by omega),ht,show t - 16=p16 by omega,show t - 15=p15 by omega,show t - 7=p7 by omega,show t - 2=p2 by omega])
     obtain⟨W,hW⟩:∃W,wr=W:=⟨_,rfl⟩;rw[hW]at HW HB ⊢;obtain⟨X15,hX15⟩:∃X,wth (Kt L j) p15=X:=⟨_,rfl⟩;obtain⟨X2,hX2⟩:∃X,wth (Kt L j) p2=X:=⟨_,rfl⟩;obtain⟨X16,hX16⟩:∃X,wth (Kt L j) p16=X:=⟨_,rfl⟩;obtain⟨X7,hX7⟩:∃X,wth (Kt L j) p7=X:=⟨_,rfl⟩;have HC:Hid (∀W9:World,W9.heap[wb]?=some (.cells (wsC (Kt L j)) 294 (0,0))->W9.cell? ⟨wb,p15,none⟩=some (.int .u32 (wI X15))/\W9.cell? ⟨wb,p2,none⟩=some (.int .u32 (wI X2))/\W9.cell? ⟨wb,p16,none⟩=some (.int .u32 (wI X16))/\W9.cell? ⟨wb,p7,none⟩=some (.int .u32 (wI X7))/\W9.cell? ⟨wb,t,none⟩=some (.int .u32 (wI (wth (Kt L j) t)))):=QLh (λ W9 h9=>by
      refine⟨?_,?_,?_,?_,?_⟩
      ·rw[Qa h9,Xk _ _ (by rw[hml];omega),hX15]
      ·rw[Qa h9,Xk _ _ (by rw[hml];omega),hX2]
      ·rw[Qa h9,Xk _ _ (by rw[hml];omega),hX16]
      ·rw[Qa h9,Xk _ _ (by rw[hml];omega),hX7]
      ·rw[Qa h9,Xk _ _ (by rw[hml];omega)])
     rw[hX15,hX2,hX16,hX7]at HNX;have HT:=QLh ht;have bs3:(wI X15).fdiv 8=wI (X15 >>> 3):=Qof X15 3;have bs3m:wI X15 / 8=wI (X15 >>> 3):=Zi X15 3;have bs10:(wI X2).fdiv 1024=wI (X2 >>> 10):=Qof X2 10;have bs10m:wI X2 / 1024=wI (X2 >>> 10):=Zi X2 10;have c15:=(HC.out W HW.out).1;clear hX15 hX2 hX16 hX7 hW hp15 hp2 hp16 hp7 hml ht;go_upto_region 9 with fail;refine Qp 17 1000 (none) (Kx (List.map qv [.int .i64 (t:Nat),.int .i64 (p15:Nat),.pointer (some ⟨wb,p15,none⟩),.int .u32 (wI X15),.int .u32 (wI (Jr X15 7)),.int .i64 (t:Nat),.int .i64 (p15:Nat),.pointer (some ⟨wb,p15,none⟩),.int .u32 (wI X15),.int .u32 (wI (Jr X15 18)),.int .u32 (wI (Jr X15 7 ^^^ Jr X15 18)),.int .i64 (t:Nat),.int .i64 (p15:Nat),.pointer (some ⟨wb,p15,none⟩),.int .u32 (wI X15),.int .u32 (wI (X15 >>> 3)),.int .u32 (wI (Jr X15 7 ^^^ Jr X15 18 ^^^ X15 >>> 3))])) rfl (by kernel_rfl) (by kernel_rfl) (Q9 Xz) (Q6 17 ⟨?s0,?s1,?s2,?s3,?s4,?s5,?s6,?s7,?s8,?s9,?s10,?s11,?s12,?s13,?s14,?s15,?s16,trivial⟩) ?_
     case s0=>refine qV (λ _=>rfl) rfl λ av wv hE hO hD=>?_;simp[go_sem,qF av 7 (.int .i64 (t:Nat)) (hO.2.2 7 rfl),k15,b15,b15n,Qz,Zi,bs3,bs3m]
     case s1=>refine qV (λ _=>rfl) rfl λ av wv hE hO hD=>?_;simp[go_sem,qE (hD.1 rfl _ rfl),k15,b15,b15n,Qz,Zi,bs3,bs3m]
     case s2=>refine qV (λ _=>rfl) rfl λ av wv hE hO hD=>?_;simp[go_sem,qF av 5 (.pointer (some ⟨wb,0,none⟩)) (hO.2.2 5 rfl),qE (hD.1 rfl _ rfl),k15,b15,b15n,Qz,Zi,bs3,bs3m]
     case s3=>refine qV (λ _=>rfl) rfl λ av wv hE hO hD=>?_;simp[go_sem,qE (hD.1 rfl _ rfl),Qb hE (by simp) c15,k15,b15,b15n,Qz,Zi,bs3,bs3m]
     case s4=>refine Qu (λ av wv hE hS hO hD=>⟨rfl,?_⟩);have f64:=qE (hD.1 rfl _ rfl);refine Zb (v:=.int .u32 (wI (Jr X15 7))) (by simp[go_sem,f64]) ((Je X15 7 wv (by decide) (by decide)).mono (λ e w2 ⟨h1,h2⟩=>⟨h1,h2.below _⟩)) (λ w2 hb=>⟨_,rfl,Qo hb,rfl⟩)
     case s5=>refine qV (λ _=>rfl) rfl λ av wv hE hO hD=>?_;simp[go_sem,qF av 7 (.int .i64 (t:Nat)) (hO.2.2 7 rfl),k15,b15,b15n,Qz,Zi,bs3,bs3m]
     case s6=>refine qV (λ _=>rfl) rfl λ av wv hE hO hD=>?_;simp[go_sem,qE (hD.1 rfl _ rfl),k15,b15,b15n,Qz,Zi,bs3,bs3m]
     case s7=>refine qV (λ _=>rfl) rfl λ av wv hE hO hD=>?_;simp[go_sem,qF av 5 (.pointer (some ⟨wb,0,none⟩)) (hO.2.2 5 rfl),qE (hD.1 rfl _ rfl),k15,b15,b15n,Qz,Zi,bs3,bs3m]
     case s8=>refine qV (λ _=>rfl) rfl λ av wv hE hO hD=>?_;simp[go_sem,qE (hD.1 rfl _ rfl),Qb hE (by simp) c15,k15,b15,b15n,Qz,Zi,bs3,bs3m]
     case s9=>refine Qu (λ av wv hE hS hO hD=>⟨rfl,?_⟩);have f69:=qE (hD.1 rfl _ rfl);refine Zb (v:=.int .u32 (wI (Jr X15 18))) (by simp[go_sem,f69]) ((Je X15 18 wv (by decide) (by decide)).mono (λ e w2 ⟨h1,h2⟩=>⟨h1,h2.below _⟩)) (λ w2 hb=>⟨_,rfl,Qo hb,rfl⟩)
     case s10=>refine qV (λ _=>rfl) rfl λ av wv hE hO hD=>?_;simp[go_sem,qE (hD.1 rfl _ rfl),qE (hD.2.1 rfl _ rfl),k15,b15,b15n,Qz,Zi,bs3,bs3m]
     case s11=>refine qV (λ _=>rfl) rfl λ av wv hE hO hD=>?_;simp[go_sem,qF av 7 (.int .i64 (t:Nat)) (hO.2.2 7 rfl),k15,b15,b15n,Qz,Zi,bs3,bs3m]
     case s12=>refine qV (λ _=>rfl) rfl λ av wv hE hO hD=>?_;simp[go_sem,qE (hD.1 rfl _ rfl),k15,b15,b15n,Qz,Zi,bs3,bs3m]
     case s13=>refine qV (λ _=>rfl) rfl λ av wv hE hO hD=>?_;simp[go_sem,qF av 5 (.pointer (some ⟨wb,0,none⟩)) (hO.2.2 5 rfl),qE (hD.1 rfl _ rfl),k15,b15,b15n,Qz,Zi,bs3,bs3m]
     case s14=>refine qV (λ _=>rfl) rfl λ av wv hE hO hD=>?_;simp[go_sem,qE (hD.1 rfl _ rfl),Qb hE (by simp) c15,k15,b15,b15n,Qz,Zi,bs3,bs3m]
     case s15=>refine Qu (λ av wv hE hS hO hD=>⟨rfl,?_⟩);have f75:=qE (hD.1 rfl _ rfl);exact Zn (v:=.int .u32 (wI (X15 >>> 3))) (by simp[go_sem,f75];exact bs3m) ⟨_,rfl,Qo (Zj _),rfl⟩
     case s16=>refine qV (λ _=>rfl) rfl λ av wv hE hO hD=>?_;simp[go_sem,qE (hD.1 rfl _ rfl),qE (hD.2.1 rfl _ rfl),k15,b15,b15n,Qz,Zi,bs3,bs3m]
     intro a' w' hE hO hall;have hA:=Qn (ds:=[61,62,63,64,65,66,67,68,69,70,71,72,73,74,75,76,77]) rfl hO (by kernel_rfl);obtain⟨j0,j1,j2,j3,j4,j5,j6,j7,j8,j9,j10,j11,j12,j13,j14,j15,j16,-⟩:=hall;simp only[List.foldl_cons,List.foldl_nil,Act.put,List.setIfInBounds_toArray,List.set_cons_succ,List.set_cons_zero,qJ 61 (j0 _ rfl),qJ 62 (j1 _ rfl),qJ 63 (j2 _ rfl),qJ 64 (j3 _ rfl),qJ 65 (j4 _ rfl),qJ 66 (j5 _ rfl),qJ 67 (j6 _ rfl),qJ 68 (j7 _ rfl),qJ 69 (j8 _ rfl),qJ 70 (j9 _ rfl),qJ 71 (j10 _ rfl),qJ 72 (j11 _ rfl),qJ 73 (j12 _ rfl),qJ 74 (j13 _ rfl),qJ 75 (j14 _ rfl),qJ 76 (j15 _ rfl),qJ 77 (j16 _ rfl)]at hA;clear hO j0 j1 j2 j3 j4 j5 j6 j7 j8 j9 j10 j11 j12 j13 j14 j15 j16;subst hA;have hX:=Q0 hE;have HW:=QLh ((hX.block _ (lt_of_block HW.out)).trans HW.out);have HB:=QLh (HB.out.next hX);clear hE hX c15;obtain⟨W2,hW2⟩:∃W2,w'=W2:=⟨_,rfl⟩;rw[hW2]at HW HB ⊢;clear hW2 w';obtain⟨Y15,hY15⟩:∃Y,Jr X15 7 ^^^ Jr X15 18 ^^^ X15 >>> 3=Y:=⟨_,rfl⟩;rw[hY15];have HY15:=QLh hY15;clear hY15;have c2:=(HC.out W2 HW.out).2.1;go_upto_region 10 with fail;refine Qp 17 1000 (none) (Kx (List.map qv [.int .i64 (t:Nat),.int .i64 (p2:Nat),.pointer (some ⟨wb,p2,none⟩),.int .u32 (wI X2),.int .u32 (wI (Jr X2 17)),.int .i64 (t:Nat),.int .i64 (p2:Nat),.pointer (some ⟨wb,p2,none⟩),.int .u32 (wI X2),.int .u32 (wI (Jr X2 19)),.int .u32 (wI (Jr X2 17 ^^^ Jr X2 19)),.int .i64 (t:Nat),.int .i64 (p2:Nat),.pointer (some ⟨wb,p2,none⟩),.int .u32 (wI X2),.int .u32 (wI (X2 >>> 10)),.int .u32 (wI (Jr X2 17 ^^^ Jr X2 19 ^^^ X2 >>> 10))])) rfl (by kernel_rfl) (by kernel_rfl) (Q9 Xz) (Q6 17 ⟨?s0,?s1,?s2,?s3,?s4,?s5,?s6,?s7,?s8,?s9,?s10,?s11,?s12,?s13,?s14,?s15,?s16,trivial⟩) ?_
     case s0=>refine qV (λ _=>rfl) rfl λ av wv hE hO hD=>?_;simp[go_sem,qF av 7 (.int .i64 (t:Nat)) (hO.2.2 7 rfl),k2,b2,b2n,Qz,Zi,bs10,bs10m]
     case s1=>refine qV (λ _=>rfl) rfl λ av wv hE hO hD=>?_;simp[go_sem,qE (hD.1 rfl _ rfl),k2,b2,b2n,Qz,Zi,bs10,bs10m]
     case s2=>refine qV (λ _=>rfl) rfl λ av wv hE hO hD=>?_;simp[go_sem,qF av 5 (.pointer (some ⟨wb,0,none⟩)) (hO.2.2 5 rfl),qE (hD.1 rfl _ rfl),k2,b2,b2n,Qz,Zi,bs10,bs10m]
     case s3=>refine qV (λ _=>rfl) rfl λ av wv hE hO hD=>?_;simp[go_sem,qE (hD.1 rfl _ rfl),Qb hE (by simp) c2,k2,b2,b2n,Qz,Zi,bs10,bs10m]
     case s4=>refine Qu (λ av wv hE hS hO hD=>⟨rfl,?_⟩);have f81:=qE (hD.1 rfl _ rfl);refine Zb (v:=.int .u32 (wI (Jr X2 17))) (by simp[go_sem,f81]) ((Je X2 17 wv (by decide) (by decide)).mono (λ e w2 ⟨h1,h2⟩=>⟨h1,h2.below _⟩)) (λ w2 hb=>⟨_,rfl,Qo hb,rfl⟩)
     case s5=>refine qV (λ _=>rfl) rfl λ av wv hE hO hD=>?_;simp[go_sem,qF av 7 (.int .i64 (t:Nat)) (hO.2.2 7 rfl),k2,b2,b2n,Qz,Zi,bs10,bs10m]
     case s6=>refine qV (λ _=>rfl) rfl λ av wv hE hO hD=>?_;simp[go_sem,qE (hD.1 rfl _ rfl),k2,b2,b2n,Qz,Zi,bs10,bs10m]
     case s7=>refine qV (λ _=>rfl) rfl λ av wv hE hO hD=>?_;simp[go_sem,qF av 5 (.pointer (some ⟨wb,0,none⟩)) (hO.2.2 5 rfl),qE (hD.1 rfl _ rfl),k2,b2,b2n,Qz,Zi,bs10,bs10m]
     case s8=>refine qV (λ _=>rfl) rfl λ av wv hE hO hD=>?_;simp[go_sem,qE (hD.1 rfl _ rfl),Qb hE (by simp) c2,k2,b2,b2n,Qz,Zi,bs10,bs10m]
     case s9=>refine Qu (λ av wv hE hS hO hD=>⟨rfl,?_⟩);have f86:=qE (hD.1 rfl _ rfl);refine Zb (v:=.int .u32 (wI (Jr X2 19))) (by simp[go_sem,f86]) ((Je X2 19 wv (by decide) (by decide)).mono (λ e w2 ⟨h1,h2⟩=>⟨h1,h2.below _⟩)) (λ w2 hb=>⟨_,rfl,Qo hb,rfl⟩)
     case s10=>refine qV (λ _=>rfl) rfl λ av wv hE hO hD=>?_;simp[go_sem,qE (hD.1 rfl _ rfl),qE (hD.2.1 rfl _ rfl),k2,b2,b2n,Qz,Zi,bs10,bs10m]
     case s11=>refine qV (λ _=>rfl) rfl λ av wv hE hO hD=>?_;simp[go_sem,qF av 7 (.int .i64 (t:Nat)) (hO.2.2 7 rfl),k2,b2,b2n,Qz,Zi,bs10,bs10m]
     case s12=>refine qV (λ _=>rfl) rfl λ av wv hE hO hD=>?_;simp[go_sem,qE (hD.1 rfl _ rfl),k2,b2,b2n,Qz,Zi,bs10,bs10m]
     case s13=>refine qV (λ _=>rfl) rfl λ av wv hE hO hD=>?_;simp[go_sem,qF av 5 (.pointer (some ⟨wb,0,none⟩)) (hO.2.2 5 rfl),qE (hD.1 rfl _ rfl),k2,b2,b2n,Qz,Zi,bs10,bs10m]
     case s14=>refine qV (λ _=>rfl) rfl λ av wv hE hO hD=>?_;simp[go_sem,qE (hD.1 rfl _ rfl),Qb hE (by simp) c2,k2,b2,b2n,Qz,Zi,bs10,bs10m]
     case s15=>refine Qu (λ av wv hE hS hO hD=>⟨rfl,?_⟩);have f92:=qE (hD.1 rfl _ rfl);exact Zn (v:=.int .u32 (wI (X2 >>> 10))) (by simp[go_sem,f92];exact bs10m) ⟨_,rfl,Qo (Zj _),rfl⟩
     case s16=>refine qV (λ _=>rfl) rfl λ av wv hE hO hD=>?_;simp[go_sem,qE (hD.1 rfl _ rfl),qE (hD.2.1 rfl _ rfl),k2,b2,b2n,Qz,Zi,bs10,bs10m]
     intro a' w' hE hO hall;have hA:=Qn (ds:=[78,79,80,81,82,83,84,85,86,87,88,89,90,91,92,93,94]) rfl hO (by kernel_rfl);obtain⟨j0,j1,j2,j3,j4,j5,j6,j7,j8,j9,j10,j11,j12,j13,j14,j15,j16,-⟩:=hall;simp only[List.foldl_cons,List.foldl_nil,Act.put,List.setIfInBounds_toArray,List.set_cons_succ,List.set_cons_zero,qJ 78 (j0 _ rfl),qJ 79 (j1 _ rfl),qJ 80 (j2 _ rfl),qJ 81 (j3 _ rfl),qJ 82 (j4 _ rfl),qJ 83 (j5 _ rfl),qJ 84 (j6 _ rfl),qJ 85 (j7 _ rfl),qJ 86 (j8 _ rfl),qJ 87 (j9 _ rfl),qJ 88 (j10 _ rfl),qJ 89 (j11 _ rfl),qJ 90 (j12 _ rfl),qJ 91 (j13 _ rfl),qJ 92 (j14 _ rfl),qJ 93 (j15 _ rfl),qJ 94 (j16 _ rfl)]at hA;clear hO j0 j1 j2 j3 j4 j5 j6 j7 j8 j9 j10 j11 j12 j13 j14 j15 j16;subst hA;have hX:=Q0 hE;have HW:=QLh ((hX.block _ (lt_of_block HW.out)).trans HW.out);have HB:=QLh (HB.out.next hX);clear hE hX c2;obtain⟨W3,hW3⟩:∃W3,w'=W3:=⟨_,rfl⟩;rw[hW3]at HW HB ⊢;clear hW3 w';obtain⟨Y2,hY2⟩:∃Y,Jr X2 17 ^^^ Jr X2 19 ^^^ X2 >>> 10=Y:=⟨_,rfl⟩;rw[hY2];have HY2:=QLh hY2;clear hY2;have c16:=(HC.out W3 HW.out).2.2.1;have c7:=(HC.out W3 HW.out).2.2.2.1;go_upto_region 11 with fail;refine V6 15 rfl (by kernel_rfl) λ w' hE=>?_;have c16:=Qb hE (by simp) c16;have c7:=Qb hE (by simp) c7;simp only[List.take_succ_cons,List.take_zero,List.drop_succ_cons,List.drop_zero]
     repeat go_big_quiet_step (fail)
     refine wpQuiet_nil ?_;have hX:=Q0 hE;have HW:=QLh ((hX.block _ (lt_of_block HW.out)).trans HW.out);have HB:=QLh (HB.out.next hX);clear hE hX c16 c7;obtain⟨W4,hW4⟩:∃W4,w'=W4:=⟨_,rfl⟩;rw[hW4]at HW HB ⊢;clear hW4 w';have c0:=(HC.out W4 HW.out).2.2.2.2;have f0:W4.frozen? ⟨wb,t,none⟩=false:=Qk HW.out t;have l0:wb<W4.heap.size:=lt_of_block HW.out;clear k15 k2 k16 k7 b15 b15n b2 b2n b16 b16n b7 b7n bt btn bs3 bs3m bs10 bs10m;have iw:IntKind.i64.wrap (((t:Nat):Int)+1)=((t:Nat):Int)+1:=IntWalk.i64_in _ (by omega);go_wp2
     go_roundg (48 - (j+1))
     case rel=>exact⟨j+1,by omega,by have:=HT.out;congr 1;omega,QLh (by
      have h9:=Qc HW.out (o:=t) (wV (X16+Y15+X7+Y2));rw[Qe6]at h9;rw[<-QfI L j hlt,HNX.out,HT.out];unfold s0W s1W;rw[HY15.out,HY2.out];exact h9),QLh (HB.out.set HNE.out.2.2.1 HNE.out.2.2.2.1 HNE.out.2.2.2.2.1)⟩
     case measure=>omega
    ·obtain rfl:j=48:=by omega
     have i1:¬((16+48:Nat):Int)<64:=by decide
     clear hj hlt i1;obtain⟨Ws,hWs⟩:∃Ws,Uu (Ul L 16) 48=Ws:=⟨_,rfl⟩;have HWL:Hid (Ws.length=64):=QLh (by rw[<-hWs,Uj,Kr]);have HWS:=QLh hWs;have HW:Hid (wr.heap[wb]?=some (.cells (wsC Ws) 294 (0,0))):=QLh (by
      have e9:Kt L 48=Ws:=by rw[<-hWs];unfold Kt;rw[Nat.sub_self,List.replicate_zero,List.append_nil]
      rw[<-e9];exact HW.out)
     clear hWs;have i1:¬((16+48:Nat):Int)<64:=by decide
     go_upto_region 12 with fail;go_wp2_with fail;refine(Qji wr).mono ?_;rintro e w2 ⟨rfl,hb2⟩;have HW2:=QLh ((hb2.block _ (lt_of_block HW.out)).trans HW.out);have HB2:=QLh (HB.out.next hb2);obtain⟨KC,hKC⟩:∃KC,wsC kW=KC:=⟨_,rfl⟩;have HKC:=QLh hKC;have HKS:Hid (KC.size=64):=QLh (by rw[<-hKC];rfl);have HON:Hid (KC.all (·.oneCell')=true):=QLh (by rw[<-hKC];kernel_rfl);have HI:Hid ((Tryz.prog.info? 294).map (·.size)=some KC.size):=QLh (by rw[HKS.out];kernel_rfl);rw[hKC];clear hb2 hKC HW HB
     go_upto_region 13 with(first | (refine wpList_store_row ?_ 294 (.tmp 10) (.tmp 110) ?_ w2.heap.size KC ?_ ?_ 294 _ (heap_alloc_new _ _) HI.out ?_ HON.out ?_;rfl;rfl;rfl;rfl;(rw[HKS.out];rfl);skip))
     have HKB:Hid (w.heap.size<=w2.heap.size/\pb<w2.heap.size/\rb<w2.heap.size/\wb<w2.heap.size):=QLh ⟨HB2.out.below.size,lt_of_block HB2.out.p,lt_of_block HB2.out.r,lt_of_block HW2.out⟩;change Code.wp _ _ _ _ ((w2.alloc (.cells (wsC Qbu) 294)).setRow w2.heap.size KC);obtain⟨V,hV⟩:∃V,(w2.alloc (.cells (wsC Qbu) 294)).setRow w2.heap.size KC=V:=⟨_,rfl⟩;rw[hV];obtain⟨kb,hkb⟩:∃kb,w2.heap.size=kb:=⟨_,rfl⟩;rw[hkb]at hV HKB ⊢;have HVK:Hid (V.heap[kb]?=some (.cells (wsC kW) 294 (0,0))):=QLh (by rw[HKC.out,<-hV];exact setRow_heap _ _ _ _ _ _ (by rw[<-hkb];exact heap_alloc_new _ _));have HVO:∀b c,b<kb->w2.heap[b]?=some c->V.heap[b]?=some c:=λ b c hb hc=>by rw[<-hV,setRow_other _ _ _ _ (by omega:b≠kb)];exact Qe hc _
     have HVS:w2.heap.size<=V.heap.size:=by rw[<-hV,setRow_size];exact(Qf (Below.refl _ w2) _).size
     have HVB:Hid (Below w.heap.size w V):=QLh (by
      have h1:Below w.heap.size w (w2.alloc (.cells (wsC Qbu) 294)):=Qf HB2.out.below _;rw[<-hV];exact⟨h1.os,h1.tape,h1.output,by rw[setRow_size];exact h1.size,λ i hi=>by rw[setRow_other _ _ _ _ (show i≠kb by have:=HKB.out;omega)];exact h1.block i hi⟩)
     have HVW:=QLh (HVO wb _ HKB.out.2.2.2 HW2.out);have HVA:Hid (QdA pb rb A9 w V):=QLh ⟨HVB.out,HVO pb _ HKB.out.2.1 HB2.out.p,HVO rb _ HKB.out.2.2.1 HB2.out.r⟩;clear hV hkb HVO HVS HVB HB2 HW2 HI HON HKS;have p0:V.cell? ⟨pb,0,none⟩=some (.int .u32 (wI v.a)):=(Qa HVA.out.p 0).trans (by rw[<-HA9.out];rfl);have p1:V.cell? ⟨pb,1,none⟩=some (.int .u32 (wI v.b)):=(Qa HVA.out.p 1).trans (by rw[<-HA9.out];rfl);have p2:V.cell? ⟨pb,2,none⟩=some (.int .u32 (wI v.c)):=(Qa HVA.out.p 2).trans (by rw[<-HA9.out];rfl);have p3:V.cell? ⟨pb,3,none⟩=some (.int .u32 (wI v.d)):=(Qa HVA.out.p 3).trans (by rw[<-HA9.out];rfl);refine Zp 1000 (none) (Kx (List.map qv [.pointer (some ⟨pb,0,none⟩),.int .u32 (wI v.a),.pointer (some ⟨pb,1,none⟩),.int .u32 (wI v.b),.pointer (some ⟨pb,2,none⟩),.int .u32 (wI v.c),.pointer (some ⟨pb,3,none⟩),.int .u32 (wI v.d),.int .u32 (wI v.a),.int .u32 (wI v.b),.int .u32 (wI v.c),.int .u32 (wI v.d)])) rfl (by kernel_rfl) (Q9 Xz) (Q6 12 ⟨?s0,?s1,?s2,?s3,?s4,?s5,?s6,?s7,?s8,?s9,?s10,?s11,trivial⟩) ?_
     case s0=>refine qV (λ _=>rfl) rfl λ av wv hE hO hD=>?_;simp[go_sem,qF av 2 (.pointer (some ⟨pb,0,none⟩)) (hO.2.2 2 rfl)]
     case s1=>refine qV (λ _=>rfl) rfl λ av wv hE hO hD=>?_;simp[go_sem,qE (hD.1 rfl _ rfl),Qb hE (by simp) p0,Qb hE (by simp) p1,Qb hE (by simp) p2,Qb hE (by simp) p3]
     case s2=>refine qV (λ _=>rfl) rfl λ av wv hE hO hD=>?_;simp[go_sem,qF av 2 (.pointer (some ⟨pb,0,none⟩)) (hO.2.2 2 rfl)]
     case s3=>refine qV (λ _=>rfl) rfl λ av wv hE hO hD=>?_;simp[go_sem,qE (hD.1 rfl _ rfl),Qb hE (by simp) p0,Qb hE (by simp) p1,Qb hE (by simp) p2,Qb hE (by simp) p3]
     case s4=>refine qV (λ _=>rfl) rfl λ av wv hE hO hD=>?_;simp[go_sem,qF av 2 (.pointer (some ⟨pb,0,none⟩)) (hO.2.2 2 rfl)]
     case s5=>refine qV (λ _=>rfl) rfl λ av wv hE hO hD=>?_;simp[go_sem,qE (hD.1 rfl _ rfl),Qb hE (by simp) p0,Qb hE (by simp) p1,Qb hE (by simp) p2,Qb hE (by simp) p3]
     case s6=>refine qV (λ _=>rfl) rfl λ av wv hE hO hD=>?_;simp[go_sem,qF av 2 (.pointer (some ⟨pb,0,none⟩)) (hO.2.2 2 rfl)]
     case s7=>refine qV (λ _=>rfl) rfl λ av wv hE hO hD=>?_;simp[go_sem,qE (hD.1 rfl _ rfl),Qb hE (by simp) p0,Qb hE (by simp) p1,Qb hE (by simp) p2,Qb hE (by simp) p3]
     case s8=>refine qV (λ _=>rfl) rfl λ av wv hE hO hD=>?_;simp[go_sem,qE (hD.1 rfl _ rfl)]
     case s9=>refine qV (λ _=>rfl) rfl λ av wv hE hO hD=>?_;simp[go_sem,qE (hD.1 rfl _ rfl)]
     case s10=>refine qV (λ _=>rfl) rfl λ av wv hE hO hD=>?_;simp[go_sem,qE (hD.1 rfl _ rfl)]
     case s11=>refine qV (λ _=>rfl) rfl λ av wv hE hO hD=>?_;simp[go_sem,qE (hD.1 rfl _ rfl)]
     intro a' w' hE hO hall;have hA:=Qn (ds:=[111,112,113,114,115,116,117,118,11,12,13,14]) rfl hO (by kernel_rfl);obtain⟨j0,j1,j2,j3,j4,j5,j6,j7,j8,j9,j10,j11,-⟩:=hall;simp only[List.foldl_cons,List.foldl_nil,Act.put,List.setIfInBounds_toArray,List.set_cons_succ,List.set_cons_zero,qJ 111 (j0 _ rfl),qJ 112 (j1 _ rfl),qJ 113 (j2 _ rfl),qJ 114 (j3 _ rfl),qJ 115 (j4 _ rfl),qJ 116 (j5 _ rfl),qJ 117 (j6 _ rfl),qJ 118 (j7 _ rfl),qJ 11 (j8 _ rfl),qJ 12 (j9 _ rfl),qJ 13 (j10 _ rfl),qJ 14 (j11 _ rfl)]at hA;clear hO j0 j1 j2 j3 j4 j5 j6 j7 j8 j9 j10 j11;subst hA;have hX:=Q0 hE;have HVK:=QLh ((hX.block _ (lt_of_block HVK.out)).trans HVK.out);have HVW:=QLh ((hX.block _ (lt_of_block HVW.out)).trans HVW.out);have HVA:=QLh (HVA.out.next hX);clear hE hX p0 p1 p2 p3;obtain⟨V2,hV2⟩:∃V2,w'=V2:=⟨_,rfl⟩;rw[hV2]at HVK HVW HVA ⊢;clear hV2 w';have p4:V2.cell? ⟨pb,4,none⟩=some (.int .u32 (wI v.e)):=(Qa HVA.out.p 4).trans (by rw[<-HA9.out];rfl);have p5:V2.cell? ⟨pb,5,none⟩=some (.int .u32 (wI v.f)):=(Qa HVA.out.p 5).trans (by rw[<-HA9.out];rfl);have p6:V2.cell? ⟨pb,6,none⟩=some (.int .u32 (wI v.g)):=(Qa HVA.out.p 6).trans (by rw[<-HA9.out];rfl);have p7:V2.cell? ⟨pb,7,none⟩=some (.int .u32 (wI v.h)):=(Qa HVA.out.p 7).trans (by rw[<-HA9.out];rfl);go_upto_region 14 with fail;refine Yt rfl (by kernel_rfl) λ w' hE=>?_;have p4:=Qb hE (by simp) p4;have p5:=Qb hE (by simp) p5;have p6:=Qb hE (by simp) p6;have p7:=Qb hE (by simp) p7
     repeat go_big_quiet_step (fail)
     refine wpQuiet_nil ?_;have hX:=Q0 hE;have HVK:=QLh ((hX.block _ (lt_of_block HVK.out)).trans HVK.out);have HVW:=QLh ((hX.block _ (lt_of_block HVW.out)).trans HVW.out);have HVA:=QLh (HVA.out.next hX);clear hE hX p4 p5 p6 p7;obtain⟨V3,hV3⟩:∃V3,w'=V3:=⟨_,rfl⟩;rw[hV3]at HVK HVW HVA ⊢;clear hV3 w';go_upto_region 16 with fail
     go_loopg [19,11,12,13,14,15,16,17,18] 64 (λ g i xa xb xc xd xe xf xg xh wr=>∃(m:Nat) (z8:St8),g+m=64/\i=.int .i64 (m:Nat)/\xa=.int .u32 (wI z8.a)/\xb=.int .u32 (wI z8.b)/\xc=.int .u32 (wI z8.c)/\xd=.int .u32 (wI z8.d)/\xe=.int .u32 (wI z8.e)/\xf=.int .u32 (wI z8.f)/\xg=.int .u32 (wI z8.g)/\xh=.int .u32 (wI z8.h)/\Hid (Vt kW Ws v m=z8)/\Hid (wr.heap[kb]?=some (.cells (wsC kW) 294 (0,0)))/\Hid (wr.heap[wb]?=some (.cells (wsC Ws) 294 (0,0)))/\Hid (QdA pb rb A9 w wr))
     case atStart=>exact⟨0,v,rfl,rfl,rfl,rfl,rfl,rfl,rfl,rfl,rfl,rfl,QLh rfl,HVK,HVW,HVA⟩
     case round=>
      clear HVK HVW HVA;obtain⟨m,z8,hm,rfl,rfl,rfl,rfl,rfl,rfl,rfl,rfl,rfl,HZ,HVK,HVW,HVA⟩:=hrel
      by_cases hlt:m<64
      ·have i1:(m:Int)<64:=by omega
       have bm:¬(64:Int)<=(m:Int):=by omega
       have bmn:¬64<=m:=by omega
       obtain⟨KM,hKM⟩:∃X,wth kW m=X:=⟨_,rfl⟩;obtain⟨WM,hWM⟩:∃X,wth Ws m=X:=⟨_,rfl⟩;obtain⟨W5,hW5⟩:∃W5,wr=W5:=⟨_,rfl⟩;rw[hW5]at HVK HVW HVA ⊢;clear hW5;have ck:W5.cell? ⟨kb,m,none⟩=some (.int .u32 (wI KM)):=by rw[Qa HVK.out,Xk _ _ (show m<64 from hlt),hKM]
       have cw:W5.cell? ⟨wb,m,none⟩=some (.int .u32 (wI WM)):=by rw[Qa HVW.out,Xk _ _ (by rw[HWL.out];exact hlt),hWM]
       have HNZ:Hid (Vt kW Ws v (m+1)=QeW z8 KM WM):=QLh (by rw[Vt,HZ.out,hKM,hWM]);clear hKM hWM;go_upto_region 18 with fail;refine Qp 27 1000 (none) (Kx (List.map qv [.int .u32 (wI z8.h),.int .i64 (m:Nat),.pointer (some ⟨kb,m,none⟩),.int .u32 (wI KM),.int .u32 (wI (z8.h+KM)),.int .i64 (m:Nat),.pointer (some ⟨wb,m,none⟩),.int .u32 (wI WM),.int .u32 (wI (z8.h+KM+WM)),.int .u32 (wI z8.e),.int .u32 (wI (Jr z8.e 6)),.int .u32 (wI z8.e),.int .u32 (wI (Jr z8.e 11)),.int .u32 (wI (Jr z8.e 6 ^^^ Jr z8.e 11)),.int .u32 (wI z8.e),.int .u32 (wI (Jr z8.e 25)),.int .u32 (wI (Jr z8.e 6 ^^^ Jr z8.e 11 ^^^ Jr z8.e 25)),.int .u32 (wI (z8.h+KM+WM+(Jr z8.e 6 ^^^ Jr z8.e 11 ^^^ Jr z8.e 25))),.int .u32 (wI z8.e),.int .u32 (wI z8.f),.int .u32 (wI (z8.e &&& z8.f)),.int .u32 (wI z8.e),.int .u32 (wI (~~~ z8.e)),.int .u32 (wI z8.g),.int .u32 (wI (~~~ z8.e &&& z8.g)),.int .u32 (wI (z8.e &&& z8.f ||| ~~~ z8.e &&& z8.g)),.int .u32 (wI (z8.h+KM+WM+(Jr z8.e 6 ^^^ Jr z8.e 11 ^^^ Jr z8.e 25)+(z8.e &&& z8.f ||| ~~~ z8.e &&& z8.g)))])) rfl (by kernel_rfl) (by kernel_rfl) (Q9 Xz) (Q6 27 ⟨?s0,?s1,?s2,?s3,?s4,?s5,?s6,?s7,?s8,?s9,?s10,?s11,?s12,?s13,?s14,?s15,?s16,?s17,?s18,?s19,?s20,?s21,?s22,?s23,?s24,?s25,?s26,trivial⟩) ?_
       case s0=>refine qV (λ _=>rfl) rfl λ av wv hE hO hD=>?_;simp[go_sem,qF av 18 (.int .u32 (wI z8.h)) (hO.2.2 18 rfl),Q5,Qt,Qz,Zx,Yx,Xn,bm,bmn]
       case s1=>refine qV (λ _=>rfl) rfl λ av wv hE hO hD=>?_;simp[go_sem,qF av 19 (.int .i64 (m:Nat)) (hO.2.2 19 rfl),Q5,Qt,Qz,Zx,Yx,Xn,bm,bmn]
       case s2=>refine qV (λ _=>rfl) rfl λ av wv hE hO hD=>?_;simp[go_sem,qF av 10 (.pointer (some ⟨kb,0,none⟩)) (hO.2.2 10 rfl),qE (hD.1 rfl _ rfl),Q5,Qt,Qz,Zx,Yx,Xn,bm,bmn]
       case s3=>refine qV (λ _=>rfl) rfl λ av wv hE hO hD=>?_;simp[go_sem,qE (hD.1 rfl _ rfl),Qb hE (by simp) ck,Qb hE (by simp) cw,Q5,Qt,Qz,Zx,Yx,Xn,bm,bmn]
       case s4=>refine qV (λ _=>rfl) rfl λ av wv hE hO hD=>?_;simp[go_sem,qE (hD.1 rfl _ rfl),qE (hD.2.1 rfl _ rfl),Q5,Qt,Qz,Zx,Yx,Xn,bm,bmn]
       case s5=>refine qV (λ _=>rfl) rfl λ av wv hE hO hD=>?_;simp[go_sem,qF av 19 (.int .i64 (m:Nat)) (hO.2.2 19 rfl),Q5,Qt,Qz,Zx,Yx,Xn,bm,bmn]
       case s6=>refine qV (λ _=>rfl) rfl λ av wv hE hO hD=>?_;simp[go_sem,qF av 5 (.pointer (some ⟨wb,0,none⟩)) (hO.2.2 5 rfl),qE (hD.1 rfl _ rfl),Q5,Qt,Qz,Zx,Yx,Xn,bm,bmn]
       case s7=>refine qV (λ _=>rfl) rfl λ av wv hE hO hD=>?_;simp[go_sem,qE (hD.1 rfl _ rfl),Qb hE (by simp) ck,Qb hE (by simp) cw,Q5,Qt,Qz,Zx,Yx,Xn,bm,bmn]
       case s8=>refine qV (λ _=>rfl) rfl λ av wv hE hO hD=>?_;simp[go_sem,qE (hD.1 rfl _ rfl),qE (hD.2.1 rfl _ rfl),Q5,Qt,Qz,Zx,Yx,Xn,bm,bmn]
       case s9=>refine qV (λ _=>rfl) rfl λ av wv hE hO hD=>?_;simp[go_sem,qF av 15 (.int .u32 (wI z8.e)) (hO.2.2 15 rfl),Q5,Qt,Qz,Zx,Yx,Xn,bm,bmn]
       case s10=>refine Qu (λ av wv hE hS hO hD=>⟨rfl,?_⟩);have f140:=qE (hD.1 rfl _ rfl);refine Zb (v:=.int .u32 (wI (Jr z8.e 6))) (by simp[go_sem,f140]) ((Je z8.e 6 wv (by decide) (by decide)).mono (λ e w2 ⟨h1,h2⟩=>⟨h1,h2.below _⟩)) (λ w2 hb=>⟨_,rfl,Qo hb,rfl⟩)
       case s11=>refine qV (λ _=>rfl) rfl λ av wv hE hO hD=>?_;simp[go_sem,qF av 15 (.int .u32 (wI z8.e)) (hO.2.2 15 rfl),Q5,Qt,Qz,Zx,Yx,Xn,bm,bmn]
       case s12=>refine Qu (λ av wv hE hS hO hD=>⟨rfl,?_⟩);have f142:=qE (hD.1 rfl _ rfl);refine Zb (v:=.int .u32 (wI (Jr z8.e 11))) (by simp[go_sem,f142]) ((Je z8.e 11 wv (by decide) (by decide)).mono (λ e w2 ⟨h1,h2⟩=>⟨h1,h2.below _⟩)) (λ w2 hb=>⟨_,rfl,Qo hb,rfl⟩)
       case s13=>refine qV (λ _=>rfl) rfl λ av wv hE hO hD=>?_;simp[go_sem,qE (hD.1 rfl _ rfl),qE (hD.2.1 rfl _ rfl),Q5,Qt,Qz,Zx,Yx,Xn,bm,bmn]
       case s14=>refine qV (λ _=>rfl) rfl λ av wv hE hO hD=>?_;simp[go_sem,qF av 15 (.int .u32 (wI z8.e)) (hO.2.2 15 rfl),Q5,Qt,Qz,Zx,Yx,Xn,bm,bmn]
       case s15=>refine Qu (λ av wv hE hS hO hD=>⟨rfl,?_⟩);have f145:=qE (hD.1 rfl _ rfl);refine Zb (v:=.int .u32 (wI (Jr z8.e 25))) (by simp[go_sem,f145]) ((Je z8.e 25 wv (by decide) (by decide)).mono (λ e w2 ⟨h1,h2⟩=>⟨h1,h2.below _⟩)) (λ w2 hb=>⟨_,rfl,Qo hb,rfl⟩)
       case s16=>refine qV (λ _=>rfl) rfl λ av wv hE hO hD=>?_;simp[go_sem,qE (hD.1 rfl _ rfl),qE (hD.2.1 rfl _ rfl),Q5,Qt,Qz,Zx,Yx,Xn,bm,bmn]
       case s17=>refine qV (λ _=>rfl) rfl λ av wv hE hO hD=>?_;simp[go_sem,qE (hD.1 rfl _ rfl),qE (hD.2.1 rfl _ rfl),Q5,Qt,Qz,Zx,Yx,Xn,bm,bmn]
       case s18=>refine qV (λ _=>rfl) rfl λ av wv hE hO hD=>?_;simp[go_sem,qF av 15 (.int .u32 (wI z8.e)) (hO.2.2 15 rfl),Q5,Qt,Qz,Zx,Yx,Xn,bm,bmn]
       case s19=>refine qV (λ _=>rfl) rfl λ av wv hE hO hD=>?_;simp[go_sem,qF av 16 (.int .u32 (wI z8.f)) (hO.2.2 16 rfl),Q5,Qt,Qz,Zx,Yx,Xn,bm,bmn]
       case s20=>refine qV (λ _=>rfl) rfl λ av wv hE hO hD=>?_;simp[go_sem,qE (hD.1 rfl _ rfl),qE (hD.2.1 rfl _ rfl),Q5,Qt,Qz,Zx,Yx,Xn,bm,bmn]
       case s21=>refine qV (λ _=>rfl) rfl λ av wv hE hO hD=>?_;simp[go_sem,qF av 15 (.int .u32 (wI z8.e)) (hO.2.2 15 rfl),Q5,Qt,Qz,Zx,Yx,Xn,bm,bmn]
       case s22=>refine qV (λ _=>rfl) rfl λ av wv hE hO hD=>?_;simp[go_sem,qE (hD.1 rfl _ rfl),Q5,Qt,Qz,Zx,Yx,Xn,bm,bmn]
       case s23=>refine qV (λ _=>rfl) rfl λ av wv hE hO hD=>?_;simp[go_sem,qF av 17 (.int .u32 (wI z8.g)) (hO.2.2 17 rfl),Q5,Qt,Qz,Zx,Yx,Xn,bm,bmn]
       case s24=>refine qV (λ _=>rfl) rfl λ av wv hE hO hD=>?_;simp[go_sem,qE (hD.1 rfl _ rfl),qE (hD.2.1 rfl _ rfl),Q5,Qt,Qz,Zx,Yx,Xn,bm,bmn]
       case s25=>refine qV (λ _=>rfl) rfl λ av wv hE hO hD=>?_;simp[go_sem,qE (hD.1 rfl _ rfl),qE (hD.2.1 rfl _ rfl),Q5,Qt,Qz,Zx,Yx,Xn,bm,bmn]
       case s26=>refine qV (λ _=>rfl) rfl λ av wv hE hO hD=>?_;simp[go_sem,qE (hD.1 rfl _ rfl),qE (hD.2.1 rfl _ rfl),Q5,Qt,Qz,Zx,Yx,Xn,bm,bmn]
       intro a' w' hE hO hall;have hA:=Qn (ds:=[131,132,133,134,135,136,137,138,139,140,141,142,143,144,145,146,147,148,149,150,151,152,153,154,155,156,157]) rfl hO (by kernel_rfl);obtain⟨j0,j1,j2,j3,j4,j5,j6,j7,j8,j9,j10,j11,j12,j13,j14,j15,j16,j17,j18,j19,j20,j21,j22,j23,j24,j25,j26,-⟩:=hall;simp only[List.foldl_cons,List.foldl_nil,Act.put,List.setIfInBounds_toArray,List.set_cons_succ,List.set_cons_zero,qJ 131 (j0 _ rfl),qJ 132 (j1 _ rfl),qJ 133 (j2 _ rfl),qJ 134 (j3 _ rfl),qJ 135 (j4 _ rfl),qJ 136 (j5 _ rfl),qJ 137 (j6 _ rfl),qJ 138 (j7 _ rfl),qJ 139 (j8 _ rfl),qJ 140 (j9 _ rfl),qJ 141 (j10 _ rfl),qJ 142 (j11 _ rfl),qJ 143 (j12 _ rfl),qJ 144 (j13 _ rfl),qJ 145 (j14 _ rfl),qJ 146 (j15 _ rfl),qJ 147 (j16 _ rfl),qJ 148 (j17 _ rfl),qJ 149 (j18 _ rfl),qJ 150 (j19 _ rfl),qJ 151 (j20 _ rfl),qJ 152 (j21 _ rfl),qJ 153 (j22 _ rfl),qJ 154 (j23 _ rfl),qJ 155 (j24 _ rfl),qJ 156 (j25 _ rfl),qJ 157 (j26 _ rfl)]at hA;clear hO j0 j1 j2 j3 j4 j5 j6 j7 j8 j9 j10 j11 j12 j13 j14 j15 j16 j17 j18 j19 j20 j21 j22 j23 j24 j25 j26;subst hA;have hX:=Q0 hE;have HVK:=QLh ((hX.block _ (lt_of_block HVK.out)).trans HVK.out);have HVW:=QLh ((hX.block _ (lt_of_block HVW.out)).trans HVW.out);have HVA:=QLh (HVA.out.next hX);clear hE hX ck cw bm bmn;obtain⟨V4,hV4⟩:∃V4,w'=V4:=⟨_,rfl⟩;rw[hV4]at HVK HVW HVA ⊢;clear hV4 w';obtain⟨XX,hXX⟩:∃XX,z8.h+KM+WM+(Jr z8.e 6 ^^^ Jr z8.e 11 ^^^ Jr z8.e 25)+(z8.e &&& z8.f ||| ~~~ z8.e &&& z8.g)=XX:=⟨_,rfl⟩
       rw[hXX];have HXX:=QLh hXX;clear hXX;go_upto_region 19 with fail;go_wp2_with fail;refine(Je z8.a 2 V4 (by decide) (by decide)).mono ?_;rintro e wa ⟨rfl,ha⟩;have Ha:=QLh ha;clear ha;go_wp2_with fail;refine(Je z8.a 13 wa (by decide) (by decide)).mono ?_;rintro e wb9 ⟨rfl,hb⟩;have Hb:=QLh hb;clear hb;go_wp2_with fail;refine(Je z8.a 22 wb9 (by decide) (by decide)).mono ?_;rintro e wc9 ⟨rfl,hc⟩;have hX:Below V4.heap.size V4 wc9:=((Ha.out.below _).trans (Hb.out.below _)).trans (hc.below _);have HVK:=QLh ((hX.block _ (lt_of_block HVK.out)).trans HVK.out);have HVW:=QLh ((hX.block _ (lt_of_block HVW.out)).trans HVW.out);have HVA:=QLh (HVA.out.next hX);clear hX hc Ha Hb;have HSA:Hid ((QeW z8 KM WM).a=XX+(Jr z8.a 2 ^^^ Jr z8.a 13 ^^^ Jr z8.a 22)+(z8.a &&& z8.b ||| z8.a &&& z8.c ||| z8.b &&& z8.c)/\(QeW z8 KM WM).a=XX+((Jr z8.a 2 ^^^ Jr z8.a 13 ^^^ Jr z8.a 22)+(z8.a &&& z8.b ||| z8.a &&& z8.c ||| z8.b &&& z8.c))):=QLh (by
        have e:xW z8 KM WM=XX:=HXX.out;have e2:(QeW z8 KM WM).a=XX+((Jr z8.a 2 ^^^ Jr z8.a 13 ^^^ Jr z8.a 22)+(z8.a &&& z8.b ||| z8.a &&& z8.c ||| z8.b &&& z8.c)):=by show xW z8 KM WM+yW z8=_;rw[e];rfl
        exact⟨by rw[e2,BitVec.add_assoc],e2⟩)
       have HSE:Hid ((QeW z8 KM WM).e=z8.d+XX):=QLh (by
        have e:xW z8 KM WM=XX:=HXX.out;show z8.d+xW z8 KM WM=_;rw[e])
       go_wp2
       go_roundg (64 - (m+1))
       case rel=>exact⟨m+1,QeW z8 KM WM,by omega,by go_num,by rw[HSA.out.2],rfl,rfl,rfl,by rw[HSE.out],rfl,rfl,rfl,HNZ,HVK,HVW,HVA⟩
       case measure=>omega
      ·obtain rfl:m=64:=by omega
       have i1:¬((64:Nat):Int)<64:=by decide
       go_upto_region 28 with fail;have p0:wr.cell? ⟨pb,0,none⟩=some (.int .u32 (wI v.a)):=(Qa HVA.out.p 0).trans (by rw[<-HA9.out];rfl);have p1:wr.cell? ⟨pb,1,none⟩=some (.int .u32 (wI v.b)):=(Qa HVA.out.p 1).trans (by rw[<-HA9.out];rfl);have p2:wr.cell? ⟨pb,2,none⟩=some (.int .u32 (wI v.c)):=(Qa HVA.out.p 2).trans (by rw[<-HA9.out];rfl);have p3:wr.cell? ⟨pb,3,none⟩=some (.int .u32 (wI v.d)):=(Qa HVA.out.p 3).trans (by rw[<-HA9.out];rfl);have p4:wr.cell? ⟨pb,4,none⟩=some (.int .u32 (wI v.e)):=(Qa HVA.out.p 4).trans (by rw[<-HA9.out];rfl);have p5:wr.cell? ⟨pb,5,none⟩=some (.int .u32 (wI v.f)):=(Qa HVA.out.p 5).trans (by rw[<-HA9.out];rfl);have p6:wr.cell? ⟨pb,6,none⟩=some (.int .u32 (wI v.g)):=(Qa HVA.out.p 6).trans (by rw[<-HA9.out];rfl);have p7:wr.cell? ⟨pb,7,none⟩=some (.int .u32 (wI v.h)):=(Qa HVA.out.p 7).trans (by rw[<-HA9.out];rfl);clear HVK HVW hm hlt i1;refine Qpa λ a0 ha0=>?_;have E0:Ev a0 223 [(2,Value.pointer (some ⟨pb,0,none⟩)),(4,Value.pointer (some ⟨rb,0,none⟩)),(11,Value.int .u32 (wI z8.a)),(12,Value.int .u32 (wI z8.b)),(13,Value.int .u32 (wI z8.c)),(14,Value.int .u32 (wI z8.d)),(15,Value.int .u32 (wI z8.e)),(16,Value.int .u32 (wI z8.f)),(17,Value.int .u32 (wI z8.g)),(18,Value.int .u32 (wI z8.h))]:=by
        refine⟨by rw[ha0];rfl,by rw[ha0],?_⟩;intro p hp;simp only[List.mem_cons,List.not_mem_nil,or_false]at hp;rw[ha0]
        rcases hp with rfl | rfl | rfl | rfl | rfl | rfl | rfl | rfl | rfl | rfl <;> rfl
       clear ha0;apply wp_region_lit;refine wpList_readTo rfl (some 190) rfl (Value.pointer (some ⟨pb,0,none⟩)) ?_ ?_
       case refine_1=>have g2:=E0.atf 0 2 _ rfl;simp[go_sem,g2]
       have E1:=E0.put 190 (Value.pointer (some ⟨pb,0,none⟩)) (by decide) rfl;obtain⟨a1,ha1⟩:∃b:Act,a0.put (some 190) (Value.pointer (some ⟨pb,0,none⟩))=b:=⟨_,rfl⟩;rw[ha1]at E1 ⊢;clear ha1 E0;refine wpList_readTo rfl (some 191) rfl (Value.int .u32 (wI v.a)) ?_ ?_
       case refine_1=>have g190:=E1.atf 0 190 _ rfl;simp[go_sem,g190,p0]
       have E2:=E1.put 191 (Value.int .u32 (wI v.a)) (by decide) rfl;obtain⟨a2,ha2⟩:∃b:Act,a1.put (some 191) (Value.int .u32 (wI v.a))=b:=⟨_,rfl⟩;rw[ha2]at E2 ⊢;clear ha2 E1;refine wpList_readTo rfl (some 192) rfl (Value.int .u32 (wI z8.a)) ?_ ?_
       case refine_1=>have g11:=E2.atf 4 11 _ rfl;simp[go_sem,g11]
       have E3:=E2.put 192 (Value.int .u32 (wI z8.a)) (by decide) rfl;obtain⟨a3,ha3⟩:∃b:Act,a2.put (some 192) (Value.int .u32 (wI z8.a))=b:=⟨_,rfl⟩;rw[ha3]at E3 ⊢;clear ha3 E2;refine wpList_readTo rfl (some 193) rfl (Value.int .u32 (wI (v.a+z8.a))) ?_ ?_
       case refine_1=>have g191:=E3.atf 1 191 _ rfl;have g192:=E3.atf 0 192 _ rfl;simp[go_sem,g191,g192,Q5,Qt]
       have E4:=E3.put 193 (Value.int .u32 (wI (v.a+z8.a))) (by decide) rfl;obtain⟨a4,ha4⟩:∃b:Act,a3.put (some 193) (Value.int .u32 (wI (v.a+z8.a)))=b:=⟨_,rfl⟩;rw[ha4]at E4 ⊢;clear ha4 E3;refine wpList_readTo rfl (some 194) rfl (Value.pointer (some ⟨pb,1,none⟩)) ?_ ?_
       case refine_1=>have g2:=E4.atf 4 2 _ rfl;simp[go_sem,g2]
       have E5:=E4.put 194 (Value.pointer (some ⟨pb,1,none⟩)) (by decide) rfl;obtain⟨a5,ha5⟩:∃b:Act,a4.put (some 194) (Value.pointer (some ⟨pb,1,none⟩))=b:=⟨_,rfl⟩;rw[ha5]at E5 ⊢;clear ha5 E4;refine wpList_readTo rfl (some 195) rfl (Value.int .u32 (wI v.b)) ?_ ?_
       case refine_1=>have g194:=E5.atf 0 194 _ rfl;simp[go_sem,g194,p1]
       have E6:=E5.put 195 (Value.int .u32 (wI v.b)) (by decide) rfl;obtain⟨a6,ha6⟩:∃b:Act,a5.put (some 195) (Value.int .u32 (wI v.b))=b:=⟨_,rfl⟩;rw[ha6]at E6 ⊢;clear ha6 E5;refine wpList_readTo rfl (some 196) rfl (Value.int .u32 (wI z8.b)) ?_ ?_
       case refine_1=>have g12:=E6.atf 9 12 _ rfl;simp[go_sem,g12]
       have E7:=E6.put 196 (Value.int .u32 (wI z8.b)) (by decide) rfl;obtain⟨a7,ha7⟩:∃b:Act,a6.put (some 196) (Value.int .u32 (wI z8.b))=b:=⟨_,rfl⟩;rw[ha7]at E7 ⊢;clear ha7 E6;refine wpList_readTo rfl (some 197) rfl (Value.int .u32 (wI (v.b+z8.b))) ?_ ?_
       case refine_1=>have g195:=E7.atf 1 195 _ rfl;have g196:=E7.atf 0 196 _ rfl;simp[go_sem,g195,g196,Q5,Qt]
       have E8:=E7.put 197 (Value.int .u32 (wI (v.b+z8.b))) (by decide) rfl;obtain⟨a8,ha8⟩:∃b:Act,a7.put (some 197) (Value.int .u32 (wI (v.b+z8.b)))=b:=⟨_,rfl⟩;rw[ha8]at E8 ⊢;clear ha8 E7;refine wpList_readTo rfl (some 198) rfl (Value.pointer (some ⟨pb,2,none⟩)) ?_ ?_
       case refine_1=>have g2:=E8.atf 8 2 _ rfl;simp[go_sem,g2]
       have E9:=E8.put 198 (Value.pointer (some ⟨pb,2,none⟩)) (by decide) rfl;obtain⟨a9,ha9⟩:∃b:Act,a8.put (some 198) (Value.pointer (some ⟨pb,2,none⟩))=b:=⟨_,rfl⟩;rw[ha9]at E9 ⊢;clear ha9 E8;refine wpList_readTo rfl (some 199) rfl (Value.int .u32 (wI v.c)) ?_ ?_
       case refine_1=>have g198:=E9.atf 0 198 _ rfl;simp[go_sem,g198,p2]
       have E10:=E9.put 199 (Value.int .u32 (wI v.c)) (by decide) rfl;obtain⟨a10,ha10⟩:∃b:Act,a9.put (some 199) (Value.int .u32 (wI v.c))=b:=⟨_,rfl⟩;rw[ha10]at E10 ⊢;clear ha10 E9;refine wpList_readTo rfl (some 200) rfl (Value.int .u32 (wI z8.c)) ?_ ?_
       case refine_1=>have g13:=E10.atf 14 13 _ rfl;simp[go_sem,g13]
       have E11:=E10.put 200 (Value.int .u32 (wI z8.c)) (by decide) rfl;obtain⟨a11,ha11⟩:∃b:Act,a10.put (some 200) (Value.int .u32 (wI z8.c))=b:=⟨_,rfl⟩;rw[ha11]at E11 ⊢;clear ha11 E10;refine wpList_readTo rfl (some 201) rfl (Value.int .u32 (wI (v.c+z8.c))) ?_ ?_
       case refine_1=>have g199:=E11.atf 1 199 _ rfl;have g200:=E11.atf 0 200 _ rfl;simp[go_sem,g199,g200,Q5,Qt]
       have E12:=E11.put 201 (Value.int .u32 (wI (v.c+z8.c))) (by decide) rfl;obtain⟨a12,ha12⟩:∃b:Act,a11.put (some 201) (Value.int .u32 (wI (v.c+z8.c)))=b:=⟨_,rfl⟩;rw[ha12]at E12 ⊢;clear ha12 E11;refine wpList_readTo rfl (some 202) rfl (Value.pointer (some ⟨pb,3,none⟩)) ?_ ?_
       case refine_1=>have g2:=E12.atf 12 2 _ rfl;simp[go_sem,g2]
       have E13:=E12.put 202 (Value.pointer (some ⟨pb,3,none⟩)) (by decide) rfl;obtain⟨a13,ha13⟩:∃b:Act,a12.put (some 202) (Value.pointer (some ⟨pb,3,none⟩))=b:=⟨_,rfl⟩;rw[ha13]at E13 ⊢;clear ha13 E12;refine wpList_readTo rfl (some 203) rfl (Value.int .u32 (wI v.d)) ?_ ?_
       case refine_1=>have g202:=E13.atf 0 202 _ rfl;simp[go_sem,g202,p3]
       have E14:=E13.put 203 (Value.int .u32 (wI v.d)) (by decide) rfl;obtain⟨a14,ha14⟩:∃b:Act,a13.put (some 203) (Value.int .u32 (wI v.d))=b:=⟨_,rfl⟩;rw[ha14]at E14 ⊢;clear ha14 E13;refine wpList_readTo rfl (some 204) rfl (Value.int .u32 (wI z8.d)) ?_ ?_
       case refine_1=>have g14:=E14.atf 19 14 _ rfl;simp[go_sem,g14]
       have E15:=E14.put 204 (Value.int .u32 (wI z8.d)) (by decide) rfl;obtain⟨a15,ha15⟩:∃b:Act,a14.put (some 204) (Value.int .u32 (wI z8.d))=b:=⟨_,rfl⟩;rw[ha15]at E15 ⊢;clear ha15 E14;refine wpList_readTo rfl (some 205) rfl (Value.int .u32 (wI (v.d+z8.d))) ?_ ?_
       case refine_1=>have g203:=E15.atf 1 203 _ rfl;have g204:=E15.atf 0 204 _ rfl;simp[go_sem,g203,g204,Q5,Qt]
       have E16:=E15.put 205 (Value.int .u32 (wI (v.d+z8.d))) (by decide) rfl;obtain⟨a16,ha16⟩:∃b:Act,a15.put (some 205) (Value.int .u32 (wI (v.d+z8.d)))=b:=⟨_,rfl⟩;rw[ha16]at E16 ⊢;clear ha16 E15;refine wpList_readTo rfl (some 206) rfl (Value.pointer (some ⟨pb,4,none⟩)) ?_ ?_
       case refine_1=>have g2:=E16.atf 16 2 _ rfl;simp[go_sem,g2]
       have E17:=E16.put 206 (Value.pointer (some ⟨pb,4,none⟩)) (by decide) rfl;obtain⟨a17,ha17⟩:∃b:Act,a16.put (some 206) (Value.pointer (some ⟨pb,4,none⟩))=b:=⟨_,rfl⟩;rw[ha17]at E17 ⊢;clear ha17 E16;refine wpList_readTo rfl (some 207) rfl (Value.int .u32 (wI v.e)) ?_ ?_
       case refine_1=>have g206:=E17.atf 0 206 _ rfl;simp[go_sem,g206,p4]
       have E18:=E17.put 207 (Value.int .u32 (wI v.e)) (by decide) rfl;obtain⟨a18,ha18⟩:∃b:Act,a17.put (some 207) (Value.int .u32 (wI v.e))=b:=⟨_,rfl⟩;rw[ha18]at E18 ⊢;clear ha18 E17;refine wpList_readTo rfl (some 208) rfl (Value.int .u32 (wI z8.e)) ?_ ?_
       case refine_1=>have g15:=E18.atf 24 15 _ rfl;simp[go_sem,g15]
       have E19:=E18.put 208 (Value.int .u32 (wI z8.e)) (by decide) rfl;obtain⟨a19,ha19⟩:∃b:Act,a18.put (some 208) (Value.int .u32 (wI z8.e))=b:=⟨_,rfl⟩;rw[ha19]at E19 ⊢;clear ha19 E18;refine wpList_readTo rfl (some 209) rfl (Value.int .u32 (wI (v.e+z8.e))) ?_ ?_
       case refine_1=>have g207:=E19.atf 1 207 _ rfl;have g208:=E19.atf 0 208 _ rfl;simp[go_sem,g207,g208,Q5,Qt]
       have E20:=E19.put 209 (Value.int .u32 (wI (v.e+z8.e))) (by decide) rfl;obtain⟨a20,ha20⟩:∃b:Act,a19.put (some 209) (Value.int .u32 (wI (v.e+z8.e)))=b:=⟨_,rfl⟩;rw[ha20]at E20 ⊢;clear ha20 E19;refine wpList_readTo rfl (some 210) rfl (Value.pointer (some ⟨pb,5,none⟩)) ?_ ?_
       case refine_1=>have g2:=E20.atf 20 2 _ rfl;simp[go_sem,g2]
       have E21:=E20.put 210 (Value.pointer (some ⟨pb,5,none⟩)) (by decide) rfl;obtain⟨a21,ha21⟩:∃b:Act,a20.put (some 210) (Value.pointer (some ⟨pb,5,none⟩))=b:=⟨_,rfl⟩;rw[ha21]at E21 ⊢;clear ha21 E20;refine wpList_readTo rfl (some 211) rfl (Value.int .u32 (wI v.f)) ?_ ?_
       case refine_1=>have g210:=E21.atf 0 210 _ rfl;simp[go_sem,g210,p5]
       have E22:=E21.put 211 (Value.int .u32 (wI v.f)) (by decide) rfl;obtain⟨a22,ha22⟩:∃b:Act,a21.put (some 211) (Value.int .u32 (wI v.f))=b:=⟨_,rfl⟩;rw[ha22]at E22 ⊢;clear ha22 E21;refine wpList_readTo rfl (some 212) rfl (Value.int .u32 (wI z8.f)) ?_ ?_
       case refine_1=>have g16:=E22.atf 29 16 _ rfl;simp[go_sem,g16]
       have E23:=E22.put 212 (Value.int .u32 (wI z8.f)) (by decide) rfl;obtain⟨a23,ha23⟩:∃b:Act,a22.put (some 212) (Value.int .u32 (wI z8.f))=b:=⟨_,rfl⟩;rw[ha23]at E23 ⊢;clear ha23 E22;refine wpList_readTo rfl (some 213) rfl (Value.int .u32 (wI (v.f+z8.f))) ?_ ?_
       case refine_1=>have g211:=E23.atf 1 211 _ rfl;have g212:=E23.atf 0 212 _ rfl;simp[go_sem,g211,g212,Q5,Qt]
       have E24:=E23.put 213 (Value.int .u32 (wI (v.f+z8.f))) (by decide) rfl;obtain⟨a24,ha24⟩:∃b:Act,a23.put (some 213) (Value.int .u32 (wI (v.f+z8.f)))=b:=⟨_,rfl⟩;rw[ha24]at E24 ⊢;clear ha24 E23;refine wpList_readTo rfl (some 214) rfl (Value.pointer (some ⟨pb,6,none⟩)) ?_ ?_
       case refine_1=>have g2:=E24.atf 24 2 _ rfl;simp[go_sem,g2]
       have E25:=E24.put 214 (Value.pointer (some ⟨pb,6,none⟩)) (by decide) rfl;obtain⟨a25,ha25⟩:∃b:Act,a24.put (some 214) (Value.pointer (some ⟨pb,6,none⟩))=b:=⟨_,rfl⟩;rw[ha25]at E25 ⊢;clear ha25 E24;refine wpList_readTo rfl (some 215) rfl (Value.int .u32 (wI v.g)) ?_ ?_
       case refine_1=>have g214:=E25.atf 0 214 _ rfl;simp[go_sem,g214,p6]
       have E26:=E25.put 215 (Value.int .u32 (wI v.g)) (by decide) rfl;obtain⟨a26,ha26⟩:∃b:Act,a25.put (some 215) (Value.int .u32 (wI v.g))=b:=⟨_,rfl⟩;rw[ha26]at E26 ⊢;clear ha26 E25;refine wpList_readTo rfl (some 216) rfl (Value.int .u32 (wI z8.g)) ?_ ?_
       case refine_1=>have g17:=E26.atf 34 17 _ rfl;simp[go_sem,g17]
       have E27:=E26.put 216 (Value.int .u32 (wI z8.g)) (by decide) rfl;obtain⟨a27,ha27⟩:∃b:Act,a26.put (some 216) (Value.int .u32 (wI z8.g))=b:=⟨_,rfl⟩;rw[ha27]at E27 ⊢;clear ha27 E26;refine wpList_readTo rfl (some 217) rfl (Value.int .u32 (wI (v.g+z8.g))) ?_ ?_
       case refine_1=>have g215:=E27.atf 1 215 _ rfl;have g216:=E27.atf 0 216 _ rfl;simp[go_sem,g215,g216,Q5,Qt]
       have E28:=E27.put 217 (Value.int .u32 (wI (v.g+z8.g))) (by decide) rfl;obtain⟨a28,ha28⟩:∃b:Act,a27.put (some 217) (Value.int .u32 (wI (v.g+z8.g)))=b:=⟨_,rfl⟩;rw[ha28]at E28 ⊢;clear ha28 E27;refine wpList_readTo rfl (some 218) rfl (Value.pointer (some ⟨pb,7,none⟩)) ?_ ?_
       case refine_1=>have g2:=E28.atf 28 2 _ rfl;simp[go_sem,g2]
       have E29:=E28.put 218 (Value.pointer (some ⟨pb,7,none⟩)) (by decide) rfl;obtain⟨a29,ha29⟩:∃b:Act,a28.put (some 218) (Value.pointer (some ⟨pb,7,none⟩))=b:=⟨_,rfl⟩;rw[ha29]at E29 ⊢;clear ha29 E28;refine wpList_readTo rfl (some 219) rfl (Value.int .u32 (wI v.h)) ?_ ?_
       case refine_1=>have g218:=E29.atf 0 218 _ rfl;simp[go_sem,g218,p7]
       have E30:=E29.put 219 (Value.int .u32 (wI v.h)) (by decide) rfl;obtain⟨a30,ha30⟩:∃b:Act,a29.put (some 219) (Value.int .u32 (wI v.h))=b:=⟨_,rfl⟩;rw[ha30]at E30 ⊢;clear ha30 E29;refine wpList_readTo rfl (some 220) rfl (Value.int .u32 (wI z8.h)) ?_ ?_
       case refine_1=>have g18:=E30.atf 39 18 _ rfl;simp[go_sem,g18]
       have E31:=E30.put 220 (Value.int .u32 (wI z8.h)) (by decide) rfl;obtain⟨a31,ha31⟩:∃b:Act,a30.put (some 220) (Value.int .u32 (wI z8.h))=b:=⟨_,rfl⟩;rw[ha31]at E31 ⊢;clear ha31 E30;refine wpList_readTo rfl (some 221) rfl (Value.int .u32 (wI (v.h+z8.h))) ?_ ?_
       case refine_1=>have g219:=E31.atf 1 219 _ rfl;have g220:=E31.atf 0 220 _ rfl;simp[go_sem,g219,g220,Q5,Qt]
       have E32:=E31.put 221 (Value.int .u32 (wI (v.h+z8.h))) (by decide) rfl;obtain⟨a32,ha32⟩:∃b:Act,a31.put (some 221) (Value.int .u32 (wI (v.h+z8.h)))=b:=⟨_,rfl⟩;rw[ha32]at E32 ⊢;clear ha32 E31;refine QdF rfl 222 _ rfl (wsC (stL (QbJ v z8))) ?_ ?_
       case refine_1=>
        have hb8:∀x0 x1 x2 x3 x4 x5 x6 x7:Value,x0=.int .u32 (wI (v.a+z8.a))->x1=.int .u32 (wI (v.b+z8.b))->x2=.int .u32 (wI (v.c+z8.c))->x3=.int .u32 (wI (v.d+z8.d))->x4=.int .u32 (wI (v.e+z8.e))->x5=.int .u32 (wI (v.f+z8.f))->x6=.int .u32 (wI (v.g+z8.g))->x7=.int .u32 (wI (v.h+z8.h))->Tryz.prog.built 222 [(0,x0),(1,x1),(2,x2),(3,x3),(4,x4),(5,x5),(6,x6),(7,x7)]=some (wsC (stL (QbJ v z8))):=by
         rintro _ _ _ _ _ _ _ _ rfl rfl rfl rfl rfl rfl rfl rfl
         kernel_rfl
        simp only[List.map_toArray,List.map_cons,List.map_nil];exact hb8 _ _ _ _ _ _ _ _ (E32.at 28 193 _ rfl) (E32.at 24 197 _ rfl) (E32.at 20 201 _ rfl) (E32.at 16 205 _ rfl) (E32.at 12 209 _ rfl) (E32.at 8 213 _ rfl) (E32.at 4 217 _ rfl) (E32.at 0 221 _ rfl)
       have E33:=E32.put 222 (.agg (wsC (stL (QbJ v z8)))) (by decide) rfl;obtain⟨a33,ha33⟩:∃b:Act,a32.put (some 222) (.agg (wsC (stL (QbJ v z8))))=b:=⟨_,rfl⟩;change wpList _ _ _ _ (a32.put (some 222) (.agg (wsC (stL (QbJ v z8))))) _;rw[ha33]at E33 ⊢;clear ha33 E32;refine wpList_store_row rfl 222 _ _ rfl rb (wsC (stL (QbJ v z8))) (E33.at 34 4 _ rfl) (E33.at 0 222 _ rfl) 222 _ HVA.out.r (by kernel_rfl) rfl (by kernel_rfl) ?_;apply wpList_nil;obtain⟨U,hU⟩:∃U,wr.setRow rb (wsC (stL (QbJ v z8)))=U:=⟨_,rfl⟩;have HU:Hid (U.heap[rb]?=some (.cells (wsC (stL (QbJ v z8))) 222 (0,0))):=QLh (by rw[<-hU];exact setRow_heap wr rb _ _ _ _ HVA.out.r);have HUB:Hid (Below w.heap.size w U):=QLh (by
        rw[<-hU];have h1:=HVA.out.below;exact⟨h1.os,h1.tape,h1.output,by rw[setRow_size];exact h1.size,λ i hi=>by rw[setRow_other _ _ _ _ (show i≠rb by have:=HNE.out.2.1;omega)];exact h1.block i hi⟩)
       rw[hU];clear hU;rename_i hK;refine hK _ _ ?_;apply wp_ret;refine bodyPost_ret (v:=.agg (wsC (stL (QbJ v z8)))) ?_ E33.2.1 ?_
       ·exact results_cell_row rfl _ _ rb 222 (wsC (stL (QbJ v z8))) (0,0) _ (E33.at 34 4 _ rfl) HU.out rfl rfl (by as_aux_lemma=>kernel_rfl)
       ·refine⟨?_,HUB.out⟩
        rw[HLL.out];unfold Vu;rw[HWS.out,HZ.out]
end
section
open Go.RowKit Go.Great
theorem Qhx(m:Nat)(v:St8)(l:List UInt8):Xm (m+1) v l=Vu (Xm m v l) ((l.drop (64 * m)).take 64):=by rw[QbG m 1];rfl
theorem Qkf:(Tryz.prog.info? 5).map (λ i=>(i.zero,i.size,i.bytes))=some (some (.int .u8 0),1,1):=by kernel_rfl
def QuE:Array Value:=madeCells (Value.int .u8 0).cells (32 * 1)
theorem Qng(W:World):(Instr.makeSlice 41 (.int .i64 0) (.int .i64 32)).run Tryz.prog W=.ok (.slice (some ⟨W.heap.size,0,none⟩) 0 32) (W.alloc (.cells QuE 5)):=by obtain⟨i0,hi,hz0,hz1,hz2⟩:=info_parts Qkf;have hr:=run_make (P:=Tryz.prog) W 41 5 i0 (.int .u8 0) Tryz.underlying41 hi hz0 .i64 .i64 0 32 (by omega) (by omega) (by rw[hz2];omega) (by omega);rw[hr,hz1];rfl
theorem Qux(v:St8):(wsC (stL v)).size=8:=rfl
theorem Qqt(v:St8):(wsC (stL v)).all (·.oneCell')=true:=by kernel_rfl
theorem Qqi(s:ByteArray)(w:World)(hs:s.size<=1152921504606846976):
  Calls Tryz.prog 137 #[.string s] w λ e w'=>e=.returned (.string (Quq s))/\Below w.heap.size w w':=by
 have HS:=QLh hs;clear hs
 go_enter Tryz.func137,Tryz.ntmps137
 go_upto_region 2 with fail;obtain⟨nb,hnb⟩:∃nb,w.heap.size=nb:=⟨_,rfl⟩;have hC0:(#[.int .u32 1779033703,.int .u32 3144134277,.int .u32 1013904242,.int .u32 2773480762,.int .u32 1359893119,.int .u32 2600822924,.int .u32 528734635,.int .u32 1541459225]:Array Value)=wsC (stL st0):=by kernel_rfl
 rw[hnb,hC0];obtain⟨V,hV⟩:∃V,w.alloc (.cells (wsC (stL st0)) 222)=V:=⟨_,rfl⟩;rw[hV];have HNB:Hid (V.heap[nb]?=some (.cells (wsC (stL st0)) 222 (0,0))):=QLh (by rw[<-hV];exact Qg _ hnb);have HW:Hid (Below w.heap.size w V):=QLh (by rw[<-hV];exact Qf (Below.refl _ w) _);have HNW:Hid (w.heap.size<=nb):=QLh (Nat.le_of_eq hnb);clear hV hnb hC0;go_wp2_with fail;refine(Qj6 s V HS.out).mono ?_;rintro e w2 ⟨rfl,hb2⟩;have HNB:=QLh ((hb2.block _ (lt_of_block HNB.out)).trans HNB.out);have HW:=QLh (Qj HW.out hb2);clear hb2;obtain⟨pl,hpl⟩:∃pl,Qme s.data.toList=pl:=⟨_,rfl⟩;obtain⟨PP,hPP⟩:∃PP,QuW s=PP:=⟨_,rfl⟩;have HPL:Hid (PP.data.toList=pl):=QLh (by rw[<-hPP,<-hpl];rfl);obtain⟨N,hN⟩:∃N,pl.length=64 * N:=⟨pl.length / 64,by have:=QjN s.data.toList;rw[hpl]at this;omega⟩;have HN:=QLh hN;have HPS:Hid (PP.size=64 * N):=QLh (by rw[<-hN,<-HPL.out,Ka]);have HPB:Hid (64 * N<=4611686018427387904):=QLh (by
  rw[<-hN,<-hpl];unfold Qme Jz Ve;simp only[List.length_append,List.length_replicate,List.length_map,List.length_range,List.length_singleton,Ka];have:=HS.out;omega)
 rw[hPP];have HPW:=QLh hpl;clear hpl hPP hN;go_upto_region 4 with fail
 go_loopg [5] N (λ g i wr=>∃m c:Nat,g+m=N/\i=.int .i64 (c:Nat)/\Hid (c=64 * m)/\Hid (wr.heap[nb]?=some (.cells (wsC (stL (Xm m st0 pl))) 222 (0,0)))/\Hid (Below w.heap.size w wr))
 case atStart=>exact⟨0,0,rfl,rfl,QLh rfl,HNB,HW⟩
 case round=>
  clear HNB HW;obtain⟨m,c,hm,rfl,HC,HNB,HW⟩:=hrel
  by_cases hlt:m<N
  ·have hc64:=HC.out
   have hps:=HPS.out;have hpb:=HPB.out;have i1:(c:Int)<(PP.size:Int):=by omega
   have s1:IntKind.i64.wrap (((c:Nat):Int)+64)=((c:Nat):Int)+64:=IntWalk.i64_in _ (by omega);obtain⟨SB,hSB⟩:∃SB,PP.extract c (c+64)=SB:=⟨_,rfl⟩;have HSB:Hid (SB.data.toList=(pl.drop c).take 64):=QLh (by
    rw[<-hSB,<-HPL.out];simp[ByteArray.data_extract,List.extract_eq_take_drop])
   have HSZ:Hid (SB.size=64):=QLh (by rw[<-hSB,ByteArray.size_extract];omega);obtain⟨W,hW⟩:∃W,wr=W:=⟨_,rfl⟩;rw[hW]at HNB HW ⊢;obtain⟨v8,hv8⟩:∃v8,Xm m st0 pl=v8:=⟨_,rfl⟩;rw[hv8]at HNB;have HV2:Hid (Xm (m+1) st0 pl=Vu v8 SB.data.toList):=QLh (by rw[Qhx,hv8,HSB.out,HC.out]);obtain⟨CV,hCV⟩:∃CV,wsC (stL v8)=CV:=⟨_,rfl⟩;obtain⟨CV2,hCV2⟩:∃CV2,wsC (stL (Vu v8 SB.data.toList))=CV2:=⟨_,rfl⟩;have HRB:Hid (∀w9:World,Calls Tryz.prog 188 #[.agg CV,.string SB] w9 λ e w'=>e=.returned (.agg CV2)/\Below w9.heap.size w9 w'):=QLh (λ w9=>by rw[<-hCV,<-hCV2];exact QkS v8 SB w9 HSZ.out);have HI:Hid ((Tryz.prog.info? 222).map (·.size)=some CV.size):=QLh (by rw[<-hCV,Qux];kernel_rfl);have HI2:Hid ((Tryz.prog.info? 222).map (·.size)=some CV2.size):=QLh (by rw[<-hCV2,Qux];kernel_rfl);have HO2:Hid (CV2.all (·.oneCell')=true):=QLh (by rw[<-hCV2];exact Qqt _);have HE2:Hid (CV.size=CV2.size):=QLh (by rw[<-hCV,<-hCV2,Qux,Qux]);rw[hCV]at HNB;have HCV2:=QLh hCV2;have s2:(0:Int)<=(c:Int)/\(c:Int)<=(c:Int)+64:=by omega
   have s3:(0:Int)<=(c:Int)+64/\(c:Int)+64<=(PP.size:Int):=by omega
   have s4:((c:Int)+64).toNat=c+64:=by omega
   have s5:PP.extract c (c+64)=SB:=hSB;clear hCV hCV2 hW hv8 hc64 hps hpb hSB;go_upto_region 6 with fail;refine Qp 7 1000 (none) (Kx (List.map qv [.agg CV,.string PP,.int .i64 (c:Nat),.int .i64 (c:Nat),.int .i64 ((c:Nat)+64),.string SB,.agg CV2])) rfl (by kernel_rfl) (by kernel_rfl) (Q9 Xz) (Q6 7 ⟨?s0,?s1,?s2,?s3,?s4,?s5,?s6,trivial⟩) ?_
   case s0=>refine Qu (λ av wv hE hS hO hD=>⟨rfl,?_⟩);have h3:av.eval (.tmp 3)=(.pointer (some ⟨nb,0,none⟩)):=hO.2.2 3 rfl;exact wp_load_row 222 _ rfl nb h3 222 CV (0,0) _ (Qw hE (by simp) HNB.out) Tryz.underlying222 rfl HI.out ⟨_,rfl,Qo (Zj _),rfl⟩
   case s1=>refine qV (λ _=>rfl) rfl λ av wv hE hO hD=>?_;simp[go_sem,qF av 4 (.string PP) (hO.2.2 4 rfl),s1,s2,s3,s4,s5]
   case s2=>refine qV (λ _=>rfl) rfl λ av wv hE hO hD=>?_;simp[go_sem,qF av 5 (.int .i64 (c:Nat)) (hO.2.2 5 rfl),s1,s2,s3,s4,s5]
   case s3=>refine qV (λ _=>rfl) rfl λ av wv hE hO hD=>?_;simp[go_sem,qF av 5 (.int .i64 (c:Nat)) (hO.2.2 5 rfl),s1,s2,s3,s4,s5]
   case s4=>refine qV (λ _=>rfl) rfl λ av wv hE hO hD=>?_;simp[go_sem,qE (hD.1 rfl _ rfl),s1,s2,s3,s4,s5]
   case s5=>refine qV (λ _=>rfl) rfl λ av wv hE hO hD=>?_;simp[go_sem,qE (hD.1 rfl _ rfl),qE (hD.2.1 rfl _ rfl),qE (hD.2.2.1 rfl _ rfl),s1,s2,s3,s4,s5]
   case s6=>refine Qu (λ av wv hE hS hO hD=>⟨rfl,?_⟩);have f17:=qE (hD.1 rfl _ rfl);have f22:=qE (hD.2.1 rfl _ rfl);refine Zb (v:=.agg CV2) (by simp[go_sem,f17,f22]) (HRB.out wv) (λ w2 hb=>⟨_,rfl,Qo hb,rfl⟩)
   intro a' w' hE hO hall;have hA:=Qn (ds:=[17,18,19,20,21,22,23]) rfl hO (by kernel_rfl);obtain⟨j0,j1,j2,j3,j4,j5,j6,-⟩:=hall;simp only[List.foldl_cons,List.foldl_nil,Act.put,List.setIfInBounds_toArray,List.set_cons_succ,List.set_cons_zero,qJ 17 (j0 _ rfl),qJ 18 (j1 _ rfl),qJ 19 (j2 _ rfl),qJ 20 (j3 _ rfl),qJ 21 (j4 _ rfl),qJ 22 (j5 _ rfl),qJ 23 (j6 _ rfl)]at hA;clear hO j0 j1 j2 j3 j4 j5 j6;subst hA;have hX:=Q0 hE;have HNB:=QLh ((hX.block _ (lt_of_block HNB.out)).trans HNB.out);have HW:=QLh (Qj HW.out hX);clear hE hX s1 s2 s3 s4 s5
   go_upto_region 5 with(first | (refine wpList_store_row ?_ 222 (.tmp 3) (.tmp 23) ?_ nb CV2 ?_ ?_ 222 _ HNB.out HI2.out ?_ HO2.out ?_;rfl;rfl;rfl;rfl;exact HE2.out;skip))
   have HNB2:Hid ((w'.setRow nb CV2).heap[nb]?=some (.cells (wsC (stL (Xm (m+1) st0 pl))) 222 (0,0))):=QLh (by rw[HV2.out,HCV2.out];exact setRow_heap _ _ _ _ _ _ HNB.out);have HW2:Hid (Below w.heap.size w (w'.setRow nb CV2)):=QLh (by
    have h1:=HW.out;exact⟨h1.os,h1.tape,h1.output,by rw[setRow_size];exact h1.size,λ i hi=>by rw[setRow_other _ _ _ _ (show i≠nb by have:=HNW.out;omega)];exact h1.block i hi⟩)
   have iw:IntKind.i64.wrap (((c:Nat):Int)+64)=((c:Nat):Int)+64:=IntWalk.i64_in _ (by have:=HC.out;have:=HPB.out;omega);go_wp2
   go_roundg (N - (m+1))
   case rel=>exact⟨m+1,c+64,by omega,by go_num,QLh (by rw[HC.out];omega),HNB2,HW2⟩
   case measure=>omega
  ·obtain rfl:m=N:=by omega
   have i1:¬(c:Int)<(PP.size:Int):=by have:=HC.out;have:=HPS.out;omega
   obtain⟨z,hz⟩:∃z,Xm m st0 pl=z:=⟨_,rfl⟩;have HZ:Hid (Qpg s.data.toList=QtO z):=QLh (by
    unfold Qpg Qey;rw[HPW.out,HN.out,Nat.mul_div_cancel_left _ (by decide),hz])
   rw[hz]at HNB;clear hz;obtain⟨i0,hi,hz0,hz1,hz2⟩:=info_parts Qkf;have HZ0:=QLh hz0;clear hz0 HPL HPB HPW HN hm;have mk:=Qng;go_upto_region 10 with fail;clear mk;obtain⟨ob,hob⟩:∃ob,wr.heap.size=ob:=⟨_,rfl⟩;rw[hob];obtain⟨U,hU⟩:∃U,wr.alloc (.cells QuE 5)=U:=⟨_,rfl⟩;rw[hU];have HNB2:Hid (U.heap[nb]?=some (.cells (wsC (stL z)) 222 (0,0))):=QLh (by rw[<-hU];exact Qe HNB.out _);have HUW:Hid (Below w.heap.size w U):=QLh (by rw[<-hU];exact Qf HW.out _);have HLT:Hid (nb<ob/\w.heap.size<=ob):=QLh ⟨by rw[<-hob];exact lt_of_block HNB.out,by rw[<-hob];exact HW.out.size⟩;have HUO:Hid (U.ownsRow ob 5 1 (.slice (some ⟨ob,0,none⟩) 0 32) (4 * 0) ((((stL z).take 0).map Qab).flatten.map byV)):=QLh ⟨by simp,.inr ⟨ob,32,QuE,rfl,Nat.le_refl _,by rw[<-hU];exact Qg _ hob,by decide,by decide,size_madeCells _ _,by simp⟩⟩;have HUOB:Hid (ob<=U.heap.size):=QLh (by rw[<-hU,<-hob];simp);clear hU hob HNB HW
   go_loopg [7,6] 8 (λ g i o wr=>∃m:Nat,g+m=8/\i=.int .i64 m/\Hid (wr.ownsRow ob 5 1 o (4 * m) ((((stL z).take m).map Qab).flatten.map byV))/\Hid (wr.heap[nb]?=some (.cells (wsC (stL z)) 222 (0,0)))/\Hid (Below w.heap.size w wr)/\Hid (ob<=wr.heap.size))
   case atStart=>exact⟨0,rfl,rfl,HUO,HNB2,HUW,HUOB⟩
   case round=>
    clear HUO HNB2 HUW HUOB;obtain⟨m,hm,rfl,HO,HNB,HW,HOB⟩:=hrel
    by_cases hlt:m<8
    ·have i1:(m:Int)<8:=by omega
     obtain⟨X,hX⟩:∃X,wth (stL z) m=X:=⟨_,rfl⟩;have HX:=QLh hX;obtain⟨OV,hOV⟩:∃OV,u6=OV:=⟨_,rfl⟩;rw[hOV]at HO ⊢;obtain⟨W,hW⟩:∃W,wr=W:=⟨_,rfl⟩;rw[hW]at HO HW HNB HOB ⊢;have cx:W.cell? ⟨nb,m,none⟩=some (.int .u32 (wI X)):=by rw[Qa HNB.out,<-hX];exact Xk (stL z) m hlt
     have bi:¬(8:Int)<=(m:Int):=by omega
     have bin:¬8<=m:=by omega
     have v1:IntKind.u8.wrap (wI X / 16777216)=wI X / 16777216 % 256:=IntKind.wrap_u8 _;have v2:IntKind.u8.wrap (wI X / 65536)=wI X / 65536 % 256:=IntKind.wrap_u8 _;have v3:IntKind.u8.wrap (wI X / 256)=wI X / 256 % 256:=IntKind.wrap_u8 _;have v4:IntKind.u8.wrap (wI X)=wI X % 256:=IntKind.wrap_u8 _;clear hX hW hOV;go_upto_region 11 with fail;refine Qp 21 1000 (none) (Kx [λ u _=>u=(OV),λ u _=>u=(.int .i64 (m:Nat)),λ u _=>u=(.pointer (some ⟨nb,m,none⟩)),λ u _=>u=(.int .u32 (wI X)),λ u _=>u=(.int .u32 (wI X / 16777216)),λ u _=>u=(.int .u8 (wI X / 16777216 % 256)),λ u _=>u=(.int .i64 (m:Nat)),λ u _=>u=(.pointer (some ⟨nb,m,none⟩)),λ u _=>u=(.int .u32 (wI X)),λ u _=>u=(.int .u32 (wI X / 65536)),λ u _=>u=(.int .u8 (wI X / 65536 % 256)),λ u _=>u=(.int .i64 (m:Nat)),λ u _=>u=(.pointer (some ⟨nb,m,none⟩)),λ u _=>u=(.int .u32 (wI X)),λ u _=>u=(.int .u32 (wI X / 256)),λ u _=>u=(.int .u8 (wI X / 256 % 256)),λ u _=>u=(.int .i64 (m:Nat)),λ u _=>u=(.pointer (some ⟨nb,m,none⟩)),λ u _=>u=(.int .u32 (wI X)),λ u _=>u=(.int .u8 (wI X % 256)),λ uu w'=>∃c,uu=.slice (some ⟨c,0,none⟩) 4 4/\w'.heap[c]?=some (.cells #[.int .u8 (wI X / 16777216 % 256),.int .u8 (wI X / 65536 % 256),.int .u8 (wI X / 256 % 256),.int .u8 (wI X % 256)] 5 (0,0))]) rfl (by kernel_rfl) (by kernel_rfl) (Q9 ⟨Qd,Qd,Qd,Qd,Qd,Qd,Qd,Qd,Qd,Qd,Qd,Qd,Qd,Qd,Qd,Qd,Qd,Qd,Qd,Qd,?m20,trivial⟩) (Q6 21 ⟨?s0,?s1,?s2,?s3,?s4,?s5,?s6,?s7,?s8,?s9,?s10,?s11,?s12,?s13,?s14,?s15,?s16,?s17,?s18,?s19,?s20,trivial⟩) ?_
     case m20=>exact⟨λ uu w1 w2 h ⟨c,h1,h2⟩=>⟨c,h1,Zo h h2⟩,λ _ uu w1 w2 h ⟨c,h1,h2⟩=>⟨c,h1,Qw h (by simp) h2⟩⟩
     case s0=>refine qV (λ _=>rfl) rfl λ av wv hE hO hD=>?_;simp[go_sem,qF av 6 (OV) (hO.2.2 6 rfl),bi,bin,v1,v2,v3,v4]
     case s1=>refine qV (λ _=>rfl) rfl λ av wv hE hO hD=>?_;simp[go_sem,qF av 7 (.int .i64 (m:Nat)) (hO.2.2 7 rfl),bi,bin,v1,v2,v3,v4]
     case s2=>refine qV (λ _=>rfl) rfl λ av wv hE hO hD=>?_;simp[go_sem,qF av 3 (.pointer (some ⟨nb,0,none⟩)) (hO.2.2 3 rfl),qE (hD.1 rfl _ rfl),bi,bin,v1,v2,v3,v4]
     case s3=>refine qV (λ _=>rfl) rfl λ av wv hE hO hD=>?_;simp[go_sem,qE (hD.1 rfl _ rfl),Qb hE (by simp) cx,bi,bin,v1,v2,v3,v4]
     case s4=>refine qV (λ _=>rfl) rfl λ av wv hE hO hD=>?_;simp[go_sem,qE (hD.1 rfl _ rfl),bi,bin,v1,v2,v3,v4]
     case s5=>refine qV (λ _=>rfl) rfl λ av wv hE hO hD=>?_;simp[go_sem,qE (hD.1 rfl _ rfl),bi,bin,v1,v2,v3,v4]
     case s6=>refine qV (λ _=>rfl) rfl λ av wv hE hO hD=>?_;simp[go_sem,qF av 7 (.int .i64 (m:Nat)) (hO.2.2 7 rfl),bi,bin,v1,v2,v3,v4]
     case s7=>refine qV (λ _=>rfl) rfl λ av wv hE hO hD=>?_;simp[go_sem,qF av 3 (.pointer (some ⟨nb,0,none⟩)) (hO.2.2 3 rfl),qE (hD.1 rfl _ rfl),bi,bin,v1,v2,v3,v4]
     case s8=>refine qV (λ _=>rfl) rfl λ av wv hE hO hD=>?_;simp[go_sem,qE (hD.1 rfl _ rfl),Qb hE (by simp) cx,bi,bin,v1,v2,v3,v4]
     case s9=>refine qV (λ _=>rfl) rfl λ av wv hE hO hD=>?_;simp[go_sem,qE (hD.1 rfl _ rfl),bi,bin,v1,v2,v3,v4]
     case s10=>refine qV (λ _=>rfl) rfl λ av wv hE hO hD=>?_;simp[go_sem,qE (hD.1 rfl _ rfl),bi,bin,v1,v2,v3,v4]
     case s11=>refine qV (λ _=>rfl) rfl λ av wv hE hO hD=>?_;simp[go_sem,qF av 7 (.int .i64 (m:Nat)) (hO.2.2 7 rfl),bi,bin,v1,v2,v3,v4]
     case s12=>refine qV (λ _=>rfl) rfl λ av wv hE hO hD=>?_;simp[go_sem,qF av 3 (.pointer (some ⟨nb,0,none⟩)) (hO.2.2 3 rfl),qE (hD.1 rfl _ rfl),bi,bin,v1,v2,v3,v4]
     case s13=>refine qV (λ _=>rfl) rfl λ av wv hE hO hD=>?_;simp[go_sem,qE (hD.1 rfl _ rfl),Qb hE (by simp) cx,bi,bin,v1,v2,v3,v4]
     case s14=>refine qV (λ _=>rfl) rfl λ av wv hE hO hD=>?_;simp[go_sem,qE (hD.1 rfl _ rfl),bi,bin,v1,v2,v3,v4]
     case s15=>refine qV (λ _=>rfl) rfl λ av wv hE hO hD=>?_;simp[go_sem,qE (hD.1 rfl _ rfl),bi,bin,v1,v2,v3,v4]
     case s16=>refine qV (λ _=>rfl) rfl λ av wv hE hO hD=>?_;simp[go_sem,qF av 7 (.int .i64 (m:Nat)) (hO.2.2 7 rfl),bi,bin,v1,v2,v3,v4]
     case s17=>refine qV (λ _=>rfl) rfl λ av wv hE hO hD=>?_;simp[go_sem,qF av 3 (.pointer (some ⟨nb,0,none⟩)) (hO.2.2 3 rfl),qE (hD.1 rfl _ rfl),bi,bin,v1,v2,v3,v4]
     case s18=>refine qV (λ _=>rfl) rfl λ av wv hE hO hD=>?_;simp[go_sem,qE (hD.1 rfl _ rfl),Qb hE (by simp) cx,bi,bin,v1,v2,v3,v4]
     case s19=>refine qV (λ _=>rfl) rfl λ av wv hE hO hD=>?_;simp[go_sem,qE (hD.1 rfl _ rfl),bi,bin,v1,v2,v3,v4]
     case s20=>refine Qu (λ av wv hE hS hO hD=>⟨rfl,?_⟩);have f34:=qE (hD.1 rfl _ rfl);have f39:=qE (hD.2.1 rfl _ rfl);have f44:=qE (hD.2.2.1 rfl _ rfl);have f48:=qE (hD.2.2.2.1 rfl _ rfl);exact Zn (v:=.slice (some ⟨wv.heap.size,0,none⟩) 4 4) (w':=wv.alloc (.cells #[.int .u8 (wI X / 16777216 % 256),.int .u8 (wI X / 65536 % 256),.int .u8 (wI X / 256 % 256),.int .u8 (wI X % 256)] 5)) (by simp[go_sem,f34,f39,f44,f48]) ⟨_,rfl,Qo (Qf (Zj _) _),wv.heap.size,rfl,heap_alloc_new _ _⟩
     intro a' w' hE hO hall;have hA:=Qn (ds:=[29,30,31,32,33,34,35,36,37,38,39,40,41,42,43,44,45,46,47,48,49]) rfl hO (by kernel_rfl);obtain⟨j0,j1,j2,j3,j4,j5,j6,j7,j8,j9,j10,j11,j12,j13,j14,j15,j16,j17,j18,j19,j20,-⟩:=hall;have e49:(λ uu w'=>∃c,uu=.slice (some ⟨c,0,none⟩) 4 4/\w'.heap[c]?=some (.cells #[.int .u8 (wI X / 16777216 % 256),.int .u8 (wI X / 65536 % 256),.int .u8 (wI X / 256 % 256),.int .u8 (wI X % 256)] 5 (0,0))) (a'.eval (.tmp 49)) w':=j20 _ rfl;obtain⟨v49,hv49⟩:∃v,a'.eval (.tmp 49)=v:=⟨_,rfl⟩;rw[hv49]at e49;simp only[List.foldl_cons,List.foldl_nil,Act.put,List.setIfInBounds_toArray,List.set_cons_succ,List.set_cons_zero,qJ 29 (j0 _ rfl),qJ 30 (j1 _ rfl),qJ 31 (j2 _ rfl),qJ 32 (j3 _ rfl),qJ 33 (j4 _ rfl),qJ 34 (j5 _ rfl),qJ 35 (j6 _ rfl),qJ 36 (j7 _ rfl),qJ 37 (j8 _ rfl),qJ 38 (j9 _ rfl),qJ 39 (j10 _ rfl),qJ 40 (j11 _ rfl),qJ 41 (j12 _ rfl),qJ 42 (j13 _ rfl),qJ 43 (j14 _ rfl),qJ 44 (j15 _ rfl),qJ 45 (j16 _ rfl),qJ 46 (j17 _ rfl),qJ 47 (j18 _ rfl),qJ 48 (j19 _ rfl),hv49]at hA;clear hO j20 j0 j1 j2 j3 j4 j5 j6 j7 j8 j9 j10 j11 j12 j13 j14 j15 j16 j17 j18 j19 hv49;subst hA;have hX:=Q0 hE;have HO2:=QLh (Qs HO.out hX);have HNB2:=QLh ((hX.block _ (lt_of_block HNB.out)).trans HNB.out);have HW2:Hid (Below w.heap.size w w'):=QLh (Qj HW.out hX);have HOB2:Hid (ob<=w'.heap.size):=QLh (Nat.le_trans HOB.out hX.size);obtain⟨cb,rfl,hcb⟩:=e49;have HCB:=QLh hcb;clear hX hE cx bi bin v1 v2 v3 v4 HOB HNB HW hcb;have hmm:4 * m<=32:=by omega
     simp only[List.drop_succ_cons,List.drop_zero]
     go_wp2_with (at_builtin;refine wpList_append_own _ rfl _ _ 41 rfl ob 5 i0 (.int .u8 0) 1 1 Tryz.underlying41 hi HZ0.out hz1 hz2 rfl (by decide) _ _ _ rfl HO2.out ⟨cb,0,none⟩ 4 4 [.int .u8 (wI X / 16777216 % 256),.int .u8 (wI X / 65536 % 256),.int .u8 (wI X / 256 % 256),.int .u8 (wI X % 256)] rfl rfl (World.news_of_block HCB.out) (by intro u hu;simp at hu;rcases hu with rfl | rfl | rfl | rfl <;> rfl) (by unfold maxLen;omega) (by omega) HOB2.out ?_;intro v9 w4 hown2 hgrow2 _)
     have HO3:Hid (w4.ownsRow ob 5 1 v9 (4 * (m+1)) ((((stL z).take (m+1)).map Qab).flatten.map byV)):=QLh (by
      rw[QhQ z m hlt,HX.out,List.map_append,<-QfS];exact hown2)
     have HNB3:Hid (w4.heap[nb]?=some (.cells (wsC (stL z)) 222 (0,0))):=QLh ((hgrow2.block nb (lt_of_block HNB2.out) (λ e=>by
      have:=(HO2.out.lt nb e.symm).1;have:=HLT.out.1;omega)).trans HNB2.out)
     have HW3:Hid (Below w.heap.size w w4):=QLh (Qq HW2.out hgrow2 (λ k hk'=>Nat.le_trans HLT.out.2 (HO2.out.lt k hk').1));have HOB3:Hid (ob<=w4.heap.size):=QLh (Nat.le_trans HOB2.out hgrow2.size);clear hown2 hgrow2;go_wp2
     go_roundg (8 - (m+1))
     case rel=>exact⟨m+1,by omega,by go_num,HO3,HNB3,HW3,HOB3⟩
     case measure=>omega
    ·obtain rfl:m=8:=by omega
     have i1:¬((8:Nat):Int)<8:=by decide
     have HO2:Hid (wr.ownsRow ob 5 1 u6 32 ((Qpg s.data.toList).map byV)):=QLh (by
      have h1:=HO.out;rw[show(stL z).take 8=stL z from rfl,Qnb,<-HZ.out]at h1;exact h1)
     have cv:=Qk8 HO2.out (Qg0 s.data.toList) (by decide);go_wp2;go_ret;exact⟨rfl,HW.out⟩
end
theorem QmJ(x:Nat):Value.int .u8 ((x:Int) % 256)=byV (UInt8.ofNat x):=by
 unfold byV;rw[UInt8.toNat_ofNat']
 congr 1
theorem QoB(N m:Nat)(h:m<8):(Ve N).drop (8 - (m+1))=UInt8.ofNat (N / 256 ^ m) :: (Ve N).drop (8 - m):=by
 have h8:8 - (m+1)<(Ve N).length:=by rw[Xo];omega
 rw[List.drop_eq_getElem_cons h8,show 8 - (m+1)+1=8 - m by omega]
 congr 1
 have h9:=Qkj N (8 - (m+1)) (by omega);rw[List.getElem?_eq_getElem h8]at h9;have h10:=Option.some.inj h9;rw[h10,show 7 - (8 - (m+1))=m by omega]
theorem Qpm(N:Nat)(w:World)(hN:N<18446744073709551616):Calls Tryz.prog 186 #[.int .u64 (N:Nat)] w λ e w'=>e=.returned (.string (Qdc N))/\Below w.heap.size w w':=by
 have HN:=QLh hN;clear hN
 go_enter Tryz.func186,Tryz.ntmps186
 go_upto_region 3 with fail
 go_loopg [4,3,0] 8 (λ g i x n wr=>∃(m:Nat) (X:ByteArray),g+m=8/\i=.int .i64 m/\x=.string X/\n=.int .u64 ((N / 256 ^ m:Nat):Int)/\Hid (X.data.toList=(Ve N).drop (8 - m))/\Hid (Below w.heap.size w wr))
 case atStart=>exact⟨0,⟨#[]⟩,rfl,rfl,rfl,by rw[Nat.pow_zero,Nat.div_one],QLh (by rw[List.drop_of_length_le (by rw[Xo];decide)]),QLh (Below.refl _ _)⟩
 case round=>
  obtain⟨m,X,hm,rfl,rfl,rfl,HX,HW⟩:=hrel
  by_cases hlt:m<8
  ·have i1:(m:Int)<8:=by omega
   obtain⟨x,hx⟩:∃x,N / 256 ^ m=x:=⟨_,rfl⟩;have HXX:Hid (N / 256 ^ (m+1)=x / 256):=QLh (by rw[Nat.pow_succ,<-Nat.div_div_eq_div_mul,hx]);have hx6:x<18446744073709551616:=by rw[<-hx];exact Nat.lt_of_le_of_lt (Nat.div_le_self _ _) HN.out
   obtain⟨b9,hb9⟩:∃b9,UInt8.ofNat x=b9:=⟨_,rfl⟩;have HB9:Hid (Value.int .u8 ((x:Int) % 256)=byV b9):=QLh (by rw[QmJ,hb9]);have cv:(convert 41 9 (.slice (some ⟨wr.heap.size,0,none⟩) 1 1)).run Tryz.prog (wr.alloc (.cells #[.int .u8 ((x:Int) % 256)] 5))=.ok (.string ⟨#[b9]⟩) (wr.alloc (.cells #[.int .u8 ((x:Int) % 256)] 5)):=by rw[HB9.out];exact QdM wr 5 1 1 [b9] rfl
   have HX2:Hid (((⟨#[b9]⟩:ByteArray)++X).data.toList=(Ve N).drop (8 - (m+1))):=QLh (by
    rw[Qad,HX.out,QoB N m hlt,hx,hb9];rfl)
   have q2:1+X.size<=9223372036854775807:=by have h1:=congrArg List.length HX.out;rw[Ka,List.length_drop,Xo]at h1;omega
   rw[hx];have HE:Hid (((x:Nat):Int) / 256=((N / 256 ^ (m+1):Nat):Int)):=QLh (by rw[HXX.out];rfl);clear hx hb9;go_wp2
   go_roundg (8 - (m+1))
   case rel=>exact⟨m+1,_,by omega,by go_num,rfl,by rw[HE.out],HX2,by(repeat (first | exact Below.refl _ _ | assumption | (refine Zy ?_) | (refine Zg ?_ _) | (refine Qf ?_ _) | (refine Ji ?_ (by first | omega | (simp;done) | (simp;omega)) _) | (refine Qj ?_ (by assumption))))⟩
   case measure=>omega
  ·obtain rfl:m=8:=by omega
   have i1:¬((8:Nat):Int)<8:=by decide
   have HF:Hid (X=Qdc N):=QLh (Qso (by rw[HX.out];rfl));go_wp2;go_ret;exact⟨by rw[HF.out];rfl,HW.out⟩
theorem QkY(tag:ByteArray)(parts:List ByteArray)(a:Option Addr)(cap:Nat)(w:World)(h1:1<=tag.size)(h2:tag.size<=16)(hp:Jk w a parts)(hs:(Jh parts).length<=140737488355300):
  Calls Tryz.prog 136 #[.string tag,.slice a (len parts) cap] w λ e w'=>e=.returned (.string (Uq tag parts))/\Below w.heap.size w w':=by
 have HP:=QLh hp;have HS:=QLh hs;have HT2:=QLh h2;have HPL:Hid (len parts<=140737488355300):=QLh (by have:=QhV parts;rw[Qy];omega);have t1:¬(tag.size:Int)<1:=by omega
 have t2:¬(16:Int)<(tag.size:Int):=by omega
 have t3:IntKind.u8.wrap ((tag.size:Nat):Int)=((tag.size:Nat):Int):=IntWalk.u8_in _ (by omega);have t4:1+tag.size<=9223372036854775807:=by omega
 have HB9:Hid (Value.int .u8 ((tag.size:Nat):Int)=byV (UInt8.ofNat tag.size)):=QLh (by
  unfold byV;rw[UInt8.toNat_ofNat',Nat.mod_eq_of_lt (by omega)])
 have cv:(convert 41 9 (.slice (some ⟨w.heap.size,0,none⟩) 1 1)).run Tryz.prog (w.alloc (.cells #[.int .u8 ((tag.size:Nat):Int)] 5))=.ok (.string ⟨#[UInt8.ofNat tag.size]⟩) (w.alloc (.cells #[.int .u8 ((tag.size:Nat):Int)] 5)):=by rw[HB9.out];exact QdM w 5 1 1 [UInt8.ofNat tag.size] rfl
 clear hp hs h1 h2
 go_enter Tryz.func136,Tryz.ntmps136
 go_upto_region 5 with fail;obtain⟨X0,hX0⟩:∃X0,(⟨#[UInt8.ofNat tag.size]⟩:ByteArray)++tag=X0:=⟨_,rfl⟩;rw[hX0];have HX0:Hid (X0.data.toList=Qep tag++Jh (parts.take 0)):=QLh (by rw[<-hX0,Qad,List.take_zero,show Jh []=[]from rfl,List.append_nil];rfl);have HW0:Hid (Below w.heap.size w (w.alloc (.cells #[.int .u8 ((tag.size:Nat):Int)] 5))):=QLh (Qf (Below.refl _ _) _);clear hX0 t1 t2 t3 t4 cv
 go_loopg [6,5] (len parts) (λ g i x wr=>∃(m:Nat) (X:ByteArray),g+m=len parts/\i=.int .i64 m/\x=.string X/\Hid (X.data.toList=Qep tag++Jh (parts.take m))/\Hid (Below w.heap.size w wr))
 case atStart=>exact⟨0,X0,rfl,rfl,rfl,HX0,HW0⟩
 case round=>
  clear HX0 HW0;obtain⟨m,X,hm,rfl,rfl,HX,HW⟩:=hrel;have HPB:=HPL.out
  by_cases hlt:m<len parts
  ·have b0:(m:Int)<len parts:=by omega
   obtain⟨pb,po,rfl,cs⟩:=(HP.out.below HW.out) m hlt;obtain⟨p,hx⟩:∃p,tth parts m=p:=⟨_,rfl⟩;rw[hx]at cs;have hsz:X.size+(8+p.size)<=140737488355328:=by have h1:=congrArg List.length HX.out;rw[Ka,List.length_append,QeC]at h1;have h2:=Qi5 parts (m+1);rw[Qao _ _ hlt,List.length_append,hx,Jm]at h2;have:=HS.out;have:=HT2.out;omega
   have bl:¬len parts<=m:=by omega
   have u1:IntKind.u64.wrap ((p.size:Nat):Int)=((p.size:Nat):Int):=IntWalk.u64_in _ (by omega);have q1:X.size+(Qdc p.size).size<=9223372036854775807:=by rw[QcG];omega
   have q2:X.size+(Qdc p.size).size+p.size<=9223372036854775807:=by rw[QcG];omega
   have HNM:=QLh (λ w9=>Qpm p.size w9 (by omega));have HX2:Hid (((X++Qdc p.size)++p).data.toList=Qep tag++Jh (parts.take (m+1))):=QLh (by
    rw[Qad,Qad,HX.out,Qao _ _ hlt,hx];unfold Qay;simp only[List.append_assoc];rfl)
   clear hx hsz;go_upto_region 7 with fail;refine Qp 14 1000 (none) (Kx (List.map qv [.string X,.slice (some ⟨pb,po,none⟩) (len parts) cap,.int .i64 (m:Nat),.pointer (some ⟨pb,po+m,none⟩),.string p,.int .i64 (p.size:Nat),.int .u64 (p.size:Nat),.string (Qdc p.size),.string (X++Qdc p.size),.slice (some ⟨pb,po,none⟩) (len parts) cap,.int .i64 (m:Nat),.pointer (some ⟨pb,po+m,none⟩),.string p,.string ((X++Qdc p.size)++p)])) rfl (by kernel_rfl) (by kernel_rfl) (Q9 Xz) (Q6 14 ⟨?s0,?s1,?s2,?s3,?s4,?s5,?s6,?s7,?s8,?s9,?s10,?s11,?s12,?s13,trivial⟩) ?_
   case s0=>refine qV (λ _=>rfl) rfl λ av wv hE hO hD=>?_;simp[go_sem,qF av 5 (.string X) (hO.2.2 5 rfl),bl,u1,q1,q2]
   case s1=>refine qV (λ _=>rfl) rfl λ av wv hE hO hD=>?_;simp[go_sem,qF av 1 (.slice (some ⟨pb,po,none⟩) (len parts) cap) (hO.2.2 1 rfl),bl,u1,q1,q2]
   case s2=>refine qV (λ _=>rfl) rfl λ av wv hE hO hD=>?_;simp[go_sem,qF av 6 (.int .i64 (m:Nat)) (hO.2.2 6 rfl),bl,u1,q1,q2]
   case s3=>refine qV (λ _=>rfl) rfl λ av wv hE hO hD=>?_;simp[go_sem,qE (hD.1 rfl _ rfl),qE (hD.2.1 rfl _ rfl),bl,u1,q1,q2]
   case s4=>refine qV (λ _=>rfl) rfl λ av wv hE hO hD=>?_;simp[go_sem,qE (hD.1 rfl _ rfl),Qb hE (by simp) cs,bl,u1,q1,q2]
   case s5=>refine qV (λ _=>rfl) rfl λ av wv hE hO hD=>?_;simp[go_sem,qE (hD.1 rfl _ rfl),bl,u1,q1,q2]
   case s6=>refine qV (λ _=>rfl) rfl λ av wv hE hO hD=>?_;simp[go_sem,qE (hD.1 rfl _ rfl),bl,u1,q1,q2]
   case s7=>refine Qu (λ av wv hE hS hO hD=>⟨rfl,?_⟩);have f34:=qE (hD.1 rfl _ rfl);refine Zb (v:=.string (Qdc p.size)) (by simp[go_sem,f34]) (HNM.out wv) (λ w2 hb=>⟨_,rfl,Qo hb,rfl⟩)
   case s8=>refine qV (λ _=>rfl) rfl λ av wv hE hO hD=>?_;simp[go_sem,qE (hD.1 rfl _ rfl),qE (hD.2.1 rfl _ rfl),bl,u1,q1,q2]
   case s9=>refine qV (λ _=>rfl) rfl λ av wv hE hO hD=>?_;simp[go_sem,qF av 1 (.slice (some ⟨pb,po,none⟩) (len parts) cap) (hO.2.2 1 rfl),bl,u1,q1,q2]
   case s10=>refine qV (λ _=>rfl) rfl λ av wv hE hO hD=>?_;simp[go_sem,qF av 6 (.int .i64 (m:Nat)) (hO.2.2 6 rfl),bl,u1,q1,q2]
   case s11=>refine qV (λ _=>rfl) rfl λ av wv hE hO hD=>?_;simp[go_sem,qE (hD.1 rfl _ rfl),qE (hD.2.1 rfl _ rfl),bl,u1,q1,q2]
   case s12=>refine qV (λ _=>rfl) rfl λ av wv hE hO hD=>?_;simp[go_sem,qE (hD.1 rfl _ rfl),Qb hE (by simp) cs,bl,u1,q1,q2]
   case s13=>refine qV (λ _=>rfl) rfl λ av wv hE hO hD=>?_;simp[go_sem,qE (hD.1 rfl _ rfl),qE (hD.2.1 rfl _ rfl),bl,u1,q1,q2]
   intro a' w' hE hO hall;have hA:=Qn (ds:=[28,29,30,31,32,33,34,35,36,37,38,39,40,41]) rfl hO (by kernel_rfl);obtain⟨j0,j1,j2,j3,j4,j5,j6,j7,j8,j9,j10,j11,j12,j13,-⟩:=hall;simp only[List.foldl_cons,List.foldl_nil,Act.put,List.setIfInBounds_toArray,List.set_cons_succ,List.set_cons_zero,qJ 28 (j0 _ rfl),qJ 29 (j1 _ rfl),qJ 30 (j2 _ rfl),qJ 31 (j3 _ rfl),qJ 32 (j4 _ rfl),qJ 33 (j5 _ rfl),qJ 34 (j6 _ rfl),qJ 35 (j7 _ rfl),qJ 36 (j8 _ rfl),qJ 37 (j9 _ rfl),qJ 38 (j10 _ rfl),qJ 39 (j11 _ rfl),qJ 40 (j12 _ rfl),qJ 41 (j13 _ rfl)]at hA;clear hO j0 j1 j2 j3 j4 j5 j6 j7 j8 j9 j10 j11 j12 j13;subst hA;have HW2:Hid (Below w.heap.size w w'):=QLh (Qj HW.out (Q0 hE));clear hE cs bl u1 q1 q2;go_wp2
   go_roundg (len parts - (m+1))
   case rel=>exact⟨m+1,_,by omega,by go_num,rfl,HX2,HW2⟩
   case measure=>omega
  ·obtain rfl:m=len parts:=by omega
   have b0:¬((len parts:Nat):Int)<len parts:=by omega
   have HF:Hid (X=Uq tag parts):=QLh (Qso (by rw[HX.out,Xh];rfl));go_wp2;go_ret;exact⟨by rw[HF.out];rfl,HW.out⟩
theorem QeB(tag:ByteArray)(parts:List ByteArray)(a:Option Addr)(cap:Nat)(w:World)(h1:1<=tag.size)(h2:tag.size<=16)(hp:Jk w a parts)(hs:(Jh parts).length<=140737488355300):
  Calls Tryz.prog 81 #[.string tag,.slice a (len parts) cap] w λ e w'=>e=.returned (.string (Xi tag parts))/\Below w.heap.size w w':=by
 have HF:=QLh (QkY tag parts a cap w h1 h2 hp hs);have HS:Hid (1<=(Uq tag parts).size/\(Uq tag parts).size<=140737488355328):=QLh (by rw[QeQ];omega);clear h1 h2 hp hs
 go_enter Tryz.func81,Tryz.ntmps81
 go_wp2_with fail;refine HF.out.mono ?_;rintro e w1 ⟨rfl,hb1⟩;have HB1:=QLh hb1;have t1:(Uq tag parts).toList.isEmpty=false:=QpR (by have:=HS.out;omega);clear hb1;go_wp2_with fail;refine(Qqi (Uq tag parts) w1 (by have:=HS.out;omega)).mono ?_;rintro e w2 ⟨rfl,hb2⟩;have HB2:Hid (Below w.heap.size w w2):=QLh (Qj HB1.out hb2);clear hb2;go_wp2;go_ret;exact⟨rfl,HB2.out⟩
theorem Qmd(tag:ByteArray)(w:World)(h1:1<=tag.size)(h2:tag.size<=16):Calls Tryz.prog 81 #[.string tag,.slice none 0 0] w λ e w'=>e=.returned (.string (Xi tag []))/\Below w.heap.size w w':=
 QeB tag [] none 0 w h1 h2 (Jk.nil _ _) (by decide)
theorem QeF{w:World}{b:Nat}{t:TypeId}(l:List ByteArray)(h:w.heap[b]?=some (.cells (l.map Value.string).toArray t (0,0))):Jk w (some ⟨b,0,none⟩) l:=λ i hi=>⟨b,0,rfl,by
 have h2:i<l.length:=hi;rw[Qa h,Nat.zero_add,List.getElem?_toArray,List.getElem?_map,List.getElem?_eq_getElem h2,Y9 l i hi];rfl⟩
theorem QfM(tag s:ByteArray)(w:World)(h1:1<=tag.size)(h2:tag.size<=16)(hs:s.size<=140737488355200):Calls Tryz.prog 81 #[.string tag,.slice (some ⟨w.heap.size,0,none⟩) 1 1] (w.alloc (.cells #[.string s] 9)) λ e w'=>e=.returned (.string (Xi tag [s]))/\Below w.heap.size w w':=by have hw1:Jk (w.alloc (.cells #[.string s] 9)) (some ⟨w.heap.size,0,none⟩) [s]:=QeF [s] (heap_alloc_new _ _);refine(QeB tag [s] (some ⟨w.heap.size,0,none⟩) 1 _ h1 h2 hw1 (by show((Qay s)++[]).length<=_;rw[List.append_nil,Jm];omega)).mono ?_;rintro e w2 ⟨rfl,hb2⟩;exact⟨rfl,Qj (Qf (Below.refl _ _) _) hb2⟩
theorem Qgb(tag s t:ByteArray)(w:World)(h1:1<=tag.size)(h2:tag.size<=16)(hs:s.size<=1000000)(ht:t.size<=1000000):Calls Tryz.prog 81 #[.string tag,.slice (some ⟨w.heap.size,0,none⟩) 2 2] (w.alloc (.cells #[.string s,.string t] 9)) λ e w'=>e=.returned (.string (Xi tag [s,t]))/\Below w.heap.size w w':=by have hw1:Jk (w.alloc (.cells #[.string s,.string t] 9)) (some ⟨w.heap.size,0,none⟩) [s,t]:=QeF [s,t] (heap_alloc_new _ _);refine(QeB tag [s,t] (some ⟨w.heap.size,0,none⟩) 2 _ h1 h2 hw1 (by show((Qay s)++((Qay t)++[])).length<=_;rw[List.append_nil,List.length_append,Jm,Jm];omega)).mono ?_;rintro e w2 ⟨rfl,hb2⟩;exact⟨rfl,Qj (Qf (Below.refl _ _) _) hb2⟩
section
open Go.RowKit Go.ChangeMaps
theorem Qoy(n:Int)(ps:List Int)(es ds:List ByteArray)(pa ea da:Option Addr)(pc ec dc:Nat)(w:World)(hp:QaO w pa ps)(hl:len ps<=100)(h0:-9223372036854775808<=n)(h1:n<=9223372036854775807)(hb:¬QdG n ps es)(hle:len es<=1000000):
  Calls Tryz.prog 180 #[.int .i64 n,.slice pa (len ps) pc,.slice ea (len es) ec,.slice da (len ds) dc] w (Qeu n ps es ds w):=by
 have HE:Hid (X4 n ps es ds=2/\Yl n ps es ds=⟨#[]⟩):=QLh (by
  have h9:X4 n ps es ds=2:=by unfold X4;rw[if_pos hb]
  exact⟨h9,by unfold Yl;rw[h9];rfl⟩)
 have HM:=QLh (λ w9 hb9=>QkH n ps pa pc w9 (hp.below hb9) (by omega) h0 h1)
 by_cases hs:Ki n ps
 ·have hne:¬len es=len ps:=λ h9=>hb ⟨hs,h9⟩
  have z1:¬((len es:Nat):Int)=((len ps:Nat):Int):=by omega
  rw[decide_eq_true hs]at HM;clear hb hs hp hl h0 h1 hne hle
  go_enter Tryz.func180,Tryz.ntmps180
  go_wp2_with fail;refine(HM.out _ (Below.refl _ _)).mono ?_;rintro e w1 ⟨rfl,hb1⟩;have HB1:=QLh hb1;clear hb1;go_wp2
  go_ret2
  exact⟨by rw[HE.out.1,HE.out.2];rfl,HB1.out⟩
 ·rw[decide_eq_false hs]at HM
  clear hb hs hp hl h0 h1 hle
  go_enter Tryz.func180,Tryz.ntmps180
  go_wp2_with fail;refine(HM.out _ (Below.refl _ _)).mono ?_;rintro e w1 ⟨rfl,hb1⟩;have HB1:=QLh hb1;clear hb1;go_wp2
  go_ret2
  exact⟨by rw[HE.out.1,HE.out.2];rfl,HB1.out⟩
structure Qd9(B:Nat)(v:Value)(KL:List Plc)(w:World):Prop where
 own:w.ownsRow B 279 2 v (len KL) (KL.flatMap Plc.cells)
 ok:∀x ∈ KL,0<=x.K/\x.K<65536/\x.d.size<=1000
theorem Qd9.nil(B:Nat)(w:World):Qd9 B (.slice none 0 0) [] w:=⟨World.ownsRow_nil _ _ _ _,λ x h=>by simp at h⟩
theorem Qd9.below{B:Nat}{v:Value}{KL:List Plc}{w w':World}(h:Qd9 B v KL w)(hb:Below w.heap.size w w'):Qd9 B v KL w':=⟨Qs h.own hb,h.ok⟩
theorem Qd9.plcs{B:Nat}{v:Value}{KL:List Plc}{w:World}(h:Qd9 B v KL w):∃a c,v=.slice a (len KL) c/\Qov w a KL:=by obtain⟨a,c,h1,h2,_⟩:=Qov.own h.own;exact⟨a,c,h1,h2⟩
theorem Qd9.snoc{B:Nat}{v:Value}{KL:List Plc}{w':World}(ok:∀x ∈ KL,0<=x.K/\x.K<65536/\x.d.size<=1000)(x:Plc)(h:w'.ownsRow B 279 2 v (len KL+1) (KL.flatMap Plc.cells++x.cells))(hx:0<=x.K/\x.K<65536/\x.d.size<=1000):Qd9 B v (KL++[x]) w':=by
 refine⟨?_,λ y hy=>?_⟩
 ·have e:len (KL++[x])=len KL+1:=by rw[Qy,List.length_append];rfl
  rw[e,List.flatMap_append]
  simpa using h
 ·rcases List.mem_append.1 hy with h1 | h1
  ·exact ok y h1
  ·rw[List.mem_singleton]at h1;rw[h1];exact hx
theorem Qa5(KL:List Plc)(x:Plc):len (KL++[x])=len KL+1:=by rw[Qy,List.length_append];rfl
theorem Qmb{w w1:World}{base b2 n:Nat}{v vo:Value}{rs:List (List Int)}{xs:List Value}(h:Qb6 w base v rs)(hq:w.ownsRow b2 279 2 vo n xs)(hg:w.grownBy w1 vo.ownBlock):Qb6 w1 base v rs:=by
 obtain⟨vals,h1,h2⟩:=h;refine⟨vals,h1.kept hg (QbU h1 hq (by decide)),h2.kept hg (λ i u hu=>?_)⟩
 rcases hq.2 with⟨e,_⟩ | ⟨g,cap,cur,e,_,hgb,_⟩
 ·rw[e];cases h:u.ownBlock <;> simp[Value.ownBlock]
 ·rw[e];exact h2.apart hgb (by decide) i u hu
theorem Qf6{w:World}{base n c:Nat}{a:Option Addr}{rs:List (List Int)}(h:Qb6 w base (.slice a n c) rs):QnE w a rs:=by
 obtain⟨vals,h1,h2⟩:=h;obtain⟨a',c',e,h3,_,_⟩:=Qba h1 h2
 cases e
 exact h3
theorem QsT{ps:List Int}{d:Nat}(hd:d<=16)(m:Nat)(h:m<len (Qr ps (d:Nat))):0<=nth (Qr ps (d:Nat)) m/\nth (Qr ps (d:Nat)) m<65536:=by
 have h1:=Kc hd _ (Vk h);have h2:(2:Int) ^ d<=65536:=by rw[Zr];have:2 ^ d<=65536:=Nat.pow_le_pow_right (n:=2) (by decide) hd;omega
 omega
theorem QpX(KL:List Plc):KL.take (len KL)=KL:=List.take_length
theorem QiR:∀(l:List Plc) (k:Int),(Qa2 l k).isSome->∃x ∈ l,x.K=k
 | [],k,h=>by cases h
 | y :: l,k,h=>by
  rw[Yd]at h
  by_cases e:y.K=k
  ·exact⟨y,List.mem_cons_self,e⟩
  ·rw[if_neg e]at h
   obtain⟨x,h1,h2⟩:=QiR l k h;exact⟨x,List.mem_cons_of_mem _ h1,h2⟩
theorem QmU:∀(l:List Plc) (x:Plc),x ∈ l->(Qa2 l x.K).isSome
 | y :: l,x,h=>by
  rw[Yd]
  by_cases e:y.K=x.K
  ·rw[if_pos e];rfl
  ·rw[if_neg e]
   rcases List.mem_cons.1 h with rfl | h1
   ·exact absurd rfl e
   ·exact QmU l x h1
theorem Qoj:∀(l:List Plc) (k:Int) (d:ByteArray),Qa2 l k=some d->∃x ∈ l,x.d=d
 | [],k,d,h=>by cases h
 | y :: l,k,d,h=>by
  rw[Yd]at h
  by_cases e:y.K=k
  ·rw[if_pos e]at h;exact⟨y,List.mem_cons_self,Option.some.inj h⟩
  ·rw[if_neg e]at h
   obtain⟨x,h1,h2⟩:=Qoj l k d h;exact⟨x,List.mem_cons_of_mem _ h1,h2⟩
theorem Qkq{KL:List Plc}(h:∀x ∈ KL,0<=x.K/\x.K<65536/\x.d.size<=1000)(k:Int):(Vv (Qa2 KL) k).size<=1000000:=by
 unfold Vv
 cases hf:Qa2 KL k with
 | none=>show(0:Nat)<=_;omega
 | some d=>
  obtain⟨x,h1,h2⟩:=Qoj KL k d hf;have:=(h x h1).2.2;rw[h2]at this;show d.size<=_;omega
theorem Qtw{ps:List Int}{d i:Nat}{t:Int}(hd:d<=16)(hi:i<d)(h:t ∈ Jj (Za (Qr ps (d:Nat)) d) i):0<=t/\t<65536:=by
 obtain⟨⟨y,hy,rfl⟩,_⟩:=(QbE _ d i hi t).1 h;obtain⟨h1,h2⟩:=Kc hd y hy;have h3:=QgX h1 h2 (Nat.le_of_lt hi);obtain⟨e,he⟩:∃e,d - i=e+1:=⟨d - i - 1,by omega⟩;rw[he]at h3;have h4:=Qkc h3.1 h3.2;have h5:(2:Int) ^ (e+1)<=65536:=by rw[Zr];have:2 ^ (e+1)<=65536:=Nat.pow_le_pow_right (n:=2) (by decide) (by omega:e+1<=16);omega
 omega
theorem QkX(nn:Nat)(ps:List Int)(es ds:List ByteArray)(pa ea da:Option Addr)(pc ec dc:Nat)(w:World)(hp:QaO w pa ps)(he:Jk w ea es)(hd:Jk w da ds)(hl:len ps<=100)(hu:∀k ∈ ps,U64 k)(hld:len ds<=1000000)(hdc:len ds<=dc)(hez:∀i,i<len es->(tth es i).size<=1000000)(hb:QdG (nn:Nat) ps es):
  Calls Tryz.prog 180 #[.int .i64 (nn:Nat),.slice pa (len ps) pc,.slice ea (len es) ec,.slice da (len ds) dc] w (Qeu (nn:Nat) ps es ds w):=by
 have hn16:nn<=65536:=by have:=hb.1.2.1;omega
 obtain⟨d,hdd⟩:∃d:Nat,Lib.bitLen (nn - 1)=d:=⟨_,rfl⟩;have hdz:Xy (nn:Nat)=(d:Nat):=by unfold Xy;rw[if_neg (by omega),Int.toNat_natCast,hdd]
 have hdb:=Qci nn hn16;rw[hdd]at hdb;have HD16:Hid (d<=16):=QLh hdb.1;obtain⟨lv,hlv⟩:∃lv,Qr ps (d:Nat)=lv:=⟨_,rfl⟩;have HLN:Hid (len lv=len ps):=QLh (by rw[<-hlv,Xf]);have HLU:Hid (∀k ∈ lv,U64 k):=QLh (by rw[<-hlv];exact Qan ps _);have HLND:Hid (lv.Nodup):=QLh (by rw[<-hlv];exact Qid hdb.1 hdb.2.1 hu hb.1.2.2);have HLBD:Hid (∀m,m<len lv->0<=nth lv m/\nth lv m<65536):=QLh (by rw[<-hlv];exact λ m hm=>QsT hdb.1 m hm);obtain⟨rs,hrs⟩:∃rs,Za lv d=rs:=⟨_,rfl⟩;have HNR:Hid (Z4 lv (d:Nat)=rs):=QLh (by rw[<-hrs,<-hlv];exact Qek hdb.1 hb.1.2.2);have HRL:Hid (len rs=d):=QLh (by rw[<-hrs,Ui]);have HLV:=QLh hlv;have HRS:=QLh hrs;have HNM:Hid (∀i,len (Jj rs i)<=100):=QLh (by
  rw[<-HNR.out];exact Qe0 _ _ (by rw[HLN.out];exact hl))
 have HRP:Hid (Qd7 (nn:Nat) ps=rs):=QLh (by unfold Qd7;rw[hdz,hlv];exact HNR.out);have HDP:Hid (QrZ (nn:Nat) ps es ds=Vv (Qfi (g0F lv es) rs ds) 0):=QLh (by unfold QrZ;rw[HRP.out,hdz,hlv]);have HNP:Hid (U4 (nn:Nat) ps=Xp rs (len rs)):=QLh (by unfold U4;rw[HRP.out]);have HM:=QLh (λ w9 hb9=>QkH (nn:Nat) ps pa pc w9 (hp.below hb9) (by omega) (by omega) (by omega));rw[decide_eq_true hb.1]at HM;have hel:=hb.2;have HDE:=QLh (λ w9=>QaN (nn:Nat) w9 (by omega) (by omega));rw[hdz]at HDE;have HLF:=QLh (λ k (hk:U64 k) w9=>QeI k (d:Nat) w9 hk.1 hk.2 (by have:=HD16.out;omega) (by have:=HD16.out;omega));have HP:=QLh hp;have HES:=QLh he;have HDS:=QLh hd;have HU:=QLh hu;have HL100:=QLh hl;have HEZ:=QLh hez;have HEL:=QLh hel;have HLD:=QLh hld;have HDC:=QLh hdc;have HARG:=QLh hb;obtain⟨i0,hi,hz0,hz1,hz2⟩:=info_parts Qbh;have HZ0:=QLh hz0;obtain⟨j0,hj,hy0,hy1,hy2⟩:=info_parts Qpr;have HY0:=QLh hy0;clear hp he hd hl hu hld hdc hez hb hn16 hdd hdz hdb hlv hrs hel hz0 hy0
 go_enter Tryz.func180,Tryz.ntmps180
 rw[HEL.out];go_wp2_with fail;refine(HM.out _ (Below.refl _ _)).mono ?_;rintro e w1 ⟨rfl,hb1⟩;have HB1:=QLh hb1;clear hb1 HM;go_upto_region 4 with fail
 go_loopg [10] (len ds) (λ g i wr=>∃m:Nat,g+m=len ds/\i=.int .i64 m/\Hid (∀j,j<m->(tth ds j).size=32)/\wr=w1)
 case atStart=>exact⟨0,rfl,rfl,QLh (λ j hj=>by omega),rfl⟩
 case round=>
  obtain⟨m,hm,rfl,HG,rfl⟩:=hrel;have hld:=HLD.out
  by_cases hlt:m<len ds
  ·have b1:(m:Int)<len ds:=by omega
   have b2:¬len ds<=m:=by omega
   obtain⟨b,off,hda,hcell⟩:=HDS.out.below HB1.out m hlt;subst hda;have l1:=Ql hcell;obtain⟨s,hs⟩:∃s,tth ds m=s:=⟨_,rfl⟩;rw[hs]at hcell;have HS:=QLh hs;have HSM:Hid (s ∈ ds):=QLh (by rw[<-hs,Y9 ds m hlt];exact List.getElem_mem _);clear hs
   by_cases hf:s.size=32
   ·have HF:=QLh hf
    have z1:((s.size:Nat):Int)=32:=by omega
    clear hf;go_wp2
    go_roundg (len ds - (m+1))
    case rel=>exact⟨m+1,by omega,by go_num,QLh (λ j hj=>by
     by_cases e:j=m
     ·subst e;rw[HS.out];exact HF.out
     ·exact HG.out j (by omega)),rfl⟩
    case measure=>omega
   ·have z1:¬((s.size:Nat):Int)=32:=by omega
    have HE:Hid (X4 (nn:Nat) ps es ds=5/\Yl (nn:Nat) ps es ds=⟨#[]⟩):=QLh (by
     have h9:X4 (nn:Nat) ps es ds=5:=by unfold X4;rw[if_neg (λ h=>h HARG.out),if_pos (show Qmq ds=true from decide_eq_true ⟨s,HSM.out,hf⟩)]
     exact⟨h9,by unfold Yl;rw[h9];rfl⟩)
    clear hf;go_wp2
    go_ret2
    exact⟨by rw[HE.out.1,HE.out.2];rfl,HB1.out⟩
  ·obtain rfl:m=len ds:=by omega
   have b1:¬((len ds:Nat):Int)<len ds:=by omega
   have HBADF:Hid (Qmq ds=false):=QLh (decide_eq_false (by
    rintro⟨x,hx,h9⟩;obtain⟨j,hj,rfl⟩:=List.getElem_of_mem hx;have h1:=HG.out j hj;rw[Y9 ds j hj]at h1;exact h9 h1))
   clear HG hm;go_wp2_with fail;refine(HDE.out wr).mono ?_;rintro e w2 ⟨rfl,rfl⟩;go_upto_region 12 with fail
   go_loopg [14,12,13] (len ps) (λ g i v k wz=>∃(m:Nat) (KL:List Plc),g+m=len ps/\i=.int .i64 m/\len KL=m/\Hid (wz.ownsRow w.heap.size 23 1 v m ((lv.take m).map (Value.int .u64)))/\Hid (Qd9 w.heap.size k KL wz)/\Hid (Qa2 KL=Vx noF (lv.take m) (Qc0 es))/\Hid (Below w.heap.size w wz))
   case atStart=>exact⟨0,[],rfl,rfl,rfl,QLh (World.ownsRow_nil _ _ _ _),QLh (Qd9.nil _ _),QLh (by rw[List.take_zero];rfl),HB1⟩
   case round=>
    clear HB1;obtain⟨m,KL,hm,rfl,hkl,HO,HK,HF,HW⟩:=hrel;have HNN:=HL100.out
    by_cases hlt:m<len ps
    ·have b0:(m:Int)<len ps:=by omega
     have b1:¬len ps<=m:=by omega
     obtain⟨b,off,hra,hcell⟩:=HP.out.below HW.out m hlt;subst hra;obtain⟨k,hk⟩:∃k,nth ps m=k:=⟨_,rfl⟩;have hku:U64 k:=by rw[<-hk];exact HU.out _ (Vk hlt)
     obtain⟨s,hs⟩:∃s,tth es m=s:=⟨_,rfl⟩;have HSZ:Hid (s.size<=1000000):=QLh (by rw[<-hs];exact HEZ.out m (by rw[HEL.out];exact hlt));obtain⟨t,ht⟩:∃t,Zt k (d:Nat)=t:=⟨_,rfl⟩;have HSS:=QLh hs;have HTN:Hid (nth lv m=t):=QLh (by rw[<-HLV.out,Qft ps _ m hlt,hk,ht]);have HLML:Hid (m<len lv):=QLh (by rw[HLN.out];exact hlt);have HTB:Hid (0<=t/\t<65536):=QLh (by rw[<-HTN.out];exact HLBD.out m HLML.out);have HLK:=QLh (HLF.out k hku wr);rw[ht]at HLK;obtain⟨D,hD⟩:∃D,Xi Kf [s]=D:=⟨_,rfl⟩;have HLD9:Hid (tth (Qc0 es) m=D):=QLh (by rw[Qgy es m (by rw[HEL.out];exact hlt),hs,hD]);have HDZ9:Hid (D.size<=1000):=QLh (by rw[<-hD,Kl];omega);have HHD:=QLh hD;have HFR:Hid (Qa2 KL t=none):=QLh (by rw[HF.out,<-HTN.out];exact QlY HLND.out _ m HLML.out);rw[hk]at hcell;have l1:=Ql hcell;have HKLN:=QLh hkl;clear hk hku hs ht hD hkl;go_upto_region 15 with fail;clear hcell l1;refine HLK.out.mono ?_;rintro e w2 ⟨rfl,rfl⟩
     go_upto_region 16 with(at_builtin;refine wpList_append_own _ rfl _ _ 64 rfl w.heap.size 23 i0 (.int .u64 0) 1 8 Tryz.underlying64 hi HZ0.out hz1 hz2 rfl (by decide) _ _ _ rfl (HO.out.alloc _) ⟨wr.heap.size,0,none⟩ 1 1 [.int .u64 t] rfl rfl (World.news_of_block (heap_alloc_new _ _)) (by intro u hu9;simp at hu9;subst hu9;rfl) (by unfold maxLen;omega) (by omega) (by have:=HW.out.size;simp;omega) ?_;intro v2 w4 hown2 hgrow2 _)
     have HX9:Hid (Below wr.heap.size wr (wr.alloc (.cells #[.int .u64 t] 23))):=QLh (Qf (Below.refl _ _) _);have HO4:Hid (w4.ownsRow w.heap.size 23 1 v2 (m+1) ((lv.take (m+1)).map (Value.int .u64))):=QLh (by
      rw[Qcs HLML.out,HTN.out,List.map_append];exact hown2)
     have HK4:Hid (Qd9 w.heap.size u13 KL w4):=QLh ⟨(Qs HK.out.own HX9.out).kept hgrow2 (QbU (Qs HK.out.own HX9.out) (HO.out.alloc _) (by decide)),HK.out.ok⟩;have HW4:Hid (Below w.heap.size w w4):=QLh (Qq (Qf HW.out _) hgrow2 (λ k hk'=>(HO.out.lt k hk').1));clear hown2 hgrow2 HX9 HO HK HW HLK;obtain⟨eb2,eo2,he2,hcel2⟩:=HES.out.below HW4.out m (by rw[HEL.out];exact hlt);subst he2;rw[HSS.out]at hcel2;have l2:=Ql hcel2;go_wp2_with fail;refine(QfM Kf s w4 (by decide) (by decide) (by have:=HSZ.out;omega)).mono ?_;rintro e w5 ⟨rfl,hb5⟩;rw[HHD.out];clear hcel2 l2;have HO5:Hid (w5.ownsRow w.heap.size 23 1 v2 (m+1) ((lv.take (m+1)).map (Value.int .u64))):=QLh (Qs HO4.out hb5);have HK5:Hid (Qd9 w.heap.size u13 KL w5):=QLh (HK4.out.below hb5);have HW5:Hid (Below w.heap.size w w5):=QLh (Qj HW4.out hb5);have hkn:len KL<=100:=by have:=HKLN.out;omega
     clear hb5 HO4 HK4 HW4
     go_wp2_with (at_builtin;refine wpList_append_own _ rfl _ _ 277 rfl w.heap.size 279 j0 Plc.zero.val 2 24 Tryz.underlying277 hj HY0.out hy1 hy2 rfl (by decide) _ _ _ rfl (HK5.out.own.alloc _) ⟨w5.heap.size,0,none⟩ 1 1 [.int .u64 t,.string D] rfl rfl (World.news_of_block (heap_alloc_new _ _)) (by intro u hu9;simp at hu9;rcases hu9 with rfl | rfl <;> rfl) (by unfold maxLen;omega) (by omega) (by have:=HW5.out.size;simp;omega) ?_;intro v3 w6 hown3 hgrow3 _)
     have HX9:Hid (Below w5.heap.size w5 (w5.alloc (.cells #[.int .u64 t,.string D] 279))):=QLh (Qf (Below.refl _ _) _);have HO6:Hid (w6.ownsRow w.heap.size 23 1 v2 (m+1) ((lv.take (m+1)).map (Value.int .u64))):=QLh ((Qs HO5.out HX9.out).kept hgrow3 (QbU (Qs HO5.out HX9.out) (HK5.out.own.alloc _) (by decide)));have HK6:Hid (Qd9 w.heap.size v3 (KL++[⟨t,D⟩]) w6):=QLh (Qd9.snoc HK5.out.ok ⟨t,D⟩ hown3 ⟨HTB.out.1,HTB.out.2,HDZ9.out⟩);have HW6:Hid (Below w.heap.size w w6):=QLh (Qq (Qf HW5.out _) hgrow3 (λ k hk'=>(HK5.out.own.lt k hk').1));have HF6:Hid (Qa2 (KL++[⟨t,D⟩])=Vx noF (lv.take (m+1)) (Qc0 es)):=QLh (by
      rw[QbQ KL ⟨t,D⟩ HFR.out,Qa4 _ _ _ m HLML.out,HTN.out,HLD9.out,HF.out])
     have HN6:Hid (len (KL++[(⟨t,D⟩:Plc)])=m+1):=QLh (by rw[Qa5,HKLN.out]);clear hown3 hgrow3 HX9 HO5 HK5 HW5 hkn;go_wp2
     go_roundg (len ps - (m+1))
     case rel=>exact⟨m+1,_,by omega,by go_num,HN6.out,HO6,HK6,HF6,HW6⟩
     case measure=>omega
    ·obtain rfl:m=len ps:=by omega
     have b0:¬((len ps:Nat):Int)<len ps:=by omega
     have HFZ:Hid (Qa2 KL=g0F lv es):=QLh (by
      have h9:=HF.out;rw[show lv.take (len ps)=lv by rw[<-HLN.out,Xh]]at h9;exact h9)
     have HOZ:Hid (wr.ownsRow w.heap.size 23 1 u12 (len ps) (lv.map (Value.int .u64))):=QLh (by
      have h9:=HO.out;rw[show lv.take (len ps)=lv by rw[<-HLN.out,Xh]]at h9;exact h9)
     obtain⟨al,cl,rfl,hUl,_,_⟩:=Qb7 HOZ.out;have HND:=QLh (Qdy al cl lv (d:Nat) wr hUl (by rw[HLN.out];exact HL100.out) HLU.out);rw[HNR.out]at HND;have HKLN:=QLh hkl;clear hUl HO HF HOZ hm hkl;go_wp2_with fail;refine HND.out.mono ?_;rintro e w3 ⟨v,vals,rfl,hr1,hr2,hb3⟩;obtain⟨a3,cap3,rfl,_,_,_⟩:=Qba hr1 hr2;obtain⟨B2,hB2⟩:∃B2,wr.heap.size=B2:=⟨_,rfl⟩;rw[hB2]at hr1 hr2;have HL8:Hid (Qb6 w3 B2 (.slice a3 (len rs) cap3) rs):=QLh ⟨vals,hr1,hr2⟩;have HK3:Hid (Qd9 w.heap.size u13 KL w3):=QLh (HK.out.below hb3);have HW3:Hid (Below w.heap.size w w3):=QLh (Qj HW.out hb3);clear hr1 hr2 hB2 hb3 HND HK HW;go_upto_region 20 with fail;obtain⟨W3,hW3⟩:∃W3,W3=w3:=⟨_,rfl⟩;subst hW3
     go_loopg [18,17] (len rs) (λ g i v wz=>∃m:Nat,g+m=len rs/\i=.int .i64 m/\v=.int .i64 (Xp rs m:Nat)/\wz=W3)
     case atStart=>exact⟨0,rfl,rfl,rfl,rfl⟩
     case round=>
      obtain⟨m,hm,rfl,rfl,rfl⟩:=hrel;have hr16:len rs<=16:=by have:=HRL.out;have:=HD16.out;omega
      by_cases hlt:m<len rs
      ·have b1:(m:Int)<len rs:=by omega
       have b2:¬len rs<=m:=by omega
       obtain⟨rb,ro,ra,rc,hra3,hrc,_,_⟩:=(Qf6 HL8.out) m hlt;subst hra3;have l1:=Ql hrc;have HN9:Hid (Xp rs (m+1)=Xp rs m+len (Jj rs m)):=QLh (Jw rs m hlt);have hub:Xp rs m+len (Jj rs m)<=1600:=by rw[<-Jw rs m hlt];have:=Qcc HNM.out (m+1) (by omega);omega
       obtain⟨u,hu⟩:∃u,Xp rs m=u:=⟨_,rfl⟩;obtain⟨q,hq⟩:∃q,len (Jj rs m)=q:=⟨_,rfl⟩;rw[hu,hq]at hub HN9;rw[hq]at hrc;rw[hu];clear hu hq;go_wp2
       go_roundg (len rs - (m+1))
       case rel=>exact⟨m+1,by omega,by go_num,by rw[HN9.out];go_num,rfl⟩
       case measure=>omega
      ·obtain rfl:m=len rs:=by omega
       have b1:¬((len rs:Nat):Int)<len rs:=by omega
       have hub:Xp rs (len rs)<=1600:=by have:=Qcc HNM.out (len rs) (Nat.le_refl _);omega
       obtain⟨N,hN⟩:∃N,Xp rs (len rs)=N:=⟨_,rfl⟩;have HNN:=QLh hN;rw[hN]at hub HNP ⊢;have HUB:=QLh hub;clear hN hub hm hr16
       by_cases hlt4:len ds<N
       ·have z1:((len ds:Nat):Int)<((N:Nat):Int):=by omega
        have HE:Hid (X4 (nn:Nat) ps es ds=4/\Yl (nn:Nat) ps es ds=⟨#[]⟩):=QLh (by
         have h9:X4 (nn:Nat) ps es ds=4:=by unfold X4;rw[if_neg (λ h=>h HARG.out),if_neg (by rw[HBADF.out];simp),HNP.out,if_pos hlt4]
         exact⟨h9,by unfold Yl;rw[h9];rfl⟩)
        clear hlt4;go_wp2
        go_ret2
        exact⟨by rw[HE.out.1,HE.out.2];rfl,HW3.out⟩
       ·have z1:¬((len ds:Nat):Int)<((N:Nat):Int):=by omega
        by_cases hlt3:N<len ds
        ·have z2:((N:Nat):Int)<((len ds:Nat):Int):=by omega
         have HE:Hid (X4 (nn:Nat) ps es ds=3/\Yl (nn:Nat) ps es ds=⟨#[]⟩):=QLh (by
          have h9:X4 (nn:Nat) ps es ds=3:=by unfold X4;rw[if_neg (λ h=>h HARG.out),if_neg (by rw[HBADF.out];simp),HNP.out,if_neg hlt4,if_pos hlt3]
          exact⟨h9,by unfold Yl;rw[h9];rfl⟩)
         clear hlt4 hlt3;go_wp2
         go_ret2
         exact⟨by rw[HE.out.1,HE.out.2];rfl,HW3.out⟩
        ·have z2:¬((N:Nat):Int)<((len ds:Nat):Int):=by omega
         have HEQ:Hid (len ds=N):=QLh (by omega);have HE:Hid (X4 (nn:Nat) ps es ds=0/\Yl (nn:Nat) ps es ds=Vv (Qfi (g0F lv es) rs ds) 0):=QLh (by
          have h9:X4 (nn:Nat) ps es ds=0:=by unfold X4;rw[if_neg (λ h=>h HARG.out),if_neg (by rw[HBADF.out];simp),HNP.out,if_neg hlt4,if_neg hlt3]
          exact⟨h9,by unfold Yl;rw[h9,if_pos rfl];exact HDP.out⟩)
         clear hlt4 hlt3;go_upto_region 28 with fail;clear z1 z2;have HF3:Hid (Qa2 KL=Qal (g0F lv es) rs ds 0):=HFZ;have hk100:len KL<=100+100 * 0:=by have:=HKLN.out;have:=HL100.out;omega
         clear HFZ HKLN
         go_loopg [19,13,3] (len rs) (λ g i v p wz=>∃(m:Nat) (KL:List Plc) (a':Option Addr) (c':Nat),g+m=len rs/\i=.int .i64 m/\p=.slice a' (len (ds.drop (Xp rs m))) c'/\len KL<=100+100 * m/\Hid (Qd9 w.heap.size v KL wz)/\Hid (Qa2 KL=Qal (g0F lv es) rs ds m)/\Hid (len (ds.drop (Xp rs m))<=c'/\∀w9,Jk w9 da ds->Jk w9 a' (ds.drop (Xp rs m)))/\Hid (Qb6 wz B2 (.slice a3 (len rs) cap3) rs)/\Hid (Below w.heap.size w wz))
         case atStart=>exact⟨0,KL,da,dc,rfl,rfl,rfl,hk100,HK3,HF3,QLh ⟨HDC.out,λ _ h9=>h9⟩,HL8,HW3⟩
         case round=>
          clear HF3 hk100 HK3 HL8 HW3;obtain⟨m,KL,a9,c9,hm,rfl,rfl,hkl,HK,HF,HTX,HL8,HW⟩:=hrel;have hr16:len rs<=16:=by have:=HRL.out;have:=HD16.out;omega
          have hrd:=HRL.out
          by_cases hlt:m<len rs
          ·have b1:(m:Int)<(d:Int):=by omega
           obtain⟨row,hrow⟩:∃row,Jj rs m=row:=⟨_,rfl⟩;have HROW:=QLh hrow;have HRLN:Hid (len row<=100):=QLh (by rw[<-hrow];exact HNM.out m);have HHM:=QLh hm;have HHL:=QLh hlt;have HKL9:=QLh hkl;obtain⟨u,hu⟩:∃u,Xp rs m=u:=⟨_,rfl⟩;have HUU:Hid (Xp rs m=u):=QLh hu;have HUT:Hid (u+len row<=len ds):=QLh (by
            have h1:=Jw rs m hlt;have h2:=QkN rs (m+1);rw[hrow,hu]at h1;rw[HEQ.out,<-HNN.out];omega)
           obtain⟨GT,hGT⟩:∃GT,Qal (g0F lv es) rs ds m=GT:=⟨_,rfl⟩;have HGT:=QLh hGT;have HFRR:Hid (∀q,q<len row->Vx GT (row.take q) (ds.drop u) (nth row q)=none):=QLh (λ q hq=>by
            rw[<-hGT,<-hrow,<-HRS.out];have hd2:m<d:=by omega
            refine QnQ lv d (g0F lv es) ds (ds.drop u) (λ k=>Qpl lv es k) m hd2 q ?_;rw[HRS.out,hrow];exact hq)
           rw[hGT]at HF;rw[hu]at HTX ⊢;have HF0:Hid (Qa2 KL=Vx GT (row.take 0) (ds.drop u)):=QLh (by rw[List.take_zero];exact HF.out);have hkl0:len KL<=100+100 * m+0:=hkl;obtain⟨GK,hGK⟩:∃G,G=gk:=⟨_,rfl⟩;subst hGK;clear hrow hu hGT HF hm hlt hr16 hrd;go_upto_region 31 with fail;clear b1
           go_loopg [20,13,3] (len row) (λ g j v p wz=>∃(q:Nat) (KL:List Plc) (a':Option Addr) (c':Nat),g+q=len row/\j=.int .i64 q/\p=.slice a' (len (ds.drop (u+q))) c'/\len KL<=100+100 * m+q/\Hid (Qd9 w.heap.size v KL wz)/\Hid (Qa2 KL=Vx GT (row.take q) (ds.drop u))/\Hid (len (ds.drop (u+q))<=c'/\∀w9,Jk w9 da ds->Jk w9 a' (ds.drop (u+q)))/\Hid (Qb6 wz B2 (.slice a3 (len rs) cap3) rs)/\Hid (Below w.heap.size w wz))
           case atStart=>exact⟨0,KL,a9,c9,rfl,rfl,rfl,hkl0,HK,HF0,HTX,HL8,HW⟩
           case round=>
            clear hkl hkl0 HK HF0 HTX HL8 HW HKL9;clear KL a9 c9;obtain⟨q,KL,a9,c9,hq,rfl,rfl,hkl,HK,HF,HTX,HL8,HW⟩:=hrel;have hr16:len rs<=16:=by have:=HRL.out;have:=HD16.out;omega
            have hlt:=HHL.out;have hr100:=HRLN.out;have bm:¬len rs<=m:=by omega
            have bmi:¬(len rs:Int)<=(m:Int):=by omega
            obtain⟨rb,ro,ra,rc,hra3,hrc,hru,_⟩:=(Qf6 HL8.out) m hlt;subst hra3;rw[HROW.out]at hrc hru;have l1:=Ql hrc
            by_cases hlq:q<len row
            ·have b1:(q:Int)<len row:=by omega
             have bq:¬len row<=q:=by omega
             have bqi:¬(len row:Int)<=(q:Int):=by omega
             obtain⟨ub,uo,hua,hk⟩:=hru q hlq;subst hua;obtain⟨t,ht⟩:∃t,nth row q=t:=⟨_,rfl⟩;have HFT:Hid (Qa2 KL t=none):=QLh (by rw[HF.out,<-ht];exact HFRR.out q hlq);rw[ht]at hk;have HTB:Hid (0<=t/\t<65536):=QLh (by
              have h1:t ∈ Jj rs m:=by rw[HROW.out,<-ht];exact Vk hlq
              rw[<-HRS.out,<-HLV.out]at h1;exact Qtw HD16.out (by rw[<-HRL.out];exact hlt) h1)
             have hut:=HUT.out;have hdl:len (ds.drop (u+q))=len ds - (u+q):=by rw[Qy,List.length_drop];rfl
             obtain⟨hc9,hta⟩:=HTX.out;obtain⟨xb,xo,hxa,hdc⟩:=hta _ (HDS.out.below HW.out) 0 (by omega);subst hxa;rw[Ud,Nat.add_zero,Nat.add_zero]at hdc;obtain⟨D,hD⟩:∃D,tth ds (u+q)=D:=⟨_,rfl⟩;rw[hD]at hdc;have HDD:Hid (D.size<=1000):=QLh (by
              have h1:=of_decide_eq_false HBADF.out;have h2:u+q<ds.length:=by have:len ds=ds.length:=rfl;omega
              apply Classical.byContradiction;intro h3;exact h1 ⟨ds[u+q],List.getElem_mem h2,λ h4=>h3 (by rw[<-hD,Y9 ds (u+q) h2,h4];omega)⟩)
             have HTN:Hid (Vx GT (row.take (q+1)) (ds.drop u)=QcF (Vx GT (row.take q) (ds.drop u)) t D):=QLh (by rw[Qa4 _ _ _ q hlq,ht,Ud,hD]);obtain⟨n9,hn9⟩:∃n9,len (ds.drop (u+q))=n9:=⟨_,rfl⟩;have HN9:Hid (0<n9/\n9<=c9/\len (ds.drop (u+(q+1)))=n9 - 1):=QLh (by rw[Qy,List.length_drop];have:len ds=ds.length:=rfl;omega);rw[hn9];have b9:¬n9<=0:=by omega
             have b9i:(0:Int)<(n9:Int):=by omega
             obtain⟨KV,hKV⟩:∃KV,u13=KV:=⟨_,rfl⟩;rw[hKV]at HK ⊢;clear hKV ht hD hdl hut hc9 hru;go_upto_region 33 with fail;refine Qp 13 1000 (none) (Kx [λ u _=>u=(KV),λ u _=>u=(.slice (some ⟨rb,ro,none⟩) (len rs) cap3),λ u _=>u=(.int .i64 (m:Nat)),λ u _=>u=(.pointer (some ⟨rb,ro+m,none⟩)),λ u _=>u=(.slice (some ⟨ub,uo,none⟩) (len row) rc),λ u _=>u=(.int .i64 (q:Nat)),λ u _=>u=(.pointer (some ⟨ub,uo+q,none⟩)),λ u _=>u=(.int .u64 t),λ u _=>u=(.slice (some ⟨xb,xo,none⟩) n9 c9),λ u _=>u=(.pointer (some ⟨xb,xo,none⟩)),λ u _=>u=(.string D),λ u _=>u=(.agg #[.int .u64 t,.string D]),λ uu w'=>∃c,uu=.slice (some ⟨c,0,none⟩) 1 1/\w'.heap[c]?=some (.cells #[.int .u64 t,.string D] 279 (0,0))]) rfl (by kernel_rfl) (by kernel_rfl) (Q9 ⟨Qd,Qd,Qd,Qd,Qd,Qd,Qd,Qd,Qd,Qd,Qd,Qd,?m12,trivial⟩) (Q6 13 ⟨?s0,?s1,?s2,?s3,?s4,?s5,?s6,?s7,?s8,?s9,?s10,?s11,?s12,trivial⟩) ?_
             case m12=>exact⟨λ uu w1 w2 h ⟨c,h1,h2⟩=>⟨c,h1,Zo h h2⟩,λ _ uu w1 w2 h ⟨c,h1,h2⟩=>⟨c,h1,Qw h (by simp) h2⟩⟩
             case s0=>refine qV (λ _=>rfl) rfl λ av wv hE hO hD=>?_;simp[go_sem,qF av 13 (KV) (hO.2.2 13 rfl),bm,bmi,bq,bqi,b9,b9i]
             case s1=>refine qV (λ _=>rfl) rfl λ av wv hE hO hD=>?_;simp[go_sem,qF av 16 (.slice (some ⟨rb,ro,none⟩) (len rs) cap3) (hO.2.2 16 rfl),bm,bmi,bq,bqi,b9,b9i]
             case s2=>refine qV (λ _=>rfl) rfl λ av wv hE hO hD=>?_;simp[go_sem,qF av 19 (.int .i64 (m:Nat)) (hO.2.2 19 rfl),bm,bmi,bq,bqi,b9,b9i]
             case s3=>refine qV (λ _=>rfl) rfl λ av wv hE hO hD=>?_;simp[go_sem,qE (hD.1 rfl _ rfl),qE (hD.2.1 rfl _ rfl),bm,bmi,bq,bqi,b9,b9i]
             case s4=>refine qV (λ _=>rfl) rfl λ av wv hE hO hD=>?_;simp[go_sem,qE (hD.1 rfl _ rfl),Qb hE (by simp) hrc,Qb hE (by simp) hk,Qb hE (by simp) hdc,bm,bmi,bq,bqi,b9,b9i]
             case s5=>refine qV (λ _=>rfl) rfl λ av wv hE hO hD=>?_;simp[go_sem,qF av 20 (.int .i64 (q:Nat)) (hO.2.2 20 rfl),bm,bmi,bq,bqi,b9,b9i]
             case s6=>refine qV (λ _=>rfl) rfl λ av wv hE hO hD=>?_;simp[go_sem,qE (hD.1 rfl _ rfl),qE (hD.2.1 rfl _ rfl),bm,bmi,bq,bqi,b9,b9i]
             case s7=>refine qV (λ _=>rfl) rfl λ av wv hE hO hD=>?_;simp[go_sem,qE (hD.1 rfl _ rfl),Qb hE (by simp) hrc,Qb hE (by simp) hk,Qb hE (by simp) hdc,bm,bmi,bq,bqi,b9,b9i]
             case s8=>refine qV (λ _=>rfl) rfl λ av wv hE hO hD=>?_;simp[go_sem,qF av 3 (.slice (some ⟨xb,xo,none⟩) n9 c9) (hO.2.2 3 rfl),bm,bmi,bq,bqi,b9,b9i]
             case s9=>refine qV (λ _=>rfl) rfl λ av wv hE hO hD=>?_;simp[go_sem,qE (hD.1 rfl _ rfl),bm,bmi,bq,bqi,b9,b9i]
             case s10=>refine qV (λ _=>rfl) rfl λ av wv hE hO hD=>?_;simp[go_sem,qE (hD.1 rfl _ rfl),Qb hE (by simp) hrc,Qb hE (by simp) hk,Qb hE (by simp) hdc,bm,bmi,bq,bqi,b9,b9i]
             case s11=>refine qV (λ _=>rfl) rfl λ av wv hE hO hD=>?_;simp[go_sem,qE (hD.1 rfl _ rfl),qE (hD.2.1 rfl _ rfl),bm,bmi,bq,bqi,b9,b9i]
             case s12=>refine Qu (λ av wv hE hS hO hD=>⟨rfl,?_⟩);have f125:=qE (hD.1 rfl _ rfl);exact Zn (v:=.slice (some ⟨wv.heap.size,0,none⟩) 1 1) (w':=wv.alloc (.cells #[.int .u64 t,.string D] 279)) (by simp[go_sem,f125]) ⟨_,rfl,Qo (Qf (Zj _) _),wv.heap.size,rfl,heap_alloc_new _ _⟩
             intro a' w' hE hO hall;have hA:=Qn (ds:=[114,115,116,117,118,119,120,121,122,123,124,125,126]) rfl hO (by kernel_rfl);obtain⟨j0,j1,j2,j3,j4,j5,j6,j7,j8,j9,j10,j11,j12,-⟩:=hall;have e126:(λ uu w'=>∃c,uu=.slice (some ⟨c,0,none⟩) 1 1/\w'.heap[c]?=some (.cells #[.int .u64 t,.string D] 279 (0,0))) (a'.eval (.tmp 126)) w':=j12 _ rfl;obtain⟨v126,hv126⟩:∃v,a'.eval (.tmp 126)=v:=⟨_,rfl⟩;rw[hv126]at e126;simp only[List.foldl_cons,List.foldl_nil,Act.put,List.setIfInBounds_toArray,List.set_cons_succ,List.set_cons_zero,qJ 114 (j0 _ rfl),qJ 115 (j1 _ rfl),qJ 116 (j2 _ rfl),qJ 117 (j3 _ rfl),qJ 118 (j4 _ rfl),qJ 119 (j5 _ rfl),qJ 120 (j6 _ rfl),qJ 121 (j7 _ rfl),qJ 122 (j8 _ rfl),qJ 123 (j9 _ rfl),qJ 124 (j10 _ rfl),qJ 125 (j11 _ rfl),hv126]at hA;clear hO j12 j0 j1 j2 j3 j4 j5 j6 j7 j8 j9 j10 j11 hv126;subst hA;have hX:=Q0 hE;have HK2:=QLh (HK.out.below hX);have HL82:=QLh (HL8.out.below hX);have HW2:Hid (Below w.heap.size w w'):=QLh (Qj HW.out hX);obtain⟨cb,rfl,hcb⟩:=e126;have HCB:=QLh hcb;clear hX hE hrc hk hdc bm bmi bq bqi b9 b9i l1 HK HL8 HW hcb;simp only[List.drop_succ_cons,List.drop_zero]
             go_upto_region 34 with(at_builtin;refine wpList_append_own _ rfl _ _ 277 rfl w.heap.size 279 j0 Plc.zero.val 2 24 Tryz.underlying277 hj HY0.out hy1 hy2 rfl (by decide) _ _ _ rfl HK2.out.own ⟨cb,0,none⟩ 1 1 [.int .u64 t,.string D] rfl rfl (World.news_of_block HCB.out) (by intro u hu9;simp at hu9;rcases hu9 with rfl | rfl <;> rfl) (by unfold maxLen;omega) (by omega) HW2.out.size ?_;intro v3 w6 hown3 hgrow3 _)
             have HK6:Hid (Qd9 w.heap.size v3 (KL++[⟨t,D⟩]) w6):=QLh (Qd9.snoc HK2.out.ok ⟨t,D⟩ hown3 ⟨HTB.out.1,HTB.out.2,HDD.out⟩);have HW6:Hid (Below w.heap.size w w6):=QLh (Qq HW2.out hgrow3 (λ k hk'=>(HK2.out.own.lt k hk').1));have HL86:Hid (Qb6 w6 B2 (.slice (some ⟨rb,ro,none⟩) (len rs) cap3) rs):=QLh (Qmb HL82.out HK2.out.own hgrow3);have HF6:Hid (Qa2 (KL++[⟨t,D⟩])=Vx GT (row.take (q+1)) (ds.drop u)):=QLh (by
              rw[QbQ KL ⟨t,D⟩ HFT.out,HTN.out,HF.out])
             have HN6:Hid (len (KL++[(⟨t,D⟩:Plc)])=len KL+1):=QLh (Qa5 _ _);clear hown3 hgrow3 HK2 HL82 HW2 HCB;have z1:¬n9<=0:=by have:=HN9.out;omega
             have z2:(0:Int)<(n9:Int):=by have:=HN9.out;omega
             have z3:n9<=c9:=HN9.out.2.1;have z4:¬n9<1:=by omega
             go_wp2_with fail
             ·skip
              go_roundg (len row - (q+1))
              case rel=>exact⟨q+1,_,some ⟨xb,xo,none⟩,0,by omega,by go_num,by rw[HN9.out.2.2],by rw[HN6.out];omega,HK6,HF6,QLh ⟨by rw[HN9.out.2.2];omega,λ w9 h9=>by
               rw[show ds.drop (u+(q+1))=[]from List.eq_nil_of_length_eq_zero (by have h8:=HN9.out.2.2;rw[Qy]at h8;omega)];exact Jk.nil _ _⟩,HL86,HW6⟩
              case measure=>omega
             ·skip
              go_roundg (len row - (q+1))
              case rel=>exact⟨q+1,_,some ⟨xb,xo+1,none⟩,c9 - 1,by omega,by go_num,by rw[HN9.out.2.2],by rw[HN6.out];omega,HK6,HF6,QLh ⟨by rw[HN9.out.2.2];omega,λ w9 h9=>by
               have h8:=QfY (hta w9 h9);rw[List.drop_drop]at h8;exact h8⟩,HL86,HW6⟩
              case measure=>omega
            ·obtain rfl:q=len row:=by omega
             have b1:¬((len row:Nat):Int)<len row:=by omega
             have hm:=HHM.out;have HF6:Hid (Qa2 KL=Vx GT row (ds.drop u)):=QLh (by have h9:=HF.out;rw[Xh]at h9;exact h9);have HRT:Hid (Qal (g0F lv es) rs ds (m+1)=Kq (Vx GT row (ds.drop u))):=QLh (by rw[Qbg _ _ _ m hlt,HGT.out,HROW.out,HUU.out]);have HUN:Hid (Xp rs (m+1)=u+len row):=QLh (by rw[Jw rs m hlt,HUU.out,HROW.out]);obtain⟨H9,hH9⟩:∃H9,Vx GT row (ds.drop u)=H9:=⟨_,rfl⟩;rw[hH9]at HF6 HRT;obtain⟨Z,hZ⟩:∃Z,Z=wr:=⟨_,rfl⟩;subst hZ;obtain⟨B3,hB3⟩:∃B3,Z.heap.size=B3:=⟨_,rfl⟩;have HB3:Hid (w.heap.size<=B3):=QLh (by rw[<-hB3];exact HW.out.size);have HKV:=HK.out.plcs;obtain⟨ka,kc,hkv,hkp⟩:=HKV;subst hkv;have HKP:=QLh hkp;have hklb:len KL<=1800:=by have:=HRLN.out;omega
             have HKB:=QLh hklb;have HKQ:=QLh hkl;clear hH9 hkp hkl HF;go_upto_region 37 with fail;clear b1 hrc l1 bm bmi
             go_loopg [22,21] (len KL) (λ g i v wz=>∃(j:Nat) (OL:List Plc),g+j=len KL/\i=.int .i64 j/\len OL<=j/\Hid (Qd9 B3 v OL wz)/\Hid (Qa2 OL=Qf7 (Kq H9) ((KL.take j).map (λ x=>x.K / 2)))/\Hid (Below Z.heap.size Z wz))
             case atStart=>exact⟨0,[],rfl,rfl,Nat.le_refl _,QLh (Qd9.nil _ _),QLh (by rw[List.take_zero,List.map_nil,Qgu];rfl),QLh (Below.refl _ _)⟩
             case round=>
              obtain⟨j,OL,hj9,rfl,hol,HKO,HFO,HWO⟩:=hrel;have hkb:=HKB.out
              by_cases hlj:j<len KL
              ·have b1:(j:Int)<len KL:=by omega
               have bj:¬len KL<=j:=by omega
               obtain⟨kb,ko,hka,hcs⟩:=(HKP.out.below HWO.out) j hlj;subst hka;have c0:=hcs.c0;have l1:=Ql c0;obtain⟨x,hx⟩:∃x,Qom KL j=x:=⟨_,rfl⟩;rw[hx]at c0;have hxo:=HK.out.ok x (by rw[<-hx,Qgr KL j hlj];exact List.getElem_mem _);obtain⟨kn,hkn⟩:∃kn:Nat,x.K=(kn:Nat):=⟨x.K.toNat,by omega⟩;rw[hkn]at c0;have HX:=QLh hx;clear hcs hx;go_upto_region 40 with fail;obtain⟨pn,hpn⟩:∃pn:Nat,kn / 2=pn:=⟨_,rfl⟩;rw[show((kn:Nat):Int) / 2=((pn:Nat):Int)by omega];obtain⟨oa,oc,hov,hop⟩:=HKO.out.plcs;subst hov;have HOP:=QLh hop;have HPN:Hid (x.K=((kn:Nat):Int)/\kn / 2=pn/\kn<65536):=QLh (by omega);have HXM:Hid (x ∈ KL):=QLh (by rw[<-HX.out,Qgr KL j hlj];exact List.getElem_mem _);have HTK:Hid ((KL.take (j+1)).map (λ x=>x.K / 2)=(KL.take j).map (λ x=>x.K / 2)++[((pn:Nat):Int)]):=QLh (by
                have hj2:j<KL.length:=hlj;rw[List.take_succ_eq_append_getElem hj2,List.map_append,<-Qgr KL j hj2,HX.out];show _++[x.K / 2]=_;rw[hkn,show((kn:Nat):Int) / 2=((pn:Nat):Int)by omega])
               have HPR:Hid (Qhh H9 ((pn:Nat):Int)):=QLh (by
                have h1:=QmU KL x HXM.out;rw[HF6.out,hkn]at h1;unfold Qhh
                by_cases e:kn % 2=0
                ·left;rw[show 2 * ((pn:Nat):Int)=((kn:Nat):Int)by omega];exact h1
                ·right;rw[show 2 * ((pn:Nat):Int)+1=((kn:Nat):Int)by omega];exact h1)
               have hol2:len OL<=1800:=by omega
               have HOL2:=QLh hol2;have HFA:=QLh (QdL OL ((pn:Nat):Int) oa oc wr HOP.out (by omega));obtain⟨R,hR⟩:∃R,Vv (Qa2 OL) ((pn:Nat):Int)=R:=⟨_,rfl⟩;rw[hR]at HFA;clear hop hpn hkn hxo c0 l1 bj
               by_cases hin:((pn:Nat):Int) ∈ (KL.take j).map (λ x=>x.K / 2)
               ·have e1:R.toList.isEmpty=false:=QpR (by
                 rw[<-hR];unfold Vv;rw[HFO.out,QcQ hin,QaA HPR.out];show(Xi QaB _).size≠0;rw[Kl];decide)
                have HF7:Hid (Qa2 OL=Qf7 (Kq H9) ((KL.take (j+1)).map (λ x=>x.K / 2))):=QLh (by
                 rw[HTK.out,HFO.out]
                 funext k
                 by_cases e:k ∈ (KL.take j).map (λ x=>x.K / 2)
                 ·rw[QcQ e,QcQ (List.mem_append_left _ e)]
                 ·rw[Qcm e,Qcm (λ h9=>by
                   rcases List.mem_append.1 h9 with h8 | h8
                   ·exact e h8
                   ·rw[List.mem_singleton]at h8;rw[h8]at e;exact e hin)])
                clear hR hin;go_wp2_with fail;refine HFA.out.mono ?_;rintro e w2 ⟨rfl,hb2⟩;have HKO7:=QLh (HKO.out.below hb2);have HWO7:Hid (Below Z.heap.size Z w2):=QLh (Qj HWO.out hb2);clear hb2;go_wp2
                go_roundg (len KL - (j+1))
                case rel=>exact⟨j+1,OL,by omega,by go_num,by omega,HKO7,HF7,HWO7⟩
                case measure=>omega
               ·have HON:Hid (Qa2 OL ((pn:Nat):Int)=none):=QLh (by rw[HFO.out,Qcm hin])
                have e1:R.toList.isEmpty=true:=by rw[<-hR];unfold Vv;rw[HON.out];show ByteArray.empty.toList.isEmpty=true;rw[ByteArray.toList_eq];rfl
                obtain⟨p0,hp0⟩:∃p0:Nat,2 * pn=p0:=⟨_,rfl⟩;obtain⟨p1,hp1⟩:∃p1:Nat,2 * pn+1=p1:=⟨_,rfl⟩;have hpb:=HPN.out;have f1:IntKind.u64.wrap (2 * ((pn:Nat):Int))=((p0:Nat):Int):=by rw[IntWalk.u64_in _ (by omega)];omega
                have f2:IntKind.u64.wrap (((p0:Nat):Int)+1)=((p1:Nat):Int):=by rw[IntWalk.u64_in _ (by omega)];omega
                obtain⟨X0,hX0⟩:∃X0,Vv H9 (2 * ((pn:Nat):Int))=X0:=⟨_,rfl⟩;obtain⟨X1,hX1⟩:∃X1,Vv H9 (2 * ((pn:Nat):Int)+1)=X1:=⟨_,rfl⟩;have HK0:Hid (Vv (Qa2 KL) ((p0:Nat):Int)=X0):=QLh (by rw[HF6.out,<-hX0,<-hp0];rfl);have HK1:Hid (Vv (Qa2 KL) ((p1:Nat):Int)=X1):=QLh (by rw[HF6.out,<-hX1,<-hp1];rfl);have HXZ:Hid (X0.size<=1000000/\X1.size<=1000000):=QLh ⟨by rw[<-HK0.out];exact Qkq HK.out.ok _,by rw[<-HK1.out];exact Qkq HK.out.ok _⟩;obtain⟨D,hD⟩:∃D,Xi QaB [X0,X1]=D:=⟨_,rfl⟩;have HOV:Hid (Kq H9 ((pn:Nat):Int)=some D):=QLh (by rw[QaA HPR.out,hX0,hX1,hD]);have HDZ:Hid (D.size<=1000):=QLh (by rw[<-hD,Kl];omega);have HHD:=QLh hD;have HPB:Hid (0<=((pn:Nat):Int)/\((pn:Nat):Int)<65536):=QLh (by omega);clear hR hin hp0 hp1 hX0 hX1 hD hpb;go_wp2_with fail;refine HFA.out.mono ?_;rintro e w2 ⟨rfl,hb2⟩;have HKO7:=QLh (HKO.out.below hb2);have HWO7:Hid (Below Z.heap.size Z w2):=QLh (Qj HWO.out hb2);clear hb2 HFA;go_wp2_with fail;refine(QdL KL ((p0:Nat):Int) (some ⟨kb,ko,none⟩) kc w2 (HKP.out.below HWO7.out) (by omega)).mono ?_;rintro e w3 ⟨rfl,hb3⟩;rw[HK0.out];have HKO8:=QLh (HKO7.out.below hb3);have HWO8:Hid (Below Z.heap.size Z w3):=QLh (Qj HWO7.out hb3);clear hb3 HKO7 HWO7;go_wp2_with fail;refine(QdL KL ((p1:Nat):Int) (some ⟨kb,ko,none⟩) kc w3 (HKP.out.below HWO8.out) (by omega)).mono ?_;rintro e w4 ⟨rfl,hb4⟩;rw[HK1.out];have HKO9:=QLh (HKO8.out.below hb4);have HWO9:Hid (Below Z.heap.size Z w4):=QLh (Qj HWO8.out hb4);clear hb4 HKO8 HWO8 f1 f2;go_wp2_with fail;refine(Qgb QaB X0 X1 w4 (by decide) (by decide) HXZ.out.1 HXZ.out.2).mono ?_;rintro e w5 ⟨rfl,hb5⟩;rw[HHD.out];have HKOA:=QLh (HKO9.out.below hb5);have HWOA:Hid (Below Z.heap.size Z w5):=QLh (Qj HWO9.out hb5);have hbs:B3<=w5.heap.size:=by rw[<-hB3];exact HWOA.out.size
                have HBS:=QLh hbs;clear hb5 HKO9 HWO9 hbs
                go_wp2_with (at_builtin;refine wpList_append_own _ rfl _ _ 277 rfl B3 279 j0 Plc.zero.val 2 24 Tryz.underlying277 hj HY0.out hy1 hy2 rfl (by decide) _ _ _ rfl (HKOA.out.own.alloc _) ⟨w5.heap.size,0,none⟩ 1 1 [.int .u64 ((pn:Nat):Int),.string D] rfl rfl (World.news_of_block (heap_alloc_new _ _)) (by intro u hu9;simp at hu9;rcases hu9 with rfl | rfl <;> rfl) (by unfold maxLen;omega) (by omega) (by have:=HBS.out;simp;omega) ?_;intro v3 w6 hown3 hgrow3 _)
                have HKOB:Hid (Qd9 B3 v3 (OL++[⟨((pn:Nat):Int),D⟩]) w6):=QLh (Qd9.snoc HKOA.out.ok ⟨((pn:Nat):Int),D⟩ hown3 ⟨HPB.out.1,HPB.out.2,HDZ.out⟩);have HWOB:Hid (Below Z.heap.size Z w6):=QLh (Qq (Qf HWOA.out _) hgrow3 (λ k hk'=>by have:=(HKOA.out.own.lt k hk').1;rw[hB3];exact this));have HFOB:Hid (Qa2 (OL++[⟨((pn:Nat):Int),D⟩])=Qf7 (Kq H9) ((KL.take (j+1)).map (λ x=>x.K / 2))):=QLh (by
                 rw[QbQ OL ⟨((pn:Nat):Int),D⟩ HON.out,HTK.out,Qe4 _ HOV.out,HFO.out])
                have HNOB:Hid (len (OL++[(⟨((pn:Nat):Int),D⟩:Plc)])=len OL+1):=QLh (Qa5 _ _);clear hown3 hgrow3 HKOA HWOA;go_wp2
                go_roundg (len KL - (j+1))
                case rel=>exact⟨j+1,_,by omega,by go_num,by rw[HNOB.out];omega,HKOB,HFOB,HWOB⟩
                case measure=>omega
              ·obtain rfl:j=len KL:=by omega
               have b1:¬((len KL:Nat):Int)<len KL:=by omega
               have HFZ:Hid (Qa2 OL=Qal (g0F lv es) rs ds (m+1)):=QLh (by
                rw[HRT.out,HFO.out,QpX];apply Qgg;intro k hk;have hk2:=(Qdb H9 k).1 hk;rw[<-HF6.out]at hk2
                rcases hk2 with h1 | h1
                ·obtain⟨x,hx,e⟩:=QiR KL _ h1
                 exact List.mem_map.2 ⟨x,hx,by rw[e];omega⟩
                ·obtain⟨x,hx,e⟩:=QiR KL _ h1
                 exact List.mem_map.2 ⟨x,hx,by rw[e];omega⟩)
               have HKZ:Hid (Qd9 w.heap.size u21 OL wr):=QLh ⟨Qc1 HKO.out.own HB3.out,HKO.out.ok⟩;have HL8Z:Hid (Qb6 wr B2 (.slice (some ⟨rb,ro,none⟩) (len rs) cap3) rs):=QLh (HL8.out.below HWO.out);have HWZ:Hid (Below w.heap.size w wr):=QLh (Qj HW.out HWO.out);have hkq:=HKQ.out;have hrl9:=HRLN.out;go_wp2
               go_roundg (len rs - (m+1))
               case rel=>exact⟨m+1,OL,a9,c9,by omega,by go_num,by rw[HUN.out],by omega,HKZ,HFZ,QLh (by rw[HUN.out];exact HTX.out),HL8Z,HWZ⟩
               case measure=>omega
          ·obtain rfl:m=len rs:=by omega
           have b1:¬((len rs:Nat):Int)<(d:Int):=by omega
           obtain⟨ka,kc,hkv,hkp⟩:=HK.out.plcs;subst hkv;have HFD:=QLh (QdL KL 0 ka kc wr hkp (by omega));have HFE:Hid (Vv (Qa2 KL) 0=Yl (nn:Nat) ps es ds):=QLh (by
            rw[HE.out.2,HF.out];unfold Qal;rw[Xh])
           rw[HFE.out]at HFD;clear hkp hkl;go_wp2_with fail;refine HFD.out.mono ?_;rintro e w2 ⟨rfl,hb2⟩;have HW2:Hid (Below w.heap.size w w2):=QLh (Qj HW.out hb2);clear hb2;go_wp2
           go_ret2
           exact⟨by rw[HE.out.1];rfl,HW2.out⟩
end
structure Qqq(ps:List Int)(es ds:List ByteArray)(pa ea da:Option Addr)(dc:Nat)(w:World):Prop where
 p:QaO w pa ps
 e:Jk w ea es
 d:Jk w da ds
 pl:len ps<=12
 pu:∀k ∈ ps,U64 k
 el:len es<=1000000
 dl:len ds<=1000000
 dc_:len ds<=dc
 ez:∀i,i<len es->(tth es i).size<=1000000
theorem Qqq.below{ps:List Int}{es ds:List ByteArray}{pa ea da:Option Addr}{dc:Nat}{w w':World}(h:Qqq ps es ds pa ea da dc w)(hb:Below w.heap.size w w'):Qqq ps es ds pa ea da dc w':=
 ⟨h.p.below hb,h.e.below hb,h.d.below hb,h.pl,h.pu,h.el,h.dl,h.dc_,h.ez⟩
theorem Qo7(n:Int)(ps:List Int)(es ds:List ByteArray)(pa ea da:Option Addr)(pc ec dc:Nat)(w:World)(h:Qqq ps es ds pa ea da dc w)(h0:-9223372036854775808<=n)(h1:n<=9223372036854775807):
  Calls Tryz.prog 102 #[.int .i64 n,.slice pa (len ps) pc,.slice ea (len es) ec,.slice da (len ds) dc] w (Qeu n ps es ds w):=by
 by_cases hb:QdG n ps es
 ·cases hbad:Qmq ds with
  | true=>exact QlA n ps es ds pa ea da pc ec dc w h.p h.d (Nat.le_trans h.pl (by decide)) h.dl h0 h1 hb hbad
  | false=>
   obtain⟨nn,rfl⟩:=Int.eq_ofNat_of_zero_le hb.1.1;exact QlP nn ps es ds pa ea da pc ec dc w h.p h.e h.d h.pl h.pu h.dl h.dc_ h.ez hb hbad
 ·exact QnD n ps es ds pa ea da pc ec dc w h.p (Nat.le_trans h.pl (by decide)) h0 h1 hb h.el
theorem QmB(n:Int)(ps:List Int)(es ds:List ByteArray)(pa ea da:Option Addr)(pc ec dc:Nat)(w:World)(h:Qqq ps es ds pa ea da dc w)(h0:-9223372036854775808<=n)(h1:n<=9223372036854775807):
  Calls Tryz.prog 180 #[.int .i64 n,.slice pa (len ps) pc,.slice ea (len es) ec,.slice da (len ds) dc] w (Qeu n ps es ds w):=by
 by_cases hb:QdG n ps es
 ·obtain⟨nn,rfl⟩:=Int.eq_ofNat_of_zero_le hb.1.1
  exact QkX nn ps es ds pa ea da pc ec dc w h.p h.e h.d (Nat.le_trans h.pl (by decide)) h.pu h.dl h.dc_ h.ez hb
 ·exact Qoy n ps es ds pa ea da pc ec dc w h.p (Nat.le_trans h.pl (by decide)) h0 h1 hb h.el
def Ja(r:ByteArray)(n:Int)(ps:List Int)(es ds:List ByteArray):Int:=if X4 n ps es ds=0/\Yl n ps es ds≠r then 20 else X4 n ps es ds
theorem QlD(r:ByteArray)(n:Int)(ps:List Int)(es ds:List ByteArray)(pa ea da:Option Addr)(pc ec dc:Nat)(w:World)(h:Qqq ps es ds pa ea da dc w)(h0:-9223372036854775808<=n)(h1:n<=9223372036854775807):
  Calls Tryz.prog 47 #[.string r,.int .i64 n,.slice pa (len ps) pc,.slice ea (len es) ec,.slice da (len ds) dc] w λ e w'=>e=.returned (.int .i64 (Ja r n ps es ds))/\Below w.heap.size w w':=by
 have HR:=QLh (Qo7 n ps es ds pa ea da pc ec dc w h h0 h1);clear h h0 h1
 go_enter Tryz.func47,Tryz.ntmps47
 go_wp2_with fail;refine HR.out.mono ?_;rintro e w1 ⟨rfl,hb1⟩;have HB1:=QLh hb1;have HCE:Hid (Ja r n ps es ds=if X4 n ps es ds=0/\Yl n ps es ds≠r then 20 else X4 n ps es ds):=QLh rfl;obtain⟨E,hE⟩:∃E,X4 n ps es ds=E:=⟨_,rfl⟩;obtain⟨D,hD⟩:∃D,Yl n ps es ds=D:=⟨_,rfl⟩;rw[hE,hD]at HCE ⊢;clear hb1 hE hD
 by_cases he:E=0
 ·subst he
  by_cases hd:D=r
  ·have e1:(D.toList == r.toList)=true:=by rw[Yq];exact decide_eq_true hd
   have HC2:Hid (Ja r n ps es ds=0):=QLh (by rw[HCE.out,if_neg (λ h=>h.2 hd)]);clear hd;go_wp2;go_ret;exact⟨by rw[HC2.out];rfl,HB1.out⟩
  ·have e1:(D.toList == r.toList)=false:=by rw[Yq];exact decide_eq_false hd
   have HC2:Hid (Ja r n ps es ds=20):=QLh (by rw[HCE.out,if_pos ⟨rfl,hd⟩]);clear hd;go_wp2;go_ret;exact⟨by rw[HC2.out];rfl,HB1.out⟩
 ·have e1:(E == 0)=false:=by simpa using he
  have HC2:Hid (Ja r n ps es ds=E):=QLh (by rw[HCE.out,if_neg (λ h=>he h.1)]);go_wp2;go_ret;exact⟨by rw[HC2.out];rfl,HB1.out⟩
theorem QlO(r:ByteArray)(n:Int)(ps:List Int)(es ds:List ByteArray)(pa ea da:Option Addr)(pc ec dc:Nat)(w:World)(h:Qqq ps es ds pa ea da dc w)(h0:-9223372036854775808<=n)(h1:n<=9223372036854775807):
  Calls Tryz.prog 117 #[.string r,.int .i64 n,.slice pa (len ps) pc,.slice ea (len es) ec,.slice da (len ds) dc] w λ e w'=>e=.returned (.int .i64 (Ja r n ps es ds))/\Below w.heap.size w w':=by
 have HR:=QLh (QmB n ps es ds pa ea da pc ec dc w h h0 h1);clear h h0 h1
 go_enter Tryz.func117,Tryz.ntmps117
 go_wp2_with fail;refine HR.out.mono ?_;rintro e w1 ⟨rfl,hb1⟩;have HB1:=QLh hb1;have HCE:Hid (Ja r n ps es ds=if X4 n ps es ds=0/\Yl n ps es ds≠r then 20 else X4 n ps es ds):=QLh rfl;obtain⟨E,hE⟩:∃E,X4 n ps es ds=E:=⟨_,rfl⟩;obtain⟨D,hD⟩:∃D,Yl n ps es ds=D:=⟨_,rfl⟩;rw[hE,hD]at HCE ⊢;clear hb1 hE hD
 by_cases he:E=0
 ·subst he
  by_cases hd:D=r
  ·have e1:(D.toList == r.toList)=true:=by rw[Yq];exact decide_eq_true hd
   have HC2:Hid (Ja r n ps es ds=0):=QLh (by rw[HCE.out,if_neg (λ h=>h.2 hd)]);clear hd;go_wp2;go_ret;exact⟨by rw[HC2.out];rfl,HB1.out⟩
  ·have e1:(D.toList == r.toList)=false:=by rw[Yq];exact decide_eq_false hd
   have HC2:Hid (Ja r n ps es ds=20):=QLh (by rw[HCE.out,if_pos ⟨rfl,hd⟩]);clear hd;go_wp2;go_ret;exact⟨by rw[HC2.out];rfl,HB1.out⟩
 ·have e1:(E == 0)=false:=by simpa using he
  have HC2:Hid (Ja r n ps es ds=E):=QLh (by rw[HCE.out,if_neg (λ h=>he h.1)]);go_wp2;go_ret;exact⟨by rw[HC2.out];rfl,HB1.out⟩
def QaU(l:List ByteArray):ByteArray:=plD l (Qa1 l) (Qa1 l) 0
theorem QcL(l:List ByteArray):(QaU l).size=32:=Qaa _ _ _ _
theorem Qjo{n k:Nat}(hk:k<n):Qa0 (n:Nat) [((k:Nat):Int)]:=⟨(by decide:0<1),λ i hi=>by
 have hi:i<1:=hi;obtain rfl:i=0:=by omega
 exact⟨by show((k:Nat):Int)<n;omega,λ h=>by omega⟩⟩
theorem Qj4{n k:Nat}(hn:n<=65536)(hk:k<n):∀x ∈ [((k:Nat):Int)],U64 x:=λ x hx=>by obtain rfl:=List.mem_singleton.1 hx;exact⟨by omega,by omega⟩
def Qdn(els:List ByteArray)(k:Nat):List ByteArray:=Vf els (Qf8 (len els:Nat) [((k:Nat):Int)])
theorem QkF{els:List ByteArray}{k:Nat}(hn:len els<=65536):len (Qdn els k)=Qa1 els:=by unfold Qdn;rw[Qsy,Qs2 (d:=Qa1 els) (Yw hn) (QaG hn)]
theorem Qnr(els:List ByteArray)(k:Nat):∀d ∈ Qdn els k,d.size=32:=λ d hd=>by unfold Qdn Vf at hd;obtain⟨x,_,rfl⟩:=List.mem_map.1 hd;exact Qaa _ _ _ _
theorem Qp5{els:List ByteArray}{k:Nat}(hn:len els<=65536)(hk:k<len els):X4 (len els:Nat) [((k:Nat):Int)] [tth els k] (Qdn els k)=0/\Yl (len els:Nat) [((k:Nat):Int)] [tth els k] (Qdn els k)=QaU els:=
 QoT hn (Qj4 hn hk) (Qjo hk) (Qlw.refl _ _) rfl (λ m hm=>by
  have hm:m<1:=hm;obtain rfl:m=0:=by omega
  rfl)
theorem QhN{els:List ByteArray}{k:Nat}(hn:len els<=65536)(hk:k<len els):Ja (QaU els) (len els:Nat) [((k:Nat):Int)] [tth els k] (Qdn els k)=0:=by have h:=Qp5 hn hk;unfold Ja;rw[h.1,h.2,if_neg (λ h=>h.2 rfl)]
theorem Qpt{w:World}{base n c:Nat}{a:Option Addr}{xs:List Value}{m:Nat}(h:w.ownsRow base 9 1 (.slice a m c) n xs):m<=c/\(a=none->c=0):=by
 rcases h.2 with⟨e,_⟩ | ⟨g,cap,cur,e,_,_,h3,_⟩
 ·injection e with e1 e2 e3;exact⟨by omega,λ _=>e3⟩
 ·injection e with e1 e2 e3;exact⟨by omega,λ e9=>by rw[e9]at e1;cases e1⟩
def Zk(L:List ByteArray)(v:Value)(w:World):Prop:=∃a c,v=.slice a (len L) c/\Jk w a L/\len L<=c/\(a=none->c=0)
theorem Zk.below{L:List ByteArray}{v:Value}{w w':World}(h:Zk L v w)(hb:Below w.heap.size w w'):Zk L v w':=by obtain⟨a,c,h1,h2,h3,h4⟩:=h;exact⟨a,c,h1,h2.below hb,h3,h4⟩
theorem Zk.nil(w:World):Zk [] (.slice none 0 0) w:=⟨none,0,rfl,Jk.nil _ _,Nat.le_refl _,λ _=>rfl⟩
theorem Zk.own{w:World}{base n:Nat}{v:Value}{L:List ByteArray}(h:w.ownsRow base 9 1 v n (L.map Value.string)):Zk L v w:=by obtain⟨a,c,rfl,ht⟩:=QqI h;obtain⟨h1,h2⟩:=Qpt h;exact⟨a,c,rfl,ht,h1,h2⟩
structure Hdr where
 rnd:Int
 prev:ByteArray
 txns:ByteArray
 seed:ByteArray
abbrev Hdr.val(r:Hdr):Value:=.agg #[.int .u64 r.rnd,.string r.prev,.string r.txns,.string r.seed]
def Hdr.cells(r:Hdr):List Value:=[.int .u64 r.rnd,.string r.prev,.string r.txns,.string r.seed]
theorem Hdr.cells_len(r:Hdr):r.cells.length=4:=rfl
theorem Hdr.cells_one(r:Hdr):∀u ∈ r.cells,u.oneCell'=true:=by intro u hu;simp only[Hdr.cells,List.mem_cons,List.not_mem_nil,or_false]at hu;rcases hu with rfl | rfl | rfl | rfl <;> rfl
def Hdr.zero:Hdr:=⟨0,ByteArray.empty,ByteArray.empty,ByteArray.empty⟩
def Xw(l:List Hdr)(i:Nat):Hdr:=l.getD i Hdr.zero
theorem J8(l:List Hdr)(i:Nat)(h:i<l.length):Xw l i=l[i]:=by unfold Xw;rw[List.getD_eq_getElem?_getD,List.getElem?_eq_getElem h];rfl
structure Qqm(w:World)(b o:Nat)(r:Hdr):Prop where
 c0:w.cell? ⟨b,o,none⟩=some (.int .u64 r.rnd)
 c1:w.cell? ⟨b,o+1,none⟩=some (.string r.prev)
 c2:w.cell? ⟨b,o+2,none⟩=some (.string r.txns)
 c3:w.cell? ⟨b,o+3,none⟩=some (.string r.seed)
theorem Qqm.below{w w':World}{b o:Nat}{r:Hdr}(h:Qqm w b o r)(hb:Below w.heap.size w w'):Qqm w' b o r:=by
 have hl:=Ql h.c0;have e:∀q,w'.cell? ⟨b,q,none⟩=w.cell? ⟨b,q,none⟩:=λ q=>hb.cell (p:=⟨b,q,none⟩) hl;obtain⟨c0,c1,c2,c3⟩:=h
 constructor <;> (rw[e];assumption)
def Qdm(w:World)(a:Option Addr)(l:List Hdr):Prop:=∀i,i<len l->∃b off,a=some ⟨b,off,none⟩/\Qqm w b (off+i * 4) (Xw l i)
theorem Qdm.nil(w:World)(a:Option Addr):Qdm w a []:=λ i hi=>absurd hi (by simp[len])
theorem Qdm.below{w w':World}{a:Option Addr}{l:List Hdr}(h:Qdm w a l)(hb:Below w.heap.size w w'):Qdm w' a l:=λ i hi=>by obtain⟨b,off,rfl,hc⟩:=h i hi;exact⟨b,off,rfl,hc.below hb⟩
theorem Qdm.take{w:World}{a:Option Addr}{l:List Hdr}(h:Qdm w a l)(k:Nat):Qdm w a (l.take k):=λ i hi=>by
 have hi2:i<l.length/\i<k:=by simp only[len,List.length_take]at hi;omega
 have hi3:i<(l.take k).length:=hi;have e:Xw (l.take k) i=Xw l i:=by rw[J8 l i hi2.1,J8 _ i hi3,List.getElem_take]
 rw[e];exact h i hi2.1
theorem Qdm.drop{w:World}{b off:Nat}{l:List Hdr}(h:Qdm w (some ⟨b,off,none⟩) l)(k:Nat):Qdm w (some ⟨b,off+k * 4,none⟩) (l.drop k):=λ i hi=>by
 have hi2:k+i<l.length:=by simp only[len,List.length_drop]at hi;omega
 have hi3:i<(l.drop k).length:=hi;have e:Xw (l.drop k) i=Xw l (k+i):=by rw[J8 l _ hi2,J8 _ i hi3,List.getElem_drop]
 obtain⟨b',off',e2,hc⟩:=h (k+i) hi2
 cases e2
 exact⟨b,_,rfl,by rw[e,show off+k * 4+i * 4=off+(k+i) * 4 by omega];exact hc⟩
theorem Qdm.own{w:World}{base e n:Nat}{v:Value}{l:List Hdr}(h:w.ownsRow base e 4 v n (l.flatMap Hdr.cells)):∃a cap,v=.slice a (len l) cap/\Qdm w a l/\len l<=cap:=by
 have hn:len l=n:=by have:=h.1;rw[Yr Hdr.cells 4 Hdr.cells_len]at this;rw[Qy];omega
 obtain⟨h1,h2⟩:=h
 rcases h2 with⟨rfl,h2⟩ | ⟨g,cap,cur,rfl,hg,hh,hc1,hc2,hc3,hc4⟩
 ·obtain rfl:l=[]:=List.eq_nil_of_length_eq_zero (by rw[<-Qy];omega)
  exact⟨none,0,rfl,Qdm.nil _ _,Nat.le_refl _⟩
 ·refine⟨some ⟨g,0,none⟩,cap,by rw[hn],λ i hi=>⟨g,0,rfl,?_⟩,by omega⟩
  have hown:w.ownsRow base e 4 (.slice (some ⟨g,0,none⟩) n cap) n (l.flatMap Hdr.cells):=⟨h1,.inr ⟨g,cap,cur,rfl,hg,hh,hc1,hc2,hc3,hc4⟩⟩;have key:∀r,r<4->w.cell? ⟨g,0+i * 4+r,none⟩=(Xw l i).cells[r]?:=λ r hr=>by have:=hown.cellAt (i * 4+r) (by rw[<-hn];omega);rw[Nat.zero_add,this,V9 Hdr.cells 4 Hdr.cells_len l i r hi hr,J8 l i hi]
  exact⟨key 0 (by decide),key 1 (by decide),key 2 (by decide),key 3 (by decide)⟩
theorem Qdm.block{w:World}{g:Nat}{l:List Hdr}{t:TypeId}{fr:Nat × Nat}(h:w.heap[g]?=some (.cells (l.flatMap Hdr.cells).toArray t fr)):Qdm w (some ⟨g,0,none⟩) l:=λ i hi=>⟨g,0,rfl,by
 have key:∀r,r<4->w.cell? ⟨g,0+i * 4+r,none⟩=(Xw l i).cells[r]?:=λ r hr=>by rw[Nat.zero_add,Qa h,List.getElem?_toArray,V9 Hdr.cells 4 Hdr.cells_len l i r hi hr,J8 l i hi]
 exact⟨key 0 (by decide),key 1 (by decide),key 2 (by decide),key 3 (by decide)⟩⟩
structure Hdr.Ok(r:Hdr):Prop where
 r0:Qql r.rnd
 p1:r.prev.size<=1000000
 t1:r.txns.size<=1000000
 s1:r.seed.size<=1000000
theorem Hdr.zero_ok:Hdr.zero.Ok:=⟨⟨by decide,by decide⟩,by decide,by decide,by decide⟩
theorem hoks{L:List Hdr}(h:∀p ∈ L,p.Ok):∀i,(Xw L i).Ok:=λ i=>by
 rcases Nat.lt_or_ge i L.length with hi | hi
 ·rw[J8 L i hi];exact h _ (List.getElem_mem hi)
 ·unfold Xw;rw[List.getD_eq_getElem?_getD,List.getElem?_eq_none hi];exact Hdr.zero_ok
def hsp(r:Hdr):List Xb:=Zd r.rnd r.prev r.txns r.seed
def hOk(r:Hdr):Bool:=Jn (hsp r)
def hbs(r:Hdr):ByteArray:=Qdo (hsp r)
theorem QtK(r:Hdr):hOk r=(decide (r.prev.size=32) && decide (r.seed.size=32) && decide (r.txns.size=32)):=Qfs _ _ _ _
theorem QdO{r:Hdr}(h:hOk r=true):(hbs r).size<=1000:=QjZ h
def Qak(a b:Hdr):Bool:=decide (a.rnd<b.rnd) && decide (b.rnd - a.rnd=1)
def Vm(R:Hdr->Hdr->Bool)(l:List Hdr):Bool:=(List.range (len l)).all λ i=>decide (i=0) || R (Xw l (i - 1)) (Xw l i)
theorem QkZ{R:Hdr->Hdr->Bool}{l:List Hdr}{i:Nat}(hi:i<len l)(h0:0<i)(h:R (Xw l (i - 1)) (Xw l i)=false):Vm R l=false:=by unfold Vm;rw[List.all_eq_false];exact⟨i,List.mem_range.2 hi,by rw[h];simp;omega⟩
theorem QbL{R:Hdr->Hdr->Bool}{l:List Hdr}(h:∀i,i<len l->0<i->R (Xw l (i - 1)) (Xw l i)=true):Vm R l=true:=by
 unfold Vm;rw[List.all_eq_true];intro i hi
 by_cases h0:i=0
 ·simp[h0]
 ·rw[h i (List.mem_range.1 hi) (by omega)];simp
theorem QlX{R:Hdr->Hdr->Bool}{l:List Hdr}(h:Vm R l=true){i:Nat}(hi:i<len l)(h0:0<i):R (Xw l (i - 1)) (Xw l i)=true:=by
 unfold Vm at h;have:=List.all_eq_true.1 h i (List.mem_range.2 hi);simp at this
 rcases this with h1 | h1
 ·omega
 ·exact h1
def QeT(l:List Hdr):Bool:=l.all hOk
theorem QqM{l:List Hdr}{i:Nat}(hi:i<len l)(h:hOk (Xw l i)=false):QeT l=false:=by unfold QeT;rw[List.all_eq_false];exact⟨Xw l i,by rw[J8 l i hi];exact List.getElem_mem hi,by rw[h];decide⟩
theorem QeJ{l:List Hdr}(h:∀i,i<len l->hOk (Xw l i)=true):QeT l=true:=by
 unfold QeT;rw[List.all_eq_true];intro x hx;obtain⟨i,hi,rfl⟩:=List.getElem_of_mem hx;have:=h i hi
 rwa [J8 l i hi]at this
theorem QgW{l:List Hdr}(h:QeT l=true){i:Nat}(hi:i<len l):hOk (Xw l i)=true:=by unfold QeT at h;rw[J8 l i hi];exact List.all_eq_true.1 h _ (List.getElem_mem hi)
def Qac(l:List Hdr):Bool:=decide (0<len l) && decide (len l<=64) && Vm Qak l && QeT l
def elL(l:List Hdr):List ByteArray:=l.map hbs
theorem Y8(l:List Hdr):len (elL l)=len l:=by unfold elL;rw[Qy,Qy,List.length_map]
theorem Qg8(l:List Hdr)(m:Nat)(h:m<len l):elL (l.take (m+1))=elL (l.take m)++[hbs (Xw l m)]:=by unfold elL;have h2:m<l.length:=h;rw[List.take_succ_eq_append_getElem h2,List.map_append,J8 l m h2];rfl
theorem QoD(l:List Hdr)(i:Nat)(h:i<len l):tth (elL l) i=hbs (Xw l i):=by have h2:i<l.length:=h;rw[J8 l i h2];unfold tth elL;rw[List.getD_eq_getElem?_getD,List.getElem?_map,List.getElem?_eq_getElem h2];rfl
theorem QeG{l:List Hdr}(h:Qac l=true):0<len l/\len l<=64/\Vm Qak l=true/\QeT l=true:=by unfold Qac at h;simp only[Bool.and_eq_true,decide_eq_true_eq]at h;exact⟨h.1.1.1,h.1.1.2,h.1.2,h.2⟩
theorem Qtb{l:List Hdr}(h1:0<len l)(h2:len l<=64)(h3:Vm Qak l=true)(h4:QeT l=true):Qac l=true:=by unfold Qac;rw[decide_eq_true h1,decide_eq_true h2,h3,h4];rfl
theorem QgG{l:List Hdr}(h:Qac l=true):∀i,i<len (elL l)->(tth (elL l) i).size<=1000:=λ i hi=>by rw[Y8]at hi;rw[QoD l i hi];exact QdO (QgW (QeG h).2.2.2 hi)
def QfD(l:List ByteArray):Bool:=decide (len l<=64) && l.all λ s=>decide (0<s.size) && decide (s.size<=64)
theorem Qlc{k d:Nat}(hd:d<=16)(hk:k<2 ^ d):Zt (k:Nat) (d:Nat)=((Xr k d:Nat):Int):=by unfold Zt;rw[if_pos ⟨by omega,by omega,by rw[Int.toNat_natCast,Zr];exact_mod_cast hk⟩];rfl
theorem Qhn(els:List ByteArray)(a:Option Addr)(cap d k:Nat)(w:World)(hd:d<=16)(hn:len els<=65536)(hz:∀i,i<len els->(tth els i).size<=140737488355200)(hk:k<2 ^ d)(ht:Jk w a els):
  Calls Tryz.prog 108 #[.slice a (len els) cap,.int .i64 (d:Nat),.int .i64 0,.int .u64 (k:Nat)] w λ e w'=>e=.returned (.string (plD els d 0 k))/\Below w.heap.size w w':=by
 have hk2:k<65536:=Nat.lt_of_lt_of_le hk (Nat.pow_le_pow_right (by decide) hd);have HE:=QLh (Qfo (k:Nat) (d:Nat) w (by omega) (by omega) (by omega) (by omega));rw[Qlc hd hk]at HE;obtain⟨r,hr⟩:∃r,Xr k d=r:=⟨_,rfl⟩;rw[hr]at HE
 by_cases hlt:r<len els
 ·have HP:Hid (plD els d 0 k=Xi Kf [tth els r]):=QLh (by
   show(if Xr k d<len els then Xi Kf [tth els (Xr k d)]else Xi QdC [])=_;rw[hr,if_pos hlt])
  have b0:(r:Int)<len els:=by omega
  have b1:¬(len els:Int)<=(r:Int):=by omega
  obtain⟨bb,off,rfl,hcell⟩:=ht r hlt;have HZ:=QLh (hz r hlt);obtain⟨s,hs⟩:∃s,tth els r=s:=⟨_,rfl⟩;rw[hs]at HP HZ hcell;have w8:IntKind.u64.wrap ((len els:Nat):Int)=((len els:Nat):Int):=IntWalk.u64_in _ (by omega);have lc:=Ql hcell;have wr1:IntKind.i64.wrap ((r:Nat):Int)=((r:Nat):Int):=IntWalk.i64_in _ (by omega);clear hd hn hz hk ht hr hs hk2
  go_enter Tryz.func108,Tryz.ntmps108
  go_wp2_with fail;refine HE.out.mono ?_;rintro e w1 ⟨rfl,rfl⟩;go_wp2_with fail;refine(QfM Kf s w (by decide) (by decide) HZ.out).mono ?_;rintro e w2 ⟨rfl,hb2⟩;have HB2:=QLh hb2;clear hb2;go_wp2;go_ret;exact⟨by rw[HP.out];rfl,HB2.out⟩
 ·have HP:Hid (plD els d 0 k=Xi QdC []):=QLh (by
   show(if Xr k d<len els then Xi Kf [tth els (Xr k d)]else Xi QdC [])=_;rw[hr,if_neg hlt])
  have b1:(len els:Int)<=(r:Int):=by omega
  have w8:IntKind.u64.wrap ((len els:Nat):Int)=((len els:Nat):Int):=IntWalk.u64_in _ (by omega);clear hd hn hz hk ht hr hk2
  go_enter Tryz.func108,Tryz.ntmps108
  go_wp2_with fail;refine HE.out.mono ?_;rintro e w1 ⟨rfl,rfl⟩;go_wp2_with fail;refine(Qmd QdC w (by decide) (by decide)).mono ?_;rintro e w2 ⟨rfl,hb2⟩;have HB2:=QLh hb2;clear hb2;go_wp2;go_ret;exact⟨by rw[HP.out];rfl,HB2.out⟩
theorem U9(els:List ByteArray)(a:Option Addr)(cap d:Nat)(hd:d<=16)(hn:len els<=65536)(hz:∀i,i<len els->(tth els i).size<=140737488355200):∀(l k:Nat) (w:World),l<=d->k<2 ^ (d - l)->Jk w a els->
  Calls Tryz.prog 108 #[.slice a (len els) cap,.int .i64 (d:Nat),.int .i64 (l:Nat),.int .u64 (k:Nat)] w λ e w'=>e=.returned (.string (plD els d l k))/\Below w.heap.size w w'
 | 0,k,w,hl,hk,ht=>Qhn els a cap d k w hd hn hz hk ht
 | l+1,k,w,hl,hk,ht=>by
  have hp:2 ^ (d - l)=2 * 2 ^ (d - (l+1)):=by rw[show d - l=d - (l+1)+1 by omega,Nat.pow_succ];omega
  have hk2:2 ^ (d - l)<=65536:=Nat.pow_le_pow_right (by decide) (by omega:d - l<=16);obtain⟨k0,hk0⟩:∃k0,2 * k=k0:=⟨_,rfl⟩;obtain⟨k1,hk1⟩:∃k1,2 * k+1=k1:=⟨_,rfl⟩;obtain⟨m,hm⟩:∃m,l+1=m:=⟨_,rfl⟩;have f1:IntKind.u64.wrap (2 * ((k:Nat):Int))=((k0:Nat):Int):=by rw[IntWalk.u64_in _ (by omega)];omega
  have f2:IntKind.u64.wrap (((k0:Nat):Int)+1)=((k1:Nat):Int):=by rw[IntWalk.u64_in _ (by omega)];omega
  have l1:(0:Int)<((m:Nat):Int):=by omega
  have l2:IntKind.i64.wrap (((m:Nat):Int) - 1)=((l:Nat):Int):=by rw[IntWalk.i64_in _ (by omega)];omega
  have IH1:=QLh (λ w9 h9=>U9 els a cap d hd hn hz l (2 * k) w9 (by omega) (by omega) h9);have IH2:=QLh (λ w9 h9=>U9 els a cap d hd hn hz l (2 * k+1) w9 (by omega) (by omega) h9);have HT:=QLh ht;obtain⟨X,hX⟩:∃X,plD els d l (2 * k)=X:=⟨_,rfl⟩;obtain⟨Y,hY⟩:∃Y,plD els d l (2 * k+1)=Y:=⟨_,rfl⟩;have HP:Hid (plD els d (l+1) k=Xi QaB [X,Y]):=QLh (by rw[<-hX,<-hY];rfl);have HXS:Hid (X.size<=1000000):=QLh (by rw[<-hX,Qaa];decide);have HYS:Hid (Y.size<=1000000):=QLh (by rw[<-hY,Qaa];decide);rw[hX,hk0]at IH1;rw[hY,hk1]at IH2;rw[hm]at HP ⊢;clear hX hY ht hk hp hk2 hd hn hz hl hk0 hk1 hm
  go_enter Tryz.func108,Tryz.ntmps108
  go_wp2_with fail;refine(IH1.out w HT.out).mono ?_;rintro e w1 ⟨rfl,hb1⟩;have HB1:=QLh hb1;have HT1:=QLh (HT.out.below hb1);clear hb1;go_wp2_with fail;refine(IH2.out w1 HT1.out).mono ?_;rintro e w2 ⟨rfl,hb2⟩;have HB2:Hid (Below w.heap.size w w2):=QLh (Qj HB1.out hb2);clear hb2;go_wp2_with fail;refine(Qgb QaB X Y w2 (by decide) (by decide) HXS.out HYS.out).mono ?_;rintro e w3 ⟨rfl,hb3⟩;have HB3:Hid (Below w.heap.size w w3):=QLh (Qj HB2.out hb3);clear hb3;go_wp2;go_ret;exact⟨by rw[HP.out];rfl,HB3.out⟩
theorem Qnn{base n c:Nat}{w:World}{a:Option Addr}{l:List ByteArray}(h:w.ownsRow base 9 1 (.slice a n c) n (l.map Value.string))(m:Nat)(hm:m<n):∃g,a=some ⟨g,0,none⟩/\base<=g/\w.cell? ⟨g,m,none⟩=some (.string (tth l m))/\w.frozen? ⟨g,m,none⟩=false/\g<w.heap.size:=by
 have hn:l.length=n:=by have:=h.1;simpa using this
 rcases h.2 with⟨hz,h9⟩ | ⟨g9,cap,cur,hv,hg,hh,h1,h2,h3,h4⟩
 ·omega
 ·cases hv
  refine⟨g9,rfl,hg,?_,Qk hh m,lt_of_block hh⟩;have h5:=h.cellAt m (by omega);have hi2:m<l.length:=by omega
  rw[h5,List.getElem?_map,List.getElem?_eq_getElem hi2,Y9 l m hi2];rfl
theorem QnC{w:World}{ad:Addr}{l:List ByteArray}(h:Jk w (some ad) l):∀j u,(l.map Value.string)[j]?=some u->w.cell? (ad.add j)=some u:=by
 intro j u hu;have hj:j<l.length:=by have:=(List.getElem?_eq_some_iff.1 hu).1;simpa using this
 rw[List.getElem?_map,List.getElem?_eq_getElem hj]at hu
 cases hu
 obtain⟨b,off,e,hc⟩:=h j hj
 cases e
 rw[Y9 l j hj]at hc
 by_cases hj0:j=0
 ·subst hj0;simpa [Addr.add] using hc
 ·simpa [Addr.add,hj0] using hc
theorem Qpz(l:List ByteArray):∀u ∈ l.map Value.string,u.oneCell'=true:=by intro u hu;obtain⟨x,_,rfl⟩:=List.mem_map.1 hu;rfl
theorem Qbj{α:Type}(a b:List α):len (a++b)=len a+len b:=by rw[Qy,List.length_append];rfl
theorem Qcd{w:World}{ops:Array Oper}{rest:List Oper}{o:Oper}{a:Act}{Q:Exit->Act->World->Prop}(hgd:o.guard=none)(s x:Operand)
  (ho:o.op=.call { callee:=.builtin .append,args:=#[s,x],argTypes:=#[36,36] })
  (base:Nat) (v:Value) (xs l:List ByteArray) (ad:Option Addr) (c:Nat) (hs:a.eval s=v) (hown:w.ownsRow base 9 1 v (len xs) (xs.map Value.string))
  (hx:a.eval x=.slice ad (len l) c) (hl:Jk w ad l) (hc:ad=none->c=0) (hlen:len xs+len l<=100000) (hbase:base<=w.heap.size)
  (h:∀v' w',w'.ownsRow base 9 1 v' (len (xs++l)) ((xs++l).map Value.string)->w.grownBy w' v.ownBlock->wpList Tryz.prog ops Q rest (a.put o.dst v') w'):wpList Tryz.prog ops Q (o :: rest) a w:=by
 obtain⟨i0,hi,hz0,hz1,hz2⟩:=info_parts U6
 cases ad with
 | none=>
  obtain rfl:l=[]:=by
   cases l with
   | nil=>rfl
   | cons y l=>obtain⟨b,off,e,_⟩:=hl 0 (by simp[len]);cases e
  rw[hc rfl]at hx;refine wpList_append_own_none hgd s x 36 ho base 9 i0 1 Tryz.underlying36 hi v _ _ hs hown hx ?_;exact h v w (by rw[List.append_nil];exact hown) ⟨rfl,rfl,rfl,Nat.le_refl _,λ _ _ _=>rfl⟩
 | some ad=>
  refine wpList_append_own _ hgd s x 36 ho base 9 i0 (.string ⟨#[]⟩) 1 16 Tryz.underlying36 hi hz0 hz1 hz2 rfl (by decide) v _ _ hs hown ad (len l) c (l.map Value.string) hx (by simp[len]) (QnC hl) (Qpz l) (by unfold maxLen;omega) (by omega) hbase ?_;intro v' w' h1 h2 _;refine h v' w' ?_ h2;rw[Qbj,List.map_append];exact h1
theorem QnX(r:Hdr)(w:World)(ho:r.Ok):Calls Tryz.prog 80 #[r.val] w (QeE (hsp r) w):=
 Qjy r.rnd r.prev r.txns r.seed w ho.r0 (Nat.le_trans ho.p1 (by decide)) (Nat.le_trans ho.t1 (by decide)) (Nat.le_trans ho.s1 (by decide))
theorem Qsq(r:Hdr)(w:World)(ho:r.Ok)(h:hOk r=true):Calls Tryz.prog 80 #[r.val] w λ e w'=>e=.returned (.tuple #[.string (hbs r),.int .i64 0])/\Below w.heap.size w w':=
 (QnX r w ho).mono λ e w' hh=>QkM h rfl hh
theorem QtP(r:Hdr)(w:World)(ho:r.Ok)(h:hOk r=false):Calls Tryz.prog 80 #[r.val] w λ e w'=>e=.returned (.tuple #[.string ⟨#[]⟩,.int .i64 2])/\Below w.heap.size w w':=
 (QnX r w ho).mono λ e w' hh=>QnT h hh
def Qto(l:List Hdr)(w:World)(e:Ending)(w':World):Prop:=∃v,e=.returned (.tuple #[v,.bool (Qac l)])/\(Qac l=true->Zk (elL l) v w')/\Below w.heap.size w w'
theorem Qnv{l:List Hdr}{m:Nat}(hm:m+1<len l)(h:Qak (Xw l m) (Xw l (m+1))=false):Qac l=false:=by have:=QkZ (R:=Qak) hm (by omega) h;unfold Qac;rw[this];simp
theorem QtY{l:List Hdr}{m:Nat}(hm:m<len l)(h:hOk (Xw l m)=false):Qac l=false:=by unfold Qac;rw[QqM hm h];simp
theorem Qsw(p q:Hdr)(hp:p.Ok)(hq:q.Ok):Qak p q=(!(q.rnd == 0) && (q.rnd - 1 == p.rnd)):=by
 have h1:=hp.r0.1;have h2:=hq.r0.1;unfold Qak
 by_cases e:q.rnd - 1=p.rnd
 ·have a1:p.rnd<q.rnd:=by omega
  have a2:q.rnd - p.rnd=1:=by omega
  have a3:¬q.rnd=0:=by omega
  simp[a1,a2,a3,e]
 ·have a2:¬(q.rnd - p.rnd=1):=by omega
  simp[a2,e]
structure ElSt(l:List Hdr)(w wr:World)(v:Value)(m:Nat):Prop where
 b:Below w.heap.size w wr
 o:wr.ownsRow w.heap.size 9 1 v (len (elL (l.take m))) ((elL (l.take m)).map Value.string)
 y:∀j,j<m->hOk (Xw l j)=true
 s:∀j,0<j->j<m->Qak (Xw l (j - 1)) (Xw l j)=true
theorem Qtj(l:List Hdr)(m:Nat)(h:m<=len l):len (elL (l.take m))=m:=by rw[Y8,Qy,List.length_take];rw[Qy]at h;omega
theorem QtW{l:List ByteArray}{m:Nat}(hm:m<len l)(h:¬(0<(tth l m).size/\(tth l m).size<=64)):QfD l=false:=by
 unfold QfD;have:(l.all λ s=>decide (0<s.size) && decide (s.size<=64))=false:=by rw[List.all_eq_false];refine⟨tth l m,by rw[Y9 l m hm];exact List.getElem_mem hm,?_⟩;simp only[Bool.and_eq_true,decide_eq_true_eq];exact h
 rw[this];simp
theorem Qsn{l:List ByteArray}(hn:len l<=64)(h:∀m,m<len l->0<(tth l m).size/\(tth l m).size<=64):QfD l=true:=by unfold QfD;rw[decide_eq_true hn,Bool.true_and,List.all_eq_true];intro x hx;obtain⟨i,hi,rfl⟩:=List.getElem_of_mem hx;have:=h i hi;rw[Y9 l i hi]at this;simp[this.1,this.2]
section
open Go.RowKit Go.ChangeShapes Go.WideShapes Go.ChangeAt Go.Deep
section
variable {H : Type} {enc : TypeId × Value → H} {P : Program} {w : World}
theorem Qc3(hl:laidOutB P=true){W W':World}(hb:Below W.heap.size W W'):∀{ts:List TypeId} {vs:List Value} {ds:List (DataW H)} {ps:List MemPlace},
  (∀t ∈ ts,P.readableRec t=true/\t<P.types.size)->DataW.TrodAll enc P W 0 (λ _=>true) true ts vs ds ps->DataW.TrodAll enc P W' 0 (λ b=>decide (b<W.heap.size)) true ts vs ds ps
 | [],vs,ds,ps,_,h=>by obtain⟨rfl,rfl,rfl⟩:=trodAll_nil h;exact trodAll_mk0
 | t :: ts,vs,ds,ps,ht,h=>by
  obtain⟨v,vs',d,ds',p,q,rfl,rfl,rfl,h0,r0⟩:=trodAll_cons h;have lt0:∀x ∈ p,x.block<W.heap.size:=by obtain⟨m,hm⟩:=h0;exact DataW.trod_lt m _ _ _ hm
  exact trodAll_cons_mk (Below.trod hl (ht t (List.mem_cons_self ..)).1 (ht t (List.mem_cons_self ..)).2 h0 hb lt0) (Qc3 hl hb (λ t' h'=>ht t' (List.mem_cons_of_mem _ h')) r0)
theorem QrM{α:Type}{n:Nat}{p:Nat->α->Prop}(h:∀i,i<n->∃x,p i x):∃l:List α,l.length=n/\∀i (hi:i<l.length),p i l[i]:=by
 induction n with
 | zero=>exact⟨[],rfl,λ i hi=>by simp at hi⟩
 | succ n ih=>
  obtain⟨l,hl,hp⟩:=ih (λ i hi=>h i (by omega));obtain⟨x,hx⟩:=h n (by omega);refine⟨l++[x],by simp[hl],λ i hi=>?_⟩
  rcases Nat.lt_or_ge i l.length with h' | h'
  ·rw[List.getElem_append_left h'];exact hp i h'
  ·have e:i=l.length:=by simp at hi;omega
   subst e;simp only[List.getElem_append_right (Nat.le_refl _),Nat.sub_self,List.getElem_cons_zero];rw[hl];exact hx
theorem Qli{α:Type}{t e:TypeId}(k:Nat)(cells:α->List Value)(ok:α->Prop)(ht:P.underlying t=some (.slice e))(hC:P.cellsOf e=k)(hk:0<k)
  (hel:∀n cs' y,cs'.length=k->DataW.trod enc P w 0 (λ _=>true) true n e cs'=some y->∃x,cs'=cells x/\ok x)
  {v:Value} {d:DataW H} {p:List MemPlace} {r:Reach} {base:Nat} (hv:Value.okWide P w r base t v) (h:DataW.Trod enc P w 0 (λ _=>true) true t v d p):
  ∃a c,∃l:List α,v=.slice a (len l) c/\len l<=c/\c<=maxLen/\∀i (hi:i<l.length),ok l[i]/\∃b off,a=some ⟨b,off,none⟩/\∀j,j<k->w.cell? ⟨b,off+i * k+j,none⟩=(cells l[i])[j]?:=by
 obtain⟨a0,n0,c0,rfl⟩:=okWide_slice ht hv;obtain⟨fuel,hf⟩:=h
 rcases open_slice ht hf with⟨hcs,_⟩ | ⟨a,n,c,m,q,D,Pl,hcs,_,hl,hm,hmm,_,hi⟩
 ·simp[Value.cells]at hcs
  obtain⟨rfl,rfl,rfl⟩:=hcs;exact⟨none,0,[],rfl,Nat.le_refl _,Nat.zero_le _,λ i hi=>by simp at hi⟩
 ·simp[Value.cells]at hcs
  obtain⟨rfl,rfl,rfl⟩:=hcs;have hnm:n0<=m:=by rw[hmm];simp;exact hl
  have each:∀i,i<n0->∃x,ok x/\∃b off,some a=some ⟨b,off,none⟩/\∀j,j<k->w.cell? ⟨b,off+i * k+j,none⟩=(cells x)[j]?:=by
   intro i hin;obtain⟨cs',hc,htr⟩:=hi i (by omega);rw[hC]at hc;obtain⟨_,hcl,hat⟩:=World.cells?_some hc;obtain⟨x,rfl,hx⟩:=hel q cs' _ hcl htr;obtain⟨b,off,spot⟩:=a;have hspot:spot=none:=by
    obtain⟨cs0,hc0,htr0⟩:=hi 0 (by omega);rw[hC]at hc0;obtain⟨_,hcl0,hat0⟩:=World.cells?_some hc0;have h1:=hat0 0 hk;have h2:cs0[0]?=some (cs0[0]'(by omega)):=List.getElem?_eq_getElem (by omega);rw[h2]at h1
    simpa [Addr.add] using World.cell?_spot h1
   subst hspot;refine⟨x,hx,b,off,rfl,λ j hj=>?_⟩;have h1:=hat j hj;rw[Go.Deep.add_add]at h1;have e:(⟨b,off,none⟩:Addr).add (i * k+j)=⟨b,off+i * k+j,none⟩:=by
    unfold Addr.add;split
    ·rename_i h0;simp <;> omega
    ·simp[Nat.add_assoc]
   rw[e]at h1;exact h1
  obtain⟨l,hll,hp⟩:=QrM each;subst hll;exact⟨some a,c0,l,rfl,hl,hm,hp⟩
theorem Y3{n:Nat}{e:TypeId}{k:IntKind}{v:Value}{y:DataW H × List MemPlace}(he:P.underlying e=some (.int k))(h:DataW.trod enc P w 0 (λ _=>true) true n e [v]=some y):∃x,v=.int k x/\(Lit.int k x).wf=true:=by obtain⟨x,hx,_,hw⟩:=DataW.trod_int he h;exact⟨x,by simpa using hx,hw⟩
theorem Qud{x:Int}(h:(Lit.int .u64 x).wf=true):0<=x/\x<18446744073709551616:=by simp[Lit.wf,IntKind.min,IntKind.max,IntKind.bits,IntKind.signed]at h;omega
theorem Qgl{x:Int}(h:(Lit.int .u8 x).wf=true):0<=x/\x<=255:=by simp[Lit.wf,IntKind.min,IntKind.max,IntKind.bits,IntKind.signed]at h;omega
end
end
section
open Go.RowKit Go.ChangeShapes Go.WideShapes Go.ChangeAt
theorem own:ownKnob Tryz.prog.godebug=none:=by kernel_rfl
theorem Qsk:laidOutB Tryz.prog=true:=by kernel_rfl
end
section
open Go.RowKit Go.ChangeShapes Go.WideShapes Go.ChangeAt Go.ChangeMaps
section
variable {P : Program} {H : Type} {enc : TypeId × Value → H} {w : World}
theorem Qqh{t e:TypeId}(ht:P.underlying t=some (.slice e))(he:P.underlying e=some (.int .u8))(hC:P.cellsOf e=1)
  {v:Value} {d:DataW H} {p:List MemPlace} {r:Reach} {base:Nat} (hv:Value.okWide P w r base t v) (h:DataW.Trod enc P w 0 (λ _=>true) true t v d p):
  ∃a c,∃l:List Int,v=.slice a (len l) c/\len l<=c/\c<=maxLen/\U8s w a l/\∀i,0<=nth l i/\nth l i<=255:=by
 obtain⟨a,c,l,rfl,h1,h2,h3⟩:=Qli 1 (λ x=>[Value.int .u8 x]) (λ x=>0<=x/\x<=255) ht hC (by decide) (λ n cs' y hl hy=>by
  match cs',hl with
  | [v0],_=>
   obtain⟨x,rfl,hw⟩:=Y3 he hy;exact⟨x,rfl,Qgl hw⟩) hv h
 refine⟨a,c,l,rfl,h1,h2,λ i hi=>?_,λ i=>?_⟩
 ·obtain⟨_,b,off,e1,e2⟩:=h3 i hi
  refine⟨b,off,e1,?_⟩;have:=e2 0 (by decide);rw[Nat.mul_one,Nat.add_zero]at this;rw[this,Jb l i hi];rfl
 ·rcases Nat.lt_or_ge i l.length with hi | hi
  ·rw[Jb l i hi];exact(h3 i hi).1
  ·have:nth l i=0:=by unfold nth;rw[List.getD_eq_getElem?_getD,List.getElem?_eq_none hi];rfl
   rw[this];decide
end
end
def QuJ(r:Except Flt Rcd):Bool:=match r with | .ok _=>true | .error _=>false
def EvOf(r:Except Flt Rcd)(ev:Value):Prop:=match r with
 | .ok _=>ev=.nilIface
 | .error _=>∃fb,ev=.iface 290 (.pointer (some ⟨fb,0,none⟩))
theorem Qh5(B:Nat)(s:ByteArray)(w:World)(h:TE7 B w)(hs:s.size<=9223372036854775807):Calls Tryz.prog 112 #[.string s] w λ e w'=>∃ev,e=.returned (.tuple #[.agg (Qx (QiZ (Xt s (Qv s) Qm) Qm)),ev])/\EvOf (Xt s (Qv s) Qm) ev/\Below w.heap.size w w':=by
 refine(Qg2 B s w h.t h.e h.s h.g hs).mono ?_;rintro e w' ⟨hb,hh⟩
 cases hr:Xt s (Qv s) Qm with
 | error f=>
  rw[hr]at hh;obtain⟨fb,he,hf⟩:=hh;exact⟨_,he,⟨fb,rfl⟩,hb⟩
 | ok y=>
  rw[hr]at hh;exact⟨_,hh.2.2,rfl,hb⟩
section
open Go.RowKit Go.ChangeMaps
theorem QpG(els:List ByteArray)(L:List (Int × Int)):len (Vf els L)=L.length:=by unfold Vf;rw[Qy,List.length_map]
theorem QnW(els:List ByteArray)(ae:Option Addr)(ce:Nat)(l:List Int)(a:Option Addr)(cap:Nat)(w:World)(ht:Jk w ae els)(hn:len els<=65536)(hz:∀i,i<len els->(tth els i).size<=140737488355200)(h:QaO w a l)(hl:len l<=100)(hu:∀k ∈ l,U64 k)(hb:Qa0 (len els:Nat) l):
  Calls Tryz.prog 106 #[.slice ae (len els) ce,.slice a (len l) cap] w (QmR (Vf els (Qf8 (len els:Nat) l)) 0 w):=by
 have HM:=QLh (Qqo (len els:Nat) l a cap w h (by omega) (by omega) (by omega));rw[decide_eq_true hb]at HM;have HT:=QLh ht;have HNE:=QLh hn;have HZE:=QLh hz;have H:=QLh h;have HU:=QLh hu;obtain⟨d,hd⟩:∃d,Qa1 els=d:=⟨_,rfl⟩;have HDD:=QLh hd;have HD16:Hid (d<=16):=QLh (by rw[<-hd];exact QaG hn);have HPL:Hid (Qf8 (len els:Nat) l=Xu (Z4 (Qr l d) d)):=QLh (by unfold Qf8;rw[Yw hn,hd]);have HDZ:=QLh (λ w9=>QaN (len els:Nat) w9 (by omega) (by omega));rw[Yw hn,hd]at HDZ;have HN:=QLh hl;have HPB:Hid (∀x ∈ Xu (Z4 (Qr l d) (d:Nat)),∃i k:Nat,x=((i:Int),(k:Int))/\i<d/\k<2 ^ (d - i)):=QLh (Qr4 HD16.out (Kc HD16.out));obtain⟨i0,hi,hz0,hz1,hz2⟩:=info_parts U6;have HZ0:=QLh hz0;clear ht hn hz h hu hb hd hl hz0
 go_enter Tryz.func106,Tryz.ntmps106
 go_wp2_with fail;refine HM.out.mono ?_;rintro e w1 ⟨rfl,hb1⟩;have HB1:=QLh hb1;clear hb1 HM;go_wp2_with fail;refine(HDZ.out _).mono ?_;rintro e w2 ⟨rfl,rfl⟩;go_wp2_with fail;refine(Qjt l a cap (d:Nat) w1 (H.out.below HB1.out) (by have:=HN.out;omega) HU.out (by have:=HD16.out;omega) (by have:=HD16.out;omega)).mono ?_;rintro e w2 ⟨a2,cap2,rfl,hl2,hb2⟩;have HL2:=QLh hl2;have HB2:Hid (Below w.heap.size w w2):=QLh (Qj HB1.out hb2);clear hl2 hb2;have HND:=QLh (Qdy a2 cap2 (Qr l d) (d:Nat) w2 HL2.out (by rw[Xf];exact HN.out) (Qan l d));rw[Xf]at HND;go_wp2_with fail;refine HND.out.mono ?_;rintro e w3 ⟨v,vals,rfl,hr1,hr2,hb3⟩;obtain⟨rs,hrs⟩:∃rs,Z4 (Qr l d) d=rs:=⟨_,rfl⟩;have HR1:Hid (len rs<=16):=QLh (by rw[<-hrs];exact Qou _ _);have HR2:Hid (∀i,len (Jj rs i)<=100):=QLh (by rw[<-hrs];exact Qe0 _ _ (by rw[Xf];exact HN.out));have HR3:Hid ((Xu rs).length<=1600):=QLh (by rw[<-hrs];exact Qjk _ _ (by rw[Xf];exact HN.out));rw[hrs]at hr2 HPL HPB;obtain⟨a3,cap3,hv,hR3,hc4,hc5⟩:=Qba hr1 hr2;subst hv;have R3:=QLh hR3;have HB3:Hid (Below w.heap.size w w3):=QLh (Qj HB2.out hb3);clear hr1 hr2 hb3 hR3 hrs HND hc4 hc5;have HT3:=QLh (HT.out.below HB3.out);have HO0:Hid (w3.ownsRow w3.heap.size 9 1 (.slice none 0 0) (len (Vf els (Xg rs 0 0))) ((Vf els (Xg rs 0 0)).map Value.string)):=QLh (World.ownsRow_nil _ _ _ _);clear HB1 HB2 HL2 HDZ;go_upto_region 7 with fail
 go_loopg [9,8] (len rs) (λ g i v wr=>∃m:Nat,g+m=len rs/\i=.int .i64 m/\Hid (wr.ownsRow w3.heap.size 9 1 v (len (Vf els (Xg rs m 0))) ((Vf els (Xg rs m 0)).map Value.string))/\Hid (Below w3.heap.size w3 wr))
 case atStart=>exact⟨0,rfl,rfl,HO0,QLh (Below.refl _ _)⟩
 case round=>
  clear HO0;obtain⟨m,hm,rfl,HO,HB⟩:=hrel;have hb1:=HR1.out
  by_cases hlt:m<len rs
  ·have b1:(m:Int)<len rs:=by omega
   obtain⟨rb,ro,ra,rc,rfl,hrc,hru,-⟩:=R3.out m hlt;have HRC:=QLh hrc;have HRU:=QLh hru;obtain⟨row,hrow⟩:∃row,Jj rs m=row:=⟨_,rfl⟩;have HROW:=QLh hrow;have HRL:Hid (len row<=100):=QLh (by rw[<-hrow];exact HR2.out m);rw[hrow]at HRC HRU;have hrl:=HRL.out;have HM9:=QLh hm;obtain⟨GK,hGK⟩:∃G,G=gk:=⟨_,rfl⟩;subst hGK;have hrc2:=(HB.out.cell (p:=⟨rb,ro+m,none⟩) (Ql HRC.out)).trans HRC.out;clear hrc hru hrow hm;go_upto_region 10 with fail;clear hrc2
   go_loopg [10,8] (len row) (λ g j v wr=>∃q:Nat,g+q=len row/\j=.int .i64 q/\Hid (wr.ownsRow w3.heap.size 9 1 v (len (Vf els (Xg rs m q))) ((Vf els (Xg rs m q)).map Value.string))/\Hid (Below w3.heap.size w3 wr))
   case atStart=>exact⟨0,rfl,rfl,HO,HB⟩
   case round=>
    clear HO HB;obtain⟨q,hq,rfl,HO,HB⟩:=hrel;have bm:¬len rs<=m:=by omega
    have cr:=(HB.out.cell (p:=⟨rb,ro+m,none⟩) (Ql HRC.out)).trans HRC.out;have lcr:=Ql cr
    by_cases hlq:q<len row
    ·have b2:(q:Int)<len row:=by omega
     obtain⟨ub,uo,rfl,hk⟩:=(HRU.out.below HB.out) q hlq;have lck:=Ql hk;have hmem:((m:Int),nth row q) ∈ Xu rs:=by have h9:=Qjf rs m q hlt (by rw[HROW.out];exact hlq);rw[HROW.out]at h9;exact List.mem_of_getElem? h9
     obtain⟨i9,k,hx,hi9,hk9⟩:=HPB.out _ hmem;have e1:i9=m:=by have:=congrArg Prod.fst hx;simp only at this;omega
     have e2:nth row q=((k:Nat):Int):=congrArg Prod.snd hx;subst e1;rw[e2]at hk;have HDG:=QLh (U9 els ae ce d HD16.out HNE.out HZE.out i9 k wr (by omega) hk9 (HT3.out.below HB.out));obtain⟨X9,hX9⟩:∃X9,plD els d i9 k=X9:=⟨_,rfl⟩;rw[hX9]at HDG;have HSN:Hid (Vf els (Xg rs i9 (q+1))=Vf els (Xg rs i9 q)++[X9]):=QLh (by
      rw[Qb5 rs i9 q (by rw[HROW.out];exact hlq),QhO,HROW.out,e2,HDD.out,<-hX9];simp)
     obtain⟨P9,hP9⟩:∃P9,Vf els (Xg rs i9 q)=P9:=⟨_,rfl⟩;have HPL9:Hid (len P9<=1600):=QLh (by
      rw[<-hP9,QpG];have h8:=QhL rs i9 q hlt (by rw[HROW.out];exact hlq);have:=HR3.out;omega)
     rw[hP9]at HO HSN;clear hmem hx hi9 hk9 e2 hX9 hP9;go_wp2_with fail;refine HDG.out.mono ?_;rintro e w4 ⟨rfl,hb4⟩;have HO4:Hid (w4.ownsRow w3.heap.size 9 1 u8 (len P9) (P9.map Value.string)):=QLh (Qs HO.out hb4);have HB4:Hid (Below w3.heap.size w3 w4):=QLh (Qj HB.out hb4);have hpb:=HPL9.out;clear hb4 hk cr lck lcr bm HO HB HDG
     go_wp2_with (at_builtin;refine wpList_append_own _ rfl _ _ 36 rfl w3.heap.size 9 i0 (.string ⟨#[]⟩) 1 16 Tryz.underlying36 hi HZ0.out hz1 hz2 rfl (by decide) _ _ _ rfl (HO4.out.alloc _) ⟨w4.heap.size,0,none⟩ 1 1 [.string X9] rfl rfl (World.news_of_block (heap_alloc_new _ _)) (by intro u hu9;simp at hu9;subst hu9;rfl) (by unfold maxLen;omega) (by omega) (by have:=HB4.out.size;simp;omega) ?_;intro v2 w5 hown2 hgrow2 _)
     have HO5:Hid (w5.ownsRow w3.heap.size 9 1 v2 (len (Vf els (Xg rs i9 (q+1)))) ((Vf els (Xg rs i9 (q+1))).map Value.string)):=QLh (by
      have e9:len (P9++[X9])=len P9+1:=by rw[Qy,List.length_append];rfl
      rw[HSN.out,List.map_append,e9];exact hown2)
     have HB5:Hid (Below w3.heap.size w3 w5):=QLh (Qq (Qf HB4.out _) hgrow2 (λ k hk'=>(HO4.out.lt k hk').1));clear hown2 hgrow2;go_wp2
     go_roundg (len row - (q+1))
     case rel=>exact⟨q+1,by omega,by go_num,HO5,HB5⟩
     case measure=>omega
    ·obtain rfl:q=len row:=by omega
     have b2:¬((len row:Nat):Int)<len row:=by omega
     have HO2:Hid (wr.ownsRow w3.heap.size 9 1 u8 (len (Vf els (Xg rs (m+1) 0))) ((Vf els (Xg rs (m+1) 0)).map Value.string)):=QLh (by
      have h9:=HO.out;rw[<-HROW.out,Qde rs m hlt]at h9;exact h9)
     have hm:=HM9.out;go_wp2
     go_roundg (len rs - (m+1))
     case rel=>exact⟨m+1,by omega,by go_num,HO2,HB⟩
     case measure=>omega
  ·obtain rfl:m=len rs:=by omega
   have b1:¬((len rs:Nat):Int)<len rs:=by omega
   have HO2:Hid (wr.ownsRow w.heap.size 9 1 u8 (len (Vf els (Qf8 (len els:Nat) l))) ((Vf els (Qf8 (len els:Nat) l)).map Value.string)):=QLh (by
    have h9:=HO.out;rw[QcJ,<-HPL.out]at h9;exact Qc1 h9 HB3.out.size)
   go_wp2
   go_ret2
   exact⟨_,rfl,HO2.out,Qj HB3.out HB.out⟩
end
def QeL(l:List Hdr)(r:Int):Option Nat:=l.findIdx? λ h=>decide (h.rnd=r)
theorem QeP{l:List Hdr}{r:Int}{i:Nat}(hi:i<len l)(h:∀j,j<i->(Xw l j).rnd≠r)(h':(Xw l i).rnd=r):QeL l r=some i:=by
 unfold QeL;rw[List.findIdx?_eq_some_iff_getElem];refine⟨hi,?_,λ j hj=>?_⟩
 ·rw[J8 l i hi]at h';simp[h']
 ·have:=h j hj;rw[J8 l j (Nat.lt_trans hj hi)]at this;simp[this]
theorem Qf9{l:List Hdr}{r:Int}(h:∀j,j<len l->(Xw l j).rnd≠r):QeL l r=none:=by unfold QeL;rw[List.findIdx?_eq_none_iff];intro x hx;obtain⟨i,hi,rfl⟩:=List.getElem_of_mem hx;have:=h i hi;rw[J8 l i hi]at this;simp[this]
def ihO(l:List Hdr)(r:Int):Option Nat:=if Qac l=true then QeL l r else none
def ihS(l:List Hdr)(r:Int):ByteArray:=match ihO l r with | some i=>hbs (Xw l i) | none=>⟨#[]⟩
def ihP(l:List Hdr)(r:Int):List ByteArray:=match ihO l r with | some i=>Qdn (elL l) i | none=>[]
def ihE(l:List Hdr)(r:Int):Int:=if Qac l=true then(match QeL l r with | some _=>0 | none=>19)else 2
def IhIs(l:List Hdr)(r:Int)(w:World)(e:Ending)(w':World):Prop:=∃v,e=.returned (.tuple #[.string (ihS l r),v,.int .i64 (ihE l r)])/\Zk (ihP l r) v w'/\Below w.heap.size w w'
theorem Qtt{l:List Hdr}{r:Int}(h:Qac l=false):ihS l r=⟨#[]⟩/\ihP l r=[]/\ihE l r=2:=by
 have e:ihO l r=none:=if_neg (by rw[h];decide);refine⟨?_,?_,if_neg (by rw[h];decide)⟩
 ·unfold ihS;rw[e]
 ·unfold ihP;rw[e]
theorem QnM{l:List Hdr}{r:Int}(h:Qac l=true)(hf:QeL l r=none):ihS l r=⟨#[]⟩/\ihP l r=[]/\ihE l r=19:=by
 have e:ihO l r=none:=(if_pos h).trans hf;refine⟨?_,?_,?_⟩
 ·unfold ihS;rw[e]
 ·unfold ihP;rw[e]
 ·unfold ihE;rw[if_pos h,hf]
theorem QeM{l:List Hdr}{r:Int}{i:Nat}(h:Qac l=true)(hf:QeL l r=some i):ihS l r=hbs (Xw l i)/\ihP l r=Qdn (elL l) i/\ihE l r=0:=by
 have e:ihO l r=some i:=(if_pos h).trans hf;refine⟨?_,?_,?_⟩
 ·unfold ihS;rw[e]
 ·unfold ihP;rw[e]
 ·unfold ihE;rw[if_pos h,hf]
def isA(root:ByteArray)(f t:Int):Bool:=decide (root.size=32) && decide (f<=t) && decide (t - f<64)
def isE(root:ByteArray)(f t:Int)(s:ByteArray)(p:List ByteArray):Int:=
 if isA root f t=true then
  match Xt s (Qv s) Qm with
  | .error _=>5
  | .ok y=>if f<=(y 0).n/\(y 0).n<=t then(if Ja root (t - f+1) [(y 0).n - f] [s] p=0 then 0 else 20)else 19
 else 2
def isH(root:ByteArray)(f t:Int)(s:ByteArray)(p:List ByteArray):Rcd:=if isE root f t s p=0 then QiZ (Xt s (Qv s) Qm) Qm else Qm
def Qu3(root:ByteArray)(f t:Int)(s:ByteArray)(p:List ByteArray)(w:World)(e:Ending)(w':World):Prop:=e=.returned (.tuple #[.agg (Qx (isH root f t s p)),.int .i64 (isE root f t s p)])/\Below w.heap.size w w'
def Qfl(l:List ByteArray):Bool:=decide (0<len l) && QfD l
def itO(l:List ByteArray)(i:Int):Option Nat:=if Qfl l=true/\0<=i/\i<len l then some i.toNat else none
def itP(l:List ByteArray)(i:Int):List ByteArray:=match itO l i with | some k=>Qdn l k | none=>[]
def itE(l:List ByteArray)(i:Int):Int:=if Qfl l=true then(if 0<=i/\i<len l then 0 else 19)else 2
def ItIs(l:List ByteArray)(i:Int)(w:World)(e:Ending)(w':World):Prop:=∃v,e=.returned (.tuple #[v,.int .i64 (itE l i)])/\Zk (itP l i) v w'/\Below w.heap.size w w'
theorem Qvd{l:List ByteArray}{i:Int}(h:Qfl l=false):itP l i=[]/\itE l i=2:=by have e:itO l i=none:=if_neg (λ h9=>by rw[h]at h9;exact absurd h9.1 (by decide));exact⟨by unfold itP;rw[e],if_neg (by rw[h];decide)⟩
theorem QrH{l:List ByteArray}{i:Int}(h:Qfl l=true)(hi:¬(0<=i/\i<len l)):itP l i=[]/\itE l i=19:=by have e:itO l i=none:=if_neg (λ h9=>hi h9.2);exact⟨by unfold itP;rw[e],(if_pos h).trans (if_neg hi)⟩
theorem Qoa{l:List ByteArray}{k:Nat}(h:Qfl l=true)(hi:k<len l):itP l (k:Nat)=Qdn l k/\itE l (k:Nat)=0:=by
 have hi2:0<=((k:Nat):Int)/\((k:Nat):Int)<len l:=⟨by omega,by omega⟩;have e:itO l (k:Nat)=some k:=by unfold itO;rw[if_pos ⟨h,hi2⟩];rfl
 exact⟨by unfold itP;rw[e],(if_pos h).trans (if_pos hi2)⟩
def tiA(root:ByteArray)(i n:Int)(s:ByteArray):Bool:=decide (root.size=32) && decide (1<=n) && decide (n<=64) && decide (i<n) && decide (0<s.size) && decide (s.size<=64)
def tiE(root:ByteArray)(i n:Int)(s:ByteArray)(p:List ByteArray):Int:=if tiA root i n s=true then(if Ja root n [i] [s] p=0 then 0 else 20)else 2
theorem Qoh{l:List ByteArray}(h:Qfl l=true):0<len l/\len l<=64/\∀i,i<len l->0<(tth l i).size/\(tth l i).size<=64:=by
 unfold Qfl QfD at h;simp only[Bool.and_eq_true,decide_eq_true_eq]at h;refine⟨h.1,h.2.1,λ i hi=>?_⟩;have:=List.all_eq_true.1 h.2.2 (tth l i) (by rw[Y9 l i hi];exact List.getElem_mem hi)
 simpa using this
theorem Qtc{l:List ByteArray}(h0:0<len l)(h1:len l<=64)(h:∀i,i<len l->0<(tth l i).size/\(tth l i).size<=64):Qfl l=true:=by unfold Qfl;rw[decide_eq_true h0,Qsn h1 h];rfl
theorem Qqr{l:List ByteArray}{m:Nat}(hm:m<len l)(h:¬(0<(tth l m).size/\(tth l m).size<=64)):Qfl l=false:=by unfold Qfl;rw[QtW hm h];simp
theorem QjI{l:List ByteArray}(h:¬(0<len l/\len l<=64)):Qfl l=false:=by
 cases e:Qfl l with
 | false=>rfl
 | true=>exact absurd ⟨(Qoh e).1,(Qoh e).2.1⟩ h
structure PT(B:Nat)(w:World):Prop where
 p:Qf5 B w
 s:B<=w.heap.size
theorem PT.below{B:Nat}{w w':World}(h:PT B w)(hb:Below w.heap.size w w'):PT B w':=⟨h.p.keep hb h.s,Nat.le_trans h.s hb.size⟩
theorem Qr0(B:Nat)(r:Hdr)(w:World)(ht:PT B w)(ho:r.Ok):Calls Tryz.prog 44 #[r.val] w (QeE (hsp r) w):=
 Qim B r.rnd r.prev r.txns r.seed w ht.p ho.r0 (Nat.le_trans ho.p1 (by decide)) (Nat.le_trans ho.t1 (by decide)) (Nat.le_trans ho.s1 (by decide)) (λ h=>Nat.le_trans (QjZ h) (by decide))
theorem Qr7(B:Nat)(r:Hdr)(w:World)(ht:PT B w)(ho:r.Ok)(h:hOk r=true):Calls Tryz.prog 44 #[r.val] w λ e w'=>e=.returned (.tuple #[.string (hbs r),.int .i64 0])/\Below w.heap.size w w':=
 (Qr0 B r w ht ho).mono λ e w' hh=>QkM h rfl hh
theorem QuT(B:Nat)(r:Hdr)(w:World)(ht:PT B w)(ho:r.Ok)(h:hOk r=false):Calls Tryz.prog 44 #[r.val] w λ e w'=>e=.returned (.tuple #[.string ⟨#[]⟩,.int .i64 2])/\Below w.heap.size w w':=
 (Qr0 B r w ht ho).mono λ e w' hh=>QnT h hh
def Qtk(w:World)(xb:Nat)(a:Option Addr)(n cap:Nat):Prop:=w.heap[xb]?=some (.cells #[.slice a n cap] 22 (0,0))
theorem Qtk.below{w w':World}{xb:Nat}{a:Option Addr}{n cap:Nat}(h:Qtk w xb a n cap)(hb:Below w.heap.size w w'):Qtk w' xb a n cap:=(hb.block _ (lt_of_block h)).trans h
theorem Qrh:(Tryz.prog.info? 5).map (λ i=>(i.zero,i.size,i.bytes))=some (some (.int .u8 0),1,1):=by kernel_rfl
theorem Qrb:(Tryz.prog.info? 33).map (λ i=>(i.zero,i.size,i.bytes))=some (some Hdr.zero.val,4,56):=by kernel_rfl
def Qbt(c:Nat):List UInt8:=(List.range 32).map λ i=>UInt8.ofNat ((c+i % 3) % 256)
theorem Uk(c:Nat):(Qbt c).length=32:=by unfold Qbt;rw[List.length_map,List.length_range]
theorem QpH(c m:Nat)(h:m<32):Value.int .u8 (((c+m % 3) % 256:Nat):Int)=byV ((Qbt c).getD m 0):=by unfold Qbt byV;rw[List.getD_eq_getElem?_getD,List.getElem?_map,List.getElem?_range h];simp
def QcN(c:Nat):ByteArray:=⟨(Qbt c).toArray⟩
theorem Uv(c:Nat):(QcN c).size=32:=by show(Qbt c).toArray.size=32;rw[List.size_toArray,Uk]
theorem Qqw(K:List UInt8)(W:World):(Instr.makeSlice 41 (.int .i64 32) (.int .i64 32)).run Tryz.prog W=.ok (.slice (some ⟨W.heap.size,0,none⟩) 32 32) (W.alloc (.cells (QeY K 32 0) 5)):=by
 obtain⟨i0,hi,hz0,hz1,hz2⟩:=info_parts Qrh;have hr:=run_make (P:=Tryz.prog) W 41 5 i0 (.int .u8 0) Tryz.underlying41 hi hz0 .i64 .i64 32 32 (by decide) (Int.le_refl _) (by rw[hz2];decide) (by decide);have e:madeCells (Value.int .u8 0).cells (32 * 1)=QeY K 32 0:=by apply Array.toList_inj.1;show(madeCells #[.int .u8 0] (32 * 1)).toList=_;rw[toList_madeCells_one];rfl
 rw[hr,hz1];show Result.ok _ (W.alloc (.cells (madeCells (Value.int .u8 0).cells (32 * 1)) 5))=_;rw[e];rfl
theorem Qbo(c:Nat)(w:World)(hc:c<=255):Calls Tryz.prog 56 #[.int .u8 (c:Nat)] w λ e w'=>e=.returned (.string (QcN c))/\Below w.heap.size w w':=by
 have HC:=QLh hc;have mk:=Qqw (Qbt c);clear hc
 go_enter Tryz.func56,Tryz.ntmps56
 go_upto_region 2 with fail;obtain⟨lb,hlb⟩:∃lb,w.heap.size=lb:=⟨_,rfl⟩;obtain⟨U,hU⟩:∃U,w.alloc (.cells (QeY (Qbt c) 32 0) 5)=U:=⟨_,rfl⟩;have HUB:Hid (U.heap[lb]?=some (.cells (QeY (Qbt c) 32 0) 5 (0,0))):=QLh (by rw[<-hU];exact Qg _ hlb);have HUW:Hid (Below w.heap.size w U):=QLh (by rw[<-hU];exact Qf (Below.refl _ _) _);have HLB:Hid (w.heap.size<=lb):=QLh (Nat.le_of_eq hlb);rw[hlb];rw[hU];clear hU hlb mk;go_wp2
 go_loopg [4] 32 (λ g i wr=>∃m:Nat,g+m=32/\i=.int .i64 m/\Hid (wr.heap[lb]?=some (.cells (QeY (Qbt c) 32 m) 5 (0,0)))/\Hid (Below w.heap.size w wr))
 case atStart=>exact⟨0,rfl,rfl,HUB,HUW⟩
 case round=>
  clear HUB HUW;obtain⟨m,hm,rfl,HUB,HUW⟩:=hrel
  by_cases hlt:m<32
  ·have i1:(m:Int)<32:=by omega
   obtain⟨W,hW⟩:∃W,wr=W:=⟨_,rfl⟩;rw[hW]at HUB HUW ⊢;have c0:W.cell? ⟨lb,m,none⟩=some (byV 0):=by rw[Qa HUB.out,Qje _ _ _ hlt (Uk c)]
   have c1:W.frozen? ⟨lb,m,none⟩=false:=Qk HUB.out m;have c2:lb<W.heap.size:=lt_of_block HUB.out;clear hW;have HM:=QLh hm;clear hm;have ev:Value.int .u8 (((c:Int)+(m:Int) % 3) % 256)=byV ((Qbt c).getD m 0):=by rw[<-QpH c m hlt];congr 1
   have HEV:=QLh ev;have HLT:=QLh hlt;clear ev hlt;go_upto_region 4 with fail;rw[HEV.out];clear c0 c1 c2;have HU2:Hid ((W.setCell ⟨lb,m,none⟩ (byV ((Qbt c).getD m 0))).heap[lb]?=some (.cells (QeY (Qbt c) 32 (m+1)) 5 (0,0))):=QLh (by
    have:=Qc HUB.out (o:=m) (byV ((Qbt c).getD m 0));rw[Qhb _ _ _ HLT.out (Uk c)]at this;exact this)
   have HU4:Hid (Below w.heap.size w (W.setCell ⟨lb,m,none⟩ (byV ((Qbt c).getD m 0)))):=QLh (Ji HUW.out HLB.out _);go_wp2
   go_roundg (gk - 1)
   case rel=>exact⟨m+1,by have:=HM.out;have:=HLT.out;omega,by have:=HLT.out;go_num,HU2,HU4⟩
   case measure=>have:=HM.out;have:=HLT.out;omega
  ·obtain rfl:m=32:=by omega
   have i1:¬((32:Nat):Int)<32:=by decide
   have HUB:=QLh (by have h:=HUB.out;rw[Qgx _ _ (Uk c)]at h;exact h);have cv:(convert 41 9 (.slice (some ⟨lb,0,none⟩) 32 32)).run Tryz.prog wr=.ok (.string (QcN c)) wr:=Um wr lb 0 32 32 (Qbt c) (Uk c) (λ i hi=>QeX HUB.out i (by rw[Uk];exact hi));go_wp2;go_ret;exact⟨rfl,HUW.out⟩
theorem Qks{base n c g m k:Nat}{w:World}{e:TypeId}{xs:List Value}{u:Value}(h:w.ownsRow base e k (.slice (some ⟨g,0,none⟩) n c) n xs):(w.setCell ⟨g,m,none⟩ u).ownsRow base e k (.slice (some ⟨g,0,none⟩) n c) n (xs.set m u):=by
 refine⟨by rw[List.length_set];exact h.1,?_⟩
 rcases h.2 with⟨hz,_⟩ | ⟨g9,cap,cur,hv,hg,hh,h1,h2,h3,h4⟩
 ·cases hz
 ·cases hv
  refine Or.inr ⟨g,c,cur.setIfInBounds m u,rfl,hg,Qc hh u,h1,h2,by rw[Array.size_setIfInBounds];exact h3,?_⟩;rw[Array.toList_setIfInBounds,<-h4,List.take_set]
theorem Qk6{α β:Type}(f:α->List β)(k:Nat)(hf:∀x,(f x).length=k){u:β}{x':α}:∀(l:List α) (i j:Nat) (hi:i<l.length),j<k->f x'=(f l[i]).set j u->(l.flatMap f).set (i * k+j) u=(l.set i x').flatMap f
 | x :: l,0,j,_,hj,hx=>by simp only[List.flatMap_cons,Nat.zero_mul,Nat.zero_add,List.getElem_cons_zero,List.set_cons_zero]at hx ⊢;rw[List.set_append_left _ _ (by rw[hf];exact hj),hx]
 | x :: l,i+1,j,hi,hj,hx=>by simp only[List.flatMap_cons,List.getElem_cons_succ,List.set_cons_succ]at hx ⊢;rw[List.set_append_right _ _ (by rw[hf,Nat.add_mul];omega),hf,show(i+1) * k+j - k=i * k+j by rw[Nat.add_mul];omega];rw[Qk6 f k hf l i j (by simpa using hi) hj hx]
def Qhi(base g c:Nat)(L:List Hdr)(w:World):Prop:=w.ownsRow base 33 4 (.slice (some ⟨g,0,none⟩) (len L) c) (len L) (L.flatMap Hdr.cells)
theorem Qhi.below{base g c:Nat}{L:List Hdr}{w w':World}(h:Qhi base g c L w)(hb:Below w.heap.size w w'):Qhi base g c L w':=Qs h hb
theorem Qhi.set{base g c:Nat}{L:List Hdr}{w:World}(h:Qhi base g c L w){i j:Nat}{u:Value}{r':Hdr}(hi:i<len L)(hj:j<4)(hr:r'.cells=(Xw L i).cells.set j u):Qhi base g c (L.set i r') (w.setCell ⟨g,i * 4+j,none⟩ u):=by
 unfold Qhi;have hl:len (L.set i r')=len L:=by rw[Qy,Qy,List.length_set]
 rw[hl,<-Qk6 Hdr.cells 4 Hdr.cells_len L i j hi hj (by rw[hr,J8 L i hi])];exact Qks h
theorem QgC(L:List Hdr)(i:Nat)(r:Hdr):len (L.set i r)=len L:=by rw[Qy,Qy,List.length_set]
theorem Qsc(L:List Hdr)(i j:Nat)(r:Hdr)(hi:i<len L):Xw (L.set i r) j=if i=j then r else Xw L j:=by
 unfold Xw;rw[List.getD_eq_getElem?_getD,List.getElem?_set,List.getD_eq_getElem?_getD];have hi2:i<L.length:=hi
 by_cases e:i=j
 ·subst e;simp[hi2]
 ·simp[e]
theorem Qhi.lt{base g c:Nat}{L:List Hdr}{w:World}(h:Qhi base g c L w):base<=g/\g<w.heap.size:=h.1 |> λ _=>World.ownsRow.lt h g rfl
structure Qup(w:World)(g i:Nat)(r:Hdr):Prop where
 c0:w.cell? ⟨g,i * 4,none⟩=some (.int .u64 r.rnd)
 c1:w.cell? ⟨g,i * 4+1,none⟩=some (.string r.prev)
 c2:w.cell? ⟨g,i * 4+2,none⟩=some (.string r.txns)
 c3:w.cell? ⟨g,i * 4+3,none⟩=some (.string r.seed)
 f:∀o,w.frozen? ⟨g,o,none⟩=false
theorem Qhi.at{base g c:Nat}{L:List Hdr}{w:World}(h:Qhi base g c L w){i:Nat}(hi:i<len L):Qup w g i (Xw L i):=by
 obtain⟨a,cap,e,hh,_⟩:=Qdm.own h
 cases e
 obtain⟨b,off,e,⟨h0,h1,h2,h3⟩⟩:=hh i hi
 cases e
 rw[Nat.zero_add]at h0 h1 h2 h3
 rcases h.2 with⟨hz,_⟩ | ⟨g9,cap,cur,hv,hg,hb,_⟩
 ·cases hz
 ·cases hv
  exact⟨h0,h1,h2,h3,Qk hb⟩
theorem Qhi.hdrs{base g c:Nat}{L:List Hdr}{w:World}(h:Qhi base g c L w):Qdm w (some ⟨g,0,none⟩) L:=by
 obtain⟨a,cap,e,hh,_⟩:=Qdm.own h
 cases e
 exact hh
theorem Qnj{base n:Nat}{v:Value}{L:List Hdr}{w:World}(h:w.ownsRow base 33 4 v n (L.flatMap Hdr.cells)):(v=.slice none 0 0/\L=[]) \/ ∃g c,v=.slice (some ⟨g,0,none⟩) (len L) c/\Qhi base g c L w:=by
 have hn:len L=n:=by have:=h.1;rw[Yr Hdr.cells 4 Hdr.cells_len]at this;rw[Qy];omega
 rcases h.2 with⟨hv,h0⟩ | ⟨g,cap,cur,hv,hr⟩
 ·exact .inl ⟨hv,List.eq_nil_of_length_eq_zero (by rw[<-Qy];omega)⟩
 ·exact .inr ⟨g,cap,by rw[hn];exact hv,by unfold Qhi;rw[hn,<-hv];exact h⟩
theorem QrB{L:List Hdr}(h:∀i,(Xw L i).Ok){i:Nat}{r:Hdr}(hi:i<len L)(hr:r.Ok):∀j,(Xw (L.set i r) j).Ok:=λ j=>by
 rw[Qsc L i j r hi]
 split
 ·exact hr
 ·exact h j
section
set_option linter.constructorNameAsVariable false
theorem Qg4{base b' n k:Nat}{e:TypeId}{v:Value}{w:World}{xs:List Value}(h:w.ownsRow base e k v n xs)(hb:b'<=base):w.ownsRow b' e k v n xs:=
 ⟨h.1,h.2.imp id (fun ⟨g,cap,cur,hv,hg,r⟩=>⟨g,cap,cur,hv,Nat.le_trans hb hg,r⟩)⟩
def QcX(f c i:Nat):Hdr:=⟨((f:Int)+(i:Int)) % 18446744073709551616,QcN c,QcN ((c+1) % 256),QcN ((c+2) % 256)⟩
def Quf(l:List Int)(i:Nat):Nat:=(nth l i).toNat
def Qlr(f:Nat)(l:List Int)(n:Nat):List Hdr:=(List.range n).map λ i=>QcX f (Quf l i) i
theorem QkP(f:Nat)(l:List Int)(n:Nat):len (Qlr f l n)=n:=by unfold Qlr;rw[Qy];simp
theorem QnU(f:Nat)(l:List Int)(n:Nat):Qlr f l (n+1)=Qlr f l n++[QcX f (Quf l n) n]:=by unfold Qlr;rw[List.range_succ,List.map_append];rfl
theorem Qsj(f:Nat)(l:List Int){n i:Nat}(h:i<n):Xw (Qlr f l n) i=QcX f (Quf l i) i:=by unfold Qlr;rw[J8 _ i (by simpa using h)];simp
theorem QkA(f c i:Nat):(QcX f c i).Ok:=⟨⟨by show(0:Int)<=((f:Int)+(i:Int)) % 18446744073709551616;omega,by show((f:Int)+(i:Int)) % 18446744073709551616<=18446744073709551615;omega⟩,by unfold QcX;rw[Uv];decide,by unfold QcX;rw[Uv];decide,by unfold QcX;rw[Uv];decide⟩
def Qpk(o0 o1:Nat)(L:List Hdr):List Hdr:=
 if o1<len L then
  (if o0 % 8=1 then L.set o1 { Xw L o1 with rnd:=((Xw L o1).rnd+1) % 18446744073709551616 }
   else if o0 % 8=2 then L.set o1 { Xw L o1 with txns:=(Xw L o1).txns.extract 1 (Xw L o1).txns.size } else L)
 else L
def QoI(f:Nat)(l:List Int)(o0 o1:Nat):List Hdr:=Qpk o0 o1 (Qlr f l (min (len l) 70))
theorem Qol(f:Nat)(l:List Int)(n:Nat):∀i,(Xw (Qlr f l n) i).Ok:=hoks (λ p hp=>by
 unfold Qlr at hp;obtain⟨i,_,rfl⟩:=List.mem_map.1 hp;exact QkA _ _ _)
theorem QqU(o0 o1:Nat)(L:List Hdr):len (Qpk o0 o1 L)=len L:=by
 unfold Qpk
 split
 ·split
  ·rw[QgC]
  ·split
   ·rw[QgC]
   ·rfl
 ·rfl
theorem Qsx{o0 o1:Nat}{L:List Hdr}(h:∀i,(Xw L i).Ok):∀i,(Xw (Qpk o0 o1 L) i).Ok:=by
 unfold Qpk
 split
 ·rename_i ho
  split
  ·exact QrB h ho ⟨⟨Int.emod_nonneg _ (by decide),Int.le_of_lt_add_one (Int.emod_lt_of_pos _ (by decide))⟩,(h o1).p1,(h o1).t1,(h o1).s1⟩
  ·split
   ·exact QrB h ho ⟨(h o1).r0,(h o1).p1,by
     show((Xw L o1).txns.extract 1 _).size<=_;rw[ByteArray.size_extract];have:=(h o1).t1;omega,(h o1).s1⟩
   ·exact h
 ·exact h
theorem QoR{base b' g c i:Nat}{L R:List Hdr}{r':Hdr}{W:World}(h:Qhi base g c (L.set i r') W)(hR:R=L.set i r')(hb:b'<=base):W.ownsRow b' 33 4 (.slice (some ⟨g,0,none⟩) (len L) c) (len R) (R.flatMap Hdr.cells):=by subst hR;have h2:=Qg4 h hb;rw[QgC]at h2 ⊢;exact h2
def Qsh(f:Nat)(l:List Int)(o0 o1:Nat)(w:World)(e:Ending)(w':World):Prop:=∃v,e=.returned v/\w'.ownsRow w.heap.size 33 4 v (len (QoI f l o0 o1)) ((QoI f l o0 o1).flatMap Hdr.cells)/\Below w.heap.size w w'
theorem Qic(f:Nat)(l:List Int)(a:Option Addr)(cap o0 o1:Nat)(w:World)(hf:f<18446744073709551616)(hc:U8s w a l)(hl:∀i,0<=nth l i/\nth l i<=255)(hn:len l<=9223372036854775807)(h0:o0<=255)(h1:o1<=255):
  Calls Tryz.prog 48 #[.int .u64 (f:Nat),.slice a (len l) cap,.agg #[.int .u8 (o0:Nat),.int .u8 (o1:Nat)]] w (Qsh f l o0 o1 w):=by
 have HC:=QLh hc;have HLT:=QLh hl;have HF:=QLh hf;have HN:=QLh hn;have H0:=QLh h0;have H1:=QLh h1;obtain⟨i0,hi,hz0,hz1,hz2⟩:=info_parts Qrb;have HZ0:=QLh hz0;clear hc hl hf hn h0 h1 hz0
 go_enter Tryz.func48,Tryz.ntmps48
 go_upto_region 1 with fail;obtain⟨V,hV⟩:∃V,w.alloc (.cells #[.int .u8 (o0:Nat),.int .u8 (o1:Nat)] 70)=V:=⟨_,rfl⟩;obtain⟨ob,hob⟩:∃ob,w.heap.size=ob:=⟨_,rfl⟩;have HV:Hid (Below w.heap.size w V):=QLh (by rw[<-hV];exact Qf (Below.refl _ _) _);have HOB:Hid (V.heap[ob]?=some (.cells #[.int .u8 (o0:Nat),.int .u8 (o1:Nat)] 70 (0,0))):=QLh (by rw[<-hV,<-hob];exact heap_alloc_new _ _);rw[hV,hob];clear hV hob;go_wp2
 go_loopg [8,7] 70 (λ gg i v wr=>∃m:Nat,gg+m=70/\i=.int .i64 (m:Nat)/\Hid (m<=len l)/\Hid (Below V.heap.size V wr)/\Hid (wr.ownsRow V.heap.size 33 4 v m ((Qlr f l m).flatMap Hdr.cells)))
 case atStart=>exact⟨0,rfl,rfl,QLh (Nat.zero_le _),QLh (Below.refl _ _),QLh (World.ownsRow_nil _ _ _ _)⟩
 case round=>
  obtain⟨m,hm,rfl,HML,HB,HOWN⟩:=hrel
  by_cases hin:m<len l/\m<70
  ·obtain⟨hlt,h70⟩:=hin
   have b0:(m:Int)<len l:=by omega
   have b1:(m:Int)<70:=by omega
   obtain⟨pb,po,rfl,cs⟩:=((HC.out.below HV.out).below HB.out) m hlt;obtain⟨c,hcc⟩:∃c,Quf l m=c:=⟨_,rfl⟩;have hx:=HLT.out m;have ec:nth l m=((c:Nat):Int):=by rw[<-hcc];unfold Quf;omega
   have HCB:Hid (c<=255):=QLh (by omega);have HCE:=QLh hcc;rw[ec]at cs;have HM:=QLh hm;have H70:=QLh h70;have HLL:=QLh hlt;have kw:IntKind.u64.wrap ((m:Nat):Int)=((m:Nat):Int):=IntWalk.u64_in _ (by omega);obtain⟨X,hX⟩:∃X,IntKind.u64.wrap ((f:Int)+(m:Int))=X:=⟨_,rfl⟩;have HXE:Hid (((f:Int)+(m:Int)) % 18446744073709551616=X):=QLh (by rw[<-hX,IntKind.wrap_u64]);clear ec hx hcc hm h70 hlt;have HNL:=HN.out;go_wp2_with fail;refine(Qbo c _ HCB.out).mono ?_;rintro e w1 ⟨rfl,hb⟩;have HB1:=QLh (Qj HB.out hb);have HO1:=QLh (Qs HOWN.out hb);clear hb cs kw;obtain⟨c1,hc1⟩:∃c1,(c+1) % 256=c1:=⟨_,rfl⟩;obtain⟨c2,hc2⟩:∃c2,(c+2) % 256=c2:=⟨_,rfl⟩;have HK1:Hid (((c:Int)+1) % 256=((c1:Nat):Int)/\c1<=255):=QLh ⟨by omega,by omega⟩;have HK2:Hid (((c:Int)+2) % 256=((c2:Nat):Int)/\c2<=255):=QLh ⟨by omega,by omega⟩;have HRW:Hid (QcX f c m=⟨((f:Int)+(m:Int)) % 18446744073709551616,QcN c,QcN c1,QcN c2⟩):=QLh (by unfold QcX;rw[hc1,hc2]);clear hc1 hc2;go_wp2_with fail;rw[HK1.out.1];refine(Qbo c1 _ HK1.out.2).mono ?_;rintro e w2 ⟨rfl,hb⟩;have HB2:=QLh (Qj HB1.out hb);have HO2:=QLh (Qs HO1.out hb);clear hb;go_wp2_with fail;rw[HK2.out.1];refine(Qbo c2 _ HK2.out.2).mono ?_;rintro e w3 ⟨rfl,hb⟩;have HB3:=QLh (Qj HB2.out hb);have HO3:=QLh (Qs HO2.out hb);clear hb;obtain⟨t0,ht0⟩:∃t,QcN c=t:=⟨_,rfl⟩;obtain⟨t1,ht1⟩:∃t,QcN c1=t:=⟨_,rfl⟩;obtain⟨t2,ht2⟩:∃t,QcN c2=t:=⟨_,rfl⟩;rw[HXE.out,ht0,ht1,ht2]at HRW;rw[ht2];simp only[ht0,ht1];clear hX ht0 ht1 ht2
   go_wp2_with (at_builtin;refine wpList_append_lies _ rfl _ _ 22 rfl V.heap.size 33 i0 Hdr.zero.val 4 56 Tryz.underlying22 hi HZ0.out hz1 hz2 rfl (by decide) _ m _ rfl (HO3.out.alloc _) ⟨w3.heap.size,0,none⟩ 1 1 (Hdr.cells ⟨X,t0,t1,t2⟩) rfl rfl ?d1 (Hdr.cells_one _) (by decide) ?d4 ?d5 ?d6 _ rfl ?_)
   case d1=>exact World.news_of_block (Qg _ rfl)
   case d4=>unfold maxLen;have:=H70.out;omega
   case d5=>have:=H70.out;omega
   case d6=>have:=HB3.out.size;simp;omega
   intro g cp w4 hown hgrow hat hgl;have HB4:=QLh (Qq (Qf HB3.out _) hgrow (λ q hq=>(HO3.out.lt q hq).1));have HO4:Hid (w4.ownsRow V.heap.size 33 4 (.slice (some ⟨g,0,none⟩) (m+1) cp) (m+1) ((Qlr f l (m+1)).flatMap Hdr.cells)):=QLh (by
    rw[QnU,HCE.out,HRW.out,List.flatMap_append]
    simpa using hown)
   clear hown hgrow hat hgl;have h70:=H70.out;go_wp2
   go_roundg (gk - 1)
   case rel=>exact⟨m+1,by have:=HM.out;omega,by go_num,QLh HLL.out,HB4,HO4⟩
   case measure=>have:=HM.out;omega
  ·have hex:(¬(m:Int)<len l) \/ ((m:Int)<len l/\¬(m:Int)<70):=by omega
   have HMM:Hid (min (len l) 70=m):=QLh (by have:=HML.out;omega);obtain⟨L,hL⟩:∃L,Qlr f l m=L:=⟨_,rfl⟩;have HRO:Hid (QoI f l o0 o1=Qpk o0 o1 L):=QLh (by unfold QoI;rw[HMM.out,hL]);have hln:len L=m:=by rw[<-hL,QkP]
   have HO:=QLh HOWN.out;rw[hL,<-hln]at HO;have HBB:=QLh HB.out;have HB0:Hid (wr.heap[ob]?=some (.cells #[.int .u8 (o0:Nat),.int .u8 (o1:Nat)] 70 (0,0))):=QLh ((HB.out.block _ (lt_of_block HOB.out)).trans HOB.out);have c0:wr.cell? ⟨ob,0,none⟩=some (.int .u8 (o0:Nat)):=Qa HB0.out 0;have c1:wr.cell? ⟨ob,1,none⟩=some (.int .u8 (o1:Nat)):=Qa HB0.out 1;have kw:IntKind.i64.wrap ((o1:Nat):Int)=((o1:Nat):Int):=by have:=H1.out;exact IntWalk.i64_in _ (by omega)
   have HM70:Hid (len L<=70):=QLh (by omega)
   by_cases ho:o1<len L
   ·have d0:(o1:Int)<len L:=by omega
    rcases Qnj HO.out with⟨-,hnil⟩ | ⟨g,c,rfl,hoo⟩
    ·rw[hnil]at ho;exact absurd ho (by show ¬o1<0;omega)
    have HOO:=QLh hoo;have HGB:=QLh hoo.lt;obtain⟨e0,e1,e2,e3,fz⟩:=hoo.at ho;have HROK:Hid (Xw L o1).Ok:=QLh (by rw[<-hL];exact Qol f l m o1);obtain⟨r,hr⟩:∃r,Xw L o1=r:=⟨_,rfl⟩;rw[hr]at e0 e1 e2 e3 HROK;have HTZ:Hid (r.txns.size=32):=QLh (by rw[<-hr,<-hL,Qsj f l (by omega)];exact Uv _);have HRE:=QLh hr;have HOL:=QLh ho;clear hr hoo hL hm hin hln
    by_cases q1:o0 % 8=1
    ·have k1:(((o0:Nat):Int) % 8 == 1)=true:=by simp;omega
     obtain⟨X,hX⟩:∃X,IntKind.u64.wrap (r.rnd+1)=X:=⟨_,rfl⟩;have HXE:Hid ((r.rnd+1) % 18446744073709551616=X):=QLh (by rw[<-hX,IntKind.wrap_u64]);have HEQ:Hid (QoI f l o0 o1=L.set o1 { r with rnd:=X }):=QLh (by rw[HRO.out];unfold Qpk;rw[if_pos HOL.out,if_pos q1,HRE.out,HXE.out]);clear q1
     rcases hex with h1 | ⟨h1,h2⟩
     all_goals
      go_upto_region 14 with fail;have HSS:Hid (Qhi V.heap.size g c (L.set o1 { r with rnd:=X }) (wr.setCell ⟨g,o1 * 4,none⟩ (.int .u64 X))):=QLh (HOO.out.set (j:=0) HOL.out (by decide) (by rw[HRE.out];rfl));have HBS:Hid (Below V.heap.size V (wr.setCell ⟨g,o1 * 4,none⟩ (.int .u64 X))):=QLh (Ji HBB.out HGB.out.1 _);go_wp2;go_ret;exact⟨_,rfl,QoR HSS.out HEQ.out HV.out.size,Qj HV.out HBS.out⟩
    ·have k1:(((o0:Nat):Int) % 8 == 1)=false:=by simp;omega
     by_cases q2:o0 % 8=2
     ·have k2:(((o0:Nat):Int) % 8 == 2)=true:=by simp;omega
      obtain⟨X,hX⟩:∃X,r.txns.extract 1 r.txns.size=X:=⟨_,rfl⟩;have HEQ:Hid (QoI f l o0 o1=L.set o1 { r with txns:=X }):=QLh (by rw[HRO.out];unfold Qpk;rw[if_pos HOL.out,if_neg q1,if_pos q2,HRE.out,hX]);have sz1:¬r.txns.size<1:=by have:=HTZ.out;omega
      have sz2:1<=r.txns.size:=by have:=HTZ.out;omega
      clear q1 q2
      rcases hex with h1 | ⟨h1,h2⟩
      all_goals
       go_upto_region 14 with fail;have HSS:Hid (Qhi V.heap.size g c (L.set o1 { r with txns:=X }) (wr.setCell ⟨g,o1 * 4+2,none⟩ (.string X))):=QLh (HOO.out.set (j:=2) HOL.out (by decide) (by rw[HRE.out];rfl));have HBS:Hid (Below V.heap.size V (wr.setCell ⟨g,o1 * 4+2,none⟩ (.string X))):=QLh (Ji HBB.out HGB.out.1 _);go_wp2;go_ret;exact⟨_,rfl,QoR HSS.out HEQ.out HV.out.size,Qj HV.out HBS.out⟩
     ·have k2:(((o0:Nat):Int) % 8 == 2)=false:=by simp;omega
      have HEQ:Hid (QoI f l o0 o1=L):=QLh (by rw[HRO.out];unfold Qpk;rw[if_pos HOL.out,if_neg q1,if_neg q2]);clear q1 q2
      rcases hex with h1 | ⟨h1,h2⟩
      all_goals
       go_wp2;go_ret;exact⟨_,rfl,Qg4 (by rw[HEQ.out];exact HO.out) HV.out.size,Qj HV.out HBB.out⟩
   ·have d0:¬(o1:Int)<len L:=by omega
    have HEQ:Hid (QoI f l o0 o1=L):=QLh (by rw[HRO.out];unfold Qpk;rw[if_neg ho]);obtain⟨a9,c9,hv9,_⟩:=Qdm.own HO.out;subst hv9;clear ho hL hm hin hln
    rcases hex with h1 | ⟨h1,h2⟩
    all_goals
     go_wp2;go_ret;exact⟨_,rfl,Qg4 (by rw[HEQ.out];exact HO.out) HV.out.size,Qj HV.out HBB.out⟩
end
def abT:List ByteArray:=[⟨#[97]⟩,⟨#[98]⟩]
theorem Qkr{w:World}{b:Nat}{t:TypeId}{fr:Nat × Nat}(h:w.heap[b]?=some (.cells #[.string ⟨#[97]⟩,.string ⟨#[98]⟩] t fr)):Jk w (some ⟨b,0,none⟩) abT:=λ i hi=>⟨b,0,rfl,by
 have hi:i<2:=hi;rw[Qa h,Nat.zero_add];have:i=0 \/ i=1:=by omega
 rcases this with rfl | rfl <;> rfl⟩
theorem Qk2:∀i,i<len abT->(tth abT i).size<=1:=λ i hi=>by
 have hi:i<2:=hi;have:i=0 \/ i=1:=by omega
 rcases this with rfl | rfl <;> decide
theorem Qa8{w:World}{b:Nat}{t:TypeId}{fr:Nat × Nat}{s:ByteArray}(h:w.heap[b]?=some (.cells #[.string s] t fr)):Jk w (some ⟨b,0,none⟩) [s]:=λ i hi=>⟨b,0,rfl,by
 have hi:i<1:=hi;obtain rfl:i=0:=by omega
 rw[Qa h];rfl⟩
theorem oks1{x:Hdr}(hx:x.Ok):∀i,(Xw [x] i).Ok:=hoks (λ p hp=>by
 rw[List.mem_singleton.1 hp];exact hx)
theorem nilB:(⟨#[]⟩:ByteArray).toList=[]:=by kernel_rfl
theorem QrA(s:ByteArray):s.toList.isEmpty=decide (s.size=0):=by
 have h:=Yq s ⟨#[]⟩;rw[nilB]at h
 by_cases e:s.size=0
 ·have:s=⟨#[]⟩:=ByteArray.ext (Array.eq_empty_of_size_eq_zero e)
  rw[this,nilB];rfl
 ·have hn:¬s=⟨#[]⟩:=λ h9=>e (by rw[h9];rfl)
  rw[decide_eq_false hn]at h;rw[decide_eq_false e]
  cases hs:s.toList with
  | nil=>rw[hs]at h;cases h
  | cons x l=>rfl
def Qbq(s:ByteArray):Bool:=decide (0<s.size) && decide (s.size<=64)
theorem QhR(s:ByteArray)(w:World)(hs:s.size<=9223372036854775807):Calls Tryz.prog 120 #[.string s] w λ e w'=>e=.returned (.bool (Qbq s))/\Below w.heap.size w w':=by
 by_cases h0:s.size=0
 ·have te:s.toList.isEmpty=true:=by rw[QrA,decide_eq_true h0]
  have HE:Hid (Qbq s=false):=QLh (by unfold Qbq;rw[decide_eq_false (by omega)];rfl);clear h0
  go_enter Tryz.func120,Tryz.ntmps120
  go_wp2;go_ret;exact⟨by rw[HE.out];rfl,Below.refl _ _⟩
 ·have te:s.toList.isEmpty=false:=by rw[QrA,decide_eq_false h0]
  by_cases h1:s.size<=64
  ·have i1:((s.size:Nat):Int)<=64:=by omega
   have HE:Hid (Qbq s=true):=QLh (by unfold Qbq;rw[decide_eq_true (by omega:0<s.size),decide_eq_true h1];rfl);clear h0 h1
   go_enter Tryz.func120,Tryz.ntmps120
   go_wp2;go_ret;exact⟨by rw[HE.out];rfl,Below.refl _ _⟩
  ·have i1:¬((s.size:Nat):Int)<=64:=by omega
   have HE:Hid (Qbq s=false):=QLh (by unfold Qbq;rw[decide_eq_false h1];simp);clear h0 h1
   go_enter Tryz.func120,Tryz.ntmps120
   go_wp2;go_ret;exact⟨by rw[HE.out];rfl,Below.refl _ _⟩
theorem Qo3(i:Int)(s:ByteArray)(w:World)(hs:s.size<=9223372036854775807):Calls Tryz.prog 119 #[.int .i64 i,.string s] w λ e w'=>e=.returned (.tuple #[.string s,.bool (Qbq s)])/\Below w.heap.size w w':=by
 go_enter Tryz.func119,Tryz.ntmps119
 go_wp2_with fail;refine(QhR s w hs).mono ?_;rintro e w1 ⟨rfl,hb⟩;go_wp2
 go_ret2
 exact⟨rfl,hb⟩
structure BeSt(l:List ByteArray)(w wr:World)(v:Value)(m:Nat):Prop where
 b:Below w.heap.size w wr
 o:wr.ownsRow w.heap.size 9 1 v m ((l.take m).map Value.string)
 y:∀j,j<m->Qbq (tth l j)=true
def QuI(l:List ByteArray)(w:World)(e:Ending)(w':World):Prop:=∃v,e=.returned (.tuple #[v,.bool (Qfl l)])/\(Qfl l=true->Zk l v w')/\Below w.heap.size w w'
theorem Qqg{s:ByteArray}(h:Qbq s=true):0<s.size/\s.size<=64:=by
 unfold Qbq at h
 simpa using h
theorem QpW{s:ByteArray}(h:Qbq s=false):¬(0<s.size/\s.size<=64):=λ h9=>by unfold Qbq at h;rw[decide_eq_true h9.1,decide_eq_true h9.2]at h;exact absurd h (by decide)
theorem Qma(l:List ByteArray)(m:Nat)(h:m<len l):l.take (m+1)=l.take m++[tth l m]:=by have h2:m<l.length:=h;rw[List.take_succ_eq_append_getElem h2,Y9 l m h2]
theorem Qox(l:List ByteArray):l.take (len l)=l:=by rw[Qy];exact List.take_length
theorem Qq8(l:List ByteArray)(a:Option Addr)(cap:Nat)(w:World)(hc:Jk w a l)(hn:len l<=100000)(hz:∀i,i<len l->(tth l i).size<=9223372036854775807):
  Calls Tryz.prog 118 #[.slice a (len l) cap,.int .i64 64,.func (.func 119) #[] #[]] w (QuI l w):=by
 have HC:=QLh hc;have HN:=QLh hn;have HZZ:=QLh hz;clear hc hn hz;obtain⟨i0,hi,hz0,hz1,hz2⟩:=info_parts U6;have HZ:=QLh hz0;clear hz0
 go_enter Tryz.func118,Tryz.ntmps118
 go_wp2
 go_loopg [15,8] (len l) (λ gg i v wr=>∃m:Nat,gg+m=len l/\i=.int .i64 (m:Nat)/\Hid (BeSt l w wr v m))
 case atStart=>exact⟨0,rfl,rfl,QLh ⟨Below.refl _ _,World.ownsRow_nil _ _ _ _,λ j h=>by omega⟩⟩
 case round=>
  obtain⟨m,hm,rfl,HS⟩:=hrel
  by_cases hlt:m<len l
  ·have b0:(m:Int)<len l:=by omega
   obtain⟨pb,po,rfl,cs⟩:=(HC.out.below HS.out.b) m hlt;have HSZ:=QLh (HZZ.out m hlt);obtain⟨x,hx⟩:∃x,tth l m=x:=⟨_,rfl⟩;rw[hx]at cs HSZ;have HX:=QLh hx;have HLT:=QLh hlt;have HM:=QLh hm;clear hx hlt;go_wp2_with fail;refine(Qo3 _ x _ HSZ.out).mono ?_;rintro e w1 ⟨rfl,hb⟩;have HB1:Hid (Below w.heap.size w w1):=QLh (Qj HS.out.b hb);have HO1:=QLh (Qs HS.out.o hb);clear hb cs
   cases hbx:Qbq x with
   | true=>
    have HBX:=QLh hbx;clear hbx
    go_wp2_with (at_builtin;refine wpList_append_own _ rfl _ _ 36 rfl w.heap.size 9 i0 (.string ⟨#[]⟩) 1 16 Tryz.underlying36 hi HZ.out hz1 hz2 rfl (by decide) _ _ _ rfl (HO1.out.alloc _) ⟨w1.heap.size,0,none⟩ 1 1 [.string x] rfl rfl ?c1 ?c2 ?c3 ?c4 ?c5 ?_)
    case c1=>exact World.news_of_block (Qg _ rfl)
    case c2=>intro u hu;simp at hu;subst hu;rfl
    case c3=>unfold maxLen;have:=HN.out;have:=HLT.out;omega
    case c4=>have:=HN.out;have:=HLT.out;omega
    case c5=>have:=HB1.out.size;simp;omega
    intro v' w2 hown' hgrow _;have HB3:Hid (Below w.heap.size w w2):=QLh (Qq (Qf HB1.out _) hgrow (λ k hk=>(HO1.out.lt k hk).1));have HO3:Hid (w2.ownsRow w.heap.size 9 1 v' (m+1) ((l.take (m+1)).map Value.string)):=QLh (by
     rw[Qma l m HLT.out,HX.out,List.map_append,List.map_take];exact hown')
    clear hown' hgrow;have HNN:=HN.out;go_wp2
    go_roundg (gk - 1)
    case rel=>exact⟨m+1,by have:=HM.out;have:=HLT.out;omega,by have:=HLT.out;go_num,QLh ⟨HB3.out,HO3.out,λ j hj=>by
     by_cases e:j=m
     ·subst e;rw[HX.out];exact HBX.out
     ·exact HS.out.y j (by omega)⟩⟩
    case measure=>have:=HM.out;have:=HLT.out;omega
   | false=>
    have HE:Hid (Qfl l=false):=QLh (Qqr HLT.out (by rw[HX.out];exact QpW hbx));clear hbx;go_wp2
    go_ret2
    exact⟨.slice none 0 0,by rw[HE.out];rfl,λ h=>absurd h (by rw[HE.out];decide),HB1.out⟩
  ·obtain rfl:m=len l:=by omega
   have b0:¬((len l:Nat):Int)<(len l:Nat):=by omega
   have HSO:=QLh HS.out.o;rw[Qox]at HSO;have HSB:=QLh HS.out.b;have HY:=QLh (λ i (hi:i<len l)=>Qqg (HS.out.y i hi))
   by_cases h0:len l=0
   ·have c1:¬(1:Int)<=len l:=by omega
    have HE:Hid (Qfl l=false):=QLh (QjI (by omega));clear h0;go_wp2
    go_ret2
    exact⟨_,by rw[HE.out];rfl,λ h=>absurd h (by rw[HE.out];decide),HSB.out⟩
   ·have c1:(1:Int)<=len l:=by omega
    by_cases h64:len l<=64
    ·have c2:(len l:Int)<=64:=by omega
     have HE:Hid (Qfl l=true):=QLh (Qtc (by omega) h64 HY.out);clear h0 h64;go_wp2
     go_ret2
     exact⟨_,by rw[HE.out];rfl,λ h=>Zk.own HSO.out,HSB.out⟩
    ·have c2:¬(len l:Int)<=64:=by omega
     have HE:Hid (Qfl l=false):=QLh (QjI (by omega));clear h0 h64;go_wp2
     go_ret2
     exact⟨_,by rw[HE.out];rfl,λ h=>absurd h (by rw[HE.out];decide),HSB.out⟩
theorem Qf2(els:List ByteArray)(a:Option Addr)(cap k:Nat)(w:World)(ht:Jk w a els)(hn:len els<=65536)(hz:∀i,i<len els->(tth els i).size<=140737488355200)(hk:k<len els):
  Calls Tryz.prog 105 #[.slice a (len els) cap,.int .i64 (k:Nat)] w λ e w'=>∃v,e=.returned (.tuple #[v,.int .i64 0])/\Zk (Qdn els k) v w'/\Below w.heap.size w w':=by
 have HT:=QLh ht;have HN:=QLh hn;have HZ:=QLh hz;have HK:=QLh hk;clear ht hn hz hk;have kw:IntKind.u64.wrap ((k:Nat):Int)=((k:Nat):Int):=by have:=HN.out;have:=HK.out;exact IntWalk.u64_in _ (by omega)
 go_enter Tryz.func105,Tryz.ntmps105
 go_wp2_with fail;refine(Qij els a cap w HT.out HN.out HZ.out).mono ?_;rintro e w1 ⟨b,rfl,hs,ht,hb⟩;have HTR:=QLh ht;have HB:=QLh hb;clear hs ht hb;go_wp2_with fail;refine(QqA els b [((k:Nat):Int)] (some ⟨w1.heap.size,0,none⟩) 1 _ (HTR.out.below (Qf (Below.refl _ _) _)) HN.out (λ i hi=>⟨_,0,rfl,by
  have hi:i<1:=hi;obtain rfl:i=0:=by omega
  rw[Qa (heap_alloc_new _ _)];rfl⟩) (by show 1<=12;decide) (Qj4 HN.out HK.out) (Qjo HK.out)).mono ?_
 rintro e w2 ⟨v,rfl,ho,hb⟩;have HB2:Hid (Below w.heap.size w w2):=QLh (Qj (Qf HB.out _) hb);have HV:Hid (Zk (Qdn els k) v w2):=QLh (Zk.own ho);clear hb ho;go_wp2
 go_ret2
 exact⟨v,rfl,HV.out,HB2.out⟩
end Go.Proofs.YtpobhbdomldecaaGreatDoor

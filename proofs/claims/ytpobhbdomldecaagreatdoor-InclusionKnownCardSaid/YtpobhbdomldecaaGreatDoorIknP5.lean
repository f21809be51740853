/- Parts of the proof, one behind the other. -/
import Derived.Test.YtpobhbdomldecaaGreatDoorIknP4
import Derived.LaidMore
import Derived.LaidHandle
import Derived.Stop.Joined
import Derived.ChangeVars
import Derived.JoinedOf
import Derived.RowKitTokens
import Derived.Test.YtpobhbdomldecaaGreatDoorCards
import Derived.Test.YtpobhbdomldecaaGreatDoorTie
import Derived.SevenTiedAt
namespace Go.Proofs.YtpobhbdomldecaaGreatDoor
open Go.RowKit
set_option linter.unusedSimpArgs false
set_option linter.unusedVariables false
set_option maxRecDepth 100000 in
set_option maxHeartbeats 2000000 in
theorem itxn_any(l:List ByteArray)(a:Option Addr)(cap:Nat)(i:Int)(w:World)(hc:Txts w a l)(hn:len l≤65536)(hz:∀i,i<len l→(tth l i).size≤140737488355200):
  Calls Tryz.prog 60 #[.slice a (len l) cap,.int .i64 i] w (ItIs l i w):=by
 have HZ:=Lib.hid hz;have HN:=Lib.hid hn;have HEL:=Lib.hid (ielS_any l a cap w hc (by omega) (λ i hi=>Nat.le_trans (hz i hi) (by decide)));clear hc hn hz
 cases hb:bdOk l with
 | false=>
  have HE:=Lib.hid (it_no (i:=i) hb)
  go_enter Tryz.func60,Tryz.ntmps60
  go_wp2_with fail
  refine HEL.out.mono ?_
  rintro e w1 ⟨v,rfl,hv,hbl⟩
  rw[hb]
  have HB:=Lib.hid hbl;clear hv hbl hb HEL
  go_wp2
  go_ret2
  exact⟨_,by rw[HE.out.2];rfl,by rw[HE.out.1];exact TextsAre.nil _,HB.out⟩
 | true=>
  have HBD:=Lib.hid hb
  by_cases hi:0≤i∧i<(len l:Nat)
  ·obtain⟨k,rfl⟩:=Int.eq_ofNat_of_zero_le hi.1
   have hk:k<len l:=by omega
   have HE:=Lib.hid (it_some hb hk);have HK:=Lib.hid hk;have i1:¬((k:Nat):Int)<0:=by omega
   have i2:¬((len l:Nat):Int)≤((k:Nat):Int):=by omega
   have i3:¬len l≤k:=by omega
   clear hi hk
   go_enter Tryz.func60,Tryz.ntmps60
   go_wp2_with fail
   refine HEL.out.mono ?_
   rintro e w1 ⟨v,rfl,hv,hbl⟩
   obtain⟨a1,c1,rfl,ht,-,-⟩:=hv hb
   rw[hb]
   have HB:=Lib.hid hbl;have HT:=Lib.hid ht;clear hv hbl ht hb HEL
   go_wp2_with fail
   refine(iprove_any l a1 c1 k w1 HT.out HN.out HZ.out HK.out).mono ?_
   rintro e w2 ⟨v,rfl,hv,hb⟩
   have HB2:=Lib.hid (bnext HB.out hb);have HV:=Lib.hid hv;clear hv hb
   go_wp2
   go_ret2
   exact⟨v,by rw[HE.out.2];rfl,by rw[HE.out.1];exact HV.out,HB2.out⟩
  ·have HE:=Lib.hid (it_none hb hi)
   have HI:=Lib.hid hi
   by_cases h0:i<0
   ·clear hi
    go_enter Tryz.func60,Tryz.ntmps60
    go_wp2_with fail
    refine HEL.out.mono ?_
    rintro e w1 ⟨v,rfl,hv,hbl⟩
    obtain⟨a1,c1,rfl,ht,-,-⟩:=hv hb
    rw[hb]
    have HB:=Lib.hid hbl;clear hv hbl ht hb HEL
    go_wp2
    go_ret2
    exact⟨_,by rw[HE.out.2];rfl,by rw[HE.out.1];exact TextsAre.nil _,HB.out⟩
   ·have i2:((len l:Nat):Int)≤i:=by omega
    clear hi
    go_enter Tryz.func60,Tryz.ntmps60
    go_wp2_with fail
    refine HEL.out.mono ?_
    rintro e w1 ⟨v,rfl,hv,hbl⟩
    obtain⟨a1,c1,rfl,ht,-,-⟩:=hv hb
    rw[hb]
    have HB:=Lib.hid hbl;clear hv hbl ht hb HEL
    go_wp2
    go_ret2
    exact⟨_,by rw[HE.out.2];rfl,by rw[HE.out.1];exact TextsAre.nil _,HB.out⟩
end Go.Proofs.YtpobhbdomldecaaGreatDoor
namespace Go.Proofs.YtpobhbdomldecaaGreatDoor
open Go.RowKit
set_option linter.unusedSimpArgs false
set_option linter.unusedVariables false
set_option linter.constructorNameAsVariable false
set_option maxRecDepth 100000 in
theorem lroot27_any(els:List ByteArray)(a:Option Addr)(cap:Nat)(w:World)(ht:Txts w a els)(hn:len els≤65536)(hz:∀i,i<len els→(tth els i).size≤140737488355200):
  Calls Tryz.prog 64 #[.slice a (len els) cap] w λ e w'=>e=.returned (.string (treeR els))∧Below w.heap.size w w':=by
 have HB:=Lib.hid (build_any els a cap w ht hn hz);clear ht hn hz
 go_enter Tryz.func64,Tryz.ntmps64
 go_wp2_with fail
 refine HB.out.mono ?_
 rintro e w1 ⟨b,rfl,hs,ht,hb⟩
 have HT:=Lib.hid ht;have HB1:=Lib.hid hb;clear hs ht hb HB
 go_wp2_with fail
 refine(root_any els b w1 HT.out).mono ?_
 rintro e w2 ⟨rfl,rfl⟩
 rw[show plD els (depN els) (depN els) 0=treeR els from rfl]
 go_wp2
 go_ret
 exact⟨rfl,HB1.out⟩
end Go.Proofs.YtpobhbdomldecaaGreatDoor
namespace Go.Proofs.YtpobhbdomldecaaGreatDoor
open Go.RowKit
set_option linter.unusedSimpArgs false
set_option linter.unusedVariables false
set_option maxRecDepth 100000 in
set_option maxHeartbeats 4000000 in
theorem alike27_any(la lb:List ByteArray)(a b:Option Addr)(ca cb:Nat)(w:World)(ha:Txts w a la)(hb:Txts w b lb)(hn:len la≤1000000)(hn2:len lb≤1000000):Calls Tryz.prog 51 #[.slice a (len la) ca,.slice b (len lb) cb] w λ e w'=>e=.returned (.bool (decide (la=lb)))∧Below w.heap.size w w':=by
 have HA:=Lib.hid ha;have HB:=Lib.hid hb;have HN:=Lib.hid hn;have HN2:=Lib.hid hn2;clear ha hb
 by_cases hl:len la=len lb
 ·have l1:((len la:Nat):Int)=(len lb:Nat):=by omega
  have HL:=Lib.hid hl;clear hn hn2 hl
  go_enter Tryz.func51,Tryz.ntmps51
  go_wp2
  go_loopg [5] (len la) (λ g i wr=>∃m:Nat,g+m=len la∧i=.int .i64 m∧Hid (∀j,j<m→tth la j=tth lb j)∧Hid (Below w.heap.size w wr))
  case atStart=>exact⟨0,rfl,rfl,Lib.hid (λ j hj=>by omega),Lib.hid (Below.refl _ _)⟩
  case round=>
   obtain⟨m,hm,rfl,HE,HW⟩:=hrel
   have HNN:=HN.out
   by_cases hlt:m<len la
   ·have b0:(m:Int)<len la:=by omega
    have b1:(m:Int)<len lb:=by have:=HL.out;omega
    obtain⟨ba,oa,rfl,e1⟩:=(HA.out.below HW.out) m hlt
    obtain⟨bb,ob,rfl,e2⟩:=(HB.out.below HW.out) m (by have:=HL.out;omega)
    obtain⟨x,hx⟩:∃x,tth la m=x:=⟨_,rfl⟩
    obtain⟨y,hy⟩:∃y,tth lb m=y:=⟨_,rfl⟩
    rw[hx]at e1
    rw[hy]at e2
    have HX:=Lib.hid hx;have HY:=Lib.hid hy;have l3:=lt_of_cell e1;have l4:=lt_of_cell e2;clear hx hy
    cases hq:(x.toList == y.toList)with
    | true=>
     have HQ:=Lib.hid hq
     go_wp2
     go_quiet (fail)
     go_wp2
     go_roundg (len la - (m+1))
     case rel=>exact⟨m+1,by omega,by go_num,Lib.hid (λ j hj=>by
      by_cases e:j=m
      ·subst e
       rw[HX.out,HY.out]
       have:=HQ.out
       rw[str_beq]at this
       exact of_decide_eq_true this
      ·exact HE.out j (by omega)),by(repeat (first | exact Below.refl _ _ | assumption | (refine bdrew ?_) | (refine bdrewN ?_ _) | (refine balloc ?_ _) | (refine bset ?_ (by first | omega | (simp;done) | (simp;omega)) _) | (refine bnext ?_ (by assumption))))⟩
     case measure=>omega
    | false=>
     have HQ:=Lib.hid hq
     go_wp2
     go_quiet (fail)
     go_wp2
     go_ret
     refine⟨?_,bnext HW.out (by(repeat (first | exact Below.refl _ _ | assumption | (refine bdrew ?_) | (refine bdrewN ?_ _) | (refine balloc ?_ _) | (refine bset ?_ (by first | omega | (simp;done) | (simp;omega)) _) | (refine bnext ?_ (by assumption)))))⟩
     have:¬la=lb:=λ h9=>by
      have:=HQ.out
      rw[str_beq,←HX.out,←HY.out,h9]at this
      simp at this
     rw[decide_eq_false this];rfl
   ·obtain rfl:m=len la:=by omega
    have b0:¬((len la:Nat):Int)<len la:=by omega
    go_wp2
    go_ret
    exact⟨by rw[decide_eq_true (tth_ext HL.out HE.out)];rfl,HW.out⟩
 ·have l1:¬((len la:Nat):Int)=(len lb:Nat):=by omega
  have HL:Hid (decide (la=lb)=false):=Lib.hid (decide_eq_false (λ h9=>hl (by rw[h9])));clear hn hn2 hl
  go_enter Tryz.func51,Tryz.ntmps51
  go_wp2
  go_ret
  exact⟨by rw[HL.out];rfl,Below.refl _ _⟩
end Go.Proofs.YtpobhbdomldecaaGreatDoor
namespace Go.Proofs.YtpobhbdomldecaaGreatDoor
open Go.RowKit
set_option linter.unusedSimpArgs false
set_option linter.unusedVariables false
set_option linter.constructorNameAsVariable false
theorem lv21:leavesL [1] ((1:Nat):Int)=[1]:=by decide
theorem depZ21:depthZ 2=((1:Nat):Int):=by decide
theorem rows2b:rowsP 2 [1]=[[0]]:=by
 unfold rowsP
 rw[depZ21,needs_rows (d:=1) (by decide) (by decide),lv21]
 have e1:rowsOf [1] 1=[rowK (insAll [1])]:=by simp[rowsOf,List.range_succ_eq_map]
 rw[e1,row_litE (l:=[0]) (m:=[0]) (by decide) (by decide) (λ k=>Iff.rfl)]
theorem plc2b:plcL 2 [1]=[(0,0)]:=by
 show flatLv (rowsP 2 [1])=_
 rw[rows2b]
 rfl
theorem one2b(a b:ByteArray):oneD [a,b] 1=[hashP leafT [a]]:=by
 unfold oneD
 show dgsL [a,b] (plcL 2 [1])=_
 rw[plc2b]
 show [plD [a,b] (depN [a,b]) 0 0]=_
 have hd:depN [a,b]=1:=by
  have h:=depthZ_len (els:=[a,b]) (by show 2≤65536;decide)
  rw[show((len [a,b]:Nat):Int)=2 from rfl,depZ21]at h
  omega
 rw[hd]
 unfold plD
 rw[show revOf 0 1=0 by decide,if_pos (show 0<len [a,b]from(by decide:0<2))]
 rfl
theorem one1(a:ByteArray):oneD [a] 0=[]:=by
 have h:len (oneD [a] 0)=0:=oneD_len (els:=[a]) (by show 1≤65536;decide)
 exact List.eq_nil_of_length_eq_zero h
theorem rowAt_may(f c i:Nat):hOk (rowAt f c i)=true:=by
 rw[hOk_eq]
 unfold rowAt
 simp[textS_size]
theorem el_one{r:Hdr}(h:hOk r=true):elOk [r]=true:=
 elOk_of (by decide:0<1) (by decide:1≤64) (followH_yes (λ i hi h0=>by have hi:i<1:=hi;omega)) (laysH_yes (λ i hi=>by
  have hi:i<1:=hi
  obtain rfl:i=0:=by omega
  exact h))
theorem is_yes{f t:Int}{els:List ByteArray}{k:Nat}{h:Hdr}(ho:h.Ok)(hm:hOk h=true)(hk:k<len els)(hn:len els≤64)(he:tth els k=hbs h)(hf:h.rnd=f+k)(ht:t=f+len els - 1):
  isE (treeR els) f t (hbs h) (oneD els k)=0∧cellsHeader (isH (treeR els) f t (hbs h) (oneD els k))=#[.int .u64 h.rnd,.string h.prev,.string h.txns,.string h.seed]:=by
 obtain⟨y,hy,e0,e1,e2,e3⟩:=header_forth (rnd:=h.rnd) (prev:=h.prev) (txns:=h.txns) (seed:=h.seed) ho.r0 hm (s:=hbs h) rfl
 have hA:isA (treeR els) f t=true:=by
  unfold isA
  rw[decide_eq_true (treeR_size els),decide_eq_true (by omega),decide_eq_true (by omega)];rfl
 have hE:isE (treeR els) f t (hbs h) (oneD els k)=0:=by
  refine isE_ok hA hy (by rw[e0];omega) ?_
  rw[e0,show t - f+1=(len els:Nat)by omega,show h.rnd - f=((k:Nat):Int)by omega,←he]
  exact one_check (by omega) hk
 refine⟨hE,?_⟩
 unfold isH
 rw[if_pos hE,hy]
 show cellsHeader y=_
 unfold cellsHeader
 rw[e0,e1,e2,e3]
theorem ti_yes{els:List ByteArray}{k:Nat}(hk:k<len els)(hn:len els≤64)(hs:0<(tth els k).size∧(tth els k).size≤64):tiE (treeR els) (k:Nat) (len els:Nat) (tth els k) (oneD els k)=0:=by
 unfold tiE tiA
 rw[decide_eq_true (treeR_size els),decide_eq_true (by omega),decide_eq_true (by omega),decide_eq_true (by omega),decide_eq_true hs.1,decide_eq_true hs.2]
 exact(if_pos (by rfl)).trans (if_pos (one_check (by omega) hk))
theorem te_pt{B:Nat}{w:World}(h:TE7 B w):PT B w:=⟨h.p,h.s⟩
theorem row_one:rowL 5 [97] 0 0=[rowAt 5 97 0]:=by rfl
theorem bd_ab:bdOk abT=true:=by decide
theorem it_ab:itP abT 1=[hashP leafT [⟨#[97]⟩]]∧itE abT 1=0:=by
 have h:=it_some (l:=abT) (k:=1) bd_ab (by decide:1<2);have e:oneD abT 1=[hashP leafT [⟨#[97]⟩]]:=one2b _ _
 rw[e]at h
 exact h
theorem ti_ab:tiE (treeR abT) 1 2 ⟨#[98]⟩ [hashP leafT [⟨#[97]⟩]]=0:=by
 have h:=ti_yes (els:=abT) (k:=1) (by decide:1<2) (by decide:2≤64) (by decide);have e:oneD abT 1=[hashP leafT [⟨#[97]⟩]]:=one2b _ _
 rw[e]at h
 exact h
set_option maxRecDepth 100000 in
set_option maxHeartbeats 4000000 in
theorem works27_any(B:Nat)(w:World)(ht:TE7 B w):Calls Tryz.prog 52 #[] w λ e w'=>e=.returned (.bool true)∧Below w.heap.size w w':=by
 have HT:=Lib.hid ht;clear ht
 go_enter Tryz.func52,Tryz.ntmps52
 go_wp2_with fail
 refine(row27_any 5 [97] (some ⟨w.heap.size,0,none⟩) 1 0 0 _ (by decide) (λ i hi=>⟨_,0,rfl,by
  have hi:i<1:=hi
  obtain rfl:i=0:=by omega
  rw[block_cell (heap_alloc_new _ _)];rfl⟩) (λ i=>by
  match i with
  | 0=>decide
  | i+1=>show 0≤(0:Int)∧(0:Int)≤255;decide) (by decide) (by decide) (by decide)).mono ?_
 rintro e w1 ⟨v,rfl,hown,hb⟩
 rw[row_one]at hown
 obtain⟨r,hr⟩:∃r,rowAt 5 97 0=r:=⟨_,rfl⟩
 have HRO:Hid r.Ok:=Lib.hid (by rw[←hr];exact rowAt_ok _ _ _);have HRM:Hid (hOk r=true):=Lib.hid (by rw[←hr];exact rowAt_may _ _ _);have HRN:Hid (r.rnd=5):=Lib.hid (by rw[←hr];rfl)
 rw[hr]at hown
 clear hr;have B1:Hid (Below w.heap.size w w1):=Lib.hid (bnext (balloc (Below.refl _ _) _) hb)
 rcases ownH_of hown with⟨-,hnil⟩ | ⟨g,c,rfl,ho⟩
 ·cases hnil
 have HO:=Lib.hid ho;clear hown hb ho;have HOKS:Hid (∀i,(hnth [r] i).Ok):=Lib.hid (oks1 HRO.out)
 go_wp2_with fail
 refine(iheader_any B [r] (some ⟨g,0,none⟩) c 5 w1 ((te_pt HT.out).below B1.out) HO.out.hdrs HOKS.out (by decide:1≤65536)).mono ?_
 rintro e w2 ⟨v,rfl,hv,hb⟩
 have hih:=ih_some (r:=5) (el_one HRM.out) (findR_hit (i:=0) (by decide:0<1) (λ j hj=>by omega) HRN.out)
 rw[show hnth [r] 0=r from rfl,show elL [r]=[hbs r]from rfl,one1]at hih
 rw[hih.2.1]at hv
 rw[hih.1,hih.2.2]
 obtain⟨p3,c3,rfl,ht3,hc3,hn3⟩:=hv
 have B2:Hid (Below w.heap.size w w2):=Lib.hid (bnext B1.out hb);have HO2:=Lib.hid (HO.out.below hb)
 obtain⟨s,hs⟩:∃s,hbs r=s:=⟨_,rfl⟩
 have HS:=Lib.hid hs;have HSZ:Hid (s.size≤1000):=Lib.hid (by rw[←hs];exact hbs_size HRM.out);have HHW:=Lib.hid (λ w9 h9=>hw_yes B r w9 h9 HRO.out HRM.out)
 rw[hs]at HHW
 rw[hs]
 clear hs hb hih ht3 hc3 hn3
 rw[show len ([]:List ByteArray)=0 from rfl]
 have hc:=HO2.out.at (i:=0) (by decide:0<1)
 rw[show hnth [r] 0=r from rfl]at hc
 obtain⟨g0,g1,g2,g3,-⟩:=hc
 have hl1:len [r]=1:=rfl
 go_wp2_with fail
 refine(HHW.out _ ((te_pt HT.out).below B2.out)).mono ?_
 rintro e w3 ⟨rfl,hb⟩
 have B3:Hid (Below w.heap.size w w3):=Lib.hid (bnext B2.out hb);have HO3:=Lib.hid (HO2.out.below hb);clear hb g0 g1 g2 g3
 go_wp2_with fail
 refine(hash_any leafT [s] (some ⟨w3.heap.size,0,none⟩) 1 _ (by decide) (by decide) (one_txts1 (heap_alloc_new _ _)) (by rw[show partsL [s]=partL s by simp[partsL],partL_len];have:=HSZ.out;omega)).mono ?_
 rintro e w4 ⟨rfl,hb⟩
 have B4:Hid (Below w3.heap.size w3 w4):=Lib.hid (bnext (balloc (Below.refl _ _) _) hb);clear hb;have hiy:=is_yes (f:=5) (t:=5) (els:=[s]) (k:=0) HRO.out HRM.out (by decide:0<1) (by decide:1≤64) HS.out.symm (by rw[HRN.out];rfl) (by rfl)
 rw[one1,HS.out]at hiy
 have HIY:=Lib.hid hiy
 obtain⟨rt,hrt⟩:∃rt,treeR [s]=rt:=⟨_,rfl⟩
 rw[show hashP leafT [s]=rt from hrt]
 rw[hrt]at HIY
 clear hrt hiy
 go_wp2_with fail
 refine(ihis_any B rt 5 5 s [] p3 c3 w4 ((HT.out.below B3.out).below B4.out) (Txts.nil _ _) (by decide) (Nat.zero_le _) ⟨by decide,by decide⟩ ⟨by decide,by decide⟩ (by have:=HSZ.out;omega)).mono ?_
 rintro e w5 ⟨rfl,hb⟩
 rw[HIY.out.1,HIY.out.2]
 have B5:Hid (Below w3.heap.size w3 w5):=Lib.hid (bnext B4.out hb);clear hb
 go_upto_region 5 with fail
 obtain⟨V,hV⟩:∃V,w5.alloc (.cells #[.int .u64 r.rnd,.string r.prev,.string r.txns,.string r.seed] 33)=V:=⟨_,rfl⟩
 obtain⟨xb,hxb⟩:∃xb,w5.heap.size=xb:=⟨_,rfl⟩
 have HVX:Hid (V.heap[xb]?=some (.cells #[.int .u64 r.rnd,.string r.prev,.string r.txns,.string r.seed] 33 (0,0))):=Lib.hid (by rw[←hV,←hxb];exact heap_alloc_new _ _);have BV:Hid (Below w3.heap.size w3 V):=Lib.hid (by rw[←hV];exact balloc B5.out _)
 rw[hV,hxb]
 clear hV hxb
 go_wp2_with fail
 refine(itxn_any abT (some ⟨V.heap.size,0,none⟩) 2 1 _ (abT_txts (heap_alloc_new _ _)) (by decide) (λ i hi=>Nat.le_trans (abT_size i hi) (by decide))).mono ?_
 rintro e w6 ⟨vq,rfl,hv,hb⟩
 rw[it_ab.1]at hv
 rw[it_ab.2]
 have hti:=ti_ab
 obtain⟨ta,hta⟩:∃ta,hashP leafT [⟨#[97]⟩]=ta:=⟨_,rfl⟩
 rw[hta]at hv hti
 have HTA:Hid (∀(wv:World) (bq:Nat),wv.heap[bq]?=some (.cells #[.string ⟨#[97]⟩] 9 (0,0))→Calls Tryz.prog 45 #[.string ⟨#[108,101,97,102]⟩,.slice (some ⟨bq,0,none⟩) 1 1] wv λ e w'=>e=.returned (.string ta)∧Below wv.heap.size wv w'):=Lib.hid (λ wv bq h=>by
  rw[←hta]
  exact hash_any leafT [⟨#[97]⟩] (some ⟨bq,0,none⟩) 1 wv (by decide) (by decide) (one_txts1 h) (by decide))
 obtain⟨rab,hrab⟩:∃rab,treeR abT=rab:=⟨_,rfl⟩
 rw[hrab]at hti
 have HRB:Hid (∀(wv:World) (bq:Nat),wv.heap[bq]?=some (.cells #[.string ⟨#[97]⟩,.string ⟨#[98]⟩] 9 (0,0))→Calls Tryz.prog 64 #[.slice (some ⟨bq,0,none⟩) 2 2] wv λ e w'=>e=.returned (.string rab)∧Below wv.heap.size wv w'):=Lib.hid (λ wv bq h=>by
  rw[←hrab]
  exact lroot27_any abT (some ⟨bq,0,none⟩) 2 wv (abT_txts h) (by decide) (λ i hi=>Nat.le_trans (abT_size i hi) (by decide)))
 obtain⟨aq,cq,rfl,htq,hcq,-⟩:=hv
 have BV6:Hid (Below V.heap.size V w6):=Lib.hid (bnext (balloc (Below.refl _ _) _) hb);have HTQ:=Lib.hid (And.intro htq hcq);have HAL:Hid (∀(wv:World) (bq:Nat),Below w6.heap.size w6 wv→wv.heap[bq]?=some (.cells #[.string ta] 9 (0,0))→Calls Tryz.prog 51 #[.slice aq 1 cq,.slice (some ⟨bq,0,none⟩) 1 1] wv λ e w'=>e=.returned (.bool true)∧Below wv.heap.size wv w'):=Lib.hid (λ wv bq hb h=>by
  have h2:=alike27_any [ta] [ta] aq (some ⟨bq,0,none⟩) cq 1 wv (HTQ.out.1.below hb) (one_txts1 h) (by show 1≤1000000;decide) (by show 1≤1000000;decide)
  rw[decide_eq_true rfl]at h2
  exact h2)
 have HTI:Hid (∀(wv:World),Below w6.heap.size w6 wv→Calls Tryz.prog 62 #[.string rab,.agg #[.int .u64 1,.int .u64 2],.string ⟨#[98]⟩,.slice aq 1 cq] wv λ e w'=>e=.returned (.int .i64 0)∧Below wv.heap.size wv w'):=Lib.hid (λ wv hb=>by
  have h2:=itis_any rab 1 2 ⟨#[98]⟩ [ta] aq cq wv (HTQ.out.1.below hb) (by show 1≤1000000;decide) HTQ.out.2 ⟨by decide,by decide⟩ ⟨by decide,by decide⟩ (by decide)
  rw[hti]at h2
  exact h2)
 rw[show len [ta]=1 from rfl]
 have HVX6:=Lib.hid ((BV6.out.block _ (lt_of_block HVX.out)).trans HVX.out);have B6:Hid (Below w.heap.size w w6):=Lib.hid (bnext (bnext B3.out BV.out) BV6.out);have hc:=((HO3.out.below BV.out).below BV6.out).at (i:=0) (by decide:0<1)
 rw[show hnth [r] 0=r from rfl]at hc
 obtain⟨g0,g1,g2,g3,-⟩:=hc
 rw[Nat.zero_mul]at g0 g1 g2 g3
 have x0:w6.cell? ⟨xb,0,none⟩=some (.int .u64 r.rnd):=block_cell HVX6.out 0;have x1:w6.cell? ⟨xb,1,none⟩=some (.string r.prev):=block_cell HVX6.out 1;have x2:w6.cell? ⟨xb,2,none⟩=some (.string r.txns):=block_cell HVX6.out 2;have x3:w6.cell? ⟨xb,3,none⟩=some (.string r.seed):=block_cell HVX6.out 3;have sa:(s.toList == s.toList)=true:=by rw[str_beq,decide_eq_true rfl]
 have r1:(r.prev.toList == r.prev.toList)=true:=by rw[str_beq,decide_eq_true rfl]
 have r2:(r.txns.toList == r.txns.toList)=true:=by rw[str_beq,decide_eq_true rfl]
 have r3:(r.seed.toList == r.seed.toList)=true:=by rw[str_beq,decide_eq_true rfl]
 clear hb hta hrab hti htq hcq HIY
 go_upto_region 6 with fail
 refine wp_region_all 1000 (none) (phis [λ u _=>u=(.int .i64 0),λ u _=>u=(.bool true),λ u _=>u=(.bool true),λ u _=>u=(.int .i64 0),λ u _=>u=(.bool true),λ u _=>u=(.bool true),λ u _=>u=(.bool true),λ u _=>u=(.string s),λ u _=>u=(.string s),λ u _=>u=(.bool true),λ u _=>u=(.bool true),λ u _=>u=(.bool true),λ u _=>u=(.slice p3 0 c3),λ u _=>u=(.int .i64 0),λ u _=>u=(.bool true),λ u _=>u=(.bool true),λ u _=>u=(.bool true),λ u _=>u=(.int .i64 0),λ u _=>u=(.bool true),λ u _=>u=(.bool true),λ u _=>u=(.bool true),λ u _=>u=(.agg #[.int .u64 r.rnd,.string r.prev,.string r.txns,.string r.seed]),λ u _=>u=(.slice (some ⟨g,0,none⟩) 1 c),λ u _=>u=(.pointer (some ⟨g,0,none⟩)),λ u _=>u=(.agg #[.int .u64 r.rnd,.string r.prev,.string r.txns,.string r.seed]),λ u _=>u=(.bool true),λ u _=>u=(.bool true),λ u _=>u=(.bool true),λ u _=>u=(.int .i64 0),λ u _=>u=(.bool true),λ u _=>u=(.bool true),λ u _=>u=(.bool true),λ u _=>u=(.slice aq 1 cq),λ u w'=>∃b,u=.slice (some ⟨b,0,none⟩) 1 1∧w'.heap[b]?=some (.cells #[.string ⟨#[97]⟩] 9 (0,0)),λ u _=>u=(.string ta),λ u w'=>∃b,u=.slice (some ⟨b,0,none⟩) 1 1∧w'.heap[b]?=some (.cells #[.string ta] 9 (0,0)),λ u _=>u=(.bool true),λ u _=>u=(.bool true),λ u _=>u=(.bool true),λ u w'=>∃b,u=.slice (some ⟨b,0,none⟩) 2 2∧w'.heap[b]?=some (.cells #[.string ⟨#[97]⟩,.string ⟨#[98]⟩] 9 (0,0)),λ u _=>u=(.string rab),λ u _=>u=(.agg #[.int .u64 1,.int .u64 2]),λ u _=>u=(.slice aq 1 cq),λ u _=>u=(.int .i64 0),λ u _=>u=(.bool true),λ u _=>u=(.bool true),λ u _=>u=(.bool true)]) rfl (by kernel_rfl) (mono_of ⟨mono_eq,mono_eq,mono_eq,mono_eq,mono_eq,mono_eq,mono_eq,mono_eq,mono_eq,mono_eq,mono_eq,mono_eq,mono_eq,mono_eq,mono_eq,mono_eq,mono_eq,mono_eq,mono_eq,mono_eq,mono_eq,mono_eq,mono_eq,mono_eq,mono_eq,mono_eq,mono_eq,mono_eq,mono_eq,mono_eq,mono_eq,mono_eq,mono_eq,?m33,mono_eq,?m35,mono_eq,mono_eq,mono_eq,?m39,mono_eq,mono_eq,mono_eq,mono_eq,mono_eq,mono_eq,mono_eq,trivial⟩) (steps_of 47 ⟨?s0,?s1,?s2,?s3,?s4,?s5,?s6,?s7,?s8,?s9,?s10,?s11,?s12,?s13,?s14,?s15,?s16,?s17,?s18,?s19,?s20,?s21,?s22,?s23,?s24,?s25,?s26,?s27,?s28,?s29,?s30,?s31,?s32,?s33,?s34,?s35,?s36,?s37,?s38,?s39,?s40,?s41,?s42,?s43,?s44,?s45,?s46,trivial⟩) ?_
 case m33=>
  exact⟨λ u w1 w' h ⟨b,h1,hb⟩=>⟨b,h1,ext_block h hb⟩,λ _ u w1 w' h ⟨b,h1,hb⟩=>⟨b,h1,extB_block h (by simp) hb⟩⟩
 case m35=>
  exact⟨λ u w1 w' h ⟨b,h1,hb⟩=>⟨b,h1,ext_block h hb⟩,λ _ u w1 w' h ⟨b,h1,hb⟩=>⟨b,h1,extB_block h (by simp) hb⟩⟩
 case m39=>
  exact⟨λ u w1 w' h ⟨b,h1,hb⟩=>⟨b,h1,ext_block h hb⟩,λ _ u w1 w' h ⟨b,h1,hb⟩=>⟨b,h1,extB_block h (by simp) hb⟩⟩
 case s0=>
  refine qV (λ _=>rfl) rfl λ av wv hE hO hD=>?_
  simp[go_sem,qF av 4 (.int .i64 0) (hO.2.2 4 rfl),sa,r1,r2,r3]
 case s1=>
  refine qV (λ _=>rfl) rfl λ av wv hE hO hD=>?_
  simp[go_sem,qE (hD.1 rfl _ rfl),sa,r1,r2,r3]
 case s2=>
  refine qV (λ _=>rfl) rfl λ av wv hE hO hD=>?_
  simp[go_sem,qE (hD.1 rfl _ rfl),sa,r1,r2,r3]
 case s3=>
  refine step_val (λ av wv hE hS hO hD=>⟨(wY rfl rfl rfl (hD.1 rfl _ rfl)),?_⟩) (λ _=>rfl)
  simp[go_sem,qF av 6 (.int .i64 0) (hO.2.2 6 rfl),qE (hD.1 rfl _ rfl),sa,r1,r2,r3]
 case s4=>
  refine step_val (λ av wv hE hS hO hD=>⟨(wY rfl rfl rfl (hD.2.1 rfl _ rfl)),?_⟩) (λ _=>rfl)
  simp[go_sem,qE (hD.1 rfl _ rfl),qE (hD.2.1 rfl _ rfl),sa,r1,r2,r3]
 case s5=>
  refine qV (λ _=>rfl) rfl λ av wv hE hO hD=>?_
  simp[go_sem,qE (hD.1 rfl _ rfl),qE (hD.2.1 rfl _ rfl),sa,r1,r2,r3]
 case s6=>
  refine qV (λ _=>rfl) rfl λ av wv hE hO hD=>?_
  simp[go_sem,qE (hD.1 rfl _ rfl),sa,r1,r2,r3]
 case s7=>
  refine step_val (λ av wv hE hS hO hD=>⟨(wY rfl rfl rfl (hD.1 rfl _ rfl)),?_⟩) (λ _=>rfl)
  simp[go_sem,qF av 2 (.string s) (hO.2.2 2 rfl),qE (hD.1 rfl _ rfl),sa,r1,r2,r3]
 case s8=>
  refine step_val (λ av wv hE hS hO hD=>⟨(wY rfl rfl rfl (hD.1 rfl _ rfl)),?_⟩) (λ _=>rfl)
  simp[go_sem,qF av 5 (.string s) (hO.2.2 5 rfl),qE (hD.1 rfl _ rfl),sa,r1,r2,r3]
 case s9=>
  refine step_val (λ av wv hE hS hO hD=>⟨(wY rfl rfl rfl (hD.2.2.1 rfl _ rfl)),?_⟩) (λ _=>rfl)
  simp[go_sem,qE (hD.1 rfl _ rfl),qE (hD.2.1 rfl _ rfl),qE (hD.2.2.1 rfl _ rfl),sa,r1,r2,r3]
 case s10=>
  refine qV (λ _=>rfl) rfl λ av wv hE hO hD=>?_
  simp[go_sem,qE (hD.1 rfl _ rfl),qE (hD.2.1 rfl _ rfl),sa,r1,r2,r3]
 case s11=>
  refine qV (λ _=>rfl) rfl λ av wv hE hO hD=>?_
  simp[go_sem,qE (hD.1 rfl _ rfl),sa,r1,r2,r3]
 case s12=>
  refine step_val (λ av wv hE hS hO hD=>⟨(wY rfl rfl rfl (hD.1 rfl _ rfl)),?_⟩) (λ _=>rfl)
  simp[go_sem,qF av 3 (.slice p3 0 c3) (hO.2.2 3 rfl),qE (hD.1 rfl _ rfl),sa,r1,r2,r3]
 case s13=>
  refine step_val (λ av wv hE hS hO hD=>⟨(wY rfl rfl rfl (hD.2.1 rfl _ rfl)),?_⟩) (λ _=>rfl)
  simp[go_sem,qE (hD.1 rfl _ rfl),qE (hD.2.1 rfl _ rfl),sa,r1,r2,r3]
 case s14=>
  refine step_val (λ av wv hE hS hO hD=>⟨(wY rfl rfl rfl (hD.2.1 rfl _ rfl)),?_⟩) (λ _=>rfl)
  simp[go_sem,qE (hD.1 rfl _ rfl),qE (hD.2.1 rfl _ rfl),sa,r1,r2,r3]
 case s15=>
  refine qV (λ _=>rfl) rfl λ av wv hE hO hD=>?_
  simp[go_sem,qE (hD.1 rfl _ rfl),qE (hD.2.1 rfl _ rfl),sa,r1,r2,r3]
 case s16=>
  refine qV (λ _=>rfl) rfl λ av wv hE hO hD=>?_
  simp[go_sem,qE (hD.1 rfl _ rfl),sa,r1,r2,r3]
 case s17=>
  refine step_val (λ av wv hE hS hO hD=>⟨(wY rfl rfl rfl (hD.1 rfl _ rfl)),?_⟩) (λ _=>rfl)
  simp[go_sem,qF av 8 (.int .i64 0) (hO.2.2 8 rfl),qE (hD.1 rfl _ rfl),sa,r1,r2,r3]
 case s18=>
  refine step_val (λ av wv hE hS hO hD=>⟨(wY rfl rfl rfl (hD.2.1 rfl _ rfl)),?_⟩) (λ _=>rfl)
  simp[go_sem,qE (hD.1 rfl _ rfl),qE (hD.2.1 rfl _ rfl),sa,r1,r2,r3]
 case s19=>
  refine qV (λ _=>rfl) rfl λ av wv hE hO hD=>?_
  simp[go_sem,qE (hD.1 rfl _ rfl),qE (hD.2.1 rfl _ rfl),sa,r1,r2,r3]
 case s20=>
  refine qV (λ _=>rfl) rfl λ av wv hE hO hD=>?_
  simp[go_sem,qE (hD.1 rfl _ rfl),sa,r1,r2,r3]
 case s21=>
  refine step_val (λ av wv hE hS hO hD=>⟨(wY rfl rfl rfl (hD.1 rfl _ rfl)),?_⟩) (λ _=>rfl)
  simp[go_sem,qF av 7 (.pointer (some ⟨xb,0,none⟩)) (hO.2.2 7 rfl),qE (hD.1 rfl _ rfl),extB_cell hE (by simp) x0,extB_cell hE (by simp) x1,extB_cell hE (by simp) x2,extB_cell hE (by simp) x3,extB_cell hE (by simp) g0,extB_cell hE (by simp) g1,extB_cell hE (by simp) g2,extB_cell hE (by simp) g3,sa,r1,r2,r3]
 case s22=>
  refine step_val (λ av wv hE hS hO hD=>⟨(wY rfl rfl rfl (hD.1 rfl _ rfl)),?_⟩) (λ _=>rfl)
  simp[go_sem,qF av 1 (.slice (some ⟨g,0,none⟩) 1 c) (hO.2.2 1 rfl),qE (hD.1 rfl _ rfl),sa,r1,r2,r3]
 case s23=>
  refine step_val (λ av wv hE hS hO hD=>⟨(wY rfl rfl rfl (hD.2.1 rfl _ rfl)),?_⟩) (λ _=>rfl)
  simp[go_sem,qE (hD.1 rfl _ rfl),qE (hD.2.1 rfl _ rfl),sa,r1,r2,r3]
 case s24=>
  refine step_val (λ av wv hE hS hO hD=>⟨(wY rfl rfl rfl (hD.2.1 rfl _ rfl)),?_⟩) (λ _=>rfl)
  simp[go_sem,qE (hD.1 rfl _ rfl),qE (hD.2.1 rfl _ rfl),extB_cell hE (by simp) x0,extB_cell hE (by simp) x1,extB_cell hE (by simp) x2,extB_cell hE (by simp) x3,extB_cell hE (by simp) g0,extB_cell hE (by simp) g1,extB_cell hE (by simp) g2,extB_cell hE (by simp) g3,sa,r1,r2,r3]
 case s25=>
  refine step_val (λ av wv hE hS hO hD=>⟨(wY rfl rfl rfl (hD.2.2.1 rfl _ rfl)),?_⟩) (λ _=>rfl)
  simp[go_sem,qE (hD.1 rfl _ rfl),qE (hD.2.1 rfl _ rfl),qE (hD.2.2.1 rfl _ rfl),sa,r1,r2,r3]
 case s26=>
  refine qV (λ _=>rfl) rfl λ av wv hE hO hD=>?_
  simp[go_sem,qE (hD.1 rfl _ rfl),qE (hD.2.1 rfl _ rfl),sa,r1,r2,r3]
 case s27=>
  refine qV (λ _=>rfl) rfl λ av wv hE hO hD=>?_
  simp[go_sem,qE (hD.1 rfl _ rfl),sa,r1,r2,r3]
 case s28=>
  refine step_val (λ av wv hE hS hO hD=>⟨(wY rfl rfl rfl (hD.1 rfl _ rfl)),?_⟩) (λ _=>rfl)
  simp[go_sem,qF av 10 (.int .i64 0) (hO.2.2 10 rfl),qE (hD.1 rfl _ rfl),sa,r1,r2,r3]
 case s29=>
  refine step_val (λ av wv hE hS hO hD=>⟨(wY rfl rfl rfl (hD.2.1 rfl _ rfl)),?_⟩) (λ _=>rfl)
  simp[go_sem,qE (hD.1 rfl _ rfl),qE (hD.2.1 rfl _ rfl),sa,r1,r2,r3]
 case s30=>
  refine qV (λ _=>rfl) rfl λ av wv hE hO hD=>?_
  simp[go_sem,qE (hD.1 rfl _ rfl),qE (hD.2.1 rfl _ rfl),sa,r1,r2,r3]
 case s31=>
  refine qV (λ _=>rfl) rfl λ av wv hE hO hD=>?_
  simp[go_sem,qE (hD.1 rfl _ rfl),sa,r1,r2,r3]
 case s32=>
  refine step_val (λ av wv hE hS hO hD=>⟨(wY rfl rfl rfl (hD.1 rfl _ rfl)),?_⟩) (λ _=>rfl)
  simp[go_sem,qF av 9 (.slice aq 1 cq) (hO.2.2 9 rfl),qE (hD.1 rfl _ rfl),sa,r1,r2,r3]
 case s33=>
  refine step_wp (λ av wv hE hS hO hD=>⟨(wY rfl rfl rfl (hD.1 rfl _ rfl)),?_⟩)
  exact wp_of_run (v:=.slice (some ⟨wv.heap.size,0,none⟩) 1 1) (w':=wv.alloc (.cells #[.string ⟨#[97]⟩] 9)) (by simp[go_sem]) ⟨_,rfl,es_of_ext (balloc (Ext_refl _) _),wv.heap.size,rfl,heap_alloc_new _ _⟩
 case s34=>
  refine step_wp (λ av wv hE hS hO hD=>⟨(wY rfl rfl rfl (hD.2.1 rfl _ rfl)),?_⟩)
  have d75:(λ u w'=>∃b,u=.slice (some ⟨b,0,none⟩) 1 1∧w'.heap[b]?=some (.cells #[.string ⟨#[97]⟩] 9 (0,0))) (av.eval (.tmp 75)) wv:=hD.1 rfl _ rfl
  obtain⟨bq,hq,hcq⟩:=d75
  have fq:=(ev_form av 75).symm.trans hq
  refine wp_of_call (v:=.string ta) (by simp[go_sem,fq]) (HTA.out wv bq hcq) (λ w2 hb=>⟨_,rfl,es_of_ext hb,rfl⟩)
 case s35=>
  refine step_wp (λ av wv hE hS hO hD=>⟨(wY rfl rfl rfl (hD.2.1 rfl _ rfl)),?_⟩)
  have f76:=qE (hD.1 rfl _ rfl)
  exact wp_of_run (v:=.slice (some ⟨wv.heap.size,0,none⟩) 1 1) (w':=wv.alloc (.cells #[.string ta] 9)) (by simp[go_sem,f76]) ⟨_,rfl,es_of_ext (balloc (Ext_refl _) _),wv.heap.size,rfl,heap_alloc_new _ _⟩
 case s36=>
  refine step_wp (λ av wv hE hS hO hD=>⟨(wY rfl rfl rfl (hD.2.2.2.1 rfl _ rfl)),?_⟩)
  have f74:=qE (hD.1 rfl _ rfl);have d77:(λ u w'=>∃b,u=.slice (some ⟨b,0,none⟩) 1 1∧w'.heap[b]?=some (.cells #[.string ta] 9 (0,0))) (av.eval (.tmp 77)) wv:=hD.2.1 rfl _ rfl
  obtain⟨bq,hq,hcq⟩:=d77
  have fq:=(ev_form av 77).symm.trans hq
  refine wp_of_call (v:=.bool true) (by simp[go_sem,fq,f74]) (HAL.out wv bq (of_drew hE) hcq) (λ w2 hb=>⟨_,rfl,es_of_ext hb,rfl⟩)
 case s37=>
  refine qV (λ _=>rfl) rfl λ av wv hE hO hD=>?_
  simp[go_sem,qE (hD.1 rfl _ rfl),qE (hD.2.1 rfl _ rfl),sa,r1,r2,r3]
 case s38=>
  refine qV (λ _=>rfl) rfl λ av wv hE hO hD=>?_
  simp[go_sem,qE (hD.1 rfl _ rfl),sa,r1,r2,r3]
 case s39=>
  refine step_wp (λ av wv hE hS hO hD=>⟨(wY rfl rfl rfl (hD.1 rfl _ rfl)),?_⟩)
  exact wp_of_run (v:=.slice (some ⟨wv.heap.size,0,none⟩) 2 2) (w':=wv.alloc (.cells #[.string ⟨#[97]⟩,.string ⟨#[98]⟩] 9)) (by simp[go_sem]) ⟨_,rfl,es_of_ext (balloc (Ext_refl _) _),wv.heap.size,rfl,heap_alloc_new _ _⟩
 case s40=>
  refine step_wp (λ av wv hE hS hO hD=>⟨(wY rfl rfl rfl (hD.2.1 rfl _ rfl)),?_⟩)
  have d81:(λ u w'=>∃b,u=.slice (some ⟨b,0,none⟩) 2 2∧w'.heap[b]?=some (.cells #[.string ⟨#[97]⟩,.string ⟨#[98]⟩] 9 (0,0))) (av.eval (.tmp 81)) wv:=hD.1 rfl _ rfl
  obtain⟨bq,hq,hcq⟩:=d81
  have fq:=(ev_form av 81).symm.trans hq
  refine wp_of_call (v:=.string rab) (by simp[go_sem,fq]) (HRB.out wv bq hcq) (λ w2 hb=>⟨_,rfl,es_of_ext hb,rfl⟩)
 case s41=>
  refine step_val (λ av wv hE hS hO hD=>⟨(wY rfl rfl rfl (hD.1 rfl _ rfl)),?_⟩) (λ _=>rfl)
  simp[go_sem,qE (hD.1 rfl _ rfl),sa,r1,r2,r3]
 case s42=>
  refine step_val (λ av wv hE hS hO hD=>⟨(wY rfl rfl rfl (hD.1 rfl _ rfl)),?_⟩) (λ _=>rfl)
  simp[go_sem,qF av 9 (.slice aq 1 cq) (hO.2.2 9 rfl),qE (hD.1 rfl _ rfl),sa,r1,r2,r3]
 case s43=>
  refine step_wp (λ av wv hE hS hO hD=>⟨(wY rfl rfl rfl (hD.2.2.2.2.1 rfl _ rfl)),?_⟩)
  have f82:=qE (hD.1 rfl _ rfl);have f83:=qE (hD.2.1 rfl _ rfl);have f84:=qE (hD.2.2.1 rfl _ rfl)
  refine wp_of_call (v:=.int .i64 0) (by simp[go_sem,f82,f83,f84]) (HTI.out wv (of_drew hE)) (λ w2 hb=>⟨_,rfl,es_of_ext hb,rfl⟩)
 case s44=>
  refine step_val (λ av wv hE hS hO hD=>⟨(wY rfl rfl rfl (hD.2.1 rfl _ rfl)),?_⟩) (λ _=>rfl)
  simp[go_sem,qE (hD.1 rfl _ rfl),qE (hD.2.1 rfl _ rfl),sa,r1,r2,r3]
 case s45=>
  refine qV (λ _=>rfl) rfl λ av wv hE hO hD=>?_
  simp[go_sem,qE (hD.1 rfl _ rfl),qE (hD.2.1 rfl _ rfl),sa,r1,r2,r3]
 case s46=>
  refine qV (λ _=>rfl) rfl λ av wv hE hO hD=>?_
  simp[go_sem,qE (hD.1 rfl _ rfl),sa,r1,r2,r3]
 intro a' w' hE hO hall
 have hA:=act_of_outer (ds:=[42,43,44,45,46,47,48,49,50,51,52,53,54,55,56,57,58,59,60,61,62,63,64,65,66,67,68,69,70,71,72,73,74,75,76,77,78,79,80,81,82,83,84,85,86,87,0]) rfl hO (by kernel_rfl)
 obtain⟨j0,j1,j2,j3,j4,j5,j6,j7,j8,j9,j10,j11,j12,j13,j14,j15,j16,j17,j18,j19,j20,j21,j22,j23,j24,j25,j26,j27,j28,j29,j30,j31,j32,j33,j34,j35,j36,j37,j38,j39,j40,j41,j42,j43,j44,j45,j46,-⟩:=hall
 have e75:(λ u w'=>∃b,u=.slice (some ⟨b,0,none⟩) 1 1∧w'.heap[b]?=some (.cells #[.string ⟨#[97]⟩] 9 (0,0))) (a'.eval (.tmp 75)) w':=j33 _ rfl;have e77:(λ u w'=>∃b,u=.slice (some ⟨b,0,none⟩) 1 1∧w'.heap[b]?=some (.cells #[.string ta] 9 (0,0))) (a'.eval (.tmp 77)) w':=j35 _ rfl;have e81:(λ u w'=>∃b,u=.slice (some ⟨b,0,none⟩) 2 2∧w'.heap[b]?=some (.cells #[.string ⟨#[97]⟩,.string ⟨#[98]⟩] 9 (0,0))) (a'.eval (.tmp 81)) w':=j39 _ rfl
 obtain⟨v75,hv75⟩:∃v,a'.eval (.tmp 75)=v:=⟨_,rfl⟩
 rw[hv75]at e75
 obtain⟨v77,hv77⟩:∃v,a'.eval (.tmp 77)=v:=⟨_,rfl⟩
 rw[hv77]at e77
 obtain⟨v81,hv81⟩:∃v,a'.eval (.tmp 81)=v:=⟨_,rfl⟩
 rw[hv81]at e81
 simp only[List.foldl_cons,List.foldl_nil,Act.put,List.setIfInBounds_toArray,List.set_cons_succ,List.set_cons_zero,qJ 42 (j0 _ rfl),qJ 43 (j1 _ rfl),qJ 44 (j2 _ rfl),qJ 45 (j3 _ rfl),qJ 46 (j4 _ rfl),qJ 47 (j5 _ rfl),qJ 48 (j6 _ rfl),qJ 49 (j7 _ rfl),qJ 50 (j8 _ rfl),qJ 51 (j9 _ rfl),qJ 52 (j10 _ rfl),qJ 53 (j11 _ rfl),qJ 54 (j12 _ rfl),qJ 55 (j13 _ rfl),qJ 56 (j14 _ rfl),qJ 57 (j15 _ rfl),qJ 58 (j16 _ rfl),qJ 59 (j17 _ rfl),qJ 60 (j18 _ rfl),qJ 61 (j19 _ rfl),qJ 62 (j20 _ rfl),qJ 63 (j21 _ rfl),qJ 64 (j22 _ rfl),qJ 65 (j23 _ rfl),qJ 66 (j24 _ rfl),qJ 67 (j25 _ rfl),qJ 68 (j26 _ rfl),qJ 69 (j27 _ rfl),qJ 70 (j28 _ rfl),qJ 71 (j29 _ rfl),qJ 72 (j30 _ rfl),qJ 73 (j31 _ rfl),qJ 74 (j32 _ rfl),hv75,qJ 76 (j34 _ rfl),hv77,qJ 78 (j36 _ rfl),qJ 79 (j37 _ rfl),qJ 80 (j38 _ rfl),hv81,qJ 82 (j40 _ rfl),qJ 83 (j41 _ rfl),qJ 84 (j42 _ rfl),qJ 85 (j43 _ rfl),qJ 86 (j44 _ rfl),qJ 87 (j45 _ rfl),qJ 0 (j46 _ rfl)]at hA
 clear hO j33 j35 j39 j0 j1 j2 j3 j4 j5 j6 j7 j8 j9 j10 j11 j12 j13 j14 j15 j16 j17 j18 j19 j20 j21 j22 j23 j24 j25 j26 j27 j28 j29 j30 j31 j32 hv75 j34 hv77 j36 j37 j38 hv81 j40 j41 j42 j43 j44 j45 j46
 subst hA
 have HBE:=Lib.hid (of_drew hE);clear hE
 go_wp2
 go_ret
 exact⟨rfl,bnext B6.out HBE.out⟩
end Go.Proofs.YtpobhbdomldecaaGreatDoor
namespace Go.Proofs.YtpobhbdomldecaaGreatDoor
open Go.RowKit
set_option linter.unusedSimpArgs false
set_option linter.unusedVariables false
set_option linter.constructorNameAsVariable false
structure RwL(F:Nat)(L:List Hdr):Prop where
 n:len L≤20
 f:F<9223372036854775808
 o:∀i,(hnth L i).Ok
 m:∀i,i<len L→hOk (hnth L i)=true
 r:∀i,i<len L→(hnth L i).rnd=(F:Int)+(i:Int)
theorem RwL.el{F:Nat}{L:List Hdr}(h:RwL F L)(h0:0<len L):elOk L=true:=
 elOk_of h0 (by have:=h.n;omega) (followH_yes (λ i hi hi0=>by
  unfold stepH
  rw[h.r i hi,h.r (i - 1) (by omega),decide_eq_true (by omega),decide_eq_true (by omega)];rfl)) (laysH_yes h.m)
theorem RwL.find{F:Nat}{L:List Hdr}(h:RwL F L){i:Nat}(hi:i<len L):findR L ((F:Int)+(i:Int))=some i:=
 findR_hit hi (λ j hj=>by rw[h.r j (by omega)];omega) (h.r i hi)
structure AlSt(L:List Hdr)(b:Nat)(w wr:World)(v:Value)(m:Nat):Prop where
 b:Below w.heap.size w wr
 o:wr.ownsRow w.heap.size 9 1 v m ((elL (L.take m)).map Value.string)
end Go.Proofs.YtpobhbdomldecaaGreatDoor
namespace Go.Proofs.YtpobhbdomldecaaGreatDoor
open Go.RowKit
set_option linter.unusedSimpArgs false
set_option linter.unusedVariables false
theorem known_row:rowL 5 [97,98,99] 0 0=[rowAt 5 97 0,rowAt 5 98 1,rowAt 5 99 2]:=by rfl
structure KnR(r0 r1 r2:Hdr):Prop where
 o0:r0.Ok
 o1:r1.Ok
 o2:r2.Ok
 m0:hOk r0=true
 m1:hOk r1=true
 m2:hOk r2=true
 n0:r0.rnd=5
 n1:r1.rnd=6
 n2:r2.rnd=7
theorem known_rows:KnR (rowAt 5 97 0) (rowAt 5 98 1) (rowAt 5 99 2):=
 ⟨rowAt_ok _ _ _,rowAt_ok _ _ _,rowAt_ok _ _ _,rowAt_may _ _ _,rowAt_may _ _ _,rowAt_may _ _ _,by rfl,by rfl,by rfl⟩
section
variable {r0 r1 r2 : Hdr}
theorem KnR.oks(h:KnR r0 r1 r2):∀i,(hnth [r0,r1,r2] i).Ok:=hoks (λ p hp=>by
 simp only[List.mem_cons,List.not_mem_nil,or_false]at hp
 rcases hp with rfl | rfl | rfl
 ·exact h.o0
 ·exact h.o1
 ·exact h.o2)
theorem KnR.oks2(h:KnR r0 r1 r2):∀i,(hnth [r0,r2] i).Ok:=hoks (λ p hp=>by
 simp only[List.mem_cons,List.not_mem_nil,or_false]at hp
 rcases hp with rfl | rfl
 ·exact h.o0
 ·exact h.o2)
theorem KnR.rw(h:KnR r0 r1 r2):RwL 5 [r0,r1,r2] where
 n:=by show 3≤20;decide
 f:=by decide
 o:=h.oks
 m:=λ i hi=>by
  have hi:i<3:=hi
  match i,hi with
  | 0,_=>exact h.m0
  | 1,_=>exact h.m1
  | 2,_=>exact h.m2
 r:=λ i hi=>by
  have hi:i<3:=hi
  match i,hi with
  | 0,_=>exact h.n0
  | 1,_=>exact h.n1
  | 2,_=>exact h.n2
theorem KnR.el(h:KnR r0 r1 r2):elOk [r0,r1,r2]=true:=h.rw.el (by decide:0<3)
theorem kn_nil:ihS [] 5=⟨#[]⟩∧ihP [] 5=[]∧ihE [] 5=2:=ih_no (elOk_len (λ h=>absurd h.1 (by decide)))
theorem KnR.gap(h:KnR r0 r1 r2):ihS [r0,r2] 5=⟨#[]⟩∧ihP [r0,r2] 5=[]∧ihE [r0,r2] 5=2:=ih_no (by
 cases e:elOk [r0,r2]with
 | false=>rfl
 | true=>
  have h1:=(elOk_at e).2.2.1;have h2:=followH_no (R:=stepH) (l:=[r0,r2]) (i:=1) (by decide:1<2) (by decide) (by
   show stepH r0 r2=false
   unfold stepH
   rw[h.n0,h.n2];rfl)
  rw[h1]at h2
  cases h2)
theorem KnR.none(h:KnR r0 r1 r2){r:Int}(h5:r≠5)(h6:r≠6)(h7:r≠7):ihS [r0,r1,r2] r=⟨#[]⟩∧ihP [r0,r1,r2] r=[]∧ihE [r0,r1,r2] r=19:=
 ih_none h.el (findR_none (λ j hj=>by
  rw[h.rw.r j hj]
  have hj:j<3:=hj
  omega))
theorem KnR.some(h:KnR r0 r1 r2):ihS [r0,r1,r2] 6=hbs r1∧ihP [r0,r1,r2] 6=oneD (elL [r0,r1,r2]) 1∧ihE [r0,r1,r2] 6=0:=
 by
  have h1:=h.rw.find (i:=1) (by decide:1<3)
  rw[show((5:Nat):Int)+((1:Nat):Int)=6 by decide]at h1
  have h2:=ih_some h.el h1
  rw[show hnth [r0,r1,r2] 1=r1 from rfl]at h2
  exact h2
theorem kn_len:len (oneD (elL [r0,r1,r2]) 1)=2:=by
 have h64:len (elL [r0,r1,r2])≤65536:=by show 3≤65536;decide
 rw[oneD_len h64]
 have h:=depthZ_len h64
 rw[show((len (elL [r0,r1,r2]):Nat):Int)=3 from rfl,depZ3]at h
 omega
theorem kn_more{rnd:Int}{prev txns seed:ByteArray}(h0:U64i rnd)(hm:allMay (headerSpecs rnd prev txns seed)=true){s t:ByteArray}(ht:t.size≠0)(hs:s=layP (headerSpecs rnd prev txns seed)++t):∃f,readR s (headerGs s) header0=.error f:=by
 have hkd:Kd header0 (headerC rnd prev txns seed):=λ i=>by
  match i with
  | 0 | 1 | 2 | 3=>rfl
  | i+4=>rfl
 have hdk:∀o,DOk (headerC rnd prev txns seed o):=λ o=>by unfold headerC;split <;> first | trivial | assumption
 exact readR_more (fgs_header s) hkd hdk hm ht hs
structure KnS(r1:Hdr)(rt s:ByteArray)(P:List ByteArray):Prop where
 zz:rt.size=32
 sz:s.size≤1000
 pl:len P=2
 p32:∀d ∈ P,d.size=32
 ok:isE rt 5 7 s P=0
 is:cellsHeader (isH rt 5 7 s P)=#[.int .u64 r1.rnd,.string r1.prev,.string r1.txns,.string r1.seed]
 more:isE rt 5 7 (s++⟨#[120]⟩) P=5
 less:isE rt 5 7 s (P.drop 1)=20
theorem kn_is(h:KnR r0 r1 r2):KnS r1 (treeR (elL [r0,r1,r2])) (hbs r1) (oneD (elL [r0,r1,r2]) 1):=by
 have he:=elL_at [r0,r1,r2] 1 (by decide:1<3)
 rw[show hnth [r0,r1,r2] 1=r1 from rfl]at he
 have hy:=is_yes (f:=5) (t:=7) (els:=elL [r0,r1,r2]) (k:=1) h.o1 h.m1 (by decide:1<3) (by decide:3≤64) he (by rw[h.n1];rfl) (by rw[show len (elL [r0,r1,r2])=3 from rfl];rfl);have h32:∀d ∈ oneD (elL [r0,r1,r2]) 1,d.size=32:=by
  intro d hd
  unfold oneD dgsL at hd
  obtain⟨x,-,rfl⟩:=List.mem_map.1 hd
  exact plD_size _ _ _ _
 obtain⟨y,hr,e0,-,-,-⟩:=header_forth (rnd:=r1.rnd) (prev:=r1.prev) (txns:=r1.txns) (seed:=r1.seed) h.o1.r0 h.m1 (s:=hbs r1) rfl
 have hA:isA (treeR (elL [r0,r1,r2])) 5 7=true:=by
  unfold isA
  rw[decide_eq_true (treeR_size _)];rfl
 refine⟨treeR_size _,hbs_size h.m1,kn_len,h32,hy.1,hy.2,?_,?_⟩
 ·obtain⟨k,hk⟩:=kn_more h.o1.r0 h.m1 (s:=hbs r1++⟨#[120]⟩) (t:=⟨#[120]⟩) (by decide) rfl
  exact isE_form hA hk
 ·refine isE_proof hA hr (by rw[e0,h.n1];decide) ?_
  rw[e0,h.n1]
  have hs:rootE 3 [1] [hbs r1] ((oneD (elL [r0,r1,r2]) 1).drop 1)=4:=rootE_short (by decide:ArgOk 3 [1] [⟨#[]⟩]) (bad_no (λ d hd=>h32 d (List.mem_of_mem_drop hd))) (by
   have hl:=kn_len (r0:=r0) (r1:=r1) (r2:=r2)
   rw[len_eq]at hl ⊢
   rw[need3a,List.length_drop,hl];decide)
  have e1:(7:Int) - 5+1=3:=by decide
  have e2:(6:Int) - 5=1:=by decide
  rw[e1,e2]
  unfold checkE
  rw[hs]
  split <;> decide
end
theorem kn_xsize{s:ByteArray}(h:s.size≤1000):(s++⟨#[120]⟩).size≤1000000:=by
 rw[ByteArray.size_append]
 have h1:(⟨#[120]⟩:ByteArray).size=1:=rfl
 omega
theorem isA_turned(rt:ByteArray):isA rt 7 5=false:=by
 unfold isA
 rw[decide_eq_false (show ¬(7:Int)≤5 by decide)];simp
theorem isA_long(rt:ByteArray):isA rt 5 69=false:=by
 unfold isA
 rw[decide_eq_false (show ¬(69:Int) - 5<64 by decide)];simp
theorem isA_cut{rt:ByteArray}(h:rt.size≠32)(f t:Int):isA rt f t=false:=by
 unfold isA
 rw[decide_eq_false h];simp
def kA:ByteArray:=⟨#[97]⟩
theorem lv2k:leavesL [0] ((1:Nat):Int)=[0]:=by decide
theorem row0k:rowK (insAll [0])=[1]:=row_litE (l:=[1]) (m:=[1]) (by decide) (by decide) (λ k=>Iff.rfl)
theorem rows2k:rowsP 2 [0]=[[1]]:=by
 unfold rowsP
 rw[depZ21,needs_rows (d:=1) (by decide) (by decide),lv2k]
 have e1:rowsOf [0] 1=[rowK (insAll [0])]:=by simp[rowsOf,List.range_succ_eq_map]
 rw[e1,row0k]
theorem need2k:neededP 2 [0]=1:=by unfold neededP;rw[rows2k];rfl
theorem kn_it0:itP [kA,⟨#[98]⟩,⟨#[99]⟩] 3=[]∧itE [kA,⟨#[98]⟩,⟨#[99]⟩] 3=19:=it_none (by decide) (by decide)
theorem kn_it1:itP [kA,⟨#[]⟩] 0=[]∧itE [kA,⟨#[]⟩] 0=2:=it_no (by decide)
theorem kn_it2:itP [] 0=[]∧itE [] 0=2:=it_no (by decide)
theorem kn_it3{z:ByteArray}(h:z.size=65):itP [z] 0=[]∧itE [z] 0=2:=it_no (bdOk_bad (l:=[z]) (m:=0) (by decide:0<1) (λ h9=>by
 have h8:z.size≤64:=h9.2
 omega))
theorem kn_it4:itP [kA] (-1)=[]∧itE [kA] (-1)=19:=it_none (by decide) (by decide)
structure KnT(one:ByteArray):Prop where
 z:one.size=32
 ok:tiE one 0 1 kA []=0
 two:tiE one 0 2 kA []=20
theorem kn_ti:KnT (hashP leafT [kA]):=by
 have hz:(hashP leafT [kA]).size=32:=treeR_size [kA]
 refine⟨hz,?_,?_⟩
 ·have h:=ti_yes (els:=[kA]) (k:=0) (by decide:0<1) (by decide:1≤64) (by decide)
  rw[one1]at h
  exact h
 ·have hs:rootE 2 [0] [kA] []=4:=rootE_short (by decide) (bad_no (by intro e he;simp at he)) (by rw[need2k];decide)
  unfold tiE tiA
  rw[decide_eq_true hz,if_pos (by rfl),if_neg (by
   unfold checkE
   rw[hs]
   split <;> decide)]
theorem tiA_at{one:ByteArray}{i n:Int}{s:ByteArray}{p:List ByteArray}(h:tiA one i n s=false):tiE one i n s p=2:=by
 unfold tiE
 rw[h];rfl
theorem kn_ti2(one:ByteArray):tiE one 1 1 kA []=2:=tiA_at (by unfold tiA;simp)
theorem kn_ti3(one:ByteArray):tiE one 0 0 kA []=2:=tiA_at (by unfold tiA;simp)
theorem kn_ti4(one:ByteArray):tiE one 0 65 kA []=2:=tiA_at (by unfold tiA;simp)
theorem kn_ti5(one:ByteArray):tiE one 0 1 ⟨#[]⟩ []=2:=tiA_at (by unfold tiA;rw[decide_eq_false (show ¬0<(⟨#[]⟩:ByteArray).size by decide)];simp)
theorem kn_ti6{one:ByteArray}(h:one.size≠32):tiE one 0 1 kA []=2:=tiA_at (by unfold tiA;rw[decide_eq_false h];simp)
end Go.Proofs.YtpobhbdomldecaaGreatDoor
namespace Go.Proofs.YtpobhbdomldecaaGreatDoor
open Go.RowKit
set_option linter.unusedSimpArgs false
set_option linter.unusedVariables false
set_option linter.constructorNameAsVariable false
theorem ihis_err(B:Nat)(root:ByteArray)(f t:Int)(s:ByteArray)(P:List ByteArray)(pa:Option Addr)(pc:Nat)(w:World)(hT:TE7 B w)(hp:Txts w pa P)(hl:len P≤1000000)(hc:len P≤pc)(hf:U64 f)(ht:U64 t)(hs:s.size≤1000000)(e:Int)(he:isE root f t s P=e)(h0:e≠0)(n:Nat)(hn:len P=n):
  Calls Tryz.prog 57 #[.string root,.agg #[.int .u64 f,.int .u64 t],.string s,.slice pa n pc] w λ E w'=>E=.returned (.tuple #[.agg #[.int .u64 0,.string ⟨#[]⟩,.string ⟨#[]⟩,.string ⟨#[]⟩],.int .i64 e])∧Below w.heap.size w w':=by
 have h:=ihis_any B root f t s P pa pc w hT hp hl hc hf ht hs
 unfold IsIs at h
 rw[show isH root f t s P=header0 from if_neg (by rw[he];exact h0),he,hn]at h
 exact h
theorem ihd_err(B:Nat)(l:List Hdr)(a:Option Addr)(cap:Nat)(rd:Int)(w:World)(ht:PT B w)(hc:Hdrs w a l)(ho:∀i,(hnth l i).Ok)(hn:len l≤65536)(n:Nat)(hln:len l=n)(e:Int)(h:ihS l rd=⟨#[]⟩∧ihP l rd=[]∧ihE l rd=e):
  Calls Tryz.prog 49 #[.slice a n cap,.int .u64 rd] w λ E w'=>∃v,E=.returned v∧(∃(a:Option Addr) (k:Nat),v=.tuple #[.string ⟨#[]⟩,.slice a 0 k,.int .i64 e])∧Below w.heap.size w w':=by
 have h9:=iheader_any B l a cap rd w ht hc ho hn
 rw[hln]at h9
 refine h9.mono ?_
 rintro E w' ⟨v,rfl,hv,hb⟩
 rw[h.1,h.2.2]
 rw[h.2.1]at hv
 obtain⟨p,k,rfl,-,-,-⟩:=hv
 exact⟨_,rfl,⟨p,k,rfl⟩,hb⟩
theorem itx_err(l:List ByteArray)(a:Option Addr)(cap:Nat)(i:Int)(w:World)(hc:Txts w a l)(hn:len l≤65536)(hz:∀i,i<len l→(tth l i).size≤140737488355200)(n:Nat)(hln:len l=n)(e:Int)(h:itP l i=[]∧itE l i=e):
  Calls Tryz.prog 60 #[.slice a n cap,.int .i64 i] w λ E w'=>(∃(a:Option Addr) (k:Nat),E=.returned (.tuple #[.slice a 0 k,.int .i64 e]))∧Below w.heap.size w w':=by
 have h9:=itxn_any l a cap i w hc hn hz
 rw[hln]at h9
 refine h9.mono ?_
 rintro E w' ⟨v,rfl,hv,hb⟩
 rw[h.2]
 rw[h.1]at hv
 obtain⟨p,k,rfl,-,-,-⟩:=hv
 exact⟨⟨p,k,rfl⟩,hb⟩
theorem kn_drop(g o c:Nat)(hc:2≤c)(W:World):(Instr.slice 36 (.slice (some ⟨g,o,none⟩) 2 c) (some (.int .i64 1)) none none).run Tryz.prog W=.ok (.slice (some ⟨g,o+1,none⟩) 1 (c - 1)) W:=by
 have h2:¬c=1:=by omega
 have h3:¬c<2:=by omega
 simp[go_sem,hc,h2,h3]
theorem kn_txts{w:World}{g o:Nat}{L:List ByteArray}(h:Txts w (some ⟨g,o,none⟩) L):Txts w (some ⟨g,o+1,none⟩) (L.drop 1):=λ i hi=>by
 have hl:len (L.drop 1)=len L - 1:=by rw[len_eq,len_eq,List.length_drop]
 rw[hl]at hi
 obtain⟨b,o',e,hc⟩:=h (i+1) (by omega)
 cases e
 refine⟨g,o+1,rfl,?_⟩
 rw[show tth (L.drop 1) i=tth L (i+1)by rw[tth_drop];congr 1;omega,show o+1+i=o+(i+1)by omega]
 exact hc
theorem len3(a b c:Hdr):len [a,b,c]=3:=rfl
set_option maxRecDepth 100000 in
set_option maxHeartbeats 8000000 in
theorem iknown_law(B:Nat)(w:World)(ht:TE7 B w):Calls Tryz.prog 13 #[] w λ e w'=>e=.returned (.bool true)∧Below w.heap.size w w':=by
 have HT:=Lib.hid ht
 obtain⟨i0,hi,hz0,hz1,hz2⟩:=info_parts info_str
 have HZ:=Lib.hid hz0;clear ht hz0
 go_enter Tryz.func13,Tryz.ntmps13
 go_wp2_with fail
 refine(row27_any 5 [97,98,99] (some ⟨w.heap.size,0,none⟩) 3 0 0 _ (by decide) (λ i hi=>⟨_,0,rfl,by
  have hi:i<3:=hi
  match i,hi with
  | 0,_=>rw[block_cell (heap_alloc_new _ _)];rfl
  | 1,_=>rw[block_cell (heap_alloc_new _ _)];rfl
  | 2,_=>rw[block_cell (heap_alloc_new _ _)];rfl⟩) (λ i=>by
  match i with
  | 0=>decide
  | 1=>decide
  | 2=>decide
  | i+3=>show 0≤(0:Int)∧(0:Int)≤255;decide) (by decide) (by decide) (by decide)).mono ?_
 rintro e w1 ⟨v,rfl,hown,hb⟩
 rw[known_row]at hown
 have hk:=known_rows
 obtain⟨r0,hr0⟩:∃r,rowAt 5 97 0=r:=⟨_,rfl⟩
 obtain⟨r1,hr1⟩:∃r,rowAt 5 98 1=r:=⟨_,rfl⟩
 obtain⟨r2,hr2⟩:∃r,rowAt 5 99 2=r:=⟨_,rfl⟩
 rw[hr0,hr1,hr2]at hown hk
 have HK:=Lib.hid hk;have B1:Hid (Below w.heap.size w w1):=Lib.hid (bnext (balloc (Below.refl _ _) _) hb)
 obtain⟨la,c,rfl,hH,hlc⟩:=Hdrs.own hown
 obtain⟨g,o,rfl,-⟩:=hH 0 (by decide:0<3)
 have HH:=Lib.hid hH;clear hown hb hH hlc hr0 hr1 hr2 hk
 rw[len3]
 go_wp2_with fail
 refine(ihd_err B [] none 0 5 w1 ((te_pt HT.out).below B1.out) (λ i hi=>absurd hi (Nat.not_lt_zero _)) (hoks (λ p hp=>by cases hp)) (by decide:0≤65536) 0 rfl 2 kn_nil).mono ?_
 rintro e w2 ⟨v,rfl,⟨p9,k9,rfl⟩,hb⟩
 have B2:Hid (Below w.heap.size w w2):=Lib.hid (bnext B1.out hb);have HH2:=Lib.hid (HH.out.below hb);clear hb
 go_upto_region 3 with fail
 obtain⟨_,_,he,⟨a0,a1,a2,a3⟩⟩:=HH2.out 0 (by decide:0<3)
 cases he
 obtain⟨_,_,he,⟨b0,b1,b2,b3⟩⟩:=HH2.out 2 (by decide:2<3)
 cases he
 have a0:w2.cell? ⟨g,o,none⟩=some (.int .u64 r0.rnd):=a0;have a1:w2.cell? ⟨g,o+1,none⟩=some (.string r0.prev):=a1;have a2:w2.cell? ⟨g,o+2,none⟩=some (.string r0.txns):=a2;have a3:w2.cell? ⟨g,o+3,none⟩=some (.string r0.seed):=a3;have b0:w2.cell? ⟨g,o+8,none⟩=some (.int .u64 r2.rnd):=b0;have b1:w2.cell? ⟨g,o+8+1,none⟩=some (.string r2.prev):=b1;have b2:w2.cell? ⟨g,o+8+2,none⟩=some (.string r2.txns):=b2;have b3:w2.cell? ⟨g,o+8+3,none⟩=some (.string r2.seed):=b3;have HGP:Hid (∀(wv:World) (bq:Nat),Below w2.heap.size w2 wv→wv.heap[bq]?=some (.cells #[.int .u64 r0.rnd,.string r0.prev,.string r0.txns,.string r0.seed,.int .u64 r2.rnd,.string r2.prev,.string r2.txns,.string r2.seed] 33 (0,0))→Calls Tryz.prog 49 #[.slice (some ⟨bq,0,none⟩) 2 2,.int .u64 5] wv λ e w'=>∃v,e=.returned v∧(∃(a:Option Addr) (k:Nat),v=.tuple #[.string ⟨#[]⟩,.slice a 0 k,.int .i64 2])∧Below wv.heap.size wv w'):=Lib.hid (λ wv bq hb h=>
  ihd_err B [r0,r2] (some ⟨bq,0,none⟩) 2 5 wv (((te_pt HT.out).below B2.out).below hb) (λ i hi=>by
   have hi:i<2:=hi
   match i,hi with
   | 0,_=>exact⟨bq,0,rfl,block_cell h 0,block_cell h 1,block_cell h 2,block_cell h 3⟩
   | 1,_=>exact⟨bq,0,rfl,block_cell h 4,block_cell h 5,block_cell h 6,block_cell h 7⟩) HK.out.oks2 (by decide:2≤65536) 2 rfl 2 HK.out.gap)
 refine wp_region_all 1000 (none) (phis [λ u _=>u=(.slice (some ⟨g,o,none⟩) 3 c),λ u _=>u=(.pointer (some ⟨g,o,none⟩)),λ u _=>u=(.agg #[.int .u64 r0.rnd,.string r0.prev,.string r0.txns,.string r0.seed]),λ u _=>u=(.slice (some ⟨g,o,none⟩) 3 c),λ u _=>u=(.pointer (some ⟨g,o+8,none⟩)),λ u _=>u=(.agg #[.int .u64 r2.rnd,.string r2.prev,.string r2.txns,.string r2.seed]),λ u w'=>∃b,u=.slice (some ⟨b,0,none⟩) 2 2∧w'.heap[b]?=some (.cells #[.int .u64 r0.rnd,.string r0.prev,.string r0.txns,.string r0.seed,.int .u64 r2.rnd,.string r2.prev,.string r2.txns,.string r2.seed] 33 (0,0)),λ u _=>∃(a:Option Addr) (k:Nat),u=.tuple #[.string ⟨#[]⟩,.slice a 0 k,.int .i64 2],λ u _=>∃(a:Option Addr) (k:Nat),u=.tuple #[.string ⟨#[]⟩,.slice a 0 k,.int .i64 2],λ u _=>u=(.string ⟨#[]⟩),λ _ _=>True,λ u _=>u=(.int .i64 2),λ u _=>u=(.string ⟨#[]⟩),λ _ _=>True,λ u _=>u=(.int .i64 2)]) rfl (by kernel_rfl) (mono_of ⟨mono_eq,mono_eq,mono_eq,mono_eq,mono_eq,mono_eq,?m6,mono_eq,mono_eq,mono_eq,mono_eq,mono_eq,mono_eq,mono_eq,mono_eq,trivial⟩) (steps_of 15 ⟨?s0,?s1,?s2,?s3,?s4,?s5,?s6,?s7,?s8,?s9,?s10,?s11,?s12,?s13,?s14,trivial⟩) ?_
 case m6=>
  exact⟨λ u w1 w' h ⟨b,h1,hb⟩=>⟨b,h1,ext_block h hb⟩,λ _ u w1 w' h ⟨b,h1,hb⟩=>⟨b,h1,extB_block h (by simp) hb⟩⟩
 case s0=>
  refine qV (λ _=>rfl) rfl λ av wv hE hO hD=>?_
  simp[go_sem,qF av 1 (.slice (some ⟨g,o,none⟩) 3 c) (hO.2.2 1 rfl)]
 case s1=>
  refine qV (λ _=>rfl) rfl λ av wv hE hO hD=>?_
  simp[go_sem,qE (hD.1 rfl _ rfl)]
 case s2=>
  refine qV (λ _=>rfl) rfl λ av wv hE hO hD=>?_
  simp[go_sem,qE (hD.1 rfl _ rfl),extB_cell hE (by simp) a0,extB_cell hE (by simp) a1,extB_cell hE (by simp) a2,extB_cell hE (by simp) a3,extB_cell hE (by simp) b0,extB_cell hE (by simp) b1,extB_cell hE (by simp) b2,extB_cell hE (by simp) b3]
 case s3=>
  refine qV (λ _=>rfl) rfl λ av wv hE hO hD=>?_
  simp[go_sem,qF av 1 (.slice (some ⟨g,o,none⟩) 3 c) (hO.2.2 1 rfl)]
 case s4=>
  refine qV (λ _=>rfl) rfl λ av wv hE hO hD=>?_
  simp[go_sem,qE (hD.1 rfl _ rfl)]
 case s5=>
  refine qV (λ _=>rfl) rfl λ av wv hE hO hD=>?_
  simp[go_sem,qE (hD.1 rfl _ rfl),extB_cell hE (by simp) a0,extB_cell hE (by simp) a1,extB_cell hE (by simp) a2,extB_cell hE (by simp) a3,extB_cell hE (by simp) b0,extB_cell hE (by simp) b1,extB_cell hE (by simp) b2,extB_cell hE (by simp) b3]
 case s6=>
  refine step_wp (λ av wv hE hS hO hD=>⟨rfl,?_⟩)
  have f56:=qE (hD.1 rfl _ rfl);have f59:=qE (hD.2.1 rfl _ rfl)
  exact wp_of_run (v:=.slice (some ⟨wv.heap.size,0,none⟩) 2 2) (w':=wv.alloc (.cells #[.int .u64 r0.rnd,.string r0.prev,.string r0.txns,.string r0.seed,.int .u64 r2.rnd,.string r2.prev,.string r2.txns,.string r2.seed] 33)) (by simp[go_sem,f56,f59]) ⟨_,rfl,es_of_ext (balloc (Ext_refl _) _),wv.heap.size,rfl,heap_alloc_new _ _⟩
 case s7=>
  refine step_wp (λ av wv hE hS hO hD=>⟨rfl,?_⟩)
  have d60:(λ u w'=>∃b,u=.slice (some ⟨b,0,none⟩) 2 2∧w'.heap[b]?=some (.cells #[.int .u64 r0.rnd,.string r0.prev,.string r0.txns,.string r0.seed,.int .u64 r2.rnd,.string r2.prev,.string r2.txns,.string r2.seed] 33 (0,0))) (av.eval (.tmp 60)) wv:=hD.1 rfl _ rfl
  obtain⟨bq,hq,hcq⟩:=d60
  have fq:=(ev_form av 60).symm.trans hq
  exact wp_of_callR (f:=49) (args:=#[.slice (some ⟨bq,0,none⟩) 2 2,.int .u64 5]) (R:=λ u w2=>(∃(a:Option Addr) (k:Nat),u=.tuple #[.string ⟨#[]⟩,.slice a 0 k,.int .i64 2])∧Below wv.heap.size wv w2) (by simp[go_sem,fq]) (HGP.out wv bq (of_drew hE) hcq) (λ u w2 h=>⟨_,rfl,es_of_ext h.2,h.1⟩)
 case s8=>
  refine step_wp (λ av wv hE hS hO hD=>⟨rfl,?_⟩)
  have d61:(λ u _=>∃(a:Option Addr) (k:Nat),u=.tuple #[.string ⟨#[]⟩,.slice a 0 k,.int .i64 2]) (av.eval (.tmp 61)) wv:=hD.1 rfl _ rfl
  obtain⟨a,k,hq⟩:=d61
  have fq:=(ev_form av 61).symm.trans hq
  exact wp_of_run (v:=.tuple #[.string ⟨#[]⟩,.slice a 0 k,.int .i64 2]) (w':=wv) (by simp[go_sem,fq]) ⟨_,rfl,es_of_ext (Ext_refl _),a,k,rfl⟩
 case s9=>
  refine step_wp (λ av wv hE hS hO hD=>⟨rfl,?_⟩)
  have d53:(λ u _=>∃(a:Option Addr) (k:Nat),u=.tuple #[.string ⟨#[]⟩,.slice a 0 k,.int .i64 2]) (av.eval (.tmp 53)) wv:=hD.1 rfl _ rfl
  obtain⟨a,k,hq⟩:=d53
  have fq:=(ev_form av 53).symm.trans hq
  exact wp_of_run (v:=.string ⟨#[]⟩) (w':=wv) (by simp[go_sem,fq]) ⟨_,rfl,es_of_ext (Ext_refl _),rfl⟩
 case s10=>
  refine step_wp (λ av wv hE hS hO hD=>⟨rfl,?_⟩)
  have d53:(λ u _=>∃(a:Option Addr) (k:Nat),u=.tuple #[.string ⟨#[]⟩,.slice a 0 k,.int .i64 2]) (av.eval (.tmp 53)) wv:=hD.1 rfl _ rfl
  obtain⟨a,k,hq⟩:=d53
  have fq:=(ev_form av 53).symm.trans hq
  exact wp_of_run (v:=.slice a 0 k) (w':=wv) (by simp[go_sem,fq]) ⟨_,rfl,es_of_ext (Ext_refl _),trivial⟩
 case s11=>
  refine step_wp (λ av wv hE hS hO hD=>⟨rfl,?_⟩)
  have d53:(λ u _=>∃(a:Option Addr) (k:Nat),u=.tuple #[.string ⟨#[]⟩,.slice a 0 k,.int .i64 2]) (av.eval (.tmp 53)) wv:=hD.1 rfl _ rfl
  obtain⟨a,k,hq⟩:=d53
  have fq:=(ev_form av 53).symm.trans hq
  exact wp_of_run (v:=.int .i64 2) (w':=wv) (by simp[go_sem,fq]) ⟨_,rfl,es_of_ext (Ext_refl _),rfl⟩
 case s12=>
  refine qV (λ _=>rfl) rfl λ av wv hE hO hD=>?_
  simp[go_sem,qE (hD.1 rfl _ rfl)]
 case s13=>
  refine step_wp (λ av wv hE hS hO hD=>⟨rfl,?_⟩)
  exact wp_of_run (v:=av.eval (.tmp 63)) (w':=wv) (by simp[go_sem]) ⟨_,rfl,es_of_ext (Ext_refl _),trivial⟩
 case s14=>
  refine qV (λ _=>rfl) rfl λ av wv hE hO hD=>?_
  simp[go_sem,qE (hD.1 rfl _ rfl)]
 intro a' w' hE hO hall
 have hA:=act_of_outer (ds:=[54,55,56,57,58,59,60,61,53,62,63,64,5,6,7]) rfl hO (by kernel_rfl)
 obtain⟨j0,j1,j2,j3,j4,j5,j6,j7,j8,j9,j10,j11,j12,j13,j14,-⟩:=hall
 have e60:(λ u w'=>∃b,u=.slice (some ⟨b,0,none⟩) 2 2∧w'.heap[b]?=some (.cells #[.int .u64 r0.rnd,.string r0.prev,.string r0.txns,.string r0.seed,.int .u64 r2.rnd,.string r2.prev,.string r2.txns,.string r2.seed] 33 (0,0))) (a'.eval (.tmp 60)) w':=j6 _ rfl;have e61:(λ u _=>∃(a:Option Addr) (k:Nat),u=.tuple #[.string ⟨#[]⟩,.slice a 0 k,.int .i64 2]) (a'.eval (.tmp 61)) w':=j7 _ rfl;have e53:(λ u _=>∃(a:Option Addr) (k:Nat),u=.tuple #[.string ⟨#[]⟩,.slice a 0 k,.int .i64 2]) (a'.eval (.tmp 53)) w':=j8 _ rfl;have e63:(λ _ _=>True) (a'.eval (.tmp 63)) w':=j10 _ rfl;have e6:(λ _ _=>True) (a'.eval (.tmp 6)) w':=j13 _ rfl
 obtain⟨v60,hv60⟩:∃v,a'.eval (.tmp 60)=v:=⟨_,rfl⟩
 rw[hv60]at e60
 obtain⟨v61,hv61⟩:∃v,a'.eval (.tmp 61)=v:=⟨_,rfl⟩
 rw[hv61]at e61
 obtain⟨v53,hv53⟩:∃v,a'.eval (.tmp 53)=v:=⟨_,rfl⟩
 rw[hv53]at e53
 obtain⟨v63,hv63⟩:∃v,a'.eval (.tmp 63)=v:=⟨_,rfl⟩
 rw[hv63]at e63
 obtain⟨v6,hv6⟩:∃v,a'.eval (.tmp 6)=v:=⟨_,rfl⟩
 rw[hv6]at e6
 simp only[List.foldl_cons,List.foldl_nil,Act.put,List.setIfInBounds_toArray,List.set_cons_succ,List.set_cons_zero,qJ 54 (j0 _ rfl),qJ 55 (j1 _ rfl),qJ 56 (j2 _ rfl),qJ 57 (j3 _ rfl),qJ 58 (j4 _ rfl),qJ 59 (j5 _ rfl),hv60,hv61,hv53,qJ 62 (j9 _ rfl),hv63,qJ 64 (j11 _ rfl),qJ 5 (j12 _ rfl),hv6,qJ 7 (j14 _ rfl)]at hA
 clear hO j6 j7 j8 j10 j13 j0 j1 j2 j3 j4 j5 hv60 hv61 hv53 j9 hv63 j11 j12 hv6 j14
 subst hA
 have B3:Hid (Below w.heap.size w w'):=Lib.hid (bnext B2.out (of_drew hE));have HH3:=Lib.hid (HH2.out.below (of_drew hE))
 obtain⟨W3,hW3⟩:∃W,w'=W:=⟨_,rfl⟩
 rw[hW3]at B3 HH3 ⊢
 clear hE hW3 a0 a1 a2 a3 b0 b1 b2 b3
 go_wp2_with fail
 refine(ihd_err B [r0,r1,r2] (some ⟨g,o,none⟩) c 8 W3 ((te_pt HT.out).below B3.out) HH3.out HK.out.oks (by decide:3≤65536) 3 rfl 19 (HK.out.none (by decide) (by decide) (by decide))).mono ?_
 rintro e w4 ⟨v,rfl,⟨p4,k4,rfl⟩,hb⟩
 have B4:Hid (Below w.heap.size w w4):=Lib.hid (bnext B3.out hb);have HH4:=Lib.hid (HH3.out.below hb);clear hb
 go_wp2_with fail
 refine(ihd_err B [r0,r1,r2] (some ⟨g,o,none⟩) c 4 w4 ((te_pt HT.out).below B4.out) HH4.out HK.out.oks (by decide:3≤65536) 3 rfl 19 (HK.out.none (by decide) (by decide) (by decide))).mono ?_
 rintro e w5 ⟨v,rfl,⟨p5,k5,rfl⟩,hb⟩
 have B5:Hid (Below w.heap.size w w5):=Lib.hid (bnext B4.out hb);have HH5:=Lib.hid (HH4.out.below hb);clear hb
 go_wp2_with fail
 have hih:=HK.out.some;have h9:=iheader_any B [r0,r1,r2] (some ⟨g,o,none⟩) c 6 w5 ((te_pt HT.out).below B5.out) HH5.out HK.out.oks (by decide:3≤65536)
 rw[len3]at h9
 refine h9.mono ?_
 rintro e w6 ⟨v,rfl,hv,hb⟩
 rw[hih.1,hih.2.2]
 rw[hih.2.1]at hv
 have hkn:=kn_is HK.out
 obtain⟨P,hP⟩:∃P,oneD (elL [r0,r1,r2]) 1=P:=⟨_,rfl⟩
 obtain⟨s,hs⟩:∃s,hbs r1=s:=⟨_,rfl⟩
 obtain⟨rt,hrt⟩:∃rt,treeR (elL [r0,r1,r2])=rt:=⟨_,rfl⟩
 have HRT:=Lib.hid hrt
 rw[hP,hs,hrt]at hkn
 rw[hP]at hv
 rw[hs]
 have HKN:=Lib.hid hkn
 obtain⟨pa,pc,rfl,hpt,hpc,-⟩:=hv
 rw[hkn.pl]at hpc ⊢
 obtain⟨pg,po,rfl,-⟩:=hpt 0 (by rw[hkn.pl];decide)
 have HPC:=Lib.hid hpc;have HPT:=Lib.hid hpt;have B6:Hid (Below w.heap.size w w6):=Lib.hid (bnext B5.out hb);have HH6:=Lib.hid (HH5.out.below hb);clear hb hih h9 hkn hpt hpc hP hs hrt
 go_wp2_with fail
 refine(works27_any B w6 (HT.out.below B6.out)).mono ?_
 rintro e w7 ⟨rfl,hb⟩
 have B7:Hid (Below w.heap.size w w7):=Lib.hid (bnext B6.out hb);have HH7:=Lib.hid (HH6.out.below hb);have HP7:=Lib.hid (HPT.out.below hb);clear hb
 go_wp2
 go_loopg [18,17] 3 (λ gg i v wr=>∃m:Nat,gg+m=3∧i=.int .i64 (m:Nat)∧Hid (AlSt [r0,r1,r2] 0 w7 wr v m))
 case atStart=>exact⟨0,rfl,rfl,Lib.hid ⟨Below.refl _ _,World.ownsRow_nil _ _ _ _⟩⟩
 case round=>
  obtain⟨m,hm,rfl,HS⟩:=hrel
  by_cases hlt:m<3
  ·have b0:(m:Int)<3:=by omega
   obtain⟨_,_,he,⟨e0,e1,e2,e3⟩⟩:=(HH7.out.below HS.out.b) m hlt
   cases he
   have HRO:=Lib.hid (HK.out.rw.o m);have HRM:=Lib.hid (HK.out.rw.m m hlt)
   obtain⟨r,hr⟩:∃r,hnth [r0,r1,r2] m=r:=⟨_,rfl⟩
   have HRE:=Lib.hid hr
   rw[hr]at e0 e1 e2 e3 HRO HRM
   have HLT:=Lib.hid hlt;have HMM:=Lib.hid hm;clear hr hm
   go_wp2_with fail
   refine(hw_yes B r _ (te_pt ((HT.out.below B7.out).below HS.out.b)) HRO.out HRM.out).mono ?_
   rintro e w2 ⟨rfl,hb⟩
   have HB2:Hid (Below w7.heap.size w7 w2):=Lib.hid (bnext HS.out.b hb);have HO2:=Lib.hid (own_below HS.out.o hb);clear hb e0 e1 e2 e3 hlt
   go_wp2_with (at_builtin;refine wpList_append_own _ rfl _ _ 36 rfl w7.heap.size 9 i0 (.string ⟨#[]⟩) 1 16 Tryz.underlying36 hi HZ.out hz1 hz2 rfl (by decide) _ _ _ rfl (HO2.out.alloc _) ⟨w2.heap.size,0,none⟩ 1 1 [.string (hbs r)] rfl rfl ?c1 ?c2 ?c3 ?c4 ?c5 ?_)
   case c1=>exact World.news_of_block (alloc_new_at _ rfl)
   case c2=>intro u hu;simp at hu;subst hu;rfl
   case c3=>unfold maxLen;have:=HLT.out;omega
   case c4=>have:=HLT.out;omega
   case c5=>have:=HB2.out.size;simp;omega
   intro v' w3 hown' hgrow _
   have HB3:Hid (Below w7.heap.size w7 w3):=Lib.hid (grownBy_below (balloc HB2.out _) hgrow (λ k hk=>(HO2.out.lt k hk).1));have HO3:Hid (w3.ownsRow w7.heap.size 9 1 v' (m+1) ((elL ([r0,r1,r2].take (m+1))).map Value.string)):=Lib.hid (by
    rw[elL_snoc [r0,r1,r2] m HLT.out,HRE.out,List.map_append];exact hown')
   clear hown' hgrow;have hlm:=HLT.out
   go_wp2
   go_roundg (gk - 1)
   case rel=>exact⟨m+1,by have:=HMM.out;omega,by go_num,Lib.hid ⟨HB3.out,HO3.out⟩⟩
   case measure=>have:=HMM.out;omega
  ·obtain rfl:m=3:=by omega
   have b0:¬((3:Nat):Int)<3:=by decide
   have HSO:=Lib.hid HS.out.o
   rw[show [r0,r1,r2].take 3=[r0,r1,r2]from rfl]at HSO
   have HSO2:Hid (wr.ownsRow w7.heap.size 9 1 u17 (len (elL [r0,r1,r2])) ((elL [r0,r1,r2]).map Value.string)):=HSO
   obtain⟨aa,ca,rfl,hta,hca,-⟩:=TextsAre.own HSO2.out
   rw[show len (elL [r0,r1,r2])=3 from rfl]
   obtain⟨wz,hwz⟩:∃wz,wz=wr:=⟨_,rfl⟩
   subst hwz
   have HTA:=Lib.hid hta;have B8:Hid (Below w.heap.size w wz):=Lib.hid (bnext B7.out HS.out.b);have HH8:=Lib.hid (HH7.out.below HS.out.b);have HP8:=Lib.hid (HP7.out.below HS.out.b);clear hta hca HSO HSO2 HS
   go_wp2_with fail
   have h9:=lroot27_any (elL [r0,r1,r2]) aa ca wz HTA.out (by decide:3≤65536) (λ i hi=>by
    have hi:i<3:=hi
    rw[elL_at [r0,r1,r2] i hi]
    exact Nat.le_trans (hbs_size (HK.out.rw.m i hi)) (by decide))
   rw[show len (elL [r0,r1,r2])=3 from rfl,HRT.out]at h9
   refine h9.mono ?_
   rintro e w9 ⟨rfl,hb⟩
   have B9:Hid (Below w.heap.size w w9):=Lib.hid (bnext B8.out hb);have HH9:=Lib.hid (HH8.out.below hb);have HP9:=Lib.hid (HP8.out.below hb);clear hb h9
   go_wp2_with fail
   have h9:=ihis_any B rt 5 7 s P (some ⟨pg,po,none⟩) pc w9 (HT.out.below B9.out) HP9.out (by rw[HKN.out.pl];decide) (by rw[HKN.out.pl];exact HPC.out) ⟨by decide,by decide⟩ ⟨by decide,by decide⟩ (by have:=HKN.out.sz;omega)
   unfold IsIs at h9
   rw[HKN.out.ok,HKN.out.is,HKN.out.pl]at h9
   refine h9.mono ?_
   rintro e w10 ⟨rfl,hb⟩
   go_upto_region 17 with fail
   obtain⟨V10,hV⟩:∃V,w10.alloc (.cells #[.int .u64 r1.rnd,.string r1.prev,.string r1.txns,.string r1.seed] 33)=V:=⟨_,rfl⟩
   obtain⟨xb,hxb⟩:∃xb,w10.heap.size=xb:=⟨_,rfl⟩
   have HX10:Hid (V10.heap[xb]?=some (.cells #[.int .u64 r1.rnd,.string r1.prev,.string r1.txns,.string r1.seed] 33 (0,0))):=Lib.hid (by rw[←hV,←hxb];exact heap_alloc_new _ _);have BX:Below w9.heap.size w9 V10:=by rw[←hV];exact balloc hb _
   have B10:Hid (Below w.heap.size w V10):=Lib.hid (bnext B9.out BX);have HH10:=Lib.hid (HH9.out.below BX);have HP10:=Lib.hid (HP9.out.below BX)
   rw[hV,hxb]
   clear hb h9 hV hxb BX
   go_wp2_with fail
   refine(ihis_err B rt 7 5 s P (some ⟨pg,po,none⟩) pc V10 (HT.out.below B10.out) HP10.out (by rw[HKN.out.pl];decide) (by rw[HKN.out.pl];exact HPC.out) ⟨by decide,by decide⟩ ⟨by decide,by decide⟩ (by have:=HKN.out.sz;omega) 2 (isE_arg (isA_turned rt)) (by decide) 2 HKN.out.pl).mono ?_
   rintro e w11 ⟨rfl,hb⟩
   go_upto_region 18 with fail
   obtain⟨V11,hV⟩:∃V,w11.alloc (.cells #[.int .u64 0,.string ⟨#[]⟩,.string ⟨#[]⟩,.string ⟨#[]⟩] 33)=V:=⟨_,rfl⟩
   have BX:Below V10.heap.size V10 V11:=by rw[←hV];exact balloc hb _
   have B11:Hid (Below w.heap.size w V11):=Lib.hid (bnext B10.out BX);have HH11:=Lib.hid (HH10.out.below BX);have HP11:=Lib.hid (HP10.out.below BX);have HX11:=Lib.hid ((BX.block _ (lt_of_block HX10.out)).trans HX10.out)
   rw[hV]
   clear hb hV BX
   go_wp2_with fail
   refine(ihis_err B rt 5 69 s P (some ⟨pg,po,none⟩) pc V11 (HT.out.below B11.out) HP11.out (by rw[HKN.out.pl];decide) (by rw[HKN.out.pl];exact HPC.out) ⟨by decide,by decide⟩ ⟨by decide,by decide⟩ (by have:=HKN.out.sz;omega) 2 (isE_arg (isA_long rt)) (by decide) 2 HKN.out.pl).mono ?_
   rintro e w12 ⟨rfl,hb⟩
   go_upto_region 19 with fail
   obtain⟨V12,hV⟩:∃V,w12.alloc (.cells #[.int .u64 0,.string ⟨#[]⟩,.string ⟨#[]⟩,.string ⟨#[]⟩] 33)=V:=⟨_,rfl⟩
   have BX:Below V11.heap.size V11 V12:=by rw[←hV];exact balloc hb _
   have B12:Hid (Below w.heap.size w V12):=Lib.hid (bnext B11.out BX);have HH12:=Lib.hid (HH11.out.below BX);have HP12:=Lib.hid (HP11.out.below BX);have HX12:=Lib.hid ((BX.block _ (lt_of_block HX11.out)).trans HX11.out)
   rw[hV]
   clear hb hV BX
   obtain⟨sx,hsx⟩:∃sx,s++⟨#[120]⟩=sx:=⟨_,rfl⟩
   have HSX:Hid (isE rt 5 7 sx P=5∧sx.size≤1000000):=Lib.hid (by rw[←hsx];exact⟨HKN.out.more,kn_xsize HKN.out.sz⟩);have q2:s.size+1≤9223372036854775807:=by have:=HKN.out.sz;omega
   go_wp2_with fail
   refine(ihis_err B rt 5 7 sx P (some ⟨pg,po,none⟩) pc V12 (HT.out.below B12.out) HP12.out (by rw[HKN.out.pl];decide) (by rw[HKN.out.pl];exact HPC.out) ⟨by decide,by decide⟩ ⟨by decide,by decide⟩ HSX.out.2 5 HSX.out.1 (by decide) 2 HKN.out.pl).mono ?_
   rintro e w13 ⟨rfl,hb⟩
   go_upto_region 20 with fail
   obtain⟨V13,hV⟩:∃V,w13.alloc (.cells #[.int .u64 0,.string ⟨#[]⟩,.string ⟨#[]⟩,.string ⟨#[]⟩] 33)=V:=⟨_,rfl⟩
   have BX:Below V12.heap.size V12 V13:=by rw[←hV];exact balloc hb _
   have B13:Hid (Below w.heap.size w V13):=Lib.hid (bnext B12.out BX);have HH13:=Lib.hid (HH12.out.below BX);have HP13:=Lib.hid (HP12.out.below BX);have HX13:=Lib.hid ((BX.block _ (lt_of_block HX12.out)).trans HX12.out)
   rw[hV]
   clear hb hV BX;clear hsx q2;have HD1:Hid (len (P.drop 1)=1):=Lib.hid (by have:=HKN.out.pl;rw[len_eq]at this ⊢;rw[List.length_drop,this]);have sl:=kn_drop pg po pc HPC.out
   go_wp2_with fail
   refine(ihis_err B rt 5 7 s (P.drop 1) (some ⟨pg,po+1,none⟩) (pc - 1) V13 (HT.out.below B13.out) (kn_txts HP13.out) (by rw[HD1.out];decide) (by rw[HD1.out];have:=HPC.out;omega) ⟨by decide,by decide⟩ ⟨by decide,by decide⟩ (by have:=HKN.out.sz;omega) 20 HKN.out.less (by decide) 1 HD1.out).mono ?_
   rintro e w14 ⟨rfl,hb⟩
   go_upto_region 21 with fail
   obtain⟨V14,hV⟩:∃V,w14.alloc (.cells #[.int .u64 0,.string ⟨#[]⟩,.string ⟨#[]⟩,.string ⟨#[]⟩] 33)=V:=⟨_,rfl⟩
   have BX:Below V13.heap.size V13 V14:=by rw[←hV];exact balloc hb _
   have B14:Hid (Below w.heap.size w V14):=Lib.hid (bnext B13.out BX);have HH14:=Lib.hid (HH13.out.below BX);have HP14:=Lib.hid (HP13.out.below BX);have HX14:=Lib.hid ((BX.block _ (lt_of_block HX13.out)).trans HX13.out)
   rw[hV]
   clear hb hV BX;clear sl;have hzs:=HKN.out.zz
   obtain⟨y9,hy9⟩:∃y,rt.extract 1 32=y:=⟨_,rfl⟩
   have HY9:Hid (y9.size=31):=Lib.hid (by rw[←hy9,ByteArray.size_extract];omega)
   go_wp2_with fail
   refine(ihis_err B y9 5 7 s P (some ⟨pg,po,none⟩) pc V14 (HT.out.below B14.out) HP14.out (by rw[HKN.out.pl];decide) (by rw[HKN.out.pl];exact HPC.out) ⟨by decide,by decide⟩ ⟨by decide,by decide⟩ (by have:=HKN.out.sz;omega) 2 (isE_arg (isA_cut (by rw[HY9.out];decide) 5 7)) (by decide) 2 HKN.out.pl).mono ?_
   rintro e w15 ⟨rfl,hb⟩
   go_upto_region 22 with fail
   obtain⟨V15,hV⟩:∃V,w15.alloc (.cells #[.int .u64 0,.string ⟨#[]⟩,.string ⟨#[]⟩,.string ⟨#[]⟩] 33)=V:=⟨_,rfl⟩
   have BX:Below V14.heap.size V14 V15:=by rw[←hV];exact balloc hb _
   have B15:Hid (Below w.heap.size w V15):=Lib.hid (bnext B14.out BX);have HH15:=Lib.hid (HH14.out.below BX);have HP15:=Lib.hid (HP14.out.below BX);have HX15:=Lib.hid ((BX.block _ (lt_of_block HX14.out)).trans HX14.out)
   rw[hV]
   clear hb hV BX;clear hzs hy9;have x0:V15.cell? ⟨xb,0,none⟩=some (.int .u64 r1.rnd):=block_cell HX15.out 0;have x1:V15.cell? ⟨xb,1,none⟩=some (.string r1.prev):=block_cell HX15.out 1;have x2:V15.cell? ⟨xb,2,none⟩=some (.string r1.txns):=block_cell HX15.out 2;have x3:V15.cell? ⟨xb,3,none⟩=some (.string r1.seed):=block_cell HX15.out 3
   obtain⟨_,_,he,⟨q0,q1,q2,q3⟩⟩:=HH15.out 1 (by decide:1<3)
   cases he
   have a0:V15.cell? ⟨g,o+4,none⟩=some (.int .u64 r1.rnd):=q0;have a1:V15.cell? ⟨g,o+4+1,none⟩=some (.string r1.prev):=q1;have a2:V15.cell? ⟨g,o+4+2,none⟩=some (.string r1.txns):=q2;have a3:V15.cell? ⟨g,o+4+3,none⟩=some (.string r1.seed):=q3;have d1:V15.cell? ⟨g,o+5,none⟩=some (.string r1.prev):=a1;have d2:V15.cell? ⟨g,o+6,none⟩=some (.string r1.txns):=a2;have d3:V15.cell? ⟨g,o+7,none⟩=some (.string r1.seed):=a3;clear q0 q1 q2 q3;have r1e:(r1.prev.toList == r1.prev.toList)=true:=by rw[str_beq,decide_eq_true rfl]
   have r2e:(r1.txns.toList == r1.txns.toList)=true:=by rw[str_beq,decide_eq_true rfl]
   have r3e:(r1.seed.toList == r1.seed.toList)=true:=by rw[str_beq,decide_eq_true rfl]
   go_quiet (fail)
   clear x0 x1 x2 x3 a0 a1 a2 a3 d1 d2 d3 r1e r2e r3e
   obtain⟨w16,hw16⟩:∃W,V15.drewN nq=W:=⟨_,rfl⟩
   have B16:Hid (Below w.heap.size w w16):=Lib.hid (by rw[←hw16];exact bdrewN B15.out _)
   rw[hw16]
   clear hw16 HX10 HX11 HX12 HX13 HX14 HX15 HH9 HH10 HH11 HH12 HH13 HH14 HH15 HP9 HP10 HP11 HP12 HP13 HP14 HP15
   go_wp2_with fail
   refine(itx_err [kA,⟨#[98]⟩,⟨#[99]⟩] (some ⟨w16.heap.size,0,none⟩) 3 3 _ (λ i hi=>⟨_,0,rfl,by
    have hi:i<3:=hi
    match i,hi with
    | 0,_=>rw[block_cell (heap_alloc_new _ _)];rfl
    | 1,_=>rw[block_cell (heap_alloc_new _ _)];rfl
    | 2,_=>rw[block_cell (heap_alloc_new _ _)];rfl⟩) (by decide:3≤65536) (λ i hi=>by
    have hi:i<3:=hi
    match i,hi with
    | 0,_=>decide
    | 1,_=>decide
    | 2,_=>decide) 3 rfl 19 kn_it0).mono ?_
   rintro e w17 ⟨⟨p17,k17,rfl⟩,hb⟩
   have B17:Hid (Below w.heap.size w w17):=Lib.hid (bnext (balloc B16.out _) hb);clear hb
   go_wp2_with fail
   refine(itx_err [kA,⟨#[]⟩] (some ⟨w17.heap.size,0,none⟩) 2 0 _ (λ i hi=>⟨_,0,rfl,by
    have hi:i<2:=hi
    match i,hi with
    | 0,_=>rw[block_cell (heap_alloc_new _ _)];rfl
    | 1,_=>rw[block_cell (heap_alloc_new _ _)];rfl⟩) (by decide:2≤65536) (λ i hi=>by
    have hi:i<2:=hi
    match i,hi with
    | 0,_=>decide
    | 1,_=>decide) 2 rfl 2 kn_it1).mono ?_
   rintro e w18 ⟨⟨p18,k18,rfl⟩,hb⟩
   have B18:Hid (Below w.heap.size w w18):=Lib.hid (bnext (balloc B17.out _) hb);clear hb
   go_wp2_with fail
   refine(itx_err [] none 0 0 _ (Txts.nil _ _) (by decide:0≤65536) (λ i hi=>absurd hi (Nat.not_lt_zero _)) 0 rfl 2 kn_it2).mono ?_
   rintro e w19 ⟨⟨p19,k19,rfl⟩,hb⟩
   have B19:Hid (Below w.heap.size w w19):=Lib.hid (bnext B18.out hb);clear hb
   obtain⟨W8,mk,hb8,cv⟩:=make_zb 65 65 rfl (by decide) w19
   obtain⟨z65,hz65⟩:∃z65,zerN 65=z65:=⟨_,rfl⟩
   have HZ65:Hid (z65.size=65):=Lib.hid (by rw[←hz65];exact zerN_size 65)
   rw[hz65]at cv
   have HX8:=Lib.hid (bnext B19.out hb8);clear hz65 hb8
   go_wp2_with fail
   refine(itx_err [z65] (some ⟨W8.heap.size,0,none⟩) 1 0 _ (one_txts1 (heap_alloc_new _ _)) (by decide:1≤65536) (λ i hi=>by
    have hi:i<1:=hi
    obtain rfl:i=0:=by omega
    show z65.size≤_
    rw[HZ65.out];decide) 1 rfl 2 (kn_it3 HZ65.out)).mono ?_
   rintro e w20 ⟨⟨p20,k20,rfl⟩,hb⟩
   have B20:Hid (Below w.heap.size w w20):=Lib.hid (bnext (balloc HX8.out _) hb);clear hb;clear mk cv
   go_wp2_with fail
   refine(itx_err [kA] (some ⟨w20.heap.size,0,none⟩) 1 (-1) _ (one_txts1 (heap_alloc_new _ _)) (by decide:1≤65536) (λ i hi=>by
    have hi:i<1:=hi
    match i,hi with
    | 0,_=>decide) 1 rfl 19 kn_it4).mono ?_
   rintro e w21 ⟨⟨p21,k21,rfl⟩,hb⟩
   have B21:Hid (Below w.heap.size w w21):=Lib.hid (bnext (balloc B20.out _) hb);clear hb
   go_wp2_with fail
   refine(hash_any leafT [kA] (some ⟨w21.heap.size,0,none⟩) 1 _ (by decide) (by decide) (one_txts1 (heap_alloc_new _ _)) (by decide)).mono ?_
   rintro e w22 ⟨rfl,hb⟩
   have B22:Hid (Below w.heap.size w w22):=Lib.hid (bnext (balloc B21.out _) hb);have htk:=kn_ti
   obtain⟨one,hone⟩:∃one,hashP leafT [kA]=one:=⟨_,rfl⟩
   rw[hone]at htk ⊢
   have HTK:=Lib.hid htk;clear hb htk hone
   go_wp2_with fail
   have h9:=itis_any one 0 1 kA [] none 0 w22 (Txts.nil _ _) (by decide) (Nat.zero_le _) ⟨by decide,by decide⟩ ⟨by decide,by decide⟩ (by decide)
   rw[HTK.out.ok]at h9
   refine h9.mono ?_
   rintro e w23 ⟨rfl,hb⟩
   have B23:Hid (Below w.heap.size w w23):=Lib.hid (bnext B22.out hb);clear hb h9
   go_wp2_with fail
   have h9:=itis_any one 0 2 kA [] none 0 w23 (Txts.nil _ _) (by decide) (Nat.zero_le _) ⟨by decide,by decide⟩ ⟨by decide,by decide⟩ (by decide)
   rw[HTK.out.two]at h9
   refine h9.mono ?_
   rintro e w24 ⟨rfl,hb⟩
   have B24:Hid (Below w.heap.size w w24):=Lib.hid (bnext B23.out hb);clear hb h9
   go_wp2_with fail
   have h9:=itis_any one 1 1 kA [] none 0 w24 (Txts.nil _ _) (by decide) (Nat.zero_le _) ⟨by decide,by decide⟩ ⟨by decide,by decide⟩ (by decide)
   rw[kn_ti2 one]at h9
   refine h9.mono ?_
   rintro e w25 ⟨rfl,hb⟩
   have B25:Hid (Below w.heap.size w w25):=Lib.hid (bnext B24.out hb);clear hb h9
   go_wp2_with fail
   have h9:=itis_any one 0 0 kA [] none 0 w25 (Txts.nil _ _) (by decide) (Nat.zero_le _) ⟨by decide,by decide⟩ ⟨by decide,by decide⟩ (by decide)
   rw[kn_ti3 one]at h9
   refine h9.mono ?_
   rintro e w26 ⟨rfl,hb⟩
   have B26:Hid (Below w.heap.size w w26):=Lib.hid (bnext B25.out hb);clear hb h9
   go_wp2_with fail
   have h9:=itis_any one 0 65 kA [] none 0 w26 (Txts.nil _ _) (by decide) (Nat.zero_le _) ⟨by decide,by decide⟩ ⟨by decide,by decide⟩ (by decide)
   rw[kn_ti4 one]at h9
   refine h9.mono ?_
   rintro e w27 ⟨rfl,hb⟩
   have B27:Hid (Below w.heap.size w w27):=Lib.hid (bnext B26.out hb);clear hb h9
   go_wp2_with fail
   have h9:=itis_any one 0 1 ⟨#[]⟩ [] none 0 w27 (Txts.nil _ _) (by decide) (Nat.zero_le _) ⟨by decide,by decide⟩ ⟨by decide,by decide⟩ (by decide)
   rw[kn_ti5 one]at h9
   refine h9.mono ?_
   rintro e w28 ⟨rfl,hb⟩
   have B28:Hid (Below w.heap.size w w28):=Lib.hid (bnext B27.out hb);clear hb h9;have hzs:=HTK.out.z
   obtain⟨y8,hy8⟩:∃y,one.extract 1 32=y:=⟨_,rfl⟩
   have HY8:Hid (y8.size=31):=Lib.hid (by rw[←hy8,ByteArray.size_extract];omega)
   go_wp2_with fail
   have h9:=itis_any y8 0 1 kA [] none 0 w28 (Txts.nil _ _) (by decide) (Nat.zero_le _) ⟨by decide,by decide⟩ ⟨by decide,by decide⟩ (by decide)
   rw[kn_ti6 (one:=y8) (by rw[HY8.out];decide)]at h9
   refine h9.mono ?_
   rintro e w29 ⟨rfl,hb⟩
   have B29:Hid (Below w.heap.size w w29):=Lib.hid (bnext B28.out hb);clear hb h9;clear hzs hy8
   go_wp2
   go_ret
   exact⟨rfl,B29.out⟩
end Go.Proofs.YtpobhbdomldecaaGreatDoor
namespace Go.Proofs.YtpobhbdomldecaaGreatDoor
set_option linter.unusedSimpArgs false
set_option linter.unusedVariables false
open Go.RowKit Go.ChangeShapes Go.WideShapes Go.ChangeAt
def rowD(r:URow):DataW Unit:=.agg [.lit (.int .u8 r.lo),.lit (.int .u8 r.hi),.lit (.int .i64 r.size),.lit (.int .u64 r.least)]
set_option maxRecDepth 100000 in
theorem laid_row{w:World}{fuel:Nat}{cs':List Value}{r:URow}{q:List MemPlace}(hl:cs'.length=4)(h:DataW.trod (λ _=>()) Tryz.prog w 0 (λ _=>true) false fuel 342 cs'=some (rowD r,q)):cs'=r.cells:=by
 match cs',hl with
 | [v0,v1,v2,v3],_=>
  obtain⟨xs,m,_,e,_,hxl,hx⟩:=DataW.trod_struct Tryz.underlying342 h
  have cu:Tryz.prog.cellsOf 5=1:=by kernel_rfl
  have ci:Tryz.prog.cellsOf 3=1:=by kernel_rfl
  have cq:Tryz.prog.cellsOf 23=1:=by kernel_rfl
  have hxl':xs.length=4:=hxl;have h0:DataW.trod (λ _=>()) Tryz.prog w 0 (λ _=>true) false m 5 (([v0,v1,v2,v3].drop 0).take (Tryz.prog.cellsOf 5))=xs[0]?:=hx 0 _ rfl;have h1:DataW.trod (λ _=>()) Tryz.prog w 0 (λ _=>true) false m 5 (([v0,v1,v2,v3].drop 1).take (Tryz.prog.cellsOf 5))=xs[1]?:=hx 1 _ rfl;have h2:DataW.trod (λ _=>()) Tryz.prog w 0 (λ _=>true) false m 3 (([v0,v1,v2,v3].drop 2).take (Tryz.prog.cellsOf 3))=xs[2]?:=hx 2 _ rfl;have h3:DataW.trod (λ _=>()) Tryz.prog w 0 (λ _=>true) false m 23 (([v0,v1,v2,v3].drop 3).take (Tryz.prog.cellsOf 23))=xs[3]?:=hx 3 _ rfl
  rw[cu]at h0 h1
  rw[ci]at h2
  rw[cq]at h3
  match xs,hxl' with
  | [x0,x1,x2,x3],_=>
   obtain⟨n0,e0,y0,_⟩:=DataW.trod_int Tryz.underlying5 (show DataW.trod (λ _=>()) Tryz.prog w 0 (λ _=>true) false m 5 [v0]=some x0 from h0)
   obtain⟨n1,e1,y1,_⟩:=DataW.trod_int Tryz.underlying5 (show DataW.trod (λ _=>()) Tryz.prog w 0 (λ _=>true) false m 5 [v1]=some x1 from h1)
   obtain⟨n2,e2,y2,_⟩:=DataW.trod_int Tryz.underlying3 (show DataW.trod (λ _=>()) Tryz.prog w 0 (λ _=>true) false m 3 [v2]=some x2 from h2)
   obtain⟨n3,e3,y3,_⟩:=DataW.trod_int Tryz.underlying23 (show DataW.trod (λ _=>()) Tryz.prog w 0 (λ _=>true) false m 23 [v3]=some x3 from h3)
   subst y0 y1 y2 y3
   simp[rowD]at e e0 e1 e2 e3
   obtain⟨⟨a0,a1,a2,a3⟩,_⟩:=e
   subst e0 e1 e2 e3
   unfold URow.cells
   rw[a0,a1,a2,a3]
set_option maxRecDepth 100000 in
theorem laid_rows{w:World}{fuel:Nat}{cs:List Value}{l:List URow}{p:List MemPlace}(h:DataW.trod (λ _=>()) Tryz.prog w 0 (λ _=>true) false fuel 308 cs=some (.slice (l.map rowD) [],p))(hl:0<len l):
  ∃tb tq rc,cs=[.slice (some ⟨tb,tq,none⟩) (len l) rc]∧URows w (some ⟨tb,tq,none⟩) l:=by
 have hC:Tryz.prog.cellsOf 342=4:=by kernel_rfl
 rcases Go.Deep.open_slice Tryz.underlying308 h with⟨_,hx⟩ | ⟨a,n,c,m,q,D,Pl,hcs,_,hln,hm,hmm,hx,hi⟩
 ·simp at hx
 ·simp only[Prod.mk.injEq,DataW.slice.injEq]at hx
  obtain⟨⟨hD,_⟩,_⟩:=hx
  have hn:len l=n:=by have:=congrArg List.length hD;simpa [len] using this
  have hnm:n≤m:=by rw[hmm];simp;exact hln
  have each:∀i,i<len l→∃b off,a=⟨b,off,none⟩∧URowAt w b (off+i * 4) (unth l i):=λ i hil=>by
   obtain⟨cs',hc,htr⟩:=hi i (by omega)
   rw[hC]at hc
   obtain⟨_,hcl,hat⟩:=World.cells?_some hc
   have hDi:D i=rowD (unth l i):=by
    have h1:(l.map rowD)[i]?=((List.range n).map D)[i]?:=by rw[hD]
    have hil':i<l.length:=hil
    rw[List.getElem?_map,List.getElem?_map,List.getElem?_eq_getElem hil',List.getElem?_range (by omega)]at h1
    rw[unth_eq l i hil]
    exact(Option.some.inj h1).symm
   rw[hDi]at htr
   have hcs':=laid_row hcl htr
   obtain⟨b,off,spot⟩:=a
   have hat0:=hat 0 (by decide)
   rw[hcs']at hat
   have hspot:spot=none:=by
    obtain⟨cs0,hc0,htr0⟩:=hi 0 (by omega)
    rw[hC]at hc0
    obtain⟨_,hcl0,hat0⟩:=World.cells?_some hc0
    have h1:=hat0 0 (by decide);have h2:cs0[0]?=some (cs0[0]'(by omega)):=List.getElem?_eq_getElem (by omega)
    rw[h2]at h1
    simpa [Addr.add] using World.cell?_spot h1
   subst hspot
   have key:∀j,j<4→w.cell? ⟨b,off+i * 4+j,none⟩=(unth l i).cells[j]?:=λ j hj=>by
    have h1:=hat j hj
    rw[Go.Deep.add_add]at h1
    have e:(⟨b,off,none⟩:Addr).add (i * 4+j)=⟨b,off+i * 4+j,none⟩:=by
     unfold Addr.add;split
     ·rename_i h0;simp <;> omega
     ·simp[Nat.add_assoc]
    rw[e]at h1;exact h1
   exact⟨b,off,rfl,key 0 (by decide),key 1 (by decide),key 2 (by decide),key 3 (by decide)⟩
  obtain⟨b,off,rfl,_⟩:=each 0 hl
  refine⟨b,off,c,by rw[hn];exact hcs,λ i hil=>?_⟩
  obtain⟨b',off',e,hR⟩:=each i hil
  cases e
  exact⟨b,off,rfl,hR⟩
theorem tab_of{W:World}{nm:String}{g:Nat}{l:List URow}{cs:Array Value}{fuel:Nat}{p:List MemPlace}(hl:0<len l)(hg:Tryz.prog.globalNamed nm=some g)(hv:W.var? Tryz.prog nm=some cs)
  (h:DataW.trod (λ _=>()) Tryz.prog W 0 (λ _=>true) false fuel 308 cs.toList=some (.slice (l.map rowD) [],p)):TabAt W.heap.size W g l:=by
 obtain⟨tb,tq,rc,hcs,hr⟩:=laid_rows h hl
 have hc:W.cell? ⟨g,0,none⟩=some (.slice (some ⟨tb,tq,none⟩) (len l) rc):=by
  have:=World.var?_cell hg hv 0
  rw[Array.eq_one_of_toList hcs]at this
  simpa using this
 obtain⟨b',off',e,hR⟩:=hr 0 hl
 cases e
 exact⟨tb,tq,rc,lt_of_cell hc,lt_of_cell hR.c0,Nat.le_refl _,hc,hr⟩
theorem oneRow:((List.range Tryz.prog.types.size).filter λ t=>Tryz.prog.rowNamed t [101,114,114,111,114])=[89]:=by kernel_rfl
end Go.Proofs.YtpobhbdomldecaaGreatDoor
namespace Go.Proofs.YtpobhbdomldecaaGreatDoor
set_option linter.unusedSimpArgs false
set_option linter.unusedVariables false
open Go.RowKit Go.ChangeShapes Go.WideShapes Go.ChangeAt
def rowD5(r:PRow):DataW Unit:=.agg [.lit (.int .u64 r.below),.lit (.int .u8 r.first),.lit (.int .i64 r.size)]
set_option maxRecDepth 100000 in
theorem laid_prow{w:World}{fuel:Nat}{cs':List Value}{r:PRow}{q:List MemPlace}(hl:cs'.length=3)(h:DataW.trod (λ _=>()) Tryz.prog w 0 (λ _=>true) false fuel 336 cs'=some (rowD5 r,q)):cs'=r.cells:=by
 match cs',hl with
 | [v0,v1,v2],_=>
  obtain⟨xs,m,_,e,_,hxl,hx⟩:=DataW.trod_struct Tryz.underlying336 h
  have cu:Tryz.prog.cellsOf 5=1:=by kernel_rfl
  have ci:Tryz.prog.cellsOf 3=1:=by kernel_rfl
  have cq:Tryz.prog.cellsOf 23=1:=by kernel_rfl
  have hxl':xs.length=3:=hxl;have h0:DataW.trod (λ _=>()) Tryz.prog w 0 (λ _=>true) false m 23 (([v0,v1,v2].drop 0).take (Tryz.prog.cellsOf 23))=xs[0]?:=hx 0 _ rfl;have h1:DataW.trod (λ _=>()) Tryz.prog w 0 (λ _=>true) false m 5 (([v0,v1,v2].drop 1).take (Tryz.prog.cellsOf 5))=xs[1]?:=hx 1 _ rfl;have h2:DataW.trod (λ _=>()) Tryz.prog w 0 (λ _=>true) false m 3 (([v0,v1,v2].drop 2).take (Tryz.prog.cellsOf 3))=xs[2]?:=hx 2 _ rfl
  rw[cq]at h0
  rw[cu]at h1
  rw[ci]at h2
  match xs,hxl' with
  | [x0,x1,x2],_=>
   obtain⟨n0,e0,y0,_⟩:=DataW.trod_int Tryz.underlying23 (show DataW.trod (λ _=>()) Tryz.prog w 0 (λ _=>true) false m 23 [v0]=some x0 from h0)
   obtain⟨n1,e1,y1,_⟩:=DataW.trod_int Tryz.underlying5 (show DataW.trod (λ _=>()) Tryz.prog w 0 (λ _=>true) false m 5 [v1]=some x1 from h1)
   obtain⟨n2,e2,y2,_⟩:=DataW.trod_int Tryz.underlying3 (show DataW.trod (λ _=>()) Tryz.prog w 0 (λ _=>true) false m 3 [v2]=some x2 from h2)
   subst y0 y1 y2
   simp[rowD5]at e e0 e1 e2
   obtain⟨⟨a0,a1,a2⟩,_⟩:=e
   subst e0 e1 e2
   unfold PRow.cells
   rw[a0,a1,a2]
set_option maxRecDepth 100000 in
theorem laid_prows{w:World}{fuel:Nat}{cs:List Value}{l:List PRow}{p:List MemPlace}(h:DataW.trod (λ _=>()) Tryz.prog w 0 (λ _=>true) false fuel 338 cs=some (.slice (l.map rowD5) [],p))(hl:0<len l):
  ∃tb tq rc,cs=[.slice (some ⟨tb,tq,none⟩) (len l) rc]∧PRows w (some ⟨tb,tq,none⟩) l:=by
 have hC:Tryz.prog.cellsOf 336=3:=by kernel_rfl
 rcases Go.Deep.open_slice Tryz.underlying338 h with⟨_,hx⟩ | ⟨a,n,c,m,q,D,Pl,hcs,_,hln,hm,hmm,hx,hi⟩
 ·simp at hx
 ·simp only[Prod.mk.injEq,DataW.slice.injEq]at hx
  obtain⟨⟨hD,_⟩,_⟩:=hx
  have hn:len l=n:=by have:=congrArg List.length hD;simpa [len] using this
  have hnm:n≤m:=by rw[hmm];simp;exact hln
  have each:∀i,i<len l→∃b off,a=⟨b,off,none⟩∧PRowAt w b (off+i * 3) (prth l i):=λ i hil=>by
   obtain⟨cs',hc,htr⟩:=hi i (by omega)
   rw[hC]at hc
   obtain⟨_,hcl,hat⟩:=World.cells?_some hc
   have hDi:D i=rowD5 (prth l i):=by
    have h1:(l.map rowD5)[i]?=((List.range n).map D)[i]?:=by rw[hD]
    have hil':i<l.length:=hil
    rw[List.getElem?_map,List.getElem?_map,List.getElem?_eq_getElem hil',List.getElem?_range (by omega)]at h1
    rw[prth_eq l i hil]
    exact(Option.some.inj h1).symm
   rw[hDi]at htr
   have hcs':=laid_prow hcl htr
   obtain⟨b,off,spot⟩:=a
   have hat0:=hat 0 (by decide)
   rw[hcs']at hat
   have hspot:spot=none:=by
    obtain⟨cs0,hc0,htr0⟩:=hi 0 (by omega)
    rw[hC]at hc0
    obtain⟨_,hcl0,hat0⟩:=World.cells?_some hc0
    have h1:=hat0 0 (by decide);have h2:cs0[0]?=some (cs0[0]'(by omega)):=List.getElem?_eq_getElem (by omega)
    rw[h2]at h1
    simpa [Addr.add] using World.cell?_spot h1
   subst hspot
   have key:∀j,j<3→w.cell? ⟨b,off+i * 3+j,none⟩=(prth l i).cells[j]?:=λ j hj=>by
    have h1:=hat j hj
    rw[Go.Deep.add_add]at h1
    have e:(⟨b,off,none⟩:Addr).add (i * 3+j)=⟨b,off+i * 3+j,none⟩:=by
     unfold Addr.add;split
     ·rename_i h0;simp <;> omega
     ·simp[Nat.add_assoc]
    rw[e]at h1;exact h1
   exact⟨b,off,rfl,key 0 (by decide),key 1 (by decide),key 2 (by decide)⟩
  obtain⟨b,off,rfl,_⟩:=each 0 hl
  refine⟨b,off,c,by rw[hn];exact hcs,λ i hil=>?_⟩
  obtain⟨b',off',e,hR⟩:=each i hil
  cases e
  exact⟨b,off,rfl,hR⟩
def tabD5:DataW Unit:=.agg ([0,1,2,3,4].map λ k=>.slice ((hrowsP k).map rowD5) [])
set_option maxRecDepth 100000 in
theorem ptab_of{W:World}{g:Nat}{cs:Array Value}{fuel:Nat}{p:List MemPlace}(hgg:g=5)(hg:Tryz.prog.globalNamed "sextant/pack.rows"=some g)(hv:W.var? Tryz.prog "sextant/pack.rows"=some cs)
  (h:DataW.trod (λ _=>()) Tryz.prog W 0 (λ _=>true) false fuel 339 cs.toList=some (tabD5,p)):PTab W.heap.size W:=by
 obtain⟨xs,m,_,e,hcl,hxl,hx⟩:=DataW.trod_array Tryz.underlying339 h
 have hC:Tryz.prog.cellsOf 338=1:=by kernel_rfl
 have hC5:Tryz.prog.cellsOf 339=5:=by kernel_rfl
 rw[hC5]at hcl
 rw[hC]at hx
 have hd:tabD5=.agg (xs.map (·.1)):=congrArg Prod.fst e
 unfold tabD5 at hd
 have hd2:([0,1,2,3,4].map λ k=>(DataW.slice ((hrowsP k).map rowD5) []:DataW Unit))=xs.map (·.1):=by injection hd
 subst hgg
 have key:∀k,k<5→∃tb tq rc,cs[k]?=some (.slice (some ⟨tb,tq,none⟩) (len (hrowsP k)) rc)∧PRows W (some ⟨tb,tq,none⟩) (hrowsP k):=λ k hk=>by
  have hxk:k<xs.length:=by omega
  have h1:=hx k hk
  rw[List.getElem?_eq_getElem hxk]at h1
  have h2:(xs[k]'hxk).1=.slice ((hrowsP k).map rowD5) []:=by
   have h3:(xs.map (·.1))[k]?=some (xs[k]'hxk).1:=by rw[List.getElem?_map,List.getElem?_eq_getElem hxk];rfl
   rw[←hd2,List.getElem?_map]at h3
   have h4:[0,1,2,3,4][k]?=some k:=by
    have:k=0 ∨ k=1 ∨ k=2 ∨ k=3 ∨ k=4:=by omega
    rcases this with rfl | rfl | rfl | rfl | rfl <;> rfl
   rw[h4]at h3
   exact(Option.some.inj h3).symm
  have h5:DataW.trod (λ _=>()) Tryz.prog W 0 (λ _=>true) false m 338 ((cs.toList.drop (k * 1)).take 1)=some (.slice ((hrowsP k).map rowD5) [],(xs[k]'hxk).2):=by rw[h1,←h2]
  obtain⟨tb,tq,rc,hcs,hr⟩:=laid_prows h5 (rowsP_pos k)
  refine⟨tb,tq,rc,?_,hr⟩
  have h6:((cs.toList.drop (k * 1)).take 1)[0]?=some (.slice (some ⟨tb,tq,none⟩) (len (hrowsP k)) rc):=by rw[hcs];rfl
  rw[List.getElem?_take,if_pos (by decide),List.getElem?_drop]at h6
  simpa using h6
 have hlt:5<W.heap.size:=by
  obtain⟨tb,tq,rc,h1,h2⟩:=key 0 (by decide)
  have:=World.var?_cell hg hv 0
  exact lt_of_cell (this.trans h1)
 refine⟨hlt,Nat.le_refl _,λ k hk=>?_⟩
 obtain⟨tb,tq,rc,h1,h2⟩:=key k hk
 refine⟨tb,tq,rc,?_,(World.var?_cell hg hv k).trans h1,h2⟩
 obtain⟨b,off,e,hR⟩:=h2 0 (rowsP_pos k)
 cases e
 exact lt_of_cell hR.c0
end Go.Proofs.YtpobhbdomldecaaGreatDoor
namespace Go.Proofs.YtpobhbdomldecaaGreatDoor
set_option linter.unusedSimpArgs false
set_option linter.unusedVariables false
open Go.RowKit Go.ChangeShapes Go.WideShapes Go.ChangeAt
set_option maxRecDepth 100000 in
theorem of_laidI{W:World}(h:laidMetH Tryz.prog Rows.partProvesRow.laid W):TE7 W.heap.size W:=by
 have h':laidMet Tryz.prog (Rows.partProvesRow.laid.filter λ x=>x.2.handleName?.isNone) W∧handlesMet Tryz.prog (Rows.partProvesRow.laid.filter λ x=>x.2.handleName?.isSome) W:=h
 obtain⟨⟨ps,⟨gp,tp,csp,fp,pp,qp,hgp,htp,hvp,hdp,⟨g0,t0,cs0,f0,p0,q0,hg0,ht0,hv0,hd0,⟨g1,t1,cs1,f1,p1,q1,hg1,ht1,hv1,hd1,⟨g2,t2,cs2,f2,p2,q2,hg2,ht2,hv2,hd2,⟨g4,t4,cs4,f4,p4,q4,hg4,ht4,hv4,hd4,_⟩,_⟩,_⟩,_⟩,_⟩,_,_⟩,hH⟩:=h'
 obtain rfl:5=gp:=Option.some.inj ((show _=some 5 by kernel_rfl).symm.trans hgp)
 obtain rfl:339=tp:=Option.some.inj ((show _=some 339 by kernel_rfl).symm.trans htp)
 obtain rfl:0=g0:=Option.some.inj ((show _=some 0 by kernel_rfl).symm.trans hg0)
 obtain rfl:308=t0:=Option.some.inj ((show _=some 308 by kernel_rfl).symm.trans ht0)
 obtain rfl:6=g1:=Option.some.inj ((show _=some 6 by kernel_rfl).symm.trans hg1)
 obtain rfl:308=t1:=Option.some.inj ((show _=some 308 by kernel_rfl).symm.trans ht1)
 obtain rfl:2=g2:=Option.some.inj ((show _=some 2 by kernel_rfl).symm.trans hg2)
 obtain rfl:308=t2:=Option.some.inj ((show _=some 308 by kernel_rfl).symm.trans ht2)
 obtain rfl:1=g4:=Option.some.inj ((show _=some 1 by kernel_rfl).symm.trans hg4)
 obtain rfl:308=t4:=Option.some.inj ((show _=some 308 by kernel_rfl).symm.trans ht4)
 have hET:ErrType W:=by
  obtain⟨name,u,ty,e1,e2,e3,e4,e5⟩:=hH Rows.partProvesRow.laid[1] (List.mem_singleton.2 rfl)
  have en:name=[101,114,114,111,114]:=(Option.some.inj e1).symm
  subst en
  obtain rfl:349=u:=Option.some.inj ((show _=some 349 by kernel_rfl).symm.trans e2)
  have hm:ty ∈ (List.range Tryz.prog.types.size).filter λ t=>Tryz.prog.rowNamed t [101,114,114,111,114]:=List.mem_filter.2 ⟨List.mem_range.2 e3,e4⟩
  rw[oneRow]at hm
  obtain rfl:=List.mem_singleton.1 hm
  have hg:Tryz.prog.globalNamed Rows.partProvesRow.laid[1].1=some 3:=(by kernel_rfl)
  exact World.var?_cell hg e5 0
 exact⟨ptab_of rfl hgp hvp hdp,⟨tab_of (by decide) hg0 hv0 hd0,trivial,tab_of (by decide) hg1 hv1 hd1,tab_of (by decide) hg2 hv2 hd2,tab_of (by decide) hg4 hv4 hd4⟩,hET,Nat.le_refl _,lt_of_cell hET⟩
end Go.Proofs.YtpobhbdomldecaaGreatDoor
namespace Go.Proofs.YtpobhbdomldecaaGreatDoor.iknown
set_option linter.unusedSimpArgs false
set_option linter.unusedVariables false
open Go.RowKit Go.ChangeShapes Go.WideShapes Go.ChangeAt
theorem door_met(os:Os)(args:Array Value):laidMetH Tryz.prog Rows.inclusionKnownRow.laid ((World.doorLaid Tryz.prog 79 os).forCall (λ _ _=>0) ⟨#[],args,[]⟩).memory:=
 laidMetH_of_parts3 (fuel:=8) (laidMet_of_run' 8 (by kernel_rfl) (by kernel_rfl)) (by kernel_rfl) (by kernel_rfl)
set_option maxRecDepth 100000 in
theorem lifted(os:Os)(started:os.Started)(H:Type)(enc:TypeId × Value→H):
  ReturnsInHanded {} Tryz.checked os 13 .any (λ w args=>(Rows.inclusionKnownSpec.pre enc Tryz.prog Tryz.f13 [] false w args∧laidMetH Tryz.prog Rows.inclusionKnownRow.laid w)∧sizedMet enc Tryz.prog Tryz.f13 (OpenSpec.ofChange Rows.inclusionKnownSpec) false w args)
   (Rows.inclusionKnownSpec.post enc Tryz.prog Tryz.f13 false true false false):=by
 refine returnsInHanded_of_change_and (C:=Tryz.checked) (X:=λ w _=>laidMetH Tryz.prog Rows.inclusionKnownRow.laid w) (λ _ _ _ hh h=>h.of_heap hh) own started (by kernel_rfl) Tryz.func13
  (ChangeSpec.witness_shaped (enc:=enc) (C:=Tryz.checked) (os:=os) (X:=λ w _=>laidMetH Tryz.prog Rows.inclusionKnownRow.laid w) false (World.doorLaid Tryz.prog 79 os) #[] 8 rfl (World.shaped_of_RefB (by kernel_rfl) (by kernel_rfl)) (by kernel_rfl) (by kernel_rfl) (by kernel_rfl) (door_met os _)) ?_
 intro W base args ds gs before hval0 hW _ _ hL _
 have hW':=hW
 obtain⟨p,q,hA0,hV,rfl,hfz,hnd⟩:=hW
 have hA:DataW.TrodAll enc Tryz.prog W 0 (λ _=>true) true Tryz.f13.params.toList args.toList ds p:=hA0
 rw[Tryz.params13]at hA
 obtain⟨hargs,rfl,rfl⟩:=trodAll_nil hA
 obtain rfl:args=#[]:=by cases args;simp_all
 obtain⟨rfl,rfl⟩:=trodVars_none hV
 have hT:=of_laidI (show laidMetH Tryz.prog Rows.partProvesRow.laid W from hL);clear hA0 hval0
 refine(iknown_law W.heap.size W hT).mono λ e W' ⟨he,bel⟩=>?_
 subst he
 exact⟨_,rfl,_,_,_,[],_,[],hW',trodAll_mk1 (shut_bool Tryz.underlying4 _),trodAll_mk0,rfl,bel.frame _,λ h=>by cases h⟩
end Go.Proofs.YtpobhbdomldecaaGreatDoor.iknown

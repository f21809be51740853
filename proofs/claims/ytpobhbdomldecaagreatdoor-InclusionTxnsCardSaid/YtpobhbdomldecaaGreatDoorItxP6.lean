/- Parts of the proof, one behind the other. -/
import Derived.Test.YtpobhbdomldecaaGreatDoorItxP5
import Derived.LaidMore
import Derived.LaidHandle
import Derived.Stop.Joined
import Derived.ChangeVars
import Derived.JoinedOf
import Derived.RowKitTokens
import Derived.Test.YtpobhbdomldecaaGreatDoorCards
import Derived.Test.YtpobhbdomldecaaGreatDoorTie
import Derived.SevenTiedAt
set_option linter.unusedSimpArgs false
set_option linter.unusedVariables false
set_option maxRecDepth 100000
set_option maxHeartbeats 40000000
namespace Go.Proofs.YtpobhbdomldecaaGreatDoor
open Go.RowKit
theorem itxn_any(l:List ByteArray)(a:Option Addr)(cap:Nat)(i:Int)(w:World)(hc:Txts w a l)(hn:len l<=65536)(hz:∀i,i<len l->(tth l i).size<=140737488355200):
  Calls Tryz.prog 60 #[.slice a (len l) cap,.int .i64 i] w (ItIs l i w):=by
 have HZ:=QLh hz;have HN:=QLh hn;have HEL:=QLh (ielS_any l a cap w hc (by omega) (λ i hi=>Nat.le_trans (hz i hi) (by decide)));clear hc hn hz
 cases hb:bdOk l with
 | false=>
  have HE:=QLh (it_no (i:=i) hb)
  go_enter Tryz.func60,Tryz.ntmps60
  go_wp2_with fail
  refine HEL.out.mono ?_
  rintro e w1 ⟨v,rfl,hv,hbl⟩
  rw[hb]
  have HB:=QLh hbl;clear hv hbl hb HEL
  go_wp2
  go_ret2
  exact⟨_,by rw[HE.out.2];rfl,by rw[HE.out.1];exact TextsAre.nil _,HB.out⟩
 | true=>
  have HBD:=QLh hb
  by_cases hi:0<=i/\i<(len l:Nat)
  ·obtain⟨k,rfl⟩:=Int.eq_ofNat_of_zero_le hi.1
   have hk:k<len l:=by omega
   have HE:=QLh (it_some hb hk);have HK:=QLh hk;have i1:¬((k:Nat):Int)<0:=by omega
   have i2:¬((len l:Nat):Int)<=((k:Nat):Int):=by omega
   have i3:¬len l<=k:=by omega
   clear hi hk
   go_enter Tryz.func60,Tryz.ntmps60
   go_wp2_with fail
   refine HEL.out.mono ?_
   rintro e w1 ⟨v,rfl,hv,hbl⟩
   obtain⟨a1,c1,rfl,ht,-,-⟩:=hv hb
   rw[hb]
   have HB:=QLh hbl;have HT:=QLh ht;clear hv hbl ht hb HEL
   go_wp2_with fail
   refine(iprove_any l a1 c1 k w1 HT.out HN.out HZ.out HK.out).mono ?_
   rintro e w2 ⟨v,rfl,hv,hb⟩
   have HB2:=QLh (bnext HB.out hb);have HV:=QLh hv;clear hv hb
   go_wp2
   go_ret2
   exact⟨v,by rw[HE.out.2];rfl,by rw[HE.out.1];exact HV.out,HB2.out⟩
  ·have HE:=QLh (it_none hb hi)
   have HI:=QLh hi
   by_cases h0:i<0
   ·clear hi
    go_enter Tryz.func60,Tryz.ntmps60
    go_wp2_with fail
    refine HEL.out.mono ?_
    rintro e w1 ⟨v,rfl,hv,hbl⟩
    obtain⟨a1,c1,rfl,ht,-,-⟩:=hv hb
    rw[hb]
    have HB:=QLh hbl;clear hv hbl ht hb HEL
    go_wp2
    go_ret2
    exact⟨_,by rw[HE.out.2];rfl,by rw[HE.out.1];exact TextsAre.nil _,HB.out⟩
   ·have i2:((len l:Nat):Int)<=i:=by omega
    clear hi
    go_enter Tryz.func60,Tryz.ntmps60
    go_wp2_with fail
    refine HEL.out.mono ?_
    rintro e w1 ⟨v,rfl,hv,hbl⟩
    obtain⟨a1,c1,rfl,ht,-,-⟩:=hv hb
    rw[hb]
    have HB:=QLh hbl;clear hv hbl ht hb HEL
    go_wp2
    go_ret2
    exact⟨_,by rw[HE.out.2];rfl,by rw[HE.out.1];exact TextsAre.nil _,HB.out⟩
theorem rtxn_any(l:List ByteArray)(a:Option Addr)(cap:Nat)(i:Int)(w:World)(hc:Txts w a l)(hn:len l<=65536)(hz:∀i,i<len l->(tth l i).size<=140737488355200):
  Calls Tryz.prog 61 #[.slice a (len l) cap,.int .i64 i] w (ItIs l i w):=by
 have HC:=QLh hc;have HZ:=QLh hz;have HN:=QLh hn;have HEL:=QLh (rbodies_any l a cap w hc (by omega));clear hc hn hz
 cases hb:bdOk l with
 | false=>
  have HE:=QLh (it_no (i:=i) hb)
  go_enter Tryz.func61,Tryz.ntmps61
  go_wp2_with fail
  refine HEL.out.mono ?_
  rintro e w1 ⟨rfl,hbl⟩
  rw[hb]
  have HB:=QLh hbl;clear hbl hb HEL
  go_wp2
  go_ret2
  exact⟨_,by rw[HE.out.2];rfl,by rw[HE.out.1];exact TextsAre.nil _,HB.out⟩
 | true=>
  have HBD:=QLh hb
  by_cases hi:0<=i/\i<(len l:Nat)
  ·obtain⟨k,rfl⟩:=Int.eq_ofNat_of_zero_le hi.1
   have hk:k<len l:=by omega
   have HE:=QLh (it_some hb hk);have HK:=QLh hk;have i1:¬((k:Nat):Int)<0:=by omega
   have i2:¬((len l:Nat):Int)<=((k:Nat):Int):=by omega
   have i3:¬len l<=k:=by omega
   have kw:IntKind.u64.wrap ((k:Nat):Int)=((k:Nat):Int):=by have:=HN.out;exact IntWalk.u64_in _ (by omega)
   clear hi hk
   go_enter Tryz.func61,Tryz.ntmps61
   go_wp2_with fail
   refine HEL.out.mono ?_
   rintro e w1 ⟨rfl,hbl⟩
   rw[hb]
   have HB:=QLh hbl;clear hbl hb HEL
   go_wp2_with fail
   refine(rprove_ok l a cap [((k:Nat):Int)] (some ⟨w1.heap.size,0,none⟩) 1 _ ((HC.out.below HB.out).below (balloc (Below.refl _ _) _)) HN.out HZ.out (λ i hi=>⟨_,0,rfl,by
    have hi:i<1:=hi
    obtain rfl:i=0:=by omega
    rw[block_cell (heap_alloc_new _ _)];rfl⟩) (by show 1<=100;decide) (one_u64 HN.out HK.out) (one_may HK.out)).mono ?_
   rintro e w2 ⟨v,rfl,ho,hb⟩
   have HB2:Hid (Below w.heap.size w w2):=QLh (bnext (balloc HB.out _) hb);have HV:Hid (TextsAre (oneD l k) v w2):=QLh (TextsAre.own ho);clear hb ho
   go_wp2
   go_ret2
   exact⟨v,by rw[HE.out.2];rfl,by rw[HE.out.1];exact HV.out,HB2.out⟩
  ·have HE:=QLh (it_none hb hi)
   have HI:=QLh hi
   by_cases h0:i<0
   ·clear hi
    go_enter Tryz.func61,Tryz.ntmps61
    go_wp2_with fail
    refine HEL.out.mono ?_
    rintro e w1 ⟨rfl,hbl⟩
    rw[hb]
    have HB:=QLh hbl;clear hbl hb HEL
    go_wp2
    go_ret2
    exact⟨_,by rw[HE.out.2];rfl,by rw[HE.out.1];exact TextsAre.nil _,HB.out⟩
   ·have i2:((len l:Nat):Int)<=i:=by omega
    clear hi
    go_enter Tryz.func61,Tryz.ntmps61
    go_wp2_with fail
    refine HEL.out.mono ?_
    rintro e w1 ⟨rfl,hbl⟩
    rw[hb]
    have HB:=QLh hbl;clear hbl hb HEL
    go_wp2
    go_ret2
    exact⟨_,by rw[HE.out.2];rfl,by rw[HE.out.1];exact TextsAre.nil _,HB.out⟩
section
set_option linter.constructorNameAsVariable false
theorem lroot27_any(els:List ByteArray)(a:Option Addr)(cap:Nat)(w:World)(ht:Txts w a els)(hn:len els<=65536)(hz:∀i,i<len els->(tth els i).size<=140737488355200):
  Calls Tryz.prog 64 #[.slice a (len els) cap] w λ e w'=>e=.returned (.string (treeR els))/\Below w.heap.size w w':=by
 have HB:=QLh (build_any els a cap w ht hn hz);clear ht hn hz
 go_enter Tryz.func64,Tryz.ntmps64
 go_wp2_with fail
 refine HB.out.mono ?_
 rintro e w1 ⟨b,rfl,hs,ht,hb⟩
 have HT:=QLh ht;have HB1:=QLh hb;clear hs ht hb HB
 go_wp2_with fail
 refine(root_any els b w1 HT.out).mono ?_
 rintro e w2 ⟨rfl,rfl⟩
 rw[show plD els (depN els) (depN els) 0=treeR els from rfl]
 go_wp2
 go_ret
 exact⟨rfl,HB1.out⟩
end
def Few27Is(l:List ByteArray)(w:World)(e:Ending)(w':World):Prop:=∃v L,e=.returned v/\w'.ownsRow w.heap.size 9 1 v (len L) (L.map Value.string)/\len L<=70/\(∀x ∈ L,x.size<=70)/\Below w.heap.size w w'
theorem few27_any(l:List ByteArray)(a:Option Addr)(cap:Nat)(w:World)(hl:Txts w a l)(hn:len l<=9223372036854775807):Calls Tryz.prog 59 #[.slice a (len l) cap] w (Few27Is l w):=by
 have HL:=QLh hl;have HN:=QLh hn
 obtain⟨i0,hi,hz0,hz1,hz2⟩:=info_parts info_str
 have HZ:=QLh hz0;clear hl hn hz0
 go_enter Tryz.func59,Tryz.ntmps59
 go_wp2
 go_loopg [4,3] 70 (λ g i v wr=>∃(m:Nat) (L:List ByteArray),g+m=70/\i=.int .i64 m/\Hid (wr.ownsRow w.heap.size 9 1 v (len L) (L.map Value.string))/\Hid (len L=m/\m<=len l/\∀x ∈ L,x.size<=70)/\Hid (Below w.heap.size w wr))
 case atStart=>exact⟨0,[],rfl,rfl,QLh (World.ownsRow_nil _ _ _ _),QLh ⟨rfl,Nat.zero_le _,λ x hx=>by cases hx⟩,QLh (Below.refl _ _)⟩
 case round=>
  obtain⟨m,L,hm,rfl,HO,HI,HW⟩:=hrel
  by_cases hlt:m<len l
  ·by_cases h40:m<70
   ·have b0:(m:Int)<len l:=by omega
    have b1:(m:Int)<70:=by omega
    obtain⟨pb,po,rfl,cs⟩:=(HL.out.below HW.out) m hlt
    have hpl:pb<w.heap.size:=by
     obtain⟨b9,o9,e9,h9⟩:=HL.out m hlt
     cases e9
     exact lt_of_cell h9
    have hne:some pb≠u3.ownBlock:=own_lo HO.out hpl
    obtain⟨x,hx⟩:∃x,tth l m=x:=⟨_,rfl⟩
    rw[hx]at cs
    obtain⟨k,hk⟩:∃k:Nat,min x.size 70=k:=⟨_,rfl⟩
    have HK:Hid (k<=70/\k<=x.size):=QLh (by omega);have kx:¬x.size<k:=by omega
    have mk:min ((x.size:Nat):Int) 70=((k:Nat):Int):=by omega
    have bl:¬len l<=m:=by omega
    have hil:=HI.out.1;have HM40:=QLh h40;have HMLT:=QLh hlt;clear hx hk
    go_upto_region 5 with fail
    refine wp_region_tail 14 13 (u3.ownBlock) (phis [λ u _=>u=(u3),λ u _=>u=(.slice (some ⟨pb,po,none⟩) (len l) cap),λ u _=>u=(.int .i64 (m:Nat)),λ u _=>u=(.pointer (some ⟨pb,po+m,none⟩)),λ u _=>u=(.string x),λ u _=>u=(.slice (some ⟨pb,po,none⟩) (len l) cap),λ u _=>u=(.int .i64 (m:Nat)),λ u _=>u=(.pointer (some ⟨pb,po+m,none⟩)),λ u _=>u=(.string x),λ u _=>u=(.int .i64 (x.size:Nat)),λ u _=>u=(.int .i64 (k:Nat)),λ u _=>u=(.string (x.extract 0 k)),λ u w'=>∃b,u=.slice (some ⟨b,0,none⟩) 1 1/\some b≠u3.ownBlock/\w'.heap[b]?=some (.cells #[.string (x.extract 0 k)] 9 (0,0)),λ u w'=>w'.ownsRow w.heap.size 9 1 u (len L+1) (L.map Value.string++[.string (x.extract 0 k)])]) rfl (by kernel_rfl) (by kernel_rfl) (mono_of ⟨mono_eq,mono_eq,mono_eq,mono_eq,mono_eq,mono_eq,mono_eq,mono_eq,mono_eq,mono_eq,mono_eq,mono_eq,?m12,?m13,trivial⟩) (steps_of 14 ⟨?s0,?s1,?s2,?s3,?s4,?s5,?s6,?s7,?s8,?s9,?s10,?s11,?s12,?s13,trivial⟩) ?_
    case m12=>
     exact⟨λ u w1 w' h ⟨b,h1,hb,hb'⟩=>⟨b,h1,hb,ext_block h hb'⟩,λ _ u w1 w' h ⟨b,h1,hb,hb'⟩=>⟨b,h1,hb,extB_block h hb hb'⟩⟩
    case m13=>
     exact⟨λ u w1 w' h hu=>own_below hu h,λ hn=>absurd rfl hn⟩
    case s0=>
     refine qV (λ _=>rfl) rfl λ av wv hE hO hD=>?_
     simp[go_sem,qF av 3 (u3) (hO.2.2 3 rfl),bl,mk,kx]
    case s1=>
     refine qV (λ _=>rfl) rfl λ av wv hE hO hD=>?_
     simp[go_sem,qF av 0 (.slice (some ⟨pb,po,none⟩) (len l) cap) (hO.2.2 0 rfl),bl,mk,kx]
    case s2=>
     refine qV (λ _=>rfl) rfl λ av wv hE hO hD=>?_
     simp[go_sem,qF av 4 (.int .i64 (m:Nat)) (hO.2.2 4 rfl),bl,mk,kx]
    case s3=>
     refine qV (λ _=>rfl) rfl λ av wv hE hO hD=>?_
     simp[go_sem,qE (hD.1 rfl _ rfl),qE (hD.2.1 rfl _ rfl),bl,mk,kx]
    case s4=>
     refine qV (λ _=>rfl) rfl λ av wv hE hO hD=>?_
     simp[go_sem,qE (hD.1 rfl _ rfl),extB_cell hE hne cs,bl,mk,kx]
    case s5=>
     refine qV (λ _=>rfl) rfl λ av wv hE hO hD=>?_
     simp[go_sem,qF av 0 (.slice (some ⟨pb,po,none⟩) (len l) cap) (hO.2.2 0 rfl),bl,mk,kx]
    case s6=>
     refine qV (λ _=>rfl) rfl λ av wv hE hO hD=>?_
     simp[go_sem,qF av 4 (.int .i64 (m:Nat)) (hO.2.2 4 rfl),bl,mk,kx]
    case s7=>
     refine qV (λ _=>rfl) rfl λ av wv hE hO hD=>?_
     simp[go_sem,qE (hD.1 rfl _ rfl),qE (hD.2.1 rfl _ rfl),bl,mk,kx]
    case s8=>
     refine qV (λ _=>rfl) rfl λ av wv hE hO hD=>?_
     simp[go_sem,qE (hD.1 rfl _ rfl),extB_cell hE hne cs,bl,mk,kx]
    case s9=>
     refine qV (λ _=>rfl) rfl λ av wv hE hO hD=>?_
     simp[go_sem,qE (hD.1 rfl _ rfl),bl,mk,kx]
    case s10=>
     refine qV (λ _=>rfl) rfl λ av wv hE hO hD=>?_
     simp[go_sem,qE (hD.1 rfl _ rfl),bl,mk,kx]
    case s11=>
     refine qV (λ _=>rfl) rfl λ av wv hE hO hD=>?_
     simp[go_sem,qE (hD.1 rfl _ rfl),qE (hD.2.1 rfl _ rfl),bl,mk,kx]
    case s12=>
     refine step_wp (λ av wv hE hS hO hD=>⟨rfl,?_⟩)
     have f26:=qE (hD.1 rfl _ rfl)
     refine wp_of_run (v:=.slice (some ⟨wv.heap.size,0,none⟩) 1 1) (w':=wv.alloc (.cells #[.string (x.extract 0 k)] 9)) (by simp[go_sem,f26]) ⟨_,rfl,es_of_ext (balloc (Ext_refl _) _),wv.heap.size,rfl,?_,heap_alloc_new _ _⟩
     exact own_ge HO.out (by have:=hE.size;simp at this;omega)
    case s13=>
     refine step_wp (λ av wv hE hS hO hD=>⟨rfl,?_⟩)
     have d15:av.eval (.tmp 15)=(u3):=hD.1 rfl _ rfl;have d27:(λ u w'=>∃b,u=.slice (some ⟨b,0,none⟩) 1 1/\some b≠u3.ownBlock/\w'.heap[b]?=some (.cells #[.string (x.extract 0 k)] 9 (0,0))) (av.eval (.tmp 27)) wv:=hD.2.1 rfl _ rfl
     obtain⟨b27,h27,hb27,hc27⟩:=d27
     have hown1:wv.ownsRow w.heap.size 9 1 u3 (len L) (L.map Value.string):=own_below (w:=wr.drew) HO.out (hS rfl)
     refine wp_append_lies wv _ _ _ rfl w.heap.size 9 i0 (.string ⟨#[]⟩) 1 16 Tryz.underlying36 hi HZ.out hz1 hz2 rfl (by decide) u3 (len L) _ d15 hown1 ⟨b27,0,none⟩ 1 1 [.string (x.extract 0 k)] (by exact h27) rfl (World.news_of_block hc27) (by intro u hu;simp at hu;rcases hu with rfl;rfl) (by decide) (by unfold maxLen;omega) (by omega) (by have:=hE.size;have:=HW.out.size;simp at *;omega) _ rfl ?_
     intro g2 cap2 w2 hown2 hgrow hat hlt2
     exact⟨_,rfl,es_sp hgrow,hown2⟩
    intro a' w' hE hO hall
    have hA:=act_of_outer (ds:=[15,16,17,18,19,20,21,22,23,24,25,26,27,28]) rfl hO (by kernel_rfl)
    obtain⟨j0,j1,j2,j3,j4,j5,j6,j7,j8,j9,j10,j11,j12,j13,-⟩:=hall
    have e27:(λ u w'=>∃b,u=.slice (some ⟨b,0,none⟩) 1 1/\some b≠u3.ownBlock/\w'.heap[b]?=some (.cells #[.string (x.extract 0 k)] 9 (0,0))) (a'.eval (.tmp 27)) w':=j12 _ rfl;have e28:(λ u w'=>w'.ownsRow w.heap.size 9 1 u (len L+1) (L.map Value.string++[.string (x.extract 0 k)])) (a'.eval (.tmp 28)) w':=j13 _ rfl
    obtain⟨v27,hv27⟩:∃v,a'.eval (.tmp 27)=v:=⟨_,rfl⟩
    rw[hv27]at e27
    obtain⟨v28,hv28⟩:∃v,a'.eval (.tmp 28)=v:=⟨_,rfl⟩
    rw[hv28]at e28
    simp only[List.foldl_cons,List.foldl_nil,Act.put,List.setIfInBounds_toArray,List.set_cons_succ,List.set_cons_zero,qJ 15 (j0 _ rfl),qJ 16 (j1 _ rfl),qJ 17 (j2 _ rfl),qJ 18 (j3 _ rfl),qJ 19 (j4 _ rfl),qJ 20 (j5 _ rfl),qJ 21 (j6 _ rfl),qJ 22 (j7 _ rfl),qJ 23 (j8 _ rfl),qJ 24 (j9 _ rfl),qJ 25 (j10 _ rfl),qJ 26 (j11 _ rfl),hv27,hv28]at hA
    clear hO j12 j13 j0 j1 j2 j3 j4 j5 j6 j7 j8 j9 j10 j11 hv27 hv28
    subst hA
    have HO2:Hid (w'.ownsRow w.heap.size 9 1 v28 (len (L++[x.extract 0 k])) ((L++[x.extract 0 k]).map Value.string)):=QLh (by
     have e9:len (L++[x.extract 0 k])=len L+1:=by rw[len_eq,List.length_append];rfl
     rw[List.map_append,e9]
     exact e28)
    have HW2:Hid (Below w.heap.size w w'):=QLh (grownBy_below (bdrew HW.out) hE (λ k9 hk'=>(HO.out.lt k9 hk').1));have HI2:Hid (len (L++[x.extract 0 k])=m+1/\m+1<=len l/\∀y ∈ L++[x.extract 0 k],y.size<=70):=QLh ⟨by rw[len_eq,List.length_append,<-len_eq,hil];rfl,HMLT.out,λ y hy=>by
     rw[List.mem_append,List.mem_singleton]at hy
     rcases hy with hy | rfl
     ·exact HI.out.2.2 y hy
     ·rw[ByteArray.size_extract];have:=HK.out;omega⟩
    clear e27 e28 hE cs bl mk kx hil hne
    go_wp2
    go_roundg (70 - (m+1))
    case rel=>exact⟨m+1,L++[x.extract 0 k],by omega,by go_num,HO2,HI2,HW2⟩
    case measure=>omega
   ·obtain rfl:m=70:=by omega
    have b0:((70:Nat):Int)<len l:=by omega
    have b1:¬((70:Nat):Int)<70:=by decide
    go_wp2
    go_ret
    exact⟨_,L,rfl,HO.out,by have:=HI.out.1;omega,HI.out.2.2,HW.out⟩
  ·have b0:¬(m:Int)<len l:=by omega
   go_wp2
   go_ret
   exact⟨_,L,rfl,HO.out,by have:=HI.out.1;omega,HI.out.2.2,HW.out⟩
theorem alike27_any(la lb:List ByteArray)(a b:Option Addr)(ca cb:Nat)(w:World)(ha:Txts w a la)(hb:Txts w b lb)(hn:len la<=1000000)(hn2:len lb<=1000000):Calls Tryz.prog 51 #[.slice a (len la) ca,.slice b (len lb) cb] w λ e w'=>e=.returned (.bool (decide (la=lb)))/\Below w.heap.size w w':=by
 have HA:=QLh ha;have HB:=QLh hb;have HN:=QLh hn;have HN2:=QLh hn2;clear ha hb
 by_cases hl:len la=len lb
 ·have l1:((len la:Nat):Int)=(len lb:Nat):=by omega
  have HL:=QLh hl;clear hn hn2 hl
  go_enter Tryz.func51,Tryz.ntmps51
  go_wp2
  go_loopg [5] (len la) (λ g i wr=>∃m:Nat,g+m=len la/\i=.int .i64 m/\Hid (∀j,j<m->tth la j=tth lb j)/\Hid (Below w.heap.size w wr))
  case atStart=>exact⟨0,rfl,rfl,QLh (λ j hj=>by omega),QLh (Below.refl _ _)⟩
  case round=>
   obtain⟨m,hm,rfl,HE,HW⟩:=hrel
   have HNN:=HN.out
   by_cases hlt:m<len la
   ·have b0:(m:Int)<len la:=by omega
    have b1:(m:Int)<len lb:=by have:=HL.out;omega
    obtain⟨ba,oa,rfl,e1⟩:=(HA.out.below HW.out) m hlt
    obtain⟨bb,ob,rfl,e2⟩:=(HB.out.below HW.out) m (by have:=HL.out;omega)
    obtain⟨x,hx⟩:∃x,tth la m=x:=⟨_,rfl⟩
    obtain⟨y,hy⟩:∃y,tth lb m=y:=⟨_,rfl⟩
    rw[hx]at e1
    rw[hy]at e2
    have HX:=QLh hx;have HY:=QLh hy;have l3:=lt_of_cell e1;have l4:=lt_of_cell e2;clear hx hy
    cases hq:(x.toList == y.toList)with
    | true=>
     have HQ:=QLh hq
     go_wp2
     go_quiet (fail)
     go_wp2
     go_roundg (len la - (m+1))
     case rel=>exact⟨m+1,by omega,by go_num,QLh (λ j hj=>by
      by_cases e:j=m
      ·subst e
       rw[HX.out,HY.out]
       have:=HQ.out
       rw[str_beq]at this
       exact of_decide_eq_true this
      ·exact HE.out j (by omega)),by(repeat (first | exact Below.refl _ _ | assumption | (refine bdrew ?_) | (refine bdrewN ?_ _) | (refine balloc ?_ _) | (refine bset ?_ (by first | omega | (simp;done) | (simp;omega)) _) | (refine bnext ?_ (by assumption))))⟩
     case measure=>omega
    | false=>
     have HQ:=QLh hq
     go_wp2
     go_quiet (fail)
     go_wp2
     go_ret
     refine⟨?_,bnext HW.out (by(repeat (first | exact Below.refl _ _ | assumption | (refine bdrew ?_) | (refine bdrewN ?_ _) | (refine balloc ?_ _) | (refine bset ?_ (by first | omega | (simp;done) | (simp;omega)) _) | (refine bnext ?_ (by assumption)))))⟩
     have:¬la=lb:=λ h9=>by
      have:=HQ.out
      rw[str_beq,<-HX.out,<-HY.out,h9]at this
      simp at this
     rw[decide_eq_false this];rfl
   ·obtain rfl:m=len la:=by omega
    have b0:¬((len la:Nat):Int)<len la:=by omega
    go_wp2
    go_ret
    exact⟨by rw[decide_eq_true (tth_ext HL.out HE.out)];rfl,HW.out⟩
 ·have l1:¬((len la:Nat):Int)=(len lb:Nat):=by omega
  have HL:Hid (decide (la=lb)=false):=QLh (decide_eq_false (λ h9=>hl (by rw[h9])));clear hn hn2 hl
  go_enter Tryz.func51,Tryz.ntmps51
  go_wp2
  go_ret
  exact⟨by rw[HL.out];rfl,Below.refl _ _⟩
section
set_option linter.constructorNameAsVariable false
theorem lv21:leavesL [1] ((1:Nat):Int)=[1]:=by decide
theorem depZ21:depthZ 2=((1:Nat):Int):=by decide
theorem rows2b:rowsP 2 [1]=[[0]]:=by
 unfold rowsP
 rw[depZ21,needs_rows (d:=1) (by decide) (by decide),lv21]
 have e1:rowsOf [1] 1=[rowK (insAll [1])]:=by simp[rowsOf,List.range_succ_eq_map]
 rw[e1,row_litE (l:=[0]) (m:=[0]) (by decide) (by decide) (λ k=>Iff.rfl)]
theorem plc2b:plcL 2 [1]=[(0,0)]:=by
 show flatLv (rowsP 2 [1])=_
 rw[rows2b]
 rfl
theorem one2b(a b:ByteArray):oneD [a,b] 1=[hashP leafT [a]]:=by
 unfold oneD
 show dgsL [a,b] (plcL 2 [1])=_
 rw[plc2b]
 show [plD [a,b] (depN [a,b]) 0 0]=_
 have hd:depN [a,b]=1:=by
  have h:=depthZ_len (els:=[a,b]) (by show 2<=65536;decide)
  rw[show((len [a,b]:Nat):Int)=2 from rfl,depZ21]at h
  omega
 rw[hd]
 unfold plD
 rw[show revOf 0 1=0 by decide,if_pos (show 0<len [a,b]from(by decide:0<2))]
 rfl
theorem one1(a:ByteArray):oneD [a] 0=[]:=by
 have h:len (oneD [a] 0)=0:=oneD_len (els:=[a]) (by show 1<=65536;decide)
 exact List.eq_nil_of_length_eq_zero h
theorem rowAt_may(f c i:Nat):hOk (rowAt f c i)=true:=by
 rw[hOk_eq]
 unfold rowAt
 simp[textS_size]
theorem el_one{r:Hdr}(h:hOk r=true):elOk [r]=true:=
 elOk_of (by decide:0<1) (by decide:1<=64) (followH_yes (λ i hi h0=>by have hi:i<1:=hi;omega)) (laysH_yes (λ i hi=>by
  have hi:i<1:=hi
  obtain rfl:i=0:=by omega
  exact h))
theorem is_yes{f t:Int}{els:List ByteArray}{k:Nat}{h:Hdr}(ho:h.Ok)(hm:hOk h=true)(hk:k<len els)(hn:len els<=64)(he:tth els k=hbs h)(hf:h.rnd=f+k)(ht:t=f+len els - 1):
  isE (treeR els) f t (hbs h) (oneD els k)=0/\cellsHeader (isH (treeR els) f t (hbs h) (oneD els k))=#[.int .u64 h.rnd,.string h.prev,.string h.txns,.string h.seed]:=by
 obtain⟨y,hy,e0,e1,e2,e3⟩:=header_forth (rnd:=h.rnd) (prev:=h.prev) (txns:=h.txns) (seed:=h.seed) ho.r0 hm (s:=hbs h) rfl
 have hA:isA (treeR els) f t=true:=by
  unfold isA
  rw[decide_eq_true (treeR_size els),decide_eq_true (by omega),decide_eq_true (by omega)];rfl
 have hE:isE (treeR els) f t (hbs h) (oneD els k)=0:=by
  refine isE_ok hA hy (by rw[e0];omega) ?_
  rw[e0,show t - f+1=(len els:Nat)by omega,show h.rnd - f=((k:Nat):Int)by omega,<-he]
  exact one_check (by omega) hk
 refine⟨hE,?_⟩
 unfold isH
 rw[if_pos hE,hy]
 show cellsHeader y=_
 unfold cellsHeader
 rw[e0,e1,e2,e3]
theorem ti_yes{els:List ByteArray}{k:Nat}(hk:k<len els)(hn:len els<=64)(hs:0<(tth els k).size/\(tth els k).size<=64):tiE (treeR els) (k:Nat) (len els:Nat) (tth els k) (oneD els k)=0:=by
 unfold tiE tiA
 rw[decide_eq_true (treeR_size els),decide_eq_true (by omega),decide_eq_true (by omega),decide_eq_true (by omega),decide_eq_true hs.1,decide_eq_true hs.2]
 exact(if_pos (by rfl)).trans (if_pos (one_check (by omega) hk))
theorem te_pt{B:Nat}{w:World}(h:TE7 B w):PT B w:=⟨h.p,h.s⟩
theorem row_one:rowL 5 [97] 0 0=[rowAt 5 97 0]:=by rfl
theorem bd_ab:bdOk abT=true:=by decide
theorem it_ab:itP abT 1=[hashP leafT [⟨#[97]⟩]]/\itE abT 1=0:=by
 have h:=it_some (l:=abT) (k:=1) bd_ab (by decide:1<2);have e:oneD abT 1=[hashP leafT [⟨#[97]⟩]]:=one2b _ _
 rw[e]at h
 exact h
theorem ti_ab:tiE (treeR abT) 1 2 ⟨#[98]⟩ [hashP leafT [⟨#[97]⟩]]=0:=by
 have h:=ti_yes (els:=abT) (k:=1) (by decide:1<2) (by decide:2<=64) (by decide);have e:oneD abT 1=[hashP leafT [⟨#[97]⟩]]:=one2b _ _
 rw[e]at h
 exact h
theorem works27_any(B:Nat)(w:World)(ht:TE7 B w):Calls Tryz.prog 52 #[] w λ e w'=>e=.returned (.bool true)/\Below w.heap.size w w':=by
 have HT:=QLh ht;clear ht
 go_enter Tryz.func52,Tryz.ntmps52
 go_wp2_with fail
 refine(row27_any 5 [97] (some ⟨w.heap.size,0,none⟩) 1 0 0 _ (by decide) (λ i hi=>⟨_,0,rfl,by
  have hi:i<1:=hi
  obtain rfl:i=0:=by omega
  rw[block_cell (heap_alloc_new _ _)];rfl⟩) (λ i=>by
  match i with
  | 0=>decide
  | i+1=>show 0<=(0:Int)/\(0:Int)<=255;decide) (by decide) (by decide) (by decide)).mono ?_
 rintro e w1 ⟨v,rfl,hown,hb⟩
 rw[row_one]at hown
 obtain⟨r,hr⟩:∃r,rowAt 5 97 0=r:=⟨_,rfl⟩
 have HRO:Hid r.Ok:=QLh (by rw[<-hr];exact rowAt_ok _ _ _);have HRM:Hid (hOk r=true):=QLh (by rw[<-hr];exact rowAt_may _ _ _);have HRN:Hid (r.rnd=5):=QLh (by rw[<-hr];rfl)
 rw[hr]at hown
 clear hr;have B1:Hid (Below w.heap.size w w1):=QLh (bnext (balloc (Below.refl _ _) _) hb)
 rcases ownH_of hown with⟨-,hnil⟩ | ⟨g,c,rfl,ho⟩
 ·cases hnil
 have HO:=QLh ho;clear hown hb ho;have HOKS:Hid (∀i,(hnth [r] i).Ok):=QLh (oks1 HRO.out)
 go_wp2_with fail
 refine(iheader_any B [r] (some ⟨g,0,none⟩) c 5 w1 ((te_pt HT.out).below B1.out) HO.out.hdrs HOKS.out (by decide:1<=65536)).mono ?_
 rintro e w2 ⟨v,rfl,hv,hb⟩
 have hih:=ih_some (r:=5) (el_one HRM.out) (findR_hit (i:=0) (by decide:0<1) (λ j hj=>by omega) HRN.out)
 rw[show hnth [r] 0=r from rfl,show elL [r]=[hbs r]from rfl,one1]at hih
 rw[hih.2.1]at hv
 rw[hih.1,hih.2.2]
 obtain⟨p3,c3,rfl,ht3,hc3,hn3⟩:=hv
 have B2:Hid (Below w.heap.size w w2):=QLh (bnext B1.out hb);have HO2:=QLh (HO.out.below hb)
 obtain⟨s,hs⟩:∃s,hbs r=s:=⟨_,rfl⟩
 have HS:=QLh hs;have HSZ:Hid (s.size<=1000):=QLh (by rw[<-hs];exact hbs_size HRM.out);have HHW:=QLh (λ w9 h9=>hw_yes B r w9 h9 HRO.out HRM.out)
 rw[hs]at HHW
 rw[hs]
 clear hs hb hih ht3 hc3 hn3
 rw[show len ([]:List ByteArray)=0 from rfl]
 have hc:=HO2.out.at (i:=0) (by decide:0<1)
 rw[show hnth [r] 0=r from rfl]at hc
 obtain⟨g0,g1,g2,g3,-⟩:=hc
 have hl1:len [r]=1:=rfl
 go_wp2_with fail
 refine(HHW.out _ ((te_pt HT.out).below B2.out)).mono ?_
 rintro e w3 ⟨rfl,hb⟩
 have B3:Hid (Below w.heap.size w w3):=QLh (bnext B2.out hb);have HO3:=QLh (HO2.out.below hb);clear hb g0 g1 g2 g3
 go_wp2_with fail
 refine(hash_any leafT [s] (some ⟨w3.heap.size,0,none⟩) 1 _ (by decide) (by decide) (one_txts1 (heap_alloc_new _ _)) (by rw[show partsL [s]=partL s by simp[partsL],partL_len];have:=HSZ.out;omega)).mono ?_
 rintro e w4 ⟨rfl,hb⟩
 have B4:Hid (Below w3.heap.size w3 w4):=QLh (bnext (balloc (Below.refl _ _) _) hb);clear hb;have hiy:=is_yes (f:=5) (t:=5) (els:=[s]) (k:=0) HRO.out HRM.out (by decide:0<1) (by decide:1<=64) HS.out.symm (by rw[HRN.out];rfl) (by rfl)
 rw[one1,HS.out]at hiy
 have HIY:=QLh hiy
 obtain⟨rt,hrt⟩:∃rt,treeR [s]=rt:=⟨_,rfl⟩
 rw[show hashP leafT [s]=rt from hrt]
 rw[hrt]at HIY
 clear hrt hiy
 go_wp2_with fail
 refine(ihis_any B rt 5 5 s [] p3 c3 w4 ((HT.out.below B3.out).below B4.out) (Txts.nil _ _) (by decide) (Nat.zero_le _) ⟨by decide,by decide⟩ ⟨by decide,by decide⟩ (by have:=HSZ.out;omega)).mono ?_
 rintro e w5 ⟨rfl,hb⟩
 rw[HIY.out.1,HIY.out.2]
 have B5:Hid (Below w3.heap.size w3 w5):=QLh (bnext B4.out hb);clear hb
 go_upto_region 5 with fail
 obtain⟨V,hV⟩:∃V,w5.alloc (.cells #[.int .u64 r.rnd,.string r.prev,.string r.txns,.string r.seed] 33)=V:=⟨_,rfl⟩
 obtain⟨xb,hxb⟩:∃xb,w5.heap.size=xb:=⟨_,rfl⟩
 have HVX:Hid (V.heap[xb]?=some (.cells #[.int .u64 r.rnd,.string r.prev,.string r.txns,.string r.seed] 33 (0,0))):=QLh (by rw[<-hV,<-hxb];exact heap_alloc_new _ _);have BV:Hid (Below w3.heap.size w3 V):=QLh (by rw[<-hV];exact balloc B5.out _)
 rw[hV,hxb]
 clear hV hxb
 go_wp2_with fail
 refine(itxn_any abT (some ⟨V.heap.size,0,none⟩) 2 1 _ (abT_txts (heap_alloc_new _ _)) (by decide) (λ i hi=>Nat.le_trans (abT_size i hi) (by decide))).mono ?_
 rintro e w6 ⟨vq,rfl,hv,hb⟩
 rw[it_ab.1]at hv
 rw[it_ab.2]
 have hti:=ti_ab
 obtain⟨ta,hta⟩:∃ta,hashP leafT [⟨#[97]⟩]=ta:=⟨_,rfl⟩
 rw[hta]at hv hti
 have HTA:Hid (∀(wv:World) (bq:Nat),wv.heap[bq]?=some (.cells #[.string ⟨#[97]⟩] 9 (0,0))->Calls Tryz.prog 45 #[.string ⟨#[108,101,97,102]⟩,.slice (some ⟨bq,0,none⟩) 1 1] wv λ e w'=>e=.returned (.string ta)/\Below wv.heap.size wv w'):=QLh (λ wv bq h=>by
  rw[<-hta]
  exact hash_any leafT [⟨#[97]⟩] (some ⟨bq,0,none⟩) 1 wv (by decide) (by decide) (one_txts1 h) (by decide))
 obtain⟨rab,hrab⟩:∃rab,treeR abT=rab:=⟨_,rfl⟩
 rw[hrab]at hti
 have HRB:Hid (∀(wv:World) (bq:Nat),wv.heap[bq]?=some (.cells #[.string ⟨#[97]⟩,.string ⟨#[98]⟩] 9 (0,0))->Calls Tryz.prog 64 #[.slice (some ⟨bq,0,none⟩) 2 2] wv λ e w'=>e=.returned (.string rab)/\Below wv.heap.size wv w'):=QLh (λ wv bq h=>by
  rw[<-hrab]
  exact lroot27_any abT (some ⟨bq,0,none⟩) 2 wv (abT_txts h) (by decide) (λ i hi=>Nat.le_trans (abT_size i hi) (by decide)))
 obtain⟨aq,cq,rfl,htq,hcq,-⟩:=hv
 have BV6:Hid (Below V.heap.size V w6):=QLh (bnext (balloc (Below.refl _ _) _) hb);have HTQ:=QLh (And.intro htq hcq);have HAL:Hid (∀(wv:World) (bq:Nat),Below w6.heap.size w6 wv->wv.heap[bq]?=some (.cells #[.string ta] 9 (0,0))->Calls Tryz.prog 51 #[.slice aq 1 cq,.slice (some ⟨bq,0,none⟩) 1 1] wv λ e w'=>e=.returned (.bool true)/\Below wv.heap.size wv w'):=QLh (λ wv bq hb h=>by
  have h2:=alike27_any [ta] [ta] aq (some ⟨bq,0,none⟩) cq 1 wv (HTQ.out.1.below hb) (one_txts1 h) (by show 1<=1000000;decide) (by show 1<=1000000;decide)
  rw[decide_eq_true rfl]at h2
  exact h2)
 have HTI:Hid (∀(wv:World),Below w6.heap.size w6 wv->Calls Tryz.prog 62 #[.string rab,.agg #[.int .u64 1,.int .u64 2],.string ⟨#[98]⟩,.slice aq 1 cq] wv λ e w'=>e=.returned (.int .i64 0)/\Below wv.heap.size wv w'):=QLh (λ wv hb=>by
  have h2:=itis_any rab 1 2 ⟨#[98]⟩ [ta] aq cq wv (HTQ.out.1.below hb) (by show 1<=1000000;decide) HTQ.out.2 ⟨by decide,by decide⟩ ⟨by decide,by decide⟩ (by decide)
  rw[hti]at h2
  exact h2)
 rw[show len [ta]=1 from rfl]
 have HVX6:=QLh ((BV6.out.block _ (lt_of_block HVX.out)).trans HVX.out);have B6:Hid (Below w.heap.size w w6):=QLh (bnext (bnext B3.out BV.out) BV6.out);have hc:=((HO3.out.below BV.out).below BV6.out).at (i:=0) (by decide:0<1)
 rw[show hnth [r] 0=r from rfl]at hc
 obtain⟨g0,g1,g2,g3,-⟩:=hc
 rw[Nat.zero_mul]at g0 g1 g2 g3
 have x0:w6.cell? ⟨xb,0,none⟩=some (.int .u64 r.rnd):=block_cell HVX6.out 0;have x1:w6.cell? ⟨xb,1,none⟩=some (.string r.prev):=block_cell HVX6.out 1;have x2:w6.cell? ⟨xb,2,none⟩=some (.string r.txns):=block_cell HVX6.out 2;have x3:w6.cell? ⟨xb,3,none⟩=some (.string r.seed):=block_cell HVX6.out 3;have sa:(s.toList == s.toList)=true:=by rw[str_beq,decide_eq_true rfl]
 have r1:(r.prev.toList == r.prev.toList)=true:=by rw[str_beq,decide_eq_true rfl]
 have r2:(r.txns.toList == r.txns.toList)=true:=by rw[str_beq,decide_eq_true rfl]
 have r3:(r.seed.toList == r.seed.toList)=true:=by rw[str_beq,decide_eq_true rfl]
 clear hb hta hrab hti htq hcq HIY
 go_upto_region 6 with fail
 refine wp_region_all 1000 (none) (phis [λ u _=>u=(.int .i64 0),λ u _=>u=(.bool true),λ u _=>u=(.bool true),λ u _=>u=(.int .i64 0),λ u _=>u=(.bool true),λ u _=>u=(.bool true),λ u _=>u=(.bool true),λ u _=>u=(.string s),λ u _=>u=(.string s),λ u _=>u=(.bool true),λ u _=>u=(.bool true),λ u _=>u=(.bool true),λ u _=>u=(.slice p3 0 c3),λ u _=>u=(.int .i64 0),λ u _=>u=(.bool true),λ u _=>u=(.bool true),λ u _=>u=(.bool true),λ u _=>u=(.int .i64 0),λ u _=>u=(.bool true),λ u _=>u=(.bool true),λ u _=>u=(.bool true),λ u _=>u=(.agg #[.int .u64 r.rnd,.string r.prev,.string r.txns,.string r.seed]),λ u _=>u=(.slice (some ⟨g,0,none⟩) 1 c),λ u _=>u=(.pointer (some ⟨g,0,none⟩)),λ u _=>u=(.agg #[.int .u64 r.rnd,.string r.prev,.string r.txns,.string r.seed]),λ u _=>u=(.bool true),λ u _=>u=(.bool true),λ u _=>u=(.bool true),λ u _=>u=(.int .i64 0),λ u _=>u=(.bool true),λ u _=>u=(.bool true),λ u _=>u=(.bool true),λ u _=>u=(.slice aq 1 cq),λ u w'=>∃b,u=.slice (some ⟨b,0,none⟩) 1 1/\w'.heap[b]?=some (.cells #[.string ⟨#[97]⟩] 9 (0,0)),λ u _=>u=(.string ta),λ u w'=>∃b,u=.slice (some ⟨b,0,none⟩) 1 1/\w'.heap[b]?=some (.cells #[.string ta] 9 (0,0)),λ u _=>u=(.bool true),λ u _=>u=(.bool true),λ u _=>u=(.bool true),λ u w'=>∃b,u=.slice (some ⟨b,0,none⟩) 2 2/\w'.heap[b]?=some (.cells #[.string ⟨#[97]⟩,.string ⟨#[98]⟩] 9 (0,0)),λ u _=>u=(.string rab),λ u _=>u=(.agg #[.int .u64 1,.int .u64 2]),λ u _=>u=(.slice aq 1 cq),λ u _=>u=(.int .i64 0),λ u _=>u=(.bool true),λ u _=>u=(.bool true),λ u _=>u=(.bool true)]) rfl (by kernel_rfl) (mono_of ⟨mono_eq,mono_eq,mono_eq,mono_eq,mono_eq,mono_eq,mono_eq,mono_eq,mono_eq,mono_eq,mono_eq,mono_eq,mono_eq,mono_eq,mono_eq,mono_eq,mono_eq,mono_eq,mono_eq,mono_eq,mono_eq,mono_eq,mono_eq,mono_eq,mono_eq,mono_eq,mono_eq,mono_eq,mono_eq,mono_eq,mono_eq,mono_eq,mono_eq,?m33,mono_eq,?m35,mono_eq,mono_eq,mono_eq,?m39,mono_eq,mono_eq,mono_eq,mono_eq,mono_eq,mono_eq,mono_eq,trivial⟩) (steps_of 47 ⟨?s0,?s1,?s2,?s3,?s4,?s5,?s6,?s7,?s8,?s9,?s10,?s11,?s12,?s13,?s14,?s15,?s16,?s17,?s18,?s19,?s20,?s21,?s22,?s23,?s24,?s25,?s26,?s27,?s28,?s29,?s30,?s31,?s32,?s33,?s34,?s35,?s36,?s37,?s38,?s39,?s40,?s41,?s42,?s43,?s44,?s45,?s46,trivial⟩) ?_
 case m33=>
  exact⟨λ u w1 w' h ⟨b,h1,hb⟩=>⟨b,h1,ext_block h hb⟩,λ _ u w1 w' h ⟨b,h1,hb⟩=>⟨b,h1,extB_block h (by simp) hb⟩⟩
 case m35=>
  exact⟨λ u w1 w' h ⟨b,h1,hb⟩=>⟨b,h1,ext_block h hb⟩,λ _ u w1 w' h ⟨b,h1,hb⟩=>⟨b,h1,extB_block h (by simp) hb⟩⟩
 case m39=>
  exact⟨λ u w1 w' h ⟨b,h1,hb⟩=>⟨b,h1,ext_block h hb⟩,λ _ u w1 w' h ⟨b,h1,hb⟩=>⟨b,h1,extB_block h (by simp) hb⟩⟩
 case s0=>
  refine qV (λ _=>rfl) rfl λ av wv hE hO hD=>?_
  simp[go_sem,qF av 4 (.int .i64 0) (hO.2.2 4 rfl),sa,r1,r2,r3]
 case s1=>
  refine qV (λ _=>rfl) rfl λ av wv hE hO hD=>?_
  simp[go_sem,qE (hD.1 rfl _ rfl),sa,r1,r2,r3]
 case s2=>
  refine qV (λ _=>rfl) rfl λ av wv hE hO hD=>?_
  simp[go_sem,qE (hD.1 rfl _ rfl),sa,r1,r2,r3]
 case s3=>
  refine step_val (λ av wv hE hS hO hD=>⟨(wY rfl rfl rfl (hD.1 rfl _ rfl)),?_⟩) (λ _=>rfl)
  simp[go_sem,qF av 6 (.int .i64 0) (hO.2.2 6 rfl),qE (hD.1 rfl _ rfl),sa,r1,r2,r3]
 case s4=>
  refine step_val (λ av wv hE hS hO hD=>⟨(wY rfl rfl rfl (hD.2.1 rfl _ rfl)),?_⟩) (λ _=>rfl)
  simp[go_sem,qE (hD.1 rfl _ rfl),qE (hD.2.1 rfl _ rfl),sa,r1,r2,r3]
 case s5=>
  refine qV (λ _=>rfl) rfl λ av wv hE hO hD=>?_
  simp[go_sem,qE (hD.1 rfl _ rfl),qE (hD.2.1 rfl _ rfl),sa,r1,r2,r3]
 case s6=>
  refine qV (λ _=>rfl) rfl λ av wv hE hO hD=>?_
  simp[go_sem,qE (hD.1 rfl _ rfl),sa,r1,r2,r3]
 case s7=>
  refine step_val (λ av wv hE hS hO hD=>⟨(wY rfl rfl rfl (hD.1 rfl _ rfl)),?_⟩) (λ _=>rfl)
  simp[go_sem,qF av 2 (.string s) (hO.2.2 2 rfl),qE (hD.1 rfl _ rfl),sa,r1,r2,r3]
 case s8=>
  refine step_val (λ av wv hE hS hO hD=>⟨(wY rfl rfl rfl (hD.1 rfl _ rfl)),?_⟩) (λ _=>rfl)
  simp[go_sem,qF av 5 (.string s) (hO.2.2 5 rfl),qE (hD.1 rfl _ rfl),sa,r1,r2,r3]
 case s9=>
  refine step_val (λ av wv hE hS hO hD=>⟨(wY rfl rfl rfl (hD.2.2.1 rfl _ rfl)),?_⟩) (λ _=>rfl)
  simp[go_sem,qE (hD.1 rfl _ rfl),qE (hD.2.1 rfl _ rfl),qE (hD.2.2.1 rfl _ rfl),sa,r1,r2,r3]
 case s10=>
  refine qV (λ _=>rfl) rfl λ av wv hE hO hD=>?_
  simp[go_sem,qE (hD.1 rfl _ rfl),qE (hD.2.1 rfl _ rfl),sa,r1,r2,r3]
 case s11=>
  refine qV (λ _=>rfl) rfl λ av wv hE hO hD=>?_
  simp[go_sem,qE (hD.1 rfl _ rfl),sa,r1,r2,r3]
 case s12=>
  refine step_val (λ av wv hE hS hO hD=>⟨(wY rfl rfl rfl (hD.1 rfl _ rfl)),?_⟩) (λ _=>rfl)
  simp[go_sem,qF av 3 (.slice p3 0 c3) (hO.2.2 3 rfl),qE (hD.1 rfl _ rfl),sa,r1,r2,r3]
 case s13=>
  refine step_val (λ av wv hE hS hO hD=>⟨(wY rfl rfl rfl (hD.2.1 rfl _ rfl)),?_⟩) (λ _=>rfl)
  simp[go_sem,qE (hD.1 rfl _ rfl),qE (hD.2.1 rfl _ rfl),sa,r1,r2,r3]
 case s14=>
  refine step_val (λ av wv hE hS hO hD=>⟨(wY rfl rfl rfl (hD.2.1 rfl _ rfl)),?_⟩) (λ _=>rfl)
  simp[go_sem,qE (hD.1 rfl _ rfl),qE (hD.2.1 rfl _ rfl),sa,r1,r2,r3]
 case s15=>
  refine qV (λ _=>rfl) rfl λ av wv hE hO hD=>?_
  simp[go_sem,qE (hD.1 rfl _ rfl),qE (hD.2.1 rfl _ rfl),sa,r1,r2,r3]
 case s16=>
  refine qV (λ _=>rfl) rfl λ av wv hE hO hD=>?_
  simp[go_sem,qE (hD.1 rfl _ rfl),sa,r1,r2,r3]
 case s17=>
  refine step_val (λ av wv hE hS hO hD=>⟨(wY rfl rfl rfl (hD.1 rfl _ rfl)),?_⟩) (λ _=>rfl)
  simp[go_sem,qF av 8 (.int .i64 0) (hO.2.2 8 rfl),qE (hD.1 rfl _ rfl),sa,r1,r2,r3]
 case s18=>
  refine step_val (λ av wv hE hS hO hD=>⟨(wY rfl rfl rfl (hD.2.1 rfl _ rfl)),?_⟩) (λ _=>rfl)
  simp[go_sem,qE (hD.1 rfl _ rfl),qE (hD.2.1 rfl _ rfl),sa,r1,r2,r3]
 case s19=>
  refine qV (λ _=>rfl) rfl λ av wv hE hO hD=>?_
  simp[go_sem,qE (hD.1 rfl _ rfl),qE (hD.2.1 rfl _ rfl),sa,r1,r2,r3]
 case s20=>
  refine qV (λ _=>rfl) rfl λ av wv hE hO hD=>?_
  simp[go_sem,qE (hD.1 rfl _ rfl),sa,r1,r2,r3]
 case s21=>
  refine step_val (λ av wv hE hS hO hD=>⟨(wY rfl rfl rfl (hD.1 rfl _ rfl)),?_⟩) (λ _=>rfl)
  simp[go_sem,qF av 7 (.pointer (some ⟨xb,0,none⟩)) (hO.2.2 7 rfl),qE (hD.1 rfl _ rfl),extB_cell hE (by simp) x0,extB_cell hE (by simp) x1,extB_cell hE (by simp) x2,extB_cell hE (by simp) x3,extB_cell hE (by simp) g0,extB_cell hE (by simp) g1,extB_cell hE (by simp) g2,extB_cell hE (by simp) g3,sa,r1,r2,r3]
 case s22=>
  refine step_val (λ av wv hE hS hO hD=>⟨(wY rfl rfl rfl (hD.1 rfl _ rfl)),?_⟩) (λ _=>rfl)
  simp[go_sem,qF av 1 (.slice (some ⟨g,0,none⟩) 1 c) (hO.2.2 1 rfl),qE (hD.1 rfl _ rfl),sa,r1,r2,r3]
 case s23=>
  refine step_val (λ av wv hE hS hO hD=>⟨(wY rfl rfl rfl (hD.2.1 rfl _ rfl)),?_⟩) (λ _=>rfl)
  simp[go_sem,qE (hD.1 rfl _ rfl),qE (hD.2.1 rfl _ rfl),sa,r1,r2,r3]
 case s24=>
  refine step_val (λ av wv hE hS hO hD=>⟨(wY rfl rfl rfl (hD.2.1 rfl _ rfl)),?_⟩) (λ _=>rfl)
  simp[go_sem,qE (hD.1 rfl _ rfl),qE (hD.2.1 rfl _ rfl),extB_cell hE (by simp) x0,extB_cell hE (by simp) x1,extB_cell hE (by simp) x2,extB_cell hE (by simp) x3,extB_cell hE (by simp) g0,extB_cell hE (by simp) g1,extB_cell hE (by simp) g2,extB_cell hE (by simp) g3,sa,r1,r2,r3]
 case s25=>
  refine step_val (λ av wv hE hS hO hD=>⟨(wY rfl rfl rfl (hD.2.2.1 rfl _ rfl)),?_⟩) (λ _=>rfl)
  simp[go_sem,qE (hD.1 rfl _ rfl),qE (hD.2.1 rfl _ rfl),qE (hD.2.2.1 rfl _ rfl),sa,r1,r2,r3]
 case s26=>
  refine qV (λ _=>rfl) rfl λ av wv hE hO hD=>?_
  simp[go_sem,qE (hD.1 rfl _ rfl),qE (hD.2.1 rfl _ rfl),sa,r1,r2,r3]
 case s27=>
  refine qV (λ _=>rfl) rfl λ av wv hE hO hD=>?_
  simp[go_sem,qE (hD.1 rfl _ rfl),sa,r1,r2,r3]
 case s28=>
  refine step_val (λ av wv hE hS hO hD=>⟨(wY rfl rfl rfl (hD.1 rfl _ rfl)),?_⟩) (λ _=>rfl)
  simp[go_sem,qF av 10 (.int .i64 0) (hO.2.2 10 rfl),qE (hD.1 rfl _ rfl),sa,r1,r2,r3]
 case s29=>
  refine step_val (λ av wv hE hS hO hD=>⟨(wY rfl rfl rfl (hD.2.1 rfl _ rfl)),?_⟩) (λ _=>rfl)
  simp[go_sem,qE (hD.1 rfl _ rfl),qE (hD.2.1 rfl _ rfl),sa,r1,r2,r3]
 case s30=>
  refine qV (λ _=>rfl) rfl λ av wv hE hO hD=>?_
  simp[go_sem,qE (hD.1 rfl _ rfl),qE (hD.2.1 rfl _ rfl),sa,r1,r2,r3]
 case s31=>
  refine qV (λ _=>rfl) rfl λ av wv hE hO hD=>?_
  simp[go_sem,qE (hD.1 rfl _ rfl),sa,r1,r2,r3]
 case s32=>
  refine step_val (λ av wv hE hS hO hD=>⟨(wY rfl rfl rfl (hD.1 rfl _ rfl)),?_⟩) (λ _=>rfl)
  simp[go_sem,qF av 9 (.slice aq 1 cq) (hO.2.2 9 rfl),qE (hD.1 rfl _ rfl),sa,r1,r2,r3]
 case s33=>
  refine step_wp (λ av wv hE hS hO hD=>⟨(wY rfl rfl rfl (hD.1 rfl _ rfl)),?_⟩)
  exact wp_of_run (v:=.slice (some ⟨wv.heap.size,0,none⟩) 1 1) (w':=wv.alloc (.cells #[.string ⟨#[97]⟩] 9)) (by simp[go_sem]) ⟨_,rfl,es_of_ext (balloc (Ext_refl _) _),wv.heap.size,rfl,heap_alloc_new _ _⟩
 case s34=>
  refine step_wp (λ av wv hE hS hO hD=>⟨(wY rfl rfl rfl (hD.2.1 rfl _ rfl)),?_⟩)
  have d75:(λ u w'=>∃b,u=.slice (some ⟨b,0,none⟩) 1 1/\w'.heap[b]?=some (.cells #[.string ⟨#[97]⟩] 9 (0,0))) (av.eval (.tmp 75)) wv:=hD.1 rfl _ rfl
  obtain⟨bq,hq,hcq⟩:=d75
  have fq:=(ev_form av 75).symm.trans hq
  refine wp_of_call (v:=.string ta) (by simp[go_sem,fq]) (HTA.out wv bq hcq) (λ w2 hb=>⟨_,rfl,es_of_ext hb,rfl⟩)
 case s35=>
  refine step_wp (λ av wv hE hS hO hD=>⟨(wY rfl rfl rfl (hD.2.1 rfl _ rfl)),?_⟩)
  have f76:=qE (hD.1 rfl _ rfl)
  exact wp_of_run (v:=.slice (some ⟨wv.heap.size,0,none⟩) 1 1) (w':=wv.alloc (.cells #[.string ta] 9)) (by simp[go_sem,f76]) ⟨_,rfl,es_of_ext (balloc (Ext_refl _) _),wv.heap.size,rfl,heap_alloc_new _ _⟩
 case s36=>
  refine step_wp (λ av wv hE hS hO hD=>⟨(wY rfl rfl rfl (hD.2.2.2.1 rfl _ rfl)),?_⟩)
  have f74:=qE (hD.1 rfl _ rfl);have d77:(λ u w'=>∃b,u=.slice (some ⟨b,0,none⟩) 1 1/\w'.heap[b]?=some (.cells #[.string ta] 9 (0,0))) (av.eval (.tmp 77)) wv:=hD.2.1 rfl _ rfl
  obtain⟨bq,hq,hcq⟩:=d77
  have fq:=(ev_form av 77).symm.trans hq
  refine wp_of_call (v:=.bool true) (by simp[go_sem,fq,f74]) (HAL.out wv bq (of_drew hE) hcq) (λ w2 hb=>⟨_,rfl,es_of_ext hb,rfl⟩)
 case s37=>
  refine qV (λ _=>rfl) rfl λ av wv hE hO hD=>?_
  simp[go_sem,qE (hD.1 rfl _ rfl),qE (hD.2.1 rfl _ rfl),sa,r1,r2,r3]
 case s38=>
  refine qV (λ _=>rfl) rfl λ av wv hE hO hD=>?_
  simp[go_sem,qE (hD.1 rfl _ rfl),sa,r1,r2,r3]
 case s39=>
  refine step_wp (λ av wv hE hS hO hD=>⟨(wY rfl rfl rfl (hD.1 rfl _ rfl)),?_⟩)
  exact wp_of_run (v:=.slice (some ⟨wv.heap.size,0,none⟩) 2 2) (w':=wv.alloc (.cells #[.string ⟨#[97]⟩,.string ⟨#[98]⟩] 9)) (by simp[go_sem]) ⟨_,rfl,es_of_ext (balloc (Ext_refl _) _),wv.heap.size,rfl,heap_alloc_new _ _⟩
 case s40=>
  refine step_wp (λ av wv hE hS hO hD=>⟨(wY rfl rfl rfl (hD.2.1 rfl _ rfl)),?_⟩)
  have d81:(λ u w'=>∃b,u=.slice (some ⟨b,0,none⟩) 2 2/\w'.heap[b]?=some (.cells #[.string ⟨#[97]⟩,.string ⟨#[98]⟩] 9 (0,0))) (av.eval (.tmp 81)) wv:=hD.1 rfl _ rfl
  obtain⟨bq,hq,hcq⟩:=d81
  have fq:=(ev_form av 81).symm.trans hq
  refine wp_of_call (v:=.string rab) (by simp[go_sem,fq]) (HRB.out wv bq hcq) (λ w2 hb=>⟨_,rfl,es_of_ext hb,rfl⟩)
 case s41=>
  refine step_val (λ av wv hE hS hO hD=>⟨(wY rfl rfl rfl (hD.1 rfl _ rfl)),?_⟩) (λ _=>rfl)
  simp[go_sem,qE (hD.1 rfl _ rfl),sa,r1,r2,r3]
 case s42=>
  refine step_val (λ av wv hE hS hO hD=>⟨(wY rfl rfl rfl (hD.1 rfl _ rfl)),?_⟩) (λ _=>rfl)
  simp[go_sem,qF av 9 (.slice aq 1 cq) (hO.2.2 9 rfl),qE (hD.1 rfl _ rfl),sa,r1,r2,r3]
 case s43=>
  refine step_wp (λ av wv hE hS hO hD=>⟨(wY rfl rfl rfl (hD.2.2.2.2.1 rfl _ rfl)),?_⟩)
  have f82:=qE (hD.1 rfl _ rfl);have f83:=qE (hD.2.1 rfl _ rfl);have f84:=qE (hD.2.2.1 rfl _ rfl)
  refine wp_of_call (v:=.int .i64 0) (by simp[go_sem,f82,f83,f84]) (HTI.out wv (of_drew hE)) (λ w2 hb=>⟨_,rfl,es_of_ext hb,rfl⟩)
 case s44=>
  refine step_val (λ av wv hE hS hO hD=>⟨(wY rfl rfl rfl (hD.2.1 rfl _ rfl)),?_⟩) (λ _=>rfl)
  simp[go_sem,qE (hD.1 rfl _ rfl),qE (hD.2.1 rfl _ rfl),sa,r1,r2,r3]
 case s45=>
  refine qV (λ _=>rfl) rfl λ av wv hE hO hD=>?_
  simp[go_sem,qE (hD.1 rfl _ rfl),qE (hD.2.1 rfl _ rfl),sa,r1,r2,r3]
 case s46=>
  refine qV (λ _=>rfl) rfl λ av wv hE hO hD=>?_
  simp[go_sem,qE (hD.1 rfl _ rfl),sa,r1,r2,r3]
 intro a' w' hE hO hall
 have hA:=act_of_outer (ds:=[42,43,44,45,46,47,48,49,50,51,52,53,54,55,56,57,58,59,60,61,62,63,64,65,66,67,68,69,70,71,72,73,74,75,76,77,78,79,80,81,82,83,84,85,86,87,0]) rfl hO (by kernel_rfl)
 obtain⟨j0,j1,j2,j3,j4,j5,j6,j7,j8,j9,j10,j11,j12,j13,j14,j15,j16,j17,j18,j19,j20,j21,j22,j23,j24,j25,j26,j27,j28,j29,j30,j31,j32,j33,j34,j35,j36,j37,j38,j39,j40,j41,j42,j43,j44,j45,j46,-⟩:=hall
 have e75:(λ u w'=>∃b,u=.slice (some ⟨b,0,none⟩) 1 1/\w'.heap[b]?=some (.cells #[.string ⟨#[97]⟩] 9 (0,0))) (a'.eval (.tmp 75)) w':=j33 _ rfl;have e77:(λ u w'=>∃b,u=.slice (some ⟨b,0,none⟩) 1 1/\w'.heap[b]?=some (.cells #[.string ta] 9 (0,0))) (a'.eval (.tmp 77)) w':=j35 _ rfl;have e81:(λ u w'=>∃b,u=.slice (some ⟨b,0,none⟩) 2 2/\w'.heap[b]?=some (.cells #[.string ⟨#[97]⟩,.string ⟨#[98]⟩] 9 (0,0))) (a'.eval (.tmp 81)) w':=j39 _ rfl
 obtain⟨v75,hv75⟩:∃v,a'.eval (.tmp 75)=v:=⟨_,rfl⟩
 rw[hv75]at e75
 obtain⟨v77,hv77⟩:∃v,a'.eval (.tmp 77)=v:=⟨_,rfl⟩
 rw[hv77]at e77
 obtain⟨v81,hv81⟩:∃v,a'.eval (.tmp 81)=v:=⟨_,rfl⟩
 rw[hv81]at e81
 simp only[List.foldl_cons,List.foldl_nil,Act.put,List.setIfInBounds_toArray,List.set_cons_succ,List.set_cons_zero,qJ 42 (j0 _ rfl),qJ 43 (j1 _ rfl),qJ 44 (j2 _ rfl),qJ 45 (j3 _ rfl),qJ 46 (j4 _ rfl),qJ 47 (j5 _ rfl),qJ 48 (j6 _ rfl),qJ 49 (j7 _ rfl),qJ 50 (j8 _ rfl),qJ 51 (j9 _ rfl),qJ 52 (j10 _ rfl),qJ 53 (j11 _ rfl),qJ 54 (j12 _ rfl),qJ 55 (j13 _ rfl),qJ 56 (j14 _ rfl),qJ 57 (j15 _ rfl),qJ 58 (j16 _ rfl),qJ 59 (j17 _ rfl),qJ 60 (j18 _ rfl),qJ 61 (j19 _ rfl),qJ 62 (j20 _ rfl),qJ 63 (j21 _ rfl),qJ 64 (j22 _ rfl),qJ 65 (j23 _ rfl),qJ 66 (j24 _ rfl),qJ 67 (j25 _ rfl),qJ 68 (j26 _ rfl),qJ 69 (j27 _ rfl),qJ 70 (j28 _ rfl),qJ 71 (j29 _ rfl),qJ 72 (j30 _ rfl),qJ 73 (j31 _ rfl),qJ 74 (j32 _ rfl),hv75,qJ 76 (j34 _ rfl),hv77,qJ 78 (j36 _ rfl),qJ 79 (j37 _ rfl),qJ 80 (j38 _ rfl),hv81,qJ 82 (j40 _ rfl),qJ 83 (j41 _ rfl),qJ 84 (j42 _ rfl),qJ 85 (j43 _ rfl),qJ 86 (j44 _ rfl),qJ 87 (j45 _ rfl),qJ 0 (j46 _ rfl)]at hA
 clear hO j33 j35 j39 j0 j1 j2 j3 j4 j5 j6 j7 j8 j9 j10 j11 j12 j13 j14 j15 j16 j17 j18 j19 j20 j21 j22 j23 j24 j25 j26 j27 j28 j29 j30 j31 j32 hv75 j34 hv77 j36 j37 j38 hv81 j40 j41 j42 j43 j44 j45 j46
 subst hA
 have HBE:=QLh (of_drew hE);clear hE
 go_wp2
 go_ret
 exact⟨rfl,bnext B6.out HBE.out⟩
end
section
set_option linter.constructorNameAsVariable false
theorem rtis_any(root:ByteArray)(i n:Int)(s:ByteArray)(P:List ByteArray)(pa:Option Addr)(pc:Nat)(w:World)(hp:Txts w pa P)(hl:len P<=1000000)(hc:len P<=pc)(hi:U64 i)(hn:U64 n)(hs:s.size<=1000000):
  Calls Tryz.prog 63 #[.string root,.agg #[.int .u64 i,.int .u64 n],.string s,.slice pa (len P) pc] w λ e w'=>e=.returned (.int .i64 (tiE root i n s P))/\Below w.heap.size w w':=by
 have HP:=QLh hp;have HL:=QLh hl;have HC:=QLh hc;have HI:=QLh hi;have HN:=QLh hn;have HS:=QLh hs;have HTE:Hid (tiA root i n s=false->tiE root i n s P=2):=QLh (λ h=>by unfold tiE;rw[h];rfl);clear hp hl hc hi hn hs
 go_enter Tryz.func63,Tryz.ntmps63
 go_upto_region 1 with fail
 obtain⟨V,hV⟩:∃V,w.alloc (.cells #[.int .u64 i,.int .u64 n] 76)=V:=⟨_,rfl⟩
 obtain⟨b,hb⟩:∃b,w.heap.size=b:=⟨_,rfl⟩
 have HBV:Hid (Below w.heap.size w V):=QLh (by rw[<-hV];exact balloc (Below.refl _ _) _);have V1:Hid (V.heap[b]?=some (.cells #[.int .u64 i,.int .u64 n] 76 (0,0))):=QLh (by rw[<-hV,<-hb];exact heap_alloc_new _ _)
 rw[hV,hb]
 clear hV hb;have y0:V.cell? ⟨b,0,none⟩=some (.int .u64 i):=block_cell V1.out 0;have y1:V.cell? ⟨b,1,none⟩=some (.int .u64 n):=block_cell V1.out 1
 by_cases h0:root.size=32
 ·have e0:((root.size:Nat):Int)=32:=by omega
  by_cases h1:1<=n
  ·have e1:¬n<1:=by omega
   by_cases h2:n<=64
   ·have e2:¬64<n:=by omega
    by_cases h3:i<n
    ·have e3:¬n<=i:=by omega
     by_cases h4:0<s.size
     ·have e4:¬((s.size:Nat):Int)<1:=by omega
      by_cases h5:s.size<=64
      ·have e5:¬64<((s.size:Nat):Int):=by omega
       have HA:Hid (tiA root i n s=true):=QLh (by unfold tiA;rw[decide_eq_true h0,decide_eq_true h1,decide_eq_true h2,decide_eq_true h3,decide_eq_true h4,decide_eq_true h5];rfl);have HTR:Hid (tiE root i n s P=if checkE root n [i] [s] P=0 then 0 else 20):=QLh (if_pos HA.out);clear h0 h1 h2 h3 h4 h5;have kw:IntKind.i64.wrap n=n:=IntWalk.i64_in _ (by omega);have HPR:Hid (PrIn [i] [s] P (some ⟨V.heap.size,0,none⟩) (some ⟨V.heap.size+1,0,none⟩) pa pc ((V.alloc (.cells #[.int .u64 i] 23)).alloc (.cells #[.string s] 9))):=QLh
        { p:=λ j hj=>⟨_,0,rfl,by
           have hj:j<1:=hj
           obtain rfl:j=0:=by omega
           rw[block_cell (block_alloc (heap_alloc_new _ _) _)];rfl⟩
          e:=one_txts1 (alloc_new_at _ (by simp))
          d:=(HP.out.below HBV.out).below (balloc (balloc (Below.refl _ _) _) _)
          pl:=by show 1<=12;decide
          pu:=λ k hk=>by obtain rfl:=List.mem_singleton.1 hk;exact HI.out
          el:=by show 1<=1000000;decide
          dl:=HL.out
          dc_:=HC.out
          ez:=λ j hj=>by
           have hj:j<1:=hj
           obtain rfl:j=0:=by omega
           exact HS.out }
       have HCK:=QLh (rcheck_any root n [i] [s] P (some ⟨V.heap.size,0,none⟩) (some ⟨V.heap.size+1,0,none⟩) pa 1 1 pc _ HPR.out (by omega) (by omega));clear HPR
       obtain⟨K,hK⟩:∃K,checkE root n [i] [s] P=K:=⟨_,rfl⟩
       rw[hK]at HCK HTR
       clear hK
       go_wp2_with fail
       refine HCK.out.mono ?_
       rintro e w2 ⟨rfl,hb⟩
       have HB2:Hid (Below w.heap.size w w2):=QLh (bnext HBV.out (bnext (balloc (balloc (Below.refl _ _) _) _) hb));clear hb HCK
       by_cases hk0:K=0
       ·have hq:(K == 0)=true:=by simp[hk0]
        have HE:Hid (tiE root i n s P=0):=QLh (by rw[HTR.out,if_pos hk0]);clear hk0
        go_wp2
        go_ret
        exact⟨by rw[HE.out];rfl,HB2.out⟩
       ·have hq:(K == 0)=false:=by simp[hk0]
        have HE:Hid (tiE root i n s P=20):=QLh (by rw[HTR.out,if_neg hk0]);clear hk0
        go_wp2
        go_ret
        exact⟨by rw[HE.out];rfl,HB2.out⟩
      ·have e5:64<((s.size:Nat):Int):=by omega
       have HE:Hid (tiE root i n s P=2):=QLh (HTE.out (by unfold tiA;rw[decide_eq_false h5];simp));clear h0 h1 h2 h3 h4 h5
       go_wp2
       go_ret
       exact⟨by rw[HE.out];rfl,HBV.out⟩
     ·have e4:((s.size:Nat):Int)<1:=by omega
      have HE:Hid (tiE root i n s P=2):=QLh (HTE.out (by unfold tiA;rw[decide_eq_false h4];simp));clear h0 h1 h2 h3 h4
      go_wp2
      go_ret
      exact⟨by rw[HE.out];rfl,HBV.out⟩
    ·have e3:n<=i:=by omega
     have HE:Hid (tiE root i n s P=2):=QLh (HTE.out (by unfold tiA;rw[decide_eq_false h3];simp));clear h0 h1 h2 h3
     go_wp2
     go_ret
     exact⟨by rw[HE.out];rfl,HBV.out⟩
   ·have e2:64<n:=by omega
    have HE:Hid (tiE root i n s P=2):=QLh (HTE.out (by unfold tiA;rw[decide_eq_false h2];simp));clear h0 h1 h2
    go_wp2
    go_ret
    exact⟨by rw[HE.out];rfl,HBV.out⟩
  ·have e1:n<1:=by omega
   have HE:Hid (tiE root i n s P=2):=QLh (HTE.out (by unfold tiA;rw[decide_eq_false h1];simp));clear h0 h1
   go_wp2
   go_ret
   exact⟨by rw[HE.out];rfl,HBV.out⟩
 ·have e0:¬((root.size:Nat):Int)=32:=by omega
  have HE:Hid (tiE root i n s P=2):=QLh (HTE.out (by unfold tiA;rw[decide_eq_false h0];simp));clear h0
  go_wp2
  go_ret
  exact⟨by rw[HE.out];rfl,HBV.out⟩
end
theorem turned27_any(s:ByteArray)(a y:Int)(w:World)(ha:0<=a/\a<=255)(hs:s.size<=140737488355328):Calls Tryz.prog 55 #[.string s,.int .u8 a,.int .u8 y] w λ e w'=>(∃t:ByteArray,e=.returned (.string t)/\t.size=s.size)/\Below w.heap.size w w':=by
 obtain⟨n,hn⟩:∃n,s.size=n:=⟨_,rfl⟩
 have hc:=Lib.run_convert_string_bytes (P:=Tryz.prog) w 9 41 5 s Tryz.underlying9 Tryz.underlying41 Tryz.underlying5
 go_enter Tryz.func55,Tryz.ntmps55
 go_upto_region 2 with fail
 obtain⟨cap,hcap⟩:∃cap,grownCap w n 0 5=cap:=⟨_,rfl⟩
 obtain⟨W,hW⟩:∃W,Lib.bytesWorld w 5 s=W:=⟨_,rfl⟩
 obtain⟨B,hB⟩:∃B,w.heap.size=B:=⟨_,rfl⟩
 obtain⟨cs,hcs⟩:∃cs,Lib.bytesCells w 5 s=cs:=⟨_,rfl⟩
 have HBK0:=Lib.bytesWorld_at_new w 5 s;have HCE0:=λ j (hj:j<s.size)=>Lib.bytesWorld_cell w 5 s j hj;have WB:Hid (Below w.heap.size w W):=QLh (by rw[<-hW];exact bworld_below w 5 s);have CAP:Hid (n<=cap):=QLh (by rw[<-hcap];exact grownCap_ge _ _ _ _);have HWB:Hid (w.heap.size<=B):=QLh (Nat.le_of_eq hB)
 simp only[hn,hcap,hW,hB]
 rw[hW,hB]at HBK0
 rw[hcs]at HBK0
 have HCE:Hid (∀j,j<s.size->cs[j]?=some (.int .u8 (byte s j))):=QLh (λ j hj=>by have:=HCE0 j hj;rw[hW,hB]at this;exact(block_cell HBK0 j).symm.trans this)
 obtain⟨fr,hfr⟩:∃fr,(cs.size,cs.size+1)=fr:=⟨_,rfl⟩
 rw[hfr]at HBK0
 have HFR:Hid (fr=(cs.size,cs.size+1)):=QLh hfr.symm;have HBK:=QLh HBK0;clear HBK0 HCE0 hc hW hcs hcap hfr hB
 rw[hn]at HCE
 have HN:=QLh hn;have HSN:Hid (n<=140737488355328):=QLh (by omega);clear hn hs
 by_cases h0:n=0
 ·have hpos:decide (0<n)=false:=by simp;omega
  have H0:=QLh h0;clear h0;have HC:Hid (∀j,j<n->∃v,W.cell? ⟨B,j,none⟩=some (.int .u8 v)):=QLh (λ j hj=>absurd hj (by have:=H0.out;omega))
  obtain⟨t,hts,cv⟩:=conv_some W B n cap HC.out
  have HTS:=QLh hts;clear hts
  go_wp2
  go_ret
  exact⟨⟨t,rfl,by rw[HTS.out,HN.out]⟩,WB.out⟩
 ·have hpos:decide (0<n)=true:=by simp;omega
  obtain⟨k,hk⟩:∃k:Nat,a.toNat % n=k:=⟨_,rfl⟩
  have hkn:k<n:=by rw[<-hk];exact Nat.mod_lt _ (by omega)
  have KK:Hid (a.tmod (n:Int)=(k:Int)):=QLh (by rw[<-hk];exact(congrArg (λ z=>Int.tmod z (n:Int)) (Int.toNat_of_nonneg ha.1).symm).trans (Int.ofNat_tmod _ _).symm)
  obtain⟨x,hx⟩:∃x,byte s k=x:=⟨_,rfl⟩
  have QK:Hid (cs[k]?=some (.int .u8 x)):=QLh (by rw[<-hx];exact HCE.out k hkn);have FZ:W.frozen? ⟨B,k,none⟩=false:=by unfold World.frozen?;rw[HBK.out];have:=(Array.getElem?_eq_some_iff.1 QK.out).1;rw[HFR.out];simp;omega
  have hBl:B<W.heap.size:=lt_of_block HBK.out
  obtain⟨z,r4⟩:∃z:Int,bits BinOp.xor IntKind.u8 x y=z:=⟨_,rfl⟩
  have q0:W.cell? ⟨B,k,none⟩=some (.int .u8 x):=(block_cell HBK.out k).trans QK.out;have r0:IntKind.i64.wrap a=a:=wrap_small a ha.1 (by omega);have r1:(n=0)=False:=by simp[h0]
  have r2:a.tmod (n:Int)=(k:Int):=KK.out;have r3:(n<=k)=False:=by simp;omega
  clear hk hx ha
  go_upto_region 4 with fail
  obtain⟨W2,hW2⟩:∃W2,W.setCell ⟨B,k,none⟩ (.int .u8 z)=W2:=⟨_,rfl⟩
  rw[hW2]
  have W2B:Hid (Below w.heap.size w W2):=QLh (by rw[<-hW2];exact bset WB.out HWB.out _);have HC:Hid (∀j,j<n->∃v,W2.cell? ⟨B,j,none⟩=some (.int .u8 v)):=QLh (λ j hj=>by
   have e:=block_cell (show W2.heap[B]?=_ by rw[<-hW2];exact block_setCell HBK.out _) j
   rw[e,Array.getElem?_setIfInBounds]
   by_cases h:k=j
   ·subst h
    have:=(Array.getElem?_eq_some_iff.1 QK.out).1
    simp[this]
   ·rw[if_neg h];exact⟨_,HCE.out j hj⟩)
  clear hW2 q0 FZ hBl r0 r1 r2 r3 r4
  obtain⟨t,hts,cv⟩:=conv_some W2 B n cap HC.out
  have HTS:=QLh hts;clear hts
  go_wp2
  go_ret
  exact⟨⟨t,rfl,by rw[HTS.out,HN.out]⟩,W2B.out⟩
section
set_option linter.constructorNameAsVariable false
theorem itE_zero{l:List ByteArray}{i:Int}(h:itE l i=0):∃k:Nat,i=(k:Nat)/\k<len l/\bdOk l=true/\itP l i=oneD l k:=by
 unfold itE at h
 by_cases hb:bdOk l=true
 ·rw[if_pos hb]at h
  by_cases hi:0<=i/\i<len l
  ·obtain⟨k,rfl⟩:=Int.eq_ofNat_of_zero_le hi.1
   have hk:k<len l:=by omega
   exact⟨k,rfl,hk,hb,(it_some hb hk).1⟩
  ·rw[if_neg hi]at h;exact absurd h (by decide)
 ·rw[if_neg hb]at h;exact absurd h (by decide)
theorem itP_len(l:List ByteArray)(i:Int)(h:len l<=65536):len (itP l i)<=16:=by
 unfold itP
 split
 ·rw[oneD_len h];exact depN_le h
 ·exact Nat.zero_le _
theorem itP_size(l:List ByteArray)(i:Int):∀j,j<len (itP l i)->(tth (itP l i) j).size<=32:=λ j hj=>by
 rw[tth_eq _ j hj]
 have hm:=List.getElem_mem hj
 generalize (itP l i)[j]=d at hm
 unfold itP at hm
 split at hm
 ·exact Nat.le_of_eq (oneD_size _ _ d hm)
 ·cases hm
theorem own_set_other{base n k tb:Nat}{e:TypeId}{v:Value}{w:World}{xs:List Value}(h:w.ownsRow base e k v n xs)(hb:tb<base)(o:Nat)(u:Value):(w.setCell ⟨tb,o,none⟩ u).ownsRow base e k v n xs:=
 ⟨h.1,h.2.imp id (fun ⟨g,cap,cur,hv,hg,hh,r⟩=>⟨g,cap,cur,hv,hg,(Below.heap_setCell _ _ _ _ (λ e9=>by have e8:g=tb:=e9;omega)).trans hh,r⟩)⟩
theorem itxns_law(B:Nat)(l:List ByteArray)(a:Option Addr)(cap:Nat)(i:Int)(n0 n1 n2 n3:Nat)(w:World)(ht:TE7 B w)(hl:Txts w a l)(hn:len l<=9223372036854775807)(h0:n0<=255)(h1:n1<=255)(h2:n2<=255)(h3:n3<=255):
  Calls Tryz.prog 11 #[.slice a (len l) cap,.int .i64 i,.agg #[.int .u8 (n0:Nat),.int .u8 (n1:Nat),.int .u8 (n2:Nat),.int .u8 (n3:Nat)]] w λ e w'=>e=.returned (.bool true)/\Below w.heap.size w w':=by
 have HT:=QLh ht;have HLS:=QLh hl;have HLN:=QLh hn;have H0:=QLh h0;have H1:=QLh h1;have H2:=QLh h2;have H3:=QLh h3;clear ht hl hn h0 h1 h2 h3
 obtain⟨i0,hi,hz0,hz1,hz2⟩:=info_parts info_str
 have HZ:=QLh hz0;clear hz0
 go_enter Tryz.func11,Tryz.ntmps11
 go_upto_region 1 with fail
 obtain⟨V,hV⟩:∃V,w.alloc (.cells #[.int .u8 (n0:Nat),.int .u8 (n1:Nat),.int .u8 (n2:Nat),.int .u8 (n3:Nat)] 82)=V:=⟨_,rfl⟩
 obtain⟨nb,hnb⟩:∃nb,w.heap.size=nb:=⟨_,rfl⟩
 have HV:Hid (Below w.heap.size w V):=QLh (by rw[<-hV];exact balloc (Below.refl _ _) _);have HNB:Hid (V.heap[nb]?=some (.cells #[.int .u8 (n0:Nat),.int .u8 (n1:Nat),.int .u8 (n2:Nat),.int .u8 (n3:Nat)] 82 (0,0))):=QLh (by rw[<-hV,<-hnb];exact heap_alloc_new _ _)
 rw[hV,hnb]
 clear hV hnb
 go_wp2_with fail
 refine(few27_any l a cap V (HLS.out.below HV.out) HLN.out).mono ?_
 rintro e w1 ⟨v,L,rfl,hown,hL70,hsz,hb⟩
 have B1:=QLh hb;have HL70:=QLh hL70;have HSZ:Hid (∀i,i<len L->(tth L i).size<=70):=QLh (λ i hi=>by rw[tth_eq L i hi];exact hsz _ (List.getElem_mem hi))
 obtain⟨a1,c1,rfl,htx,hcx,-⟩:=TextsAre.own hown
 have HTX:=QLh htx;clear hown hb hL70 hsz htx hcx
 go_wp2_with fail
 refine(itxn_any L a1 c1 i w1 HTX.out (by have:=HL70.out;omega) (λ i hi=>Nat.le_trans (HSZ.out i hi) (by decide))).mono ?_
 rintro e w2 ⟨va,rfl,hva,hb⟩
 have B2:=QLh (bnext B1.out hb);have HTX2:=QLh (HTX.out.below hb)
 obtain⟨aa,ca,rfl,hva,hcv,hnv⟩:=hva
 have HVA:=QLh hva;clear hb hva hcv hnv
 go_wp2_with fail
 refine(rtxn_any L a1 c1 i w2 HTX2.out (by have:=HL70.out;omega) (λ i hi=>Nat.le_trans (HSZ.out i hi) (by decide))).mono ?_
 rintro e w3 ⟨vb,rfl,hvb,hb⟩
 have B3:=QLh (bnext B2.out hb);have HTX3:=QLh (HTX2.out.below hb);have HVA3:=QLh (HVA.out.below hb)
 obtain⟨ab,cb,rfl,hvb,hcb,hnb⟩:=hvb
 have HVB:=QLh hvb;have HCB:=QLh (And.intro hcb hnb);clear hb hvb hcb hnb
 obtain⟨P,hP⟩:∃P,itP L i=P:=⟨_,rfl⟩
 obtain⟨E,hE⟩:∃E,itE L i=E:=⟨_,rfl⟩
 have HPL:Hid (len P<=16):=QLh (by rw[<-hP];exact itP_len L i (by have:=HL70.out;omega));have HPZ:Hid (∀j,j<len P->(tth P j).size<=32):=QLh (by rw[<-hP];exact itP_size L i);have HEZ:Hid (E=0->∃k:Nat,i=(k:Nat)/\k<len L/\bdOk L=true):=QLh (λ h=>by
  obtain⟨k,h1,h2,h3,_⟩:=itE_zero (hE.trans h)
  exact⟨k,h1,h2,h3⟩)
 rw[hP]at HVA3 HVB HCB
 rw[hP,hE]
 clear hP hE;have HAL:=QLh (alike27_any P P aa ab ca cb w3 HVA3.out HVB.out (by have:=HPL.out;omega) (by have:=HPL.out;omega))
 rw[decide_eq_true rfl]at HAL
 go_wp2_with fail
 refine HAL.out.mono ?_
 rintro e w4 ⟨rfl,hb⟩
 have B4:=QLh (bnext B3.out hb);have HTX4:=QLh (HTX3.out.below hb);have HVB4:=QLh (HVB.out.below hb);have HT4:Hid (TE7 B w4):=QLh ((HT.out.below HV.out).below B4.out);have HBW4:Hid (Below w.heap.size w w4):=QLh (bnext HV.out B4.out);clear hb HAL
 by_cases hE0:E=0
 ·obtain⟨k,rfl,hk,hbd⟩:=HEZ.out hE0
  subst hE0
  have HK:=QLh hk;have HBD:=QLh (bdOk_at hbd)
  obtain⟨g1,o1,rfl,cs⟩:=HTX4.out k hk
  obtain⟨bd,hbdy⟩:∃bd,tth L k=bd:=⟨_,rfl⟩
  rw[hbdy]at cs
  have HBS:Hid (0<bd.size/\bd.size<=64):=QLh (by rw[<-hbdy];exact HBD.out.2.2 k hk);have HRT:=QLh (fun (wv:World) (hb:Below w4.heap.size w4 wv)=>rroot27_any L (some ⟨g1,o1,none⟩) c1 wv (HTX4.out.below hb) (by have:=HL70.out;omega) (λ i hi=>Nat.le_trans (HSZ.out i hi) (by decide)))
  obtain⟨rt,hrt⟩:∃rt,treeR L=rt:=⟨_,rfl⟩
  have HRS:Hid (rt.size=32):=QLh (by rw[<-hrt];exact treeR_size L)
  rw[hrt]at HRT
  have i1:(k:Int)<len L:=by omega
  have i2:k<len L:=hk;clear hbdy hrt hk hbd
  go_upto_region 8 with fail
  refine wp_region_all 1000 (none) (phis (List.map qv [.slice (some ⟨g1,o1,none⟩) (len L) c1,.string rt,.slice (some ⟨g1,o1,none⟩) (len L) c1,.int .i64 (k:Nat),.pointer (some ⟨g1,o1+k,none⟩),.string bd,.string rt,.string bd])) rfl (by kernel_rfl) (mono_of mono_qv) (steps_of 8 ⟨?s0,?s1,?s2,?s3,?s4,?s5,?s6,?s7,trivial⟩) ?_
  case s0=>
   refine qV (λ _=>rfl) rfl λ av wv hE hO hD=>?_
   simp[go_sem,qF av 0 (.slice (some ⟨g1,o1,none⟩) (len L) c1) (hO.2.2 0 rfl),i1,i2]
  case s1=>
   refine step_wp (λ av wv hE hS hO hD=>⟨rfl,?_⟩)
   have f40:=qE (hD.1 rfl _ rfl)
   refine wp_of_call (v:=.string rt) (by simp[go_sem,f40]) (HRT.out wv (of_drew hE)) (λ w2 hb=>⟨_,rfl,es_of_ext hb,rfl⟩)
  case s2=>
   refine qV (λ _=>rfl) rfl λ av wv hE hO hD=>?_
   simp[go_sem,qF av 0 (.slice (some ⟨g1,o1,none⟩) (len L) c1) (hO.2.2 0 rfl),i1,i2]
  case s3=>
   refine qV (λ _=>rfl) rfl λ av wv hE hO hD=>?_
   simp[go_sem,qF av 1 (.int .i64 (k:Nat)) (hO.2.2 1 rfl),i1,i2]
  case s4=>
   refine qV (λ _=>rfl) rfl λ av wv hE hO hD=>?_
   simp[go_sem,qE (hD.1 rfl _ rfl),qE (hD.2.1 rfl _ rfl),i1,i2]
  case s5=>
   refine qV (λ _=>rfl) rfl λ av wv hE hO hD=>?_
   simp[go_sem,qE (hD.1 rfl _ rfl),extB_cell hE (by simp) cs,i1,i2]
  case s6=>
   refine qV (λ _=>rfl) rfl λ av wv hE hO hD=>?_
   simp[go_sem,qE (hD.1 rfl _ rfl),i1,i2]
  case s7=>
   refine qV (λ _=>rfl) rfl λ av wv hE hO hD=>?_
   simp[go_sem,qE (hD.1 rfl _ rfl),i1,i2]
  intro a' w' hE hO hall
  have hA:=act_of_outer (ds:=[40,41,42,43,44,45,11,12]) rfl hO (by kernel_rfl)
  obtain⟨j0,j1,j2,j3,j4,j5,j6,j7,-⟩:=hall
  simp only[List.foldl_cons,List.foldl_nil,Act.put,List.setIfInBounds_toArray,List.set_cons_succ,List.set_cons_zero,qJ 40 (j0 _ rfl),qJ 41 (j1 _ rfl),qJ 42 (j2 _ rfl),qJ 43 (j3 _ rfl),qJ 44 (j4 _ rfl),qJ 45 (j5 _ rfl),qJ 11 (j6 _ rfl),qJ 12 (j7 _ rfl)]at hA
  clear hO j0 j1 j2 j3 j4 j5 j6 j7
  subst hA
  have B5:Hid (Below w4.heap.size w4 w'):=QLh (of_drew hE);clear hE cs;have k1:IntKind.u64.wrap ((k:Nat):Int)=((k:Nat):Int):=by have:=HL70.out;have:=HK.out;exact IntWalk.u64_in _ (by omega)
  have k2:IntKind.u64.wrap ((len L:Nat):Int)=((len L:Nat):Int):=by have:=HL70.out;exact IntWalk.u64_in _ (by omega)
  go_upto_region 10 with fail
  obtain⟨U,hU⟩:∃U,w'.alloc (.cells #[.int .u64 (k:Nat),.int .u64 (len L:Nat)] 76)=U:=⟨_,rfl⟩
  obtain⟨tb,htb⟩:∃tb,w'.heap.size=tb:=⟨_,rfl⟩
  have HUT:Hid (U.heap[tb]?=some (.cells #[.int .u64 (k:Nat),.int .u64 (len L:Nat)] 76 (0,0))):=QLh (by rw[<-hU,<-htb];exact heap_alloc_new _ _);have BU:Hid (Below w4.heap.size w4 U):=QLh (by rw[<-hU];exact balloc B5.out _);have HTB:Hid (w4.heap.size<=tb):=QLh (by rw[<-htb];exact B5.out.size)
  rw[hU,htb]
  clear hU htb k1 k2;have E0:Hid ((U.alloc (.cells #[] 9)).ownsRow U.heap.size 9 1 (.slice (some ⟨U.heap.size,0,none⟩) 0 0) (len ([]:List ByteArray)) (([]:List ByteArray).map Value.string)):=QLh (World.ownsRow_lit U #[] 0 (Nat.le_refl _) (Nat.zero_le _) rfl)
  go_wp2_with (at_builtin;refine wpList_append_txts rfl _ _ rfl U.heap.size _ [] P ab cb rfl E0.out rfl ((HVB4.out.below BU.out).below (balloc (Below.refl _ _) _)) HCB.out.2 (show 0+len P<=100000 by have:=HPL.out;omega) (by simp) ?_)
  intro v4 x4 hown hgrow
  have HG4:Hid (Below U.heap.size U x4):=QLh (grownBy_below (balloc (Below.refl _ _) _) hgrow (λ k hk=>by simp[Value.ownBlock]at hk;omega));have HO4:Hid (x4.ownsRow U.heap.size 9 1 v4 (len P) (P.map Value.string)):=QLh hown;clear hown hgrow E0;have HN4:Hid (x4.heap[nb]?=some (.cells #[.int .u8 (n0:Nat),.int .u8 (n1:Nat),.int .u8 (n2:Nat),.int .u8 (n3:Nat)] 82 (0,0))):=QLh (by
   have q1:=(B4.out.block _ (lt_of_block HNB.out)).trans HNB.out;have q2:=(BU.out.block _ (lt_of_block q1)).trans q1
   exact(HG4.out.block _ (lt_of_block q2)).trans q2)
  have HU4:=QLh ((HG4.out.block _ (lt_of_block HUT.out)).trans HUT.out);have m0:x4.cell? ⟨nb,0,none⟩=some (.int .u8 (n0:Nat)):=block_cell HN4.out 0;have m1:x4.cell? ⟨nb,1,none⟩=some (.int .u8 (n1:Nat)):=block_cell HN4.out 1;have m2:x4.cell? ⟨nb,2,none⟩=some (.int .u8 (n2:Nat)):=block_cell HN4.out 2;have m3:x4.cell? ⟨nb,3,none⟩=some (.int .u8 (n3:Nat)):=block_cell HN4.out 3
  go_upto_block 0 with fail
  have HBX:Hid (Below w4.heap.size w4 x4):=QLh (bnext BU.out HG4.out)
  go_cut [9,11,12] (λ s9 s11 s12 wx=>∃(Q:List ByteArray) (rr bb:ByteArray) (x y:Int),s11=.string rr/\s12=.string bb/\Hid (TextsAre Q s9 wx/\len Q<=100)/\Hid (wx.heap[tb]?=some (.cells #[.int .u64 x,.int .u64 y] 76 (0,0)))/\Hid (U64 x/\U64 y/\bb.size<=100)/\Hid (Below w4.heap.size w4 wx))
  case first=>
   have HTA:Hid (TextsAre P v4 x4):=QLh (TextsAre.own HO4.out);have HKU:Hid (U64 ((k:Nat):Int)/\U64 ((len L:Nat):Int)):=QLh (by have:=HL70.out;have:=HK.out;exact⟨⟨by omega,by omega⟩,⟨by omega,by omega⟩⟩);have HTU:Hid (tb<x4.heap.size/\tb<U.heap.size/\nb<tb):=QLh ⟨lt_of_block HU4.out,lt_of_block HUT.out,by have:=lt_of_block ((B4.out.block _ (lt_of_block HNB.out)).trans HNB.out);have:=HTB.out;omega⟩
   by_cases q1:n0 % 8=1
   ·have k1:(((n0:Nat):Int) % 8 == 1)=true:=by simp;omega
    clear q1
    go_wp2_with fail
    refine(turned27_any bd (n1:Nat) (n2:Nat) x4 (by have:=H1.out;omega) (Nat.le_trans HBS.out.2 (by decide))).mono ?_
    rintro e x5 ⟨⟨t,rfl,hts⟩,hb⟩
    have HTS:=QLh hts;have HB5:=QLh hb;clear hts hb
    go_wp2_with fail
    go_meet
    exact⟨P,rt,t,_,_,rfl,rfl,QLh ⟨HTA.out.below HB5.out,by have:=HPL.out;omega⟩,QLh ((HB5.out.block _ (lt_of_block HU4.out)).trans HU4.out),QLh ⟨HKU.out.1,HKU.out.2,by rw[HTS.out];have:=HBS.out;omega⟩,QLh (bnext HBX.out HB5.out)⟩
   have k1:(((n0:Nat):Int) % 8 == 1)=false:=by simp;omega
   by_cases q2:n0 % 8=2
   ·have k2:(((n0:Nat):Int) % 8 == 2)=true:=by simp;omega
    clear q1 q2
    go_wp2_with fail
    refine(turned27_any rt (n1:Nat) (n2:Nat) x4 (by have:=H1.out;omega) (by rw[HRS.out];decide)).mono ?_
    rintro e x5 ⟨⟨t,rfl,hts⟩,hb⟩
    have HTS:=QLh hts;have HB5:=QLh hb;clear hts hb
    go_wp2_with fail
    go_meet
    exact⟨P,t,bd,_,_,rfl,rfl,QLh ⟨HTA.out.below HB5.out,by have:=HPL.out;omega⟩,QLh ((HB5.out.block _ (lt_of_block HU4.out)).trans HU4.out),QLh ⟨HKU.out.1,HKU.out.2,by have:=HBS.out;omega⟩,QLh (bnext HBX.out HB5.out)⟩
   have k2:(((n0:Nat):Int) % 8 == 2)=false:=by simp;omega
   by_cases q3:n0 % 8=3
   ·have k3:(((n0:Nat):Int) % 8 == 3)=true:=by simp;omega
    clear q1 q2 q3;have kw:IntKind.u64.wrap ((n1:Nat):Int)=((n1:Nat):Int):=by have:=H1.out;exact IntWalk.u64_in _ (by omega)
    have t0:x4.cell? ⟨tb,0,none⟩=some (.int .u64 (k:Nat)):=block_cell HU4.out 0;have t1:x4.cell? ⟨tb,1,none⟩=some (.int .u64 (len L:Nat)):=block_cell HU4.out 1;have tf:∀o,x4.frozen? ⟨tb,o,none⟩=false:=block_free HU4.out;have tl:tb<x4.heap.size:=HTU.out.1
    go_wp2_with fail
    go_meet
    exact⟨P,rt,bd,_,_,rfl,rfl,QLh ⟨TextsAre.own (own_set_other HO4.out HTU.out.2.1 _ _),by have:=HPL.out;omega⟩,QLh (block_setCell HU4.out _),QLh ⟨⟨by omega,by have:=H1.out;omega⟩,HKU.out.2,by have:=HBS.out;omega⟩,QLh (bset HBX.out HTB.out _)⟩
   have k3:(((n0:Nat):Int) % 8 == 3)=false:=by simp;omega
   by_cases q4:n0 % 8=4
   ·have k4:(((n0:Nat):Int) % 8 == 4)=true:=by simp;omega
    clear q1 q2 q3 q4;have kw:IntKind.u64.wrap ((n1:Nat):Int)=((n1:Nat):Int):=by have:=H1.out;exact IntWalk.u64_in _ (by omega)
    have t0:x4.cell? ⟨tb,0,none⟩=some (.int .u64 (k:Nat)):=block_cell HU4.out 0;have t1:x4.cell? ⟨tb,1,none⟩=some (.int .u64 (len L:Nat)):=block_cell HU4.out 1;have tf:∀o,x4.frozen? ⟨tb,o,none⟩=false:=block_free HU4.out;have tl:tb<x4.heap.size:=HTU.out.1
    go_wp2_with fail
    go_meet
    exact⟨P,rt,bd,_,_,rfl,rfl,QLh ⟨TextsAre.own (own_set_other HO4.out HTU.out.2.1 _ _),by have:=HPL.out;omega⟩,QLh (block_setCell HU4.out _),QLh ⟨HKU.out.1,⟨by omega,by have:=H1.out;omega⟩,by have:=HBS.out;omega⟩,QLh (bset HBX.out HTB.out _)⟩
   have k4:(((n0:Nat):Int) % 8 == 4)=false:=by simp;omega
   by_cases q5:n0 % 8=5
   ·have k5:(((n0:Nat):Int) % 8 == 5)=true:=by simp;omega
    clear q1 q2 q3 q4 q5
    go_wp2_with fail
    refine(text27_any n1 x4 H1.out).mono ?_
    rintro e x5 ⟨rfl,hb⟩
    have HB5:Hid (Below U.heap.size U x5):=QLh (bnext HG4.out hb);have HO5:=QLh (own_below HO4.out hb);have HU5:=QLh ((hb.block _ (lt_of_block HU4.out)).trans HU4.out)
    obtain⟨t,ht⟩:∃t,textS n1=t:=⟨_,rfl⟩
    rw[ht]
    clear hb ht
    go_wp2_with (at_builtin;refine wpList_append_own _ rfl _ _ 36 rfl U.heap.size 9 i0 (.string ⟨#[]⟩) 1 16 Tryz.underlying36 hi HZ.out hz1 hz2 rfl (by decide) _ _ _ rfl (HO5.out.alloc _) ⟨x5.heap.size,0,none⟩ 1 1 [.string t] rfl rfl ?c1 ?c2 ?c3 ?c4 ?c5 ?_)
    case c1=>exact World.news_of_block (alloc_new_at _ rfl)
    case c2=>intro u hu;simp at hu;subst hu;rfl
    case c3=>unfold maxLen;have:=HPL.out;omega
    case c4=>have:=HPL.out;omega
    case c5=>have:=HB5.out.size;simp;omega
    intro v5 x6 hown hgrow _
    have HB6:Hid (Below U.heap.size U x6):=QLh (grownBy_below (balloc HB5.out _) hgrow (λ k hk=>(HO5.out.lt k hk).1));have HO6:Hid (x6.ownsRow U.heap.size 9 1 v5 (len (P++[t])) ((P++[t]).map Value.string)):=QLh (by
     rw[List.map_append,len_appT,show len [t]=1 from rfl];exact hown)
    have HU6:=QLh ((HB6.out.block _ (lt_of_block HUT.out)).trans HUT.out);clear hown hgrow
    go_wp2_with fail
    go_meet
    exact⟨P++[t],rt,bd,_,_,rfl,rfl,QLh ⟨TextsAre.own HO6.out,by rw[len_appT];have:=HPL.out;show len P+1<=100;omega⟩,QLh HU6.out,QLh ⟨HKU.out.1,HKU.out.2,by have:=HBS.out;omega⟩,QLh (bnext BU.out HB6.out)⟩
   have k5:(((n0:Nat):Int) % 8 == 5)=false:=by simp;omega
   by_cases q6:n0 % 8=6
   ·have k6:(((n0:Nat):Int) % 8 == 6)=true:=by simp;omega
    clear q1 q2 q3 q4 q5 q6
    obtain⟨a4,c4,rfl,-,-,-⟩:=HTA.out
    by_cases hp:0<len P
    ·have hpI:(0:Int)<len P:=by omega
     obtain⟨q,hq⟩:∃q,n1 % len P=q:=⟨_,rfl⟩
     have HQ:Hid (q<len P):=QLh (by rw[<-hq];exact Nat.mod_lt _ hp)
     obtain⟨g4,rfl,hg4,cp,fz4,hl4⟩:=own_at HO4.out q HQ.out
     have HPX:Hid ((tth P q).size<=140737488355328):=QLh (Nat.le_trans (HPZ.out q HQ.out) (by decide))
     obtain⟨px,hpx⟩:∃px,tth P q=px:=⟨_,rfl⟩
     rw[hpx]at cp HPX
     have z1:IntKind.i64.wrap ((n1:Nat):Int)=((n1:Nat):Int):=by have:=H1.out;exact IntWalk.i64_in _ (by omega)
     have z2:((n1:Nat):Int) % ((len P:Nat):Int)=((q:Nat):Int):=by rw[<-hq];simp
     have z3:((n1:Nat):Int).tmod ((len P:Nat):Int)=((q:Nat):Int):=by rw[Int.tmod_eq_emod_of_nonneg (by omega)];exact z2
     have z4:¬len P=0:=by omega
     have z5:q<len P:=HQ.out;have z6:(q:Int)<len P:=by omega
     clear hq hpx hg4 hl4
     go_upto_region 24 with fail
     refine wp_region_tail 22 1000 (none) (phis [λ u _=>u=(.slice (some ⟨g4,0,none⟩) (len P) c4),λ u _=>u=(.pointer (some ⟨nb,1,none⟩)),λ u _=>u=(.int .u8 (n1:Nat)),λ u _=>u=(.int .i64 (n1:Nat)),λ u _=>u=(.slice (some ⟨g4,0,none⟩) (len P) c4),λ u _=>u=(.int .i64 (len P:Nat)),λ u _=>u=(.int .i64 (q:Nat)),λ u _=>u=(.slice (some ⟨g4,0,none⟩) (len P) c4),λ u _=>u=(.pointer (some ⟨nb,1,none⟩)),λ u _=>u=(.int .u8 (n1:Nat)),λ u _=>u=(.int .i64 (n1:Nat)),λ u _=>u=(.slice (some ⟨g4,0,none⟩) (len P) c4),λ u _=>u=(.int .i64 (len P:Nat)),λ u _=>u=(.int .i64 (q:Nat)),λ u _=>u=(.pointer (some ⟨g4,q,none⟩)),λ u _=>u=(.string px),λ u _=>u=(.pointer (some ⟨nb,2,none⟩)),λ u _=>u=(.int .u8 (n2:Nat)),λ u _=>u=(.pointer (some ⟨nb,3,none⟩)),λ u _=>u=(.int .u8 (n3:Nat)),λ u w'=>∃t:ByteArray,u=.string t,λ u _=>u=(.pointer (some ⟨g4,q,none⟩))]) rfl (by kernel_rfl) (by kernel_rfl) (mono_of ⟨mono_eq,mono_eq,mono_eq,mono_eq,mono_eq,mono_eq,mono_eq,mono_eq,mono_eq,mono_eq,mono_eq,mono_eq,mono_eq,mono_eq,mono_eq,mono_eq,mono_eq,mono_eq,mono_eq,mono_eq,mono_eq,mono_eq,trivial⟩) (steps_of 22 ⟨?s0,?s1,?s2,?s3,?s4,?s5,?s6,?s7,?s8,?s9,?s10,?s11,?s12,?s13,?s14,?s15,?s16,?s17,?s18,?s19,?s20,?s21,trivial⟩) ?_
     case s0=>
      refine qV (λ _=>rfl) rfl λ av wv hE hO hD=>?_
      simp[go_sem,qF av 9 (.slice (some ⟨g4,0,none⟩) (len P) c4) (hO.2.2 9 rfl),z1,z2,z3,z4,z5,z6]
     case s1=>
      refine qV (λ _=>rfl) rfl λ av wv hE hO hD=>?_
      simp[go_sem,qF av 5 (.pointer (some ⟨nb,0,none⟩)) (hO.2.2 5 rfl),z1,z2,z3,z4,z5,z6]
     case s2=>
      refine qV (λ _=>rfl) rfl λ av wv hE hO hD=>?_
      simp[go_sem,qE (hD.1 rfl _ rfl),extB_cell hE (by simp) m1,extB_cell hE (by simp) m2,extB_cell hE (by simp) m3,extB_cell hE (by simp) cp,z1,z2,z3,z4,z5,z6]
     case s3=>
      refine qV (λ _=>rfl) rfl λ av wv hE hO hD=>?_
      simp[go_sem,qE (hD.1 rfl _ rfl),z1,z2,z3,z4,z5,z6]
     case s4=>
      refine qV (λ _=>rfl) rfl λ av wv hE hO hD=>?_
      simp[go_sem,qF av 9 (.slice (some ⟨g4,0,none⟩) (len P) c4) (hO.2.2 9 rfl),z1,z2,z3,z4,z5,z6]
     case s5=>
      refine qV (λ _=>rfl) rfl λ av wv hE hO hD=>?_
      simp[go_sem,qE (hD.1 rfl _ rfl),z1,z2,z3,z4,z5,z6]
     case s6=>
      refine qV (λ _=>rfl) rfl λ av wv hE hO hD=>?_
      simp[go_sem,qE (hD.1 rfl _ rfl),qE (hD.2.1 rfl _ rfl),z1,z2,z3,z4,z5,z6]
     case s7=>
      refine qV (λ _=>rfl) rfl λ av wv hE hO hD=>?_
      simp[go_sem,qF av 9 (.slice (some ⟨g4,0,none⟩) (len P) c4) (hO.2.2 9 rfl),z1,z2,z3,z4,z5,z6]
     case s8=>
      refine qV (λ _=>rfl) rfl λ av wv hE hO hD=>?_
      simp[go_sem,qF av 5 (.pointer (some ⟨nb,0,none⟩)) (hO.2.2 5 rfl),z1,z2,z3,z4,z5,z6]
     case s9=>
      refine qV (λ _=>rfl) rfl λ av wv hE hO hD=>?_
      simp[go_sem,qE (hD.1 rfl _ rfl),extB_cell hE (by simp) m1,extB_cell hE (by simp) m2,extB_cell hE (by simp) m3,extB_cell hE (by simp) cp,z1,z2,z3,z4,z5,z6]
     case s10=>
      refine qV (λ _=>rfl) rfl λ av wv hE hO hD=>?_
      simp[go_sem,qE (hD.1 rfl _ rfl),z1,z2,z3,z4,z5,z6]
     case s11=>
      refine qV (λ _=>rfl) rfl λ av wv hE hO hD=>?_
      simp[go_sem,qF av 9 (.slice (some ⟨g4,0,none⟩) (len P) c4) (hO.2.2 9 rfl),z1,z2,z3,z4,z5,z6]
     case s12=>
      refine qV (λ _=>rfl) rfl λ av wv hE hO hD=>?_
      simp[go_sem,qE (hD.1 rfl _ rfl),z1,z2,z3,z4,z5,z6]
     case s13=>
      refine qV (λ _=>rfl) rfl λ av wv hE hO hD=>?_
      simp[go_sem,qE (hD.1 rfl _ rfl),qE (hD.2.1 rfl _ rfl),z1,z2,z3,z4,z5,z6]
     case s14=>
      refine qV (λ _=>rfl) rfl λ av wv hE hO hD=>?_
      simp[go_sem,qE (hD.1 rfl _ rfl),qE (hD.2.1 rfl _ rfl),z1,z2,z3,z4,z5,z6]
     case s15=>
      refine qV (λ _=>rfl) rfl λ av wv hE hO hD=>?_
      simp[go_sem,qE (hD.1 rfl _ rfl),extB_cell hE (by simp) m1,extB_cell hE (by simp) m2,extB_cell hE (by simp) m3,extB_cell hE (by simp) cp,z1,z2,z3,z4,z5,z6]
     case s16=>
      refine qV (λ _=>rfl) rfl λ av wv hE hO hD=>?_
      simp[go_sem,qF av 5 (.pointer (some ⟨nb,0,none⟩)) (hO.2.2 5 rfl),z1,z2,z3,z4,z5,z6]
     case s17=>
      refine qV (λ _=>rfl) rfl λ av wv hE hO hD=>?_
      simp[go_sem,qE (hD.1 rfl _ rfl),extB_cell hE (by simp) m1,extB_cell hE (by simp) m2,extB_cell hE (by simp) m3,extB_cell hE (by simp) cp,z1,z2,z3,z4,z5,z6]
     case s18=>
      refine qV (λ _=>rfl) rfl λ av wv hE hO hD=>?_
      simp[go_sem,qF av 5 (.pointer (some ⟨nb,0,none⟩)) (hO.2.2 5 rfl),z1,z2,z3,z4,z5,z6]
     case s19=>
      refine qV (λ _=>rfl) rfl λ av wv hE hO hD=>?_
      simp[go_sem,qE (hD.1 rfl _ rfl),extB_cell hE (by simp) m1,extB_cell hE (by simp) m2,extB_cell hE (by simp) m3,extB_cell hE (by simp) cp,z1,z2,z3,z4,z5,z6]
     case s20=>
      refine step_wp (λ av wv hE hS hO hD=>⟨rfl,?_⟩)
      have f114:=qE (hD.1 rfl _ rfl);have f116:=qE (hD.2.1 rfl _ rfl);have f118:=qE (hD.2.2.1 rfl _ rfl)
      refine wp_of_callR (f:=55) (args:=#[.string px,.int .u8 (n2:Nat),.int .u8 (n3:Nat)]) (R:=λ u w2=>(∃t:ByteArray,u=.string t)/\Below wv.heap.size wv w2) (by simp[go_sem,f114,f116,f118]) ((turned27_any px (n2:Nat) (n3:Nat) wv (by have:=H2.out;omega) HPX.out).mono ?_) (λ u w2 h=>⟨_,rfl,es_of_ext h.2,h.1⟩)
      rintro e w2 ⟨⟨t,rfl,-⟩,hb⟩
      exact⟨_,rfl,⟨t,rfl⟩,hb⟩
     case s21=>
      refine qV (λ _=>rfl) rfl λ av wv hE hO hD=>?_
      simp[go_sem,qE (hD.1 rfl _ rfl),qE (hD.2.1 rfl _ rfl),z1,z2,z3,z4,z5,z6]
     intro a' w' hE hO hall
     have hA:=act_of_outer (ds:=[99,100,101,102,103,104,105,106,107,108,109,110,111,112,113,114,115,116,117,118,119,120]) rfl hO (by kernel_rfl)
     obtain⟨j0,j1,j2,j3,j4,j5,j6,j7,j8,j9,j10,j11,j12,j13,j14,j15,j16,j17,j18,j19,j20,j21,-⟩:=hall
     have e119:(λ u w'=>∃t:ByteArray,u=.string t) (a'.eval (.tmp 119)) w':=j20 _ rfl
     obtain⟨v119,hv119⟩:∃v,a'.eval (.tmp 119)=v:=⟨_,rfl⟩
     rw[hv119]at e119
     simp only[List.foldl_cons,List.foldl_nil,Act.put,List.setIfInBounds_toArray,List.set_cons_succ,List.set_cons_zero,qJ 99 (j0 _ rfl),qJ 100 (j1 _ rfl),qJ 101 (j2 _ rfl),qJ 102 (j3 _ rfl),qJ 103 (j4 _ rfl),qJ 104 (j5 _ rfl),qJ 105 (j6 _ rfl),qJ 106 (j7 _ rfl),qJ 107 (j8 _ rfl),qJ 108 (j9 _ rfl),qJ 109 (j10 _ rfl),qJ 110 (j11 _ rfl),qJ 111 (j12 _ rfl),qJ 112 (j13 _ rfl),qJ 113 (j14 _ rfl),qJ 114 (j15 _ rfl),qJ 115 (j16 _ rfl),qJ 116 (j17 _ rfl),qJ 117 (j18 _ rfl),qJ 118 (j19 _ rfl),hv119,qJ 120 (j21 _ rfl)]at hA
     clear hO j20 j0 j1 j2 j3 j4 j5 j6 j7 j8 j9 j10 j11 j12 j13 j14 j15 j16 j17 j18 j19 hv119 j21
     subst hA
     have e119:∃t:ByteArray,v119=.string t:=e119
     obtain⟨t9,rfl⟩:=e119
     have HB7:=QLh (of_drew hE);have HO7:=QLh (own_below HO4.out HB7.out);have HU7:=QLh ((HB7.out.block _ (lt_of_block HU4.out)).trans HU4.out);clear hE cp fz4 z1 z2 z3 z4 m0 m1 m2 m3
     obtain⟨_,hg7,-,cp7,fz7,hl7⟩:=own_at HO7.out q HQ.out
     cases hg7
     simp only[List.drop_succ_cons,List.drop_zero]
     go_wp2_with fail
     go_meet
     have HO8:=own_setk (m:=q) (u:=.string t9) HO7.out
     rw[<-List.map_set]at HO8
     have hlq:len (P.set q t9)=len P:=by rw[len_eq,len_eq,List.length_set]
     rw[<-hlq]at HO8
     refine⟨P.set q t9,rt,bd,_,_,rfl,rfl,QLh ⟨?_,by rw[hlq];have:=HPL.out;omega⟩,QLh ?_,QLh ⟨HKU.out.1,HKU.out.2,by have:=HBS.out;omega⟩,QLh (bset (bnext HBX.out HB7.out) ?_ _)⟩
     ·have h8:=TextsAre.own HO8
      rw[hlq]at h8
      exact h8
     ·exact(Below.heap_setCell _ _ _ _ (λ e9=>by have e8:tb=g4:=e9;have h1:=(HO7.out.lt g4 rfl).1;have:=HTU.out;omega)).trans HU7.out
     ·have h1:=(HO7.out.lt g4 rfl).1
      exact Nat.le_trans BU.out.size h1
    ·have hpI:¬(0:Int)<len P:=by omega
     clear hp
     go_wp2_with fail
     go_meet
     exact⟨P,rt,bd,_,_,rfl,rfl,QLh ⟨HTA.out,by have:=HPL.out;omega⟩,QLh HU4.out,QLh ⟨HKU.out.1,HKU.out.2,by have:=HBS.out;omega⟩,HBX⟩
   have k6:(((n0:Nat):Int) % 8 == 6)=false:=by simp;omega
   by_cases q7:n0 % 8=7
   ·have k7:(((n0:Nat):Int) % 8 == 7)=true:=by simp;omega
    clear q1 q2 q3 q4 q5 q6 q7
    obtain⟨q,hq⟩:∃q,n1 % bd.size=q:=⟨_,rfl⟩
    have HQ:Hid (q<bd.size):=QLh (by rw[<-hq];exact Nat.mod_lt _ HBS.out.1);have z1:IntKind.i64.wrap ((n1:Nat):Int)=((n1:Nat):Int):=by have:=H1.out;exact IntWalk.i64_in _ (by omega)
    have z2:((n1:Nat):Int) % ((bd.size:Nat):Int)=((q:Nat):Int):=by rw[<-hq];simp
    have z3:((n1:Nat):Int).tmod ((bd.size:Nat):Int)=((q:Nat):Int):=by rw[Int.tmod_eq_emod_of_nonneg (by omega)];exact z2
    have z4:¬bd.size=0:=by have:=HBS.out;omega
    have z5:q<=bd.size:=by have:=HQ.out;omega
    have z6:¬bd.size<q:=by have:=HQ.out;omega
    obtain⟨be,hbe⟩:∃be,bd.extract 0 q=be:=⟨_,rfl⟩
    have HBE:Hid (be.size<=100):=QLh (by rw[<-hbe,ByteArray.size_extract];have:=HBS.out;omega);clear hq
    go_wp2_with fail
    go_meet
    exact⟨P,rt,be,_,_,rfl,rfl,QLh ⟨HTA.out,by have:=HPL.out;omega⟩,QLh HU4.out,QLh ⟨HKU.out.1,HKU.out.2,HBE.out⟩,HBX⟩
   have k7:(((n0:Nat):Int) % 8 == 7)=false:=by simp;omega
   clear q1 q2 q3 q4 q5 q6 q7
   go_wp2_with fail
   go_meet
   exact⟨P,rt,bd,_,_,rfl,rfl,QLh ⟨HTA.out,by have:=HPL.out;omega⟩,QLh HU4.out,QLh ⟨HKU.out.1,HKU.out.2,by have:=HBS.out;omega⟩,HBX⟩
  case rest=>
   obtain⟨Q,rr,bb,x,y,rfl,rfl,HQ,HXY,HUU,HBC⟩:=hcut
   obtain⟨⟨aq,cq,rfl,htq,hcq,-⟩,hq100⟩:=HQ.out
   have HTQ:=QLh (And.intro htq (And.intro hcq hq100));clear htq hcq hq100
   obtain⟨K,hK⟩:∃K,tiE rr x y bb Q=K:=⟨_,rfl⟩
   have HPI:Hid (∀wv,Below wc.heap.size wc wv->Calls Tryz.prog 62 #[.string rr,.agg #[.int .u64 x,.int .u64 y],.string bb,.slice aq (len Q) cq] wv λ e w'=>e=.returned (.int .i64 K)/\Below wv.heap.size wv w'):=QLh (λ wv hb=>by
    rw[<-hK]
    exact itis_any rr x y bb Q aq cq wv (HTQ.out.1.below hb) (by have:=HTQ.out.2.2;omega) HTQ.out.2.1 HUU.out.1 HUU.out.2.1 (by have:=HUU.out.2.2;omega))
   have HRI:Hid (∀wv,Below wc.heap.size wc wv->Calls Tryz.prog 63 #[.string rr,.agg #[.int .u64 x,.int .u64 y],.string bb,.slice aq (len Q) cq] wv λ e w'=>e=.returned (.int .i64 K)/\Below wv.heap.size wv w'):=QLh (λ wv hb=>by
    rw[<-hK]
    exact rtis_any rr x y bb Q aq cq wv (HTQ.out.1.below hb) (by have:=HTQ.out.2.2;omega) HTQ.out.2.1 HUU.out.1 HUU.out.2.1 (by have:=HUU.out.2.2;omega))
   have HWK:Hid (∀wv,Below wc.heap.size wc wv->Calls Tryz.prog 52 #[] wv λ e w'=>e=.returned (.bool true)/\Below wv.heap.size wv w'):=QLh (λ wv hb=>works27_any B wv ((HT4.out.below HBC.out).below hb));have c0:wc.cell? ⟨tb,0,none⟩=some (.int .u64 x):=block_cell HXY.out 0;have c1:wc.cell? ⟨tb,1,none⟩=some (.int .u64 y):=block_cell HXY.out 1;have HWC:Hid (Below w.heap.size w wc):=QLh (bnext HBW4.out HBC.out);clear hK
   go_upto_region 27 with fail
   refine wp_region_all 1000 (none) (phis (List.map qv [.string rr,.agg #[.int .u64 x,.int .u64 y],.string bb,.slice aq (len Q) cq,.int .i64 K,.string rr,.agg #[.int .u64 x,.int .u64 y],.string bb,.slice aq (len Q) cq,.int .i64 K,.bool true,.bool true,.bool true,.bool true,.bool true])) rfl (by kernel_rfl) (mono_of mono_qv) (steps_of 15 ⟨?s0,?s1,?s2,?s3,?s4,?s5,?s6,?s7,?s8,?s9,?s10,?s11,?s12,?s13,?s14,trivial⟩) ?_
   case s0=>
    refine qV (λ _=>rfl) rfl λ av wv hE hO hD=>?_
    simp[go_sem,qF av 11 (.string rr) (hO.2.2 11 rfl)]
   case s1=>
    refine qV (λ _=>rfl) rfl λ av wv hE hO hD=>?_
    simp[go_sem,qF av 13 (.pointer (some ⟨tb,0,none⟩)) (hO.2.2 13 rfl),extB_cell hE (by simp) c0,extB_cell hE (by simp) c1]
   case s2=>
    refine qV (λ _=>rfl) rfl λ av wv hE hO hD=>?_
    simp[go_sem,qF av 12 (.string bb) (hO.2.2 12 rfl)]
   case s3=>
    refine qV (λ _=>rfl) rfl λ av wv hE hO hD=>?_
    simp[go_sem,qF av 9 (.slice aq (len Q) cq) (hO.2.2 9 rfl)]
   case s4=>
    refine step_wp (λ av wv hE hS hO hD=>⟨rfl,?_⟩)
    have f131:=qE (hD.1 rfl _ rfl);have f132:=qE (hD.2.1 rfl _ rfl);have f133:=qE (hD.2.2.1 rfl _ rfl);have f134:=qE (hD.2.2.2.1 rfl _ rfl)
    refine wp_of_call (v:=.int .i64 K) (by simp[go_sem,f131,f132,f133,f134]) (HPI.out wv (of_drew hE)) (λ w2 hb=>⟨_,rfl,es_of_ext hb,rfl⟩)
   case s5=>
    refine qV (λ _=>rfl) rfl λ av wv hE hO hD=>?_
    simp[go_sem,qF av 11 (.string rr) (hO.2.2 11 rfl)]
   case s6=>
    refine qV (λ _=>rfl) rfl λ av wv hE hO hD=>?_
    simp[go_sem,qF av 13 (.pointer (some ⟨tb,0,none⟩)) (hO.2.2 13 rfl),extB_cell hE (by simp) c0,extB_cell hE (by simp) c1]
   case s7=>
    refine qV (λ _=>rfl) rfl λ av wv hE hO hD=>?_
    simp[go_sem,qF av 12 (.string bb) (hO.2.2 12 rfl)]
   case s8=>
    refine qV (λ _=>rfl) rfl λ av wv hE hO hD=>?_
    simp[go_sem,qF av 9 (.slice aq (len Q) cq) (hO.2.2 9 rfl)]
   case s9=>
    refine step_wp (λ av wv hE hS hO hD=>⟨rfl,?_⟩)
    have f136:=qE (hD.1 rfl _ rfl);have f137:=qE (hD.2.1 rfl _ rfl);have f138:=qE (hD.2.2.1 rfl _ rfl);have f139:=qE (hD.2.2.2.1 rfl _ rfl)
    refine wp_of_call (v:=.int .i64 K) (by simp[go_sem,f136,f137,f138,f139]) (HRI.out wv (of_drew hE)) (λ w2 hb=>⟨_,rfl,es_of_ext hb,rfl⟩)
   case s10=>
    refine qV (λ _=>rfl) rfl λ av wv hE hO hD=>?_
    simp[go_sem,qE (hD.1 rfl _ rfl),qE (hD.2.1 rfl _ rfl)]
   case s11=>
    refine qV (λ _=>rfl) rfl λ av wv hE hO hD=>?_
    simp[go_sem,qE (hD.1 rfl _ rfl)]
   case s12=>
    refine step_wp (λ av wv hE hS hO hD=>⟨(wY rfl rfl rfl (hD.1 rfl _ rfl)),?_⟩)
    refine wp_of_call (v:=.bool true) (by simp[go_sem]) (HWK.out wv (of_drew hE)) (λ w2 hb=>⟨_,rfl,es_of_ext hb,rfl⟩)
   case s13=>
    refine qV (λ _=>rfl) rfl λ av wv hE hO hD=>?_
    simp[go_sem,qE (hD.1 rfl _ rfl),qE (hD.2.1 rfl _ rfl)]
   case s14=>
    refine qV (λ _=>rfl) rfl λ av wv hE hO hD=>?_
    simp[go_sem,qE (hD.1 rfl _ rfl)]
   intro a' w' hE hO hall
   have hA:=act_of_outer (ds:=[131,132,133,134,135,136,137,138,139,140,141,142,143,144,6]) rfl hO (by kernel_rfl)
   obtain⟨j0,j1,j2,j3,j4,j5,j6,j7,j8,j9,j10,j11,j12,j13,j14,-⟩:=hall
   simp only[List.foldl_cons,List.foldl_nil,Act.put,List.setIfInBounds_toArray,List.set_cons_succ,List.set_cons_zero,qJ 131 (j0 _ rfl),qJ 132 (j1 _ rfl),qJ 133 (j2 _ rfl),qJ 134 (j3 _ rfl),qJ 135 (j4 _ rfl),qJ 136 (j5 _ rfl),qJ 137 (j6 _ rfl),qJ 138 (j7 _ rfl),qJ 139 (j8 _ rfl),qJ 140 (j9 _ rfl),qJ 141 (j10 _ rfl),qJ 142 (j11 _ rfl),qJ 143 (j12 _ rfl),qJ 144 (j13 _ rfl),qJ 6 (j14 _ rfl)]at hA
   clear hO j0 j1 j2 j3 j4 j5 j6 j7 j8 j9 j10 j11 j12 j13 j14
   subst hA
   have HBE:=QLh (of_drew hE);clear hE c0 c1
   go_wp2
   go_ret
   exact⟨rfl,bnext HWC.out HBE.out⟩
 ·have hq:(E != 0)=true:=by simp[hE0]
  have hq2:(E == 0)=false:=by simp[hE0]
  clear hE0
  go_wp2_with fail
  refine(works27_any B w4 HT4.out).mono ?_
  rintro e w5 ⟨rfl,hb⟩
  have HB5:=QLh (bnext HBW4.out hb);clear hb
  go_wp2
  go_ret
  exact⟨rfl,HB5.out⟩
end
section
open Go.RowKit Go.ChangeShapes Go.WideShapes Go.ChangeAt Go.ChangeMaps
section
variable {P : Program} {H : Type} {enc : TypeId × Value → H} {w : World}
theorem str_readx{n:Nat}{e:TypeId}{v:Value}{y:DataW H × List MemPlace}(he:P.underlying e=some .string)(h:DataW.trod enc P w 0 (λ _=>true) true n e [v]=some y):∃s:ByteArray,v=.string s/\s.size<=maxLen:=by
 obtain⟨s,hx,_,hw⟩:=DataW.trod_string he h
 exact⟨s,by simpa using hx,hw⟩
theorem open_txts{t e:TypeId}(ht:P.underlying t=some (.slice e))(he:P.underlying e=some .string)(hC:P.cellsOf e=1)
  {v:Value} {d:DataW H} {p:List MemPlace} {r:Reach} {base:Nat} (hv:Value.okWide P w r base t v) (h:DataW.Trod enc P w 0 (λ _=>true) true t v d p):
  ∃a c,∃l:List ByteArray,v=.slice a (len l) c/\len l<=c/\c<=maxLen/\Txts w a l:=by
 obtain⟨a,c,l,rfl,h1,h2,h3⟩:=open_elems 1 (λ x=>[Value.string x]) (λ _=>True) ht hC (by decide) (λ n cs' y hl hy=>by
  match cs',hl with
  | [v0],_=>
   obtain⟨s,rfl,_⟩:=str_readx he hy
   exact⟨s,rfl,trivial⟩) hv h
 refine⟨a,c,l,rfl,h1,h2,λ i hi=>?_⟩
 obtain⟨_,b,off,e1,e2⟩:=h3 i hi
 refine⟨b,off,e1,?_⟩
 have:=e2 0 (by decide)
 rw[Nat.mul_one,Nat.add_zero]at this
 rw[this,tth_eq l i hi];rfl
end
end
section
open Go.RowKit Go.ChangeShapes Go.WideShapes Go.ChangeAt Go.Deep
section
variable {P : Program} {H : Type} {enc : TypeId × Value → H} {w : World}
theorem open_arr4{t e:TypeId}{k:IntKind}(ht:P.underlying t=some (.array 4 e))(he:P.underlying e=some (.int k))(hC:P.cellsOf e=1)(hCt:P.cellsOf t=4)
  {v:Value} {d:DataW H} {p:List MemPlace} {r:Reach} {base:Nat} (hv:Value.okWide P w r base t v) (h:DataW.Trod enc P w 0 (λ _=>true) true t v d p):
  ∃x0 x1 x2 x3,v=.agg #[.int k x0,.int k x1,.int k x2,.int k x3]/\(Lit.int k x0).wf=true/\(Lit.int k x1).wf=true/\(Lit.int k x2).wf=true/\(Lit.int k x3).wf=true:=by
 have hv':∃cs,v=.agg cs/\cs.size=P.cellsOf t:=by
  simp only[Value.okWide,ht]at hv
  obtain⟨cs,h1,h2,_⟩:=hv
  exact⟨cs,h1,h2⟩
 obtain⟨cs,rfl,hsz⟩:=hv'
 obtain⟨fuel,hf⟩:=h
 obtain⟨xs,m,_,_,_,hxl,hx⟩:=DataW.trod_array ht hf
 obtain⟨l⟩:=cs
 match l,hsz.trans hCt with
 | [c0,c1,c2,c3],_=>
  have h0:=hx 0 (by decide);have h1:=hx 1 (by decide);have h2:=hx 2 (by decide);have h3:=hx 3 (by decide)
  rw[hC]at h0 h1 h2 h3
  have e0:xs[0]?=some (xs[0]'(by omega)):=List.getElem?_eq_getElem (by omega);have e1:xs[1]?=some (xs[1]'(by omega)):=List.getElem?_eq_getElem (by omega);have e2:xs[2]?=some (xs[2]'(by omega)):=List.getElem?_eq_getElem (by omega);have e3:xs[3]?=some (xs[3]'(by omega)):=List.getElem?_eq_getElem (by omega)
  obtain⟨x0,rfl,w0⟩:=cell_read he (h0.trans e0)
  obtain⟨x1,rfl,w1⟩:=cell_read he (h1.trans e1)
  obtain⟨x2,rfl,w2⟩:=cell_read he (h2.trans e2)
  obtain⟨x3,rfl,w3⟩:=cell_read he (h3.trans e3)
  exact⟨x0,x1,x2,x3,rfl,w0,w1,w2,w3⟩
end
end
section
open Go.RowKit Go.ChangeShapes Go.WideShapes Go.ChangeAt
def rowD(r:URow):DataW Unit:=.agg [.lit (.int .u8 r.lo),.lit (.int .u8 r.hi),.lit (.int .i64 r.size),.lit (.int .u64 r.least)]
theorem laid_row{w:World}{fuel:Nat}{cs':List Value}{r:URow}{q:List MemPlace}(hl:cs'.length=4)(h:DataW.trod (λ _=>()) Tryz.prog w 0 (λ _=>true) false fuel 342 cs'=some (rowD r,q)):cs'=r.cells:=by
 match cs',hl with
 | [v0,v1,v2,v3],_=>
  obtain⟨xs,m,_,e,_,hxl,hx⟩:=DataW.trod_struct Tryz.underlying342 h
  have cu:Tryz.prog.cellsOf 5=1:=by kernel_rfl
  have ci:Tryz.prog.cellsOf 3=1:=by kernel_rfl
  have cq:Tryz.prog.cellsOf 23=1:=by kernel_rfl
  have hxl':xs.length=4:=hxl;have h0:DataW.trod (λ _=>()) Tryz.prog w 0 (λ _=>true) false m 5 (([v0,v1,v2,v3].drop 0).take (Tryz.prog.cellsOf 5))=xs[0]?:=hx 0 _ rfl;have h1:DataW.trod (λ _=>()) Tryz.prog w 0 (λ _=>true) false m 5 (([v0,v1,v2,v3].drop 1).take (Tryz.prog.cellsOf 5))=xs[1]?:=hx 1 _ rfl;have h2:DataW.trod (λ _=>()) Tryz.prog w 0 (λ _=>true) false m 3 (([v0,v1,v2,v3].drop 2).take (Tryz.prog.cellsOf 3))=xs[2]?:=hx 2 _ rfl;have h3:DataW.trod (λ _=>()) Tryz.prog w 0 (λ _=>true) false m 23 (([v0,v1,v2,v3].drop 3).take (Tryz.prog.cellsOf 23))=xs[3]?:=hx 3 _ rfl
  rw[cu]at h0 h1
  rw[ci]at h2
  rw[cq]at h3
  match xs,hxl' with
  | [x0,x1,x2,x3],_=>
   obtain⟨n0,e0,y0,_⟩:=DataW.trod_int Tryz.underlying5 (show DataW.trod (λ _=>()) Tryz.prog w 0 (λ _=>true) false m 5 [v0]=some x0 from h0)
   obtain⟨n1,e1,y1,_⟩:=DataW.trod_int Tryz.underlying5 (show DataW.trod (λ _=>()) Tryz.prog w 0 (λ _=>true) false m 5 [v1]=some x1 from h1)
   obtain⟨n2,e2,y2,_⟩:=DataW.trod_int Tryz.underlying3 (show DataW.trod (λ _=>()) Tryz.prog w 0 (λ _=>true) false m 3 [v2]=some x2 from h2)
   obtain⟨n3,e3,y3,_⟩:=DataW.trod_int Tryz.underlying23 (show DataW.trod (λ _=>()) Tryz.prog w 0 (λ _=>true) false m 23 [v3]=some x3 from h3)
   subst y0 y1 y2 y3
   simp[rowD]at e e0 e1 e2 e3
   obtain⟨⟨a0,a1,a2,a3⟩,_⟩:=e
   subst e0 e1 e2 e3
   unfold URow.cells
   rw[a0,a1,a2,a3]
theorem laid_rows{w:World}{fuel:Nat}{cs:List Value}{l:List URow}{p:List MemPlace}(h:DataW.trod (λ _=>()) Tryz.prog w 0 (λ _=>true) false fuel 308 cs=some (.slice (l.map rowD) [],p))(hl:0<len l):
  ∃tb tq rc,cs=[.slice (some ⟨tb,tq,none⟩) (len l) rc]/\URows w (some ⟨tb,tq,none⟩) l:=by
 have hC:Tryz.prog.cellsOf 342=4:=by kernel_rfl
 rcases Go.Deep.open_slice Tryz.underlying308 h with⟨_,hx⟩ | ⟨a,n,c,m,q,D,Pl,hcs,_,hln,hm,hmm,hx,hi⟩
 ·simp at hx
 ·simp only[Prod.mk.injEq,DataW.slice.injEq]at hx
  obtain⟨⟨hD,_⟩,_⟩:=hx
  have hn:len l=n:=by have:=congrArg List.length hD;simpa [len] using this
  have hnm:n<=m:=by rw[hmm];simp;exact hln
  have each:∀i,i<len l->∃b off,a=⟨b,off,none⟩/\URowAt w b (off+i * 4) (unth l i):=λ i hil=>by
   obtain⟨cs',hc,htr⟩:=hi i (by omega)
   rw[hC]at hc
   obtain⟨_,hcl,hat⟩:=World.cells?_some hc
   have hDi:D i=rowD (unth l i):=by
    have h1:(l.map rowD)[i]?=((List.range n).map D)[i]?:=by rw[hD]
    have hil':i<l.length:=hil
    rw[List.getElem?_map,List.getElem?_map,List.getElem?_eq_getElem hil',List.getElem?_range (by omega)]at h1
    rw[unth_eq l i hil]
    exact(Option.some.inj h1).symm
   rw[hDi]at htr
   have hcs':=laid_row hcl htr
   obtain⟨b,off,spot⟩:=a
   have hat0:=hat 0 (by decide)
   rw[hcs']at hat
   have hspot:spot=none:=by
    obtain⟨cs0,hc0,htr0⟩:=hi 0 (by omega)
    rw[hC]at hc0
    obtain⟨_,hcl0,hat0⟩:=World.cells?_some hc0
    have h1:=hat0 0 (by decide);have h2:cs0[0]?=some (cs0[0]'(by omega)):=List.getElem?_eq_getElem (by omega)
    rw[h2]at h1
    simpa [Addr.add] using World.cell?_spot h1
   subst hspot
   have key:∀j,j<4->w.cell? ⟨b,off+i * 4+j,none⟩=(unth l i).cells[j]?:=λ j hj=>by
    have h1:=hat j hj
    rw[Go.Deep.add_add]at h1
    have e:(⟨b,off,none⟩:Addr).add (i * 4+j)=⟨b,off+i * 4+j,none⟩:=by
     unfold Addr.add;split
     ·rename_i h0;simp <;> omega
     ·simp[Nat.add_assoc]
    rw[e]at h1;exact h1
   exact⟨b,off,rfl,key 0 (by decide),key 1 (by decide),key 2 (by decide),key 3 (by decide)⟩
  obtain⟨b,off,rfl,_⟩:=each 0 hl
  refine⟨b,off,c,by rw[hn];exact hcs,λ i hil=>?_⟩
  obtain⟨b',off',e,hR⟩:=each i hil
  cases e
  exact⟨b,off,rfl,hR⟩
theorem tab_of{W:World}{nm:String}{g:Nat}{l:List URow}{cs:Array Value}{fuel:Nat}{p:List MemPlace}(hl:0<len l)(hg:Tryz.prog.globalNamed nm=some g)(hv:W.var? Tryz.prog nm=some cs)
  (h:DataW.trod (λ _=>()) Tryz.prog W 0 (λ _=>true) false fuel 308 cs.toList=some (.slice (l.map rowD) [],p)):TabAt W.heap.size W g l:=by
 obtain⟨tb,tq,rc,hcs,hr⟩:=laid_rows h hl
 have hc:W.cell? ⟨g,0,none⟩=some (.slice (some ⟨tb,tq,none⟩) (len l) rc):=by
  have:=World.var?_cell hg hv 0
  rw[Array.eq_one_of_toList hcs]at this
  simpa using this
 obtain⟨b',off',e,hR⟩:=hr 0 hl
 cases e
 exact⟨tb,tq,rc,lt_of_cell hc,lt_of_cell hR.c0,Nat.le_refl _,hc,hr⟩
theorem oneRow:((List.range Tryz.prog.types.size).filter λ t=>Tryz.prog.rowNamed t [101,114,114,111,114])=[89]:=by kernel_rfl
end
section
open Go.RowKit Go.ChangeShapes Go.WideShapes Go.ChangeAt
def rowD5(r:PRow):DataW Unit:=.agg [.lit (.int .u64 r.below),.lit (.int .u8 r.first),.lit (.int .i64 r.size)]
theorem laid_prow{w:World}{fuel:Nat}{cs':List Value}{r:PRow}{q:List MemPlace}(hl:cs'.length=3)(h:DataW.trod (λ _=>()) Tryz.prog w 0 (λ _=>true) false fuel 336 cs'=some (rowD5 r,q)):cs'=r.cells:=by
 match cs',hl with
 | [v0,v1,v2],_=>
  obtain⟨xs,m,_,e,_,hxl,hx⟩:=DataW.trod_struct Tryz.underlying336 h
  have cu:Tryz.prog.cellsOf 5=1:=by kernel_rfl
  have ci:Tryz.prog.cellsOf 3=1:=by kernel_rfl
  have cq:Tryz.prog.cellsOf 23=1:=by kernel_rfl
  have hxl':xs.length=3:=hxl;have h0:DataW.trod (λ _=>()) Tryz.prog w 0 (λ _=>true) false m 23 (([v0,v1,v2].drop 0).take (Tryz.prog.cellsOf 23))=xs[0]?:=hx 0 _ rfl;have h1:DataW.trod (λ _=>()) Tryz.prog w 0 (λ _=>true) false m 5 (([v0,v1,v2].drop 1).take (Tryz.prog.cellsOf 5))=xs[1]?:=hx 1 _ rfl;have h2:DataW.trod (λ _=>()) Tryz.prog w 0 (λ _=>true) false m 3 (([v0,v1,v2].drop 2).take (Tryz.prog.cellsOf 3))=xs[2]?:=hx 2 _ rfl
  rw[cq]at h0
  rw[cu]at h1
  rw[ci]at h2
  match xs,hxl' with
  | [x0,x1,x2],_=>
   obtain⟨n0,e0,y0,_⟩:=DataW.trod_int Tryz.underlying23 (show DataW.trod (λ _=>()) Tryz.prog w 0 (λ _=>true) false m 23 [v0]=some x0 from h0)
   obtain⟨n1,e1,y1,_⟩:=DataW.trod_int Tryz.underlying5 (show DataW.trod (λ _=>()) Tryz.prog w 0 (λ _=>true) false m 5 [v1]=some x1 from h1)
   obtain⟨n2,e2,y2,_⟩:=DataW.trod_int Tryz.underlying3 (show DataW.trod (λ _=>()) Tryz.prog w 0 (λ _=>true) false m 3 [v2]=some x2 from h2)
   subst y0 y1 y2
   simp[rowD5]at e e0 e1 e2
   obtain⟨⟨a0,a1,a2⟩,_⟩:=e
   subst e0 e1 e2
   unfold PRow.cells
   rw[a0,a1,a2]
theorem laid_prows{w:World}{fuel:Nat}{cs:List Value}{l:List PRow}{p:List MemPlace}(h:DataW.trod (λ _=>()) Tryz.prog w 0 (λ _=>true) false fuel 338 cs=some (.slice (l.map rowD5) [],p))(hl:0<len l):
  ∃tb tq rc,cs=[.slice (some ⟨tb,tq,none⟩) (len l) rc]/\PRows w (some ⟨tb,tq,none⟩) l:=by
 have hC:Tryz.prog.cellsOf 336=3:=by kernel_rfl
 rcases Go.Deep.open_slice Tryz.underlying338 h with⟨_,hx⟩ | ⟨a,n,c,m,q,D,Pl,hcs,_,hln,hm,hmm,hx,hi⟩
 ·simp at hx
 ·simp only[Prod.mk.injEq,DataW.slice.injEq]at hx
  obtain⟨⟨hD,_⟩,_⟩:=hx
  have hn:len l=n:=by have:=congrArg List.length hD;simpa [len] using this
  have hnm:n<=m:=by rw[hmm];simp;exact hln
  have each:∀i,i<len l->∃b off,a=⟨b,off,none⟩/\PRowAt w b (off+i * 3) (prth l i):=λ i hil=>by
   obtain⟨cs',hc,htr⟩:=hi i (by omega)
   rw[hC]at hc
   obtain⟨_,hcl,hat⟩:=World.cells?_some hc
   have hDi:D i=rowD5 (prth l i):=by
    have h1:(l.map rowD5)[i]?=((List.range n).map D)[i]?:=by rw[hD]
    have hil':i<l.length:=hil
    rw[List.getElem?_map,List.getElem?_map,List.getElem?_eq_getElem hil',List.getElem?_range (by omega)]at h1
    rw[prth_eq l i hil]
    exact(Option.some.inj h1).symm
   rw[hDi]at htr
   have hcs':=laid_prow hcl htr
   obtain⟨b,off,spot⟩:=a
   have hat0:=hat 0 (by decide)
   rw[hcs']at hat
   have hspot:spot=none:=by
    obtain⟨cs0,hc0,htr0⟩:=hi 0 (by omega)
    rw[hC]at hc0
    obtain⟨_,hcl0,hat0⟩:=World.cells?_some hc0
    have h1:=hat0 0 (by decide);have h2:cs0[0]?=some (cs0[0]'(by omega)):=List.getElem?_eq_getElem (by omega)
    rw[h2]at h1
    simpa [Addr.add] using World.cell?_spot h1
   subst hspot
   have key:∀j,j<3->w.cell? ⟨b,off+i * 3+j,none⟩=(prth l i).cells[j]?:=λ j hj=>by
    have h1:=hat j hj
    rw[Go.Deep.add_add]at h1
    have e:(⟨b,off,none⟩:Addr).add (i * 3+j)=⟨b,off+i * 3+j,none⟩:=by
     unfold Addr.add;split
     ·rename_i h0;simp <;> omega
     ·simp[Nat.add_assoc]
    rw[e]at h1;exact h1
   exact⟨b,off,rfl,key 0 (by decide),key 1 (by decide),key 2 (by decide)⟩
  obtain⟨b,off,rfl,_⟩:=each 0 hl
  refine⟨b,off,c,by rw[hn];exact hcs,λ i hil=>?_⟩
  obtain⟨b',off',e,hR⟩:=each i hil
  cases e
  exact⟨b,off,rfl,hR⟩
def tabD5:DataW Unit:=.agg ([0,1,2,3,4].map λ k=>.slice ((hrowsP k).map rowD5) [])
theorem ptab_of{W:World}{g:Nat}{cs:Array Value}{fuel:Nat}{p:List MemPlace}(hgg:g=5)(hg:Tryz.prog.globalNamed "sextant/pack.rows"=some g)(hv:W.var? Tryz.prog "sextant/pack.rows"=some cs)
  (h:DataW.trod (λ _=>()) Tryz.prog W 0 (λ _=>true) false fuel 339 cs.toList=some (tabD5,p)):PTab W.heap.size W:=by
 obtain⟨xs,m,_,e,hcl,hxl,hx⟩:=DataW.trod_array Tryz.underlying339 h
 have hC:Tryz.prog.cellsOf 338=1:=by kernel_rfl
 have hC5:Tryz.prog.cellsOf 339=5:=by kernel_rfl
 rw[hC5]at hcl
 rw[hC]at hx
 have hd:tabD5=.agg (xs.map (·.1)):=congrArg Prod.fst e
 unfold tabD5 at hd
 have hd2:([0,1,2,3,4].map λ k=>(DataW.slice ((hrowsP k).map rowD5) []:DataW Unit))=xs.map (·.1):=by injection hd
 subst hgg
 have key:∀k,k<5->∃tb tq rc,cs[k]?=some (.slice (some ⟨tb,tq,none⟩) (len (hrowsP k)) rc)/\PRows W (some ⟨tb,tq,none⟩) (hrowsP k):=λ k hk=>by
  have hxk:k<xs.length:=by omega
  have h1:=hx k hk
  rw[List.getElem?_eq_getElem hxk]at h1
  have h2:(xs[k]'hxk).1=.slice ((hrowsP k).map rowD5) []:=by
   have h3:(xs.map (·.1))[k]?=some (xs[k]'hxk).1:=by rw[List.getElem?_map,List.getElem?_eq_getElem hxk];rfl
   rw[<-hd2,List.getElem?_map]at h3
   have h4:[0,1,2,3,4][k]?=some k:=by
    have:k=0 \/ k=1 \/ k=2 \/ k=3 \/ k=4:=by omega
    rcases this with rfl | rfl | rfl | rfl | rfl <;> rfl
   rw[h4]at h3
   exact(Option.some.inj h3).symm
  have h5:DataW.trod (λ _=>()) Tryz.prog W 0 (λ _=>true) false m 338 ((cs.toList.drop (k * 1)).take 1)=some (.slice ((hrowsP k).map rowD5) [],(xs[k]'hxk).2):=by rw[h1,<-h2]
  obtain⟨tb,tq,rc,hcs,hr⟩:=laid_prows h5 (rowsP_pos k)
  refine⟨tb,tq,rc,?_,hr⟩
  have h6:((cs.toList.drop (k * 1)).take 1)[0]?=some (.slice (some ⟨tb,tq,none⟩) (len (hrowsP k)) rc):=by rw[hcs];rfl
  rw[List.getElem?_take,if_pos (by decide),List.getElem?_drop]at h6
  simpa using h6
 have hlt:5<W.heap.size:=by
  obtain⟨tb,tq,rc,h1,h2⟩:=key 0 (by decide)
  have:=World.var?_cell hg hv 0
  exact lt_of_cell (this.trans h1)
 refine⟨hlt,Nat.le_refl _,λ k hk=>?_⟩
 obtain⟨tb,tq,rc,h1,h2⟩:=key k hk
 refine⟨tb,tq,rc,?_,(World.var?_cell hg hv k).trans h1,h2⟩
 obtain⟨b,off,e,hR⟩:=h2 0 (rowsP_pos k)
 cases e
 exact lt_of_cell hR.c0
end
section
open Go.RowKit Go.ChangeShapes Go.WideShapes Go.ChangeAt
theorem of_laidI{W:World}(h:laidMetH Tryz.prog Rows.partProvesRow.laid W):TE7 W.heap.size W:=by
 have h':laidMet Tryz.prog (Rows.partProvesRow.laid.filter λ x=>x.2.handleName?.isNone) W/\handlesMet Tryz.prog (Rows.partProvesRow.laid.filter λ x=>x.2.handleName?.isSome) W:=h
 obtain⟨⟨ps,⟨gp,tp,csp,fp,pp,qp,hgp,htp,hvp,hdp,⟨g0,t0,cs0,f0,p0,q0,hg0,ht0,hv0,hd0,⟨g1,t1,cs1,f1,p1,q1,hg1,ht1,hv1,hd1,⟨g2,t2,cs2,f2,p2,q2,hg2,ht2,hv2,hd2,⟨g4,t4,cs4,f4,p4,q4,hg4,ht4,hv4,hd4,_⟩,_⟩,_⟩,_⟩,_⟩,_,_⟩,hH⟩:=h'
 obtain rfl:5=gp:=Option.some.inj ((show _=some 5 by kernel_rfl).symm.trans hgp)
 obtain rfl:339=tp:=Option.some.inj ((show _=some 339 by kernel_rfl).symm.trans htp)
 obtain rfl:0=g0:=Option.some.inj ((show _=some 0 by kernel_rfl).symm.trans hg0)
 obtain rfl:308=t0:=Option.some.inj ((show _=some 308 by kernel_rfl).symm.trans ht0)
 obtain rfl:6=g1:=Option.some.inj ((show _=some 6 by kernel_rfl).symm.trans hg1)
 obtain rfl:308=t1:=Option.some.inj ((show _=some 308 by kernel_rfl).symm.trans ht1)
 obtain rfl:2=g2:=Option.some.inj ((show _=some 2 by kernel_rfl).symm.trans hg2)
 obtain rfl:308=t2:=Option.some.inj ((show _=some 308 by kernel_rfl).symm.trans ht2)
 obtain rfl:1=g4:=Option.some.inj ((show _=some 1 by kernel_rfl).symm.trans hg4)
 obtain rfl:308=t4:=Option.some.inj ((show _=some 308 by kernel_rfl).symm.trans ht4)
 have hET:ErrType W:=by
  obtain⟨name,u,ty,e1,e2,e3,e4,e5⟩:=hH Rows.partProvesRow.laid[1] (List.mem_singleton.2 rfl)
  have en:name=[101,114,114,111,114]:=(Option.some.inj e1).symm
  subst en
  obtain rfl:349=u:=Option.some.inj ((show _=some 349 by kernel_rfl).symm.trans e2)
  have hm:ty ∈ (List.range Tryz.prog.types.size).filter λ t=>Tryz.prog.rowNamed t [101,114,114,111,114]:=List.mem_filter.2 ⟨List.mem_range.2 e3,e4⟩
  rw[oneRow]at hm
  obtain rfl:=List.mem_singleton.1 hm
  have hg:Tryz.prog.globalNamed Rows.partProvesRow.laid[1].1=some 3:=(by kernel_rfl)
  exact World.var?_cell hg e5 0
 exact⟨ptab_of rfl hgp hvp hdp,⟨tab_of (by decide) hg0 hv0 hd0,trivial,tab_of (by decide) hg1 hv1 hd1,tab_of (by decide) hg2 hv2 hd2,tab_of (by decide) hg4 hv4 hd4⟩,hET,Nat.le_refl _,lt_of_cell hET⟩
end
end Go.Proofs.YtpobhbdomldecaaGreatDoor
namespace Go.Proofs.YtpobhbdomldecaaGreatDoor.itxns
open Go.RowKit Go.ChangeShapes Go.WideShapes Go.ChangeAt
theorem door_met(os:Os)(args:Array Value):laidMetH Tryz.prog Rows.inclusionTxnsRow.laid ((World.doorLaid Tryz.prog 79 os).forCall (λ _ _=>0) ⟨#[],args,[]⟩).memory:=
 laidMetH_of_parts3 (fuel:=8) (laidMet_of_run' 8 (by kernel_rfl) (by kernel_rfl)) (by kernel_rfl) (by kernel_rfl)
theorem lifted(os:Os)(started:os.Started)(H:Type)(enc:TypeId × Value->H):
  ReturnsInHanded {} Tryz.checked os 11 .any (λ w args=>(Rows.inclusionTxnsSpec.pre enc Tryz.prog Tryz.f11 [] false w args/\laidMetH Tryz.prog Rows.inclusionTxnsRow.laid w)/\sizedMet enc Tryz.prog Tryz.f11 (OpenSpec.ofChange Rows.inclusionTxnsSpec) false w args)
   (Rows.inclusionTxnsSpec.post enc Tryz.prog Tryz.f11 false true false false):=by
 refine returnsInHanded_of_change_and (C:=Tryz.checked) (X:=λ w _=>laidMetH Tryz.prog Rows.inclusionTxnsRow.laid w) (λ _ _ _ hh h=>h.of_heap hh) own started (by kernel_rfl) Tryz.func11
  (ChangeSpec.witness_shaped (enc:=enc) (C:=Tryz.checked) (os:=os) (X:=λ w _=>laidMetH Tryz.prog Rows.inclusionTxnsRow.laid w) false (World.doorLaid Tryz.prog 79 os) #[.slice none 0 0,.int .i64 0,.agg #[.int .u8 0,.int .u8 0,.int .u8 0,.int .u8 0]] 8 rfl (World.shaped_of_RefB (by kernel_rfl) (by kernel_rfl)) (by kernel_rfl) (by kernel_rfl) (by kernel_rfl) (door_met os _)) ?_
 intro W base args ds gs before hval0 hW _ _ hL _
 have hval:∀(j:Nat) t v,Tryz.f11.params[j]?=some t->args[j]?=some v->Value.okWide Tryz.prog W .any base t v:=hval0;have hW':=hW
 obtain⟨p,q,hA0,hV,rfl,hfz,hnd⟩:=hW
 have hA:DataW.TrodAll enc Tryz.prog W 0 (λ _=>true) true Tryz.f11.params.toList args.toList ds p:=hA0
 rw[Tryz.params11]at hA hval
 have hAA:=hA
 obtain⟨v0,vs0,d0,ds0,p0,q0,hargs,rfl,rfl,h0,r0⟩:=trodAll_cons hA
 obtain⟨v1,vs1,d1,ds1,p1,q1,rfl,rfl,rfl,h1,r1⟩:=trodAll_cons r0
 obtain⟨v2,vs2,d2,ds2,p2,q2,rfl,rfl,rfl,h2,r2⟩:=trodAll_cons r1
 obtain⟨rfl,rfl,rfl⟩:=trodAll_nil r2
 obtain rfl:args=#[v0,v1,v2]:=by cases args;simp_all
 obtain⟨rfl,rfl⟩:=trodVars_none hV
 obtain⟨a0,c0,l0,rfl,lc0,cm0,o0⟩:=open_txts Tryz.underlying36 Tryz.underlying9 (by kernel_rfl) (hval 0 _ _ rfl rfl) h0
 obtain⟨x1,rfl,_,_,w1⟩:=open_int Tryz.underlying3 (hval 1 _ _ rfl rfl) h1
 obtain⟨y0,y1,y2,y3,rfl,w20,w21,w22,w23⟩:=open_arr4 Tryz.underlying82 Tryz.underlying5 (by kernel_rfl) (by kernel_rfl) (hval 2 _ _ rfl rfl) h2
 have u0:=wf_u8 w20;have u1:=wf_u8 w21;have u2:=wf_u8 w22;have u3:=wf_u8 w23
 obtain⟨y0,rfl⟩:=Int.eq_ofNat_of_zero_le u0.1
 obtain⟨y1,rfl⟩:=Int.eq_ofNat_of_zero_le u1.1
 obtain⟨y2,rfl⟩:=Int.eq_ofNat_of_zero_le u2.1
 obtain⟨y3,rfl⟩:=Int.eq_ofNat_of_zero_le u3.1
 have hT:=of_laidI (show laidMetH Tryz.prog Rows.partProvesRow.laid W from hL)
 unfold maxLen at cm0
 clear hA0 hval0
 refine(itxns_law W.heap.size l0 a0 c0 x1 y0 y1 y2 y3 W hT o0 (by omega) (by omega) (by omega) (by omega) (by omega)).mono λ e W' ⟨he,bel⟩=>?_
 subst he
 have hback:=below_trodAll laidOut bel (λ t ht=>⟨by revert t;exact of_decide_eq_true (by kernel_rfl),by revert t;exact of_decide_eq_true (by kernel_rfl)⟩) hAA
 exact⟨_,rfl,_,_,_,[],_,[],hW',trodAll_mk1 (shut_bool Tryz.underlying4 _),hback,rfl,bel.frame _,λ h=>by cases h⟩
end Go.Proofs.YtpobhbdomldecaaGreatDoor.itxns
namespace Go.Proofs.YtpobhbdomldecaaGreatDoor
open Go.RowKit
end Go.Proofs.YtpobhbdomldecaaGreatDoor

/- Parts of the proof, one behind the other. -/
import Derived.Test.YtihiaopilnjonaaGreatDoorWceP2
import Derived.Deep.QuietTactic
import Derived.BigQuiet
import Derived.StillTailTactics
namespace Go.Proofs.YtihiaopilnjonaaGreatDoor
open Go.RowKit
set_option linter.unusedSimpArgs false
set_option linter.unusedVariables false
set_option maxRecDepth 100000
set_option maxHeartbeats 8000000
attribute [local go_sem] pt
def Ji(P:World→FVal→Prop)(w:World)(e:Ending)(w':World):Prop:=∃u,e=.returned u∧∃v:FVal,u=v.val∧P w' v∧Below w.heap.size w w'
def Qaq(P:World→FVal→Prop):Prop:=∀w w' v,Below w.heap.size w w'→P w v→P w' v
def Qj9(P:World→List FVal→Prop):Prop:=∀w w' l,Below w.heap.size w w'→P w l→P w' l
def RowG(P:World→List FVal→Prop)(u:Value)(w:World):Prop:=∃g c,∃l:List FVal,u=.slice (some ⟨g,0,none⟩) (len l) c∧len l≤c∧FRow w g l∧P w l
theorem RowG.below{P:World→List FVal→Prop}(hP:Qj9 P){u:Value}{w w':World}(h:RowG P u w)(hb:Below w.heap.size w w'):RowG P u w':=by
 obtain⟨g,c,l,hu,hc,hF,hp⟩:=h
 exact⟨g,c,l,hu,hc,hF.below hb,hP _ _ _ hb hp⟩
def Qdi(P:World→List FVal→Prop)(w:World)(e:Ending)(w':World):Prop:=∃u,e=.returned u∧RowG P u w'∧Below w.heap.size w w'
def Qs6(P0 P1 P2 P3 P4:World→FVal→Prop):World→List FVal→Prop:=λ w l=>∃x0 x1 x2 x3 x4,l=[x0,x1,x2,x3,x4]∧P0 w x0∧P1 w x1∧P2 w x2∧P3 w x3∧P4 w x4
theorem Qit(sb so:Nat)(w:World)(P0 P1 P2 P3 P4:World→FVal→Prop)
  (hp0:∀w',Below w.heap.size w w'→Calls Tryz.prog 109 #[.string ⟨#[102]⟩,pt sb (so+2)] w' (Ji P0 w'))
  (hP0:Qaq P0)
  (hp1:∀w',Below w.heap.size w w'→Calls Tryz.prog 109 #[.string ⟨#[107]⟩,pt sb (so+4)] w' (Ji P1 w'))
  (hP1:Qaq P1)
  (hp2:∀w',Below w.heap.size w w'→Calls Tryz.prog 109 #[.string ⟨#[108]⟩,pt sb (so+3)] w' (Ji P2 w'))
  (hP2:Qaq P2)
  (hp3:∀w',Below w.heap.size w w'→Calls Tryz.prog 111 #[.string ⟨#[114]⟩,pt sb so] w' (Ji P3 w'))
  (hP3:Qaq P3)
  (hp4:∀w',Below w.heap.size w w'→Calls Tryz.prog 109 #[.string ⟨#[119]⟩,pt sb (so+1)] w' (Ji P4 w'))
  (hP4:Qaq P4):
  Calls Tryz.prog 62 #[pt sb so] w (Qdi (Qs6 P0 P1 P2 P3 P4) w):=by
 have HP0:=QLh hp0;have HP1:=QLh hp1;have HP2:=QLh hp2;have HP3:=QLh hp3;have HP4:=QLh hp4;clear hp0 hp1 hp2 hp3 hp4
 go_enter Tryz.func62,Tryz.ntmps62
 go_upto_region 1 with fail
 refine Qp 20 1000 (none) (Qaw [λ u _=>u=(pt sb so),λ u _=>u=(pt sb so),λ u _=>u=(pt sb (so+2)),λ u w'=>∃v:FVal,u=v.val∧P0 w' v,λ u _=>u=(pt sb so),λ u _=>u=(pt sb so),λ u _=>u=(pt sb (so+4)),λ u w'=>∃v:FVal,u=v.val∧P1 w' v,λ u _=>u=(pt sb so),λ u _=>u=(pt sb so),λ u _=>u=(pt sb (so+3)),λ u w'=>∃v:FVal,u=v.val∧P2 w' v,λ u _=>u=(pt sb so),λ u _=>u=(pt sb so),λ u _=>u=(pt sb so),λ u w'=>∃v:FVal,u=v.val∧P3 w' v,λ u _=>u=(pt sb so),λ u _=>u=(pt sb so),λ u _=>u=(pt sb (so+1)),λ u w'=>∃v:FVal,u=v.val∧P4 w' v]) rfl (by kernel_rfl) (by kernel_rfl) (Zb ⟨Qe,Qe,Qe,?m3,Qe,Qe,Qe,?m7,Qe,Qe,Qe,?m11,Qe,Qe,Qe,?m15,Qe,Qe,Qe,?m19,trivial⟩) (Q6 20 ⟨?s0,?s1,?s2,?s3,?s4,?s5,?s6,?s7,?s8,?s9,?s10,?s11,?s12,?s13,?s14,?s15,?s16,?s17,?s18,?s19,trivial⟩) ?_
 case m3=>
  exact⟨λ u w1 w2 h ⟨v,h1,h2⟩=>⟨v,h1,hP0 _ _ _ h h2⟩,λ _ u w1 w2 h ⟨v,h1,h2⟩=>⟨v,h1,hP0 _ _ _ (Qz h) h2⟩⟩
 case m7=>
  exact⟨λ u w1 w2 h ⟨v,h1,h2⟩=>⟨v,h1,hP1 _ _ _ h h2⟩,λ _ u w1 w2 h ⟨v,h1,h2⟩=>⟨v,h1,hP1 _ _ _ (Qz h) h2⟩⟩
 case m11=>
  exact⟨λ u w1 w2 h ⟨v,h1,h2⟩=>⟨v,h1,hP2 _ _ _ h h2⟩,λ _ u w1 w2 h ⟨v,h1,h2⟩=>⟨v,h1,hP2 _ _ _ (Qz h) h2⟩⟩
 case m15=>
  exact⟨λ u w1 w2 h ⟨v,h1,h2⟩=>⟨v,h1,hP3 _ _ _ h h2⟩,λ _ u w1 w2 h ⟨v,h1,h2⟩=>⟨v,h1,hP3 _ _ _ (Qz h) h2⟩⟩
 case m19=>
  exact⟨λ u w1 w2 h ⟨v,h1,h2⟩=>⟨v,h1,hP4 _ _ _ h h2⟩,λ _ u w1 w2 h ⟨v,h1,h2⟩=>⟨v,h1,hP4 _ _ _ (Qz h) h2⟩⟩
 case s0=>
  refine Qc (v:=(pt sb so)) (λ av wv hE hS hO hD=>?_) (λ _=>rfl)
  have f0:=QEf av 0 (pt sb so) (hO.2.2 0 rfl)
  refine⟨rfl,?_⟩
  simp[go_sem,f0]
 case s1=>
  refine Qc (v:=(pt sb so)) (λ av wv hE hS hO hD=>?_) (λ _=>rfl)
  have f3:=QEf av 3 (pt sb so) (hD.1 rfl _ rfl)
  refine⟨rfl,?_⟩
  simp[go_sem,f3]
 case s2=>
  refine Qc (v:=(pt sb (so+2))) (λ av wv hE hS hO hD=>?_) (λ _=>rfl)
  have f4:=QEf av 4 (pt sb so) (hD.1 rfl _ rfl)
  refine⟨rfl,?_⟩
  simp[go_sem,f4]
 case s3=>
  refine Qo (λ av wv hE hS hO hD=>?_)
  have f5:=QEf av 5 (pt sb (so+2)) (hD.1 rfl _ rfl)
  refine⟨rfl,?_⟩
  refine Qt (f:=109) (args:=#[.string ⟨#[102]⟩,pt sb (so+2)]) (by simp[go_sem,f5]) (HP0.out wv (Qx hE)) (λ u w2 ⟨v,hu,hs,hb⟩=>⟨u,rfl,Qm hb,v,hu,hs⟩)
 case s4=>
  refine Qc (v:=(pt sb so)) (λ av wv hE hS hO hD=>?_) (λ _=>rfl)
  have f0:=QEf av 0 (pt sb so) (hO.2.2 0 rfl)
  refine⟨rfl,?_⟩
  simp[go_sem,f0]
 case s5=>
  refine Qc (v:=(pt sb so)) (λ av wv hE hS hO hD=>?_) (λ _=>rfl)
  have f7:=QEf av 7 (pt sb so) (hD.1 rfl _ rfl)
  refine⟨rfl,?_⟩
  simp[go_sem,f7]
 case s6=>
  refine Qc (v:=(pt sb (so+4))) (λ av wv hE hS hO hD=>?_) (λ _=>rfl)
  have f8:=QEf av 8 (pt sb so) (hD.1 rfl _ rfl)
  refine⟨rfl,?_⟩
  simp[go_sem,f8]
 case s7=>
  refine Qo (λ av wv hE hS hO hD=>?_)
  have f9:=QEf av 9 (pt sb (so+4)) (hD.1 rfl _ rfl)
  refine⟨rfl,?_⟩
  refine Qt (f:=109) (args:=#[.string ⟨#[107]⟩,pt sb (so+4)]) (by simp[go_sem,f9]) (HP1.out wv (Qx hE)) (λ u w2 ⟨v,hu,hs,hb⟩=>⟨u,rfl,Qm hb,v,hu,hs⟩)
 case s8=>
  refine Qc (v:=(pt sb so)) (λ av wv hE hS hO hD=>?_) (λ _=>rfl)
  have f0:=QEf av 0 (pt sb so) (hO.2.2 0 rfl)
  refine⟨rfl,?_⟩
  simp[go_sem,f0]
 case s9=>
  refine Qc (v:=(pt sb so)) (λ av wv hE hS hO hD=>?_) (λ _=>rfl)
  have f11:=QEf av 11 (pt sb so) (hD.1 rfl _ rfl)
  refine⟨rfl,?_⟩
  simp[go_sem,f11]
 case s10=>
  refine Qc (v:=(pt sb (so+3))) (λ av wv hE hS hO hD=>?_) (λ _=>rfl)
  have f12:=QEf av 12 (pt sb so) (hD.1 rfl _ rfl)
  refine⟨rfl,?_⟩
  simp[go_sem,f12]
 case s11=>
  refine Qo (λ av wv hE hS hO hD=>?_)
  have f13:=QEf av 13 (pt sb (so+3)) (hD.1 rfl _ rfl)
  refine⟨rfl,?_⟩
  refine Qt (f:=109) (args:=#[.string ⟨#[108]⟩,pt sb (so+3)]) (by simp[go_sem,f13]) (HP2.out wv (Qx hE)) (λ u w2 ⟨v,hu,hs,hb⟩=>⟨u,rfl,Qm hb,v,hu,hs⟩)
 case s12=>
  refine Qc (v:=(pt sb so)) (λ av wv hE hS hO hD=>?_) (λ _=>rfl)
  have f0:=QEf av 0 (pt sb so) (hO.2.2 0 rfl)
  refine⟨rfl,?_⟩
  simp[go_sem,f0]
 case s13=>
  refine Qc (v:=(pt sb so)) (λ av wv hE hS hO hD=>?_) (λ _=>rfl)
  have f15:=QEf av 15 (pt sb so) (hD.1 rfl _ rfl)
  refine⟨rfl,?_⟩
  simp[go_sem,f15]
 case s14=>
  refine Qc (v:=(pt sb so)) (λ av wv hE hS hO hD=>?_) (λ _=>rfl)
  have f16:=QEf av 16 (pt sb so) (hD.1 rfl _ rfl)
  refine⟨rfl,?_⟩
  simp[go_sem,f16]
 case s15=>
  refine Qo (λ av wv hE hS hO hD=>?_)
  have f17:=QEf av 17 (pt sb so) (hD.1 rfl _ rfl)
  refine⟨rfl,?_⟩
  refine Qt (f:=111) (args:=#[.string ⟨#[114]⟩,pt sb so]) (by simp[go_sem,f17]) (HP3.out wv (Qx hE)) (λ u w2 ⟨v,hu,hs,hb⟩=>⟨u,rfl,Qm hb,v,hu,hs⟩)
 case s16=>
  refine Qc (v:=(pt sb so)) (λ av wv hE hS hO hD=>?_) (λ _=>rfl)
  have f0:=QEf av 0 (pt sb so) (hO.2.2 0 rfl)
  refine⟨rfl,?_⟩
  simp[go_sem,f0]
 case s17=>
  refine Qc (v:=(pt sb so)) (λ av wv hE hS hO hD=>?_) (λ _=>rfl)
  have f19:=QEf av 19 (pt sb so) (hD.1 rfl _ rfl)
  refine⟨rfl,?_⟩
  simp[go_sem,f19]
 case s18=>
  refine Qc (v:=(pt sb (so+1))) (λ av wv hE hS hO hD=>?_) (λ _=>rfl)
  have f20:=QEf av 20 (pt sb so) (hD.1 rfl _ rfl)
  refine⟨rfl,?_⟩
  simp[go_sem,f20]
 case s19=>
  refine Qo (λ av wv hE hS hO hD=>?_)
  have f21:=QEf av 21 (pt sb (so+1)) (hD.1 rfl _ rfl)
  refine⟨rfl,?_⟩
  refine Qt (f:=109) (args:=#[.string ⟨#[119]⟩,pt sb (so+1)]) (by simp[go_sem,f21]) (HP4.out wv (Qx hE)) (λ u w2 ⟨v,hu,hs,hb⟩=>⟨u,rfl,Qm hb,v,hu,hs⟩)
 intro a' w' hE hO hall
 have hA:=Ql (ds:=[3,4,5,6,7,8,9,10,11,12,13,14,15,16,17,18,19,20,21,22]) rfl hO (by kernel_rfl)
 obtain⟨j0,j1,j2,j3,j4,j5,j6,j7,j8,j9,j10,j11,j12,j13,j14,j15,j16,j17,j18,j19,_⟩:=hall
 have e3:a'.eval (.tmp 3)=(pt sb so):=j0 _ rfl;have e4:a'.eval (.tmp 4)=(pt sb so):=j1 _ rfl;have e5:a'.eval (.tmp 5)=(pt sb (so+2)):=j2 _ rfl;have e6:(λ u w'=>∃v:FVal,u=v.val∧P0 w' v) (a'.eval (.tmp 6)) w':=j3 _ rfl;have e7:a'.eval (.tmp 7)=(pt sb so):=j4 _ rfl;have e8:a'.eval (.tmp 8)=(pt sb so):=j5 _ rfl;have e9:a'.eval (.tmp 9)=(pt sb (so+4)):=j6 _ rfl;have e10:(λ u w'=>∃v:FVal,u=v.val∧P1 w' v) (a'.eval (.tmp 10)) w':=j7 _ rfl;have e11:a'.eval (.tmp 11)=(pt sb so):=j8 _ rfl;have e12:a'.eval (.tmp 12)=(pt sb so):=j9 _ rfl;have e13:a'.eval (.tmp 13)=(pt sb (so+3)):=j10 _ rfl;have e14:(λ u w'=>∃v:FVal,u=v.val∧P2 w' v) (a'.eval (.tmp 14)) w':=j11 _ rfl;have e15:a'.eval (.tmp 15)=(pt sb so):=j12 _ rfl;have e16:a'.eval (.tmp 16)=(pt sb so):=j13 _ rfl;have e17:a'.eval (.tmp 17)=(pt sb so):=j14 _ rfl;have e18:(λ u w'=>∃v:FVal,u=v.val∧P3 w' v) (a'.eval (.tmp 18)) w':=j15 _ rfl;have e19:a'.eval (.tmp 19)=(pt sb so):=j16 _ rfl;have e20:a'.eval (.tmp 20)=(pt sb so):=j17 _ rfl;have e21:a'.eval (.tmp 21)=(pt sb (so+1)):=j18 _ rfl;have e22:(λ u w'=>∃v:FVal,u=v.val∧P4 w' v) (a'.eval (.tmp 22)) w':=j19 _ rfl
 obtain⟨v6,hv6⟩:∃v,a'.eval (.tmp 6)=v:=⟨_,rfl⟩
 rw[hv6]at e6
 obtain⟨v10,hv10⟩:∃v,a'.eval (.tmp 10)=v:=⟨_,rfl⟩
 rw[hv10]at e10
 obtain⟨v14,hv14⟩:∃v,a'.eval (.tmp 14)=v:=⟨_,rfl⟩
 rw[hv14]at e14
 obtain⟨v18,hv18⟩:∃v,a'.eval (.tmp 18)=v:=⟨_,rfl⟩
 rw[hv18]at e18
 obtain⟨v22,hv22⟩:∃v,a'.eval (.tmp 22)=v:=⟨_,rfl⟩
 rw[hv22]at e22
 simp only[List.foldl_cons,List.foldl_nil,Act.put,List.setIfInBounds_toArray,List.set_cons_succ,List.set_cons_zero,e3,e4,e5,hv6,e7,e8,e9,hv10,e11,e12,e13,hv14,e15,e16,e17,hv18,e19,e20,e21,hv22]at hA
 clear hO j0 j1 j2 j3 j4 j5 j6 j7 j8 j9 j10 j11 j12 j13 j14 j15 j16 j17 j18 j19 e3 e4 e5 hv6 e7 e8 e9 hv10 e11 e12 e13 hv14 e15 e16 e17 hv18 e19 e20 e21 hv22
 subst hA
 obtain⟨x0,rfl,s0⟩:=e6
 obtain⟨x1,rfl,s1⟩:=e10
 obtain⟨x2,rfl,s2⟩:=e14
 obtain⟨x3,rfl,s3⟩:=e18
 obtain⟨x4,rfl,s4⟩:=e22
 have HSS:Hid (∀o,Qs6 P0 P1 P2 P3 P4 (w'.alloc o) [x0,x1,x2,x3,x4]):=QLh (λ o=>⟨x0,x1,x2,x3,x4,rfl,hP0 _ _ _ (Qh (Below.refl _ _) _) s0,hP1 _ _ _ (Qh (Below.refl _ _) _) s1,hP2 _ _ _ (Qh (Below.refl _ _) _) s2,hP3 _ _ _ (Qh (Below.refl _ _) _) s3,hP4 _ _ _ (Qh (Below.refl _ _) _) s4⟩);have HBW:Hid (Below w.heap.size w w'):=QLh (Qx hE);clear s0 s1 s2 s3 s4 hE
 unfold FVal.val
 go_wp2
 go_ret
 exact⟨_,rfl,⟨w'.heap.size,5,[x0,x1,x2,x3,x4],rfl,Nat.le_refl _,⟨Flds.block (l:=[x0,x1,x2,x3,x4]) (heap_alloc_new w' _),_,heap_alloc_new w' _⟩,HSS.out _⟩,Qk HBW.out (Qh (Below.refl _ _) _)⟩
def Qxx(P0 P1 P2:World→FVal→Prop):World→List FVal→Prop:=λ w l=>∃x0 x1 x2,l=[x0,x1,x2]∧P0 w x0∧P1 w x1∧P2 w x2
theorem Qka(sb so:Nat)(w:World)(P0 P1 P2:World→FVal→Prop)
  (hp0:∀w',Below w.heap.size w w'→Calls Tryz.prog 109 #[.string ⟨#[105]⟩,pt sb so] w' (Ji P0 w'))
  (hP0:Qaq P0)
  (hp1:∀w',Below w.heap.size w w'→Calls Tryz.prog 145 #[.string ⟨#[112]⟩,pt sb (so+2),.int .i64 16] w' (Ji P1 w'))
  (hP1:Qaq P1)
  (hp2:∀w',Below w.heap.size w w'→Calls Tryz.prog 145 #[.string ⟨#[118]⟩,pt sb (so+1),.int .i64 67] w' (Ji P2 w'))
  (hP2:Qaq P2):
  Calls Tryz.prog 108 #[pt sb so] w (Qdi (Qxx P0 P1 P2) w):=by
 have HP0:=QLh hp0;have HP1:=QLh hp1;have HP2:=QLh hp2;clear hp0 hp1 hp2
 go_enter Tryz.func108,Tryz.ntmps108
 go_upto_region 1 with fail
 refine Qp 12 1000 (none) (Qaw [λ u _=>u=(pt sb so),λ u _=>u=(pt sb so),λ u _=>u=(pt sb so),λ u w'=>∃v:FVal,u=v.val∧P0 w' v,λ u _=>u=(pt sb so),λ u _=>u=(pt sb so),λ u _=>u=(pt sb (so+2)),λ u w'=>∃v:FVal,u=v.val∧P1 w' v,λ u _=>u=(pt sb so),λ u _=>u=(pt sb so),λ u _=>u=(pt sb (so+1)),λ u w'=>∃v:FVal,u=v.val∧P2 w' v]) rfl (by kernel_rfl) (by kernel_rfl) (Zb ⟨Qe,Qe,Qe,?m3,Qe,Qe,Qe,?m7,Qe,Qe,Qe,?m11,trivial⟩) (Q6 12 ⟨?s0,?s1,?s2,?s3,?s4,?s5,?s6,?s7,?s8,?s9,?s10,?s11,trivial⟩) ?_
 case m3=>
  exact⟨λ u w1 w2 h ⟨v,h1,h2⟩=>⟨v,h1,hP0 _ _ _ h h2⟩,λ _ u w1 w2 h ⟨v,h1,h2⟩=>⟨v,h1,hP0 _ _ _ (Qz h) h2⟩⟩
 case m7=>
  exact⟨λ u w1 w2 h ⟨v,h1,h2⟩=>⟨v,h1,hP1 _ _ _ h h2⟩,λ _ u w1 w2 h ⟨v,h1,h2⟩=>⟨v,h1,hP1 _ _ _ (Qz h) h2⟩⟩
 case m11=>
  exact⟨λ u w1 w2 h ⟨v,h1,h2⟩=>⟨v,h1,hP2 _ _ _ h h2⟩,λ _ u w1 w2 h ⟨v,h1,h2⟩=>⟨v,h1,hP2 _ _ _ (Qz h) h2⟩⟩
 case s0=>
  refine Qc (v:=(pt sb so)) (λ av wv hE hS hO hD=>?_) (λ _=>rfl)
  have f0:=QEf av 0 (pt sb so) (hO.2.2 0 rfl)
  refine⟨rfl,?_⟩
  simp[go_sem,f0]
 case s1=>
  refine Qc (v:=(pt sb so)) (λ av wv hE hS hO hD=>?_) (λ _=>rfl)
  have f3:=QEf av 3 (pt sb so) (hD.1 rfl _ rfl)
  refine⟨rfl,?_⟩
  simp[go_sem,f3]
 case s2=>
  refine Qc (v:=(pt sb so)) (λ av wv hE hS hO hD=>?_) (λ _=>rfl)
  have f4:=QEf av 4 (pt sb so) (hD.1 rfl _ rfl)
  refine⟨rfl,?_⟩
  simp[go_sem,f4]
 case s3=>
  refine Qo (λ av wv hE hS hO hD=>?_)
  have f5:=QEf av 5 (pt sb so) (hD.1 rfl _ rfl)
  refine⟨rfl,?_⟩
  refine Qt (f:=109) (args:=#[.string ⟨#[105]⟩,pt sb so]) (by simp[go_sem,f5]) (HP0.out wv (Qx hE)) (λ u w2 ⟨v,hu,hs,hb⟩=>⟨u,rfl,Qm hb,v,hu,hs⟩)
 case s4=>
  refine Qc (v:=(pt sb so)) (λ av wv hE hS hO hD=>?_) (λ _=>rfl)
  have f0:=QEf av 0 (pt sb so) (hO.2.2 0 rfl)
  refine⟨rfl,?_⟩
  simp[go_sem,f0]
 case s5=>
  refine Qc (v:=(pt sb so)) (λ av wv hE hS hO hD=>?_) (λ _=>rfl)
  have f7:=QEf av 7 (pt sb so) (hD.1 rfl _ rfl)
  refine⟨rfl,?_⟩
  simp[go_sem,f7]
 case s6=>
  refine Qc (v:=(pt sb (so+2))) (λ av wv hE hS hO hD=>?_) (λ _=>rfl)
  have f8:=QEf av 8 (pt sb so) (hD.1 rfl _ rfl)
  refine⟨rfl,?_⟩
  simp[go_sem,f8]
 case s7=>
  refine Qo (λ av wv hE hS hO hD=>?_)
  have f9:=QEf av 9 (pt sb (so+2)) (hD.1 rfl _ rfl)
  refine⟨rfl,?_⟩
  refine Qt (f:=145) (args:=#[.string ⟨#[112]⟩,pt sb (so+2),.int .i64 16]) (by simp[go_sem,f9]) (HP1.out wv (Qx hE)) (λ u w2 ⟨v,hu,hs,hb⟩=>⟨u,rfl,Qm hb,v,hu,hs⟩)
 case s8=>
  refine Qc (v:=(pt sb so)) (λ av wv hE hS hO hD=>?_) (λ _=>rfl)
  have f0:=QEf av 0 (pt sb so) (hO.2.2 0 rfl)
  refine⟨rfl,?_⟩
  simp[go_sem,f0]
 case s9=>
  refine Qc (v:=(pt sb so)) (λ av wv hE hS hO hD=>?_) (λ _=>rfl)
  have f11:=QEf av 11 (pt sb so) (hD.1 rfl _ rfl)
  refine⟨rfl,?_⟩
  simp[go_sem,f11]
 case s10=>
  refine Qc (v:=(pt sb (so+1))) (λ av wv hE hS hO hD=>?_) (λ _=>rfl)
  have f12:=QEf av 12 (pt sb so) (hD.1 rfl _ rfl)
  refine⟨rfl,?_⟩
  simp[go_sem,f12]
 case s11=>
  refine Qo (λ av wv hE hS hO hD=>?_)
  have f13:=QEf av 13 (pt sb (so+1)) (hD.1 rfl _ rfl)
  refine⟨rfl,?_⟩
  refine Qt (f:=145) (args:=#[.string ⟨#[118]⟩,pt sb (so+1),.int .i64 67]) (by simp[go_sem,f13]) (HP2.out wv (Qx hE)) (λ u w2 ⟨v,hu,hs,hb⟩=>⟨u,rfl,Qm hb,v,hu,hs⟩)
 intro a' w' hE hO hall
 have hA:=Ql (ds:=[3,4,5,6,7,8,9,10,11,12,13,14]) rfl hO (by kernel_rfl);have e3:a'.eval (.tmp 3)=(pt sb so):=hall.1 _ rfl;have e4:a'.eval (.tmp 4)=(pt sb so):=hall.2.1 _ rfl;have e5:a'.eval (.tmp 5)=(pt sb so):=hall.2.2.1 _ rfl;have e6:(λ u w'=>∃v:FVal,u=v.val∧P0 w' v) (a'.eval (.tmp 6)) w':=hall.2.2.2.1 _ rfl;have e7:a'.eval (.tmp 7)=(pt sb so):=hall.2.2.2.2.1 _ rfl;have e8:a'.eval (.tmp 8)=(pt sb so):=hall.2.2.2.2.2.1 _ rfl;have e9:a'.eval (.tmp 9)=(pt sb (so+2)):=hall.2.2.2.2.2.2.1 _ rfl;have e10:(λ u w'=>∃v:FVal,u=v.val∧P1 w' v) (a'.eval (.tmp 10)) w':=hall.2.2.2.2.2.2.2.1 _ rfl;have e11:a'.eval (.tmp 11)=(pt sb so):=hall.2.2.2.2.2.2.2.2.1 _ rfl;have e12:a'.eval (.tmp 12)=(pt sb so):=hall.2.2.2.2.2.2.2.2.2.1 _ rfl;have e13:a'.eval (.tmp 13)=(pt sb (so+1)):=hall.2.2.2.2.2.2.2.2.2.2.1 _ rfl;have e14:(λ u w'=>∃v:FVal,u=v.val∧P2 w' v) (a'.eval (.tmp 14)) w':=hall.2.2.2.2.2.2.2.2.2.2.2.1 _ rfl
 obtain⟨v6,hv6⟩:∃v,a'.eval (.tmp 6)=v:=⟨_,rfl⟩
 rw[hv6]at e6
 obtain⟨v10,hv10⟩:∃v,a'.eval (.tmp 10)=v:=⟨_,rfl⟩
 rw[hv10]at e10
 obtain⟨v14,hv14⟩:∃v,a'.eval (.tmp 14)=v:=⟨_,rfl⟩
 rw[hv14]at e14
 simp only[List.foldl_cons,List.foldl_nil,Act.put,List.setIfInBounds_toArray,List.set_cons_succ,List.set_cons_zero,e3,e4,e5,hv6,e7,e8,e9,hv10,e11,e12,e13,hv14]at hA
 clear hO hall e3 e4 e5 hv6 e7 e8 e9 hv10 e11 e12 e13 hv14
 subst hA
 obtain⟨x0,rfl,s0⟩:=e6
 obtain⟨x1,rfl,s1⟩:=e10
 obtain⟨x2,rfl,s2⟩:=e14
 have HSS:Hid (∀o,Qxx P0 P1 P2 (w'.alloc o) [x0,x1,x2]):=QLh (λ o=>⟨x0,x1,x2,rfl,hP0 _ _ _ (Qh (Below.refl _ _) _) s0,hP1 _ _ _ (Qh (Below.refl _ _) _) s1,hP2 _ _ _ (Qh (Below.refl _ _) _) s2⟩);have HBW:Hid (Below w.heap.size w w'):=QLh (Qx hE);clear s0 s1 s2 hE
 unfold FVal.val
 go_wp2
 go_ret
 exact⟨_,rfl,⟨w'.heap.size,3,[x0,x1,x2],rfl,Nat.le_refl _,⟨Flds.block (l:=[x0,x1,x2]) (heap_alloc_new w' _),_,heap_alloc_new w' _⟩,HSS.out _⟩,Qk HBW.out (Qh (Below.refl _ _) _)⟩
def Qs7(P0 P1 P2:World→FVal→Prop):World→List FVal→Prop:=λ w l=>∃x0 x1 x2,l=[x0,x1,x2]∧P0 w x0∧P1 w x1∧P2 w x2
theorem Qiu(sb so:Nat)(w:World)(P0 P1 P2:World→FVal→Prop)(R0:World→List FVal→Prop)
  (hR0:Qj9 R0) (hr0:∀w',Below w.heap.size w w'→Calls Tryz.prog 108 #[pt sb (so+2)] w' (Qdi R0 w'))
  (hp0:∀w' g c l,Below w.heap.size w w'→FRow w' g l→len l≤c→R0 w' l→Calls Tryz.prog 107 #[.string ⟨#[103]⟩,.slice (some ⟨g,0,none⟩) (len l) c] w' (Ji P0 w'))
  (hP0:Qaq P0)
  (hp1:∀w',Below w.heap.size w w'→Calls Tryz.prog 109 #[.string ⟨#[108]⟩,pt sb so] w' (Ji P1 w'))
  (hP1:Qaq P1)
  (hp2:∀w',Below w.heap.size w w'→Calls Tryz.prog 110 #[.string ⟨#[115]⟩,pt sb (so+1)] w' (Ji P2 w'))
  (hP2:Qaq P2):
  Calls Tryz.prog 61 #[pt sb so] w (Qdi (Qs7 P0 P1 P2) w):=by
 have HR0:=QLh hr0;have HP0:=QLh hp0;have HP1:=QLh hp1;have HP2:=QLh hp2;clear hr0 hp0 hp1 hp2
 go_enter Tryz.func61,Tryz.ntmps61
 go_upto_region 1 with fail
 refine Qp 13 1000 (none) (Qaw [λ u _=>u=(pt sb so),λ u _=>u=(pt sb so),λ u _=>u=(pt sb (so+2)),λ u w'=>RowG R0 u w',λ u w'=>∃v:FVal,u=v.val∧P0 w' v,λ u _=>u=(pt sb so),λ u _=>u=(pt sb so),λ u _=>u=(pt sb so),λ u w'=>∃v:FVal,u=v.val∧P1 w' v,λ u _=>u=(pt sb so),λ u _=>u=(pt sb so),λ u _=>u=(pt sb (so+1)),λ u w'=>∃v:FVal,u=v.val∧P2 w' v]) rfl (by kernel_rfl) (by kernel_rfl) (Zb ⟨Qe,Qe,Qe,?m3,?m4,Qe,Qe,Qe,?m8,Qe,Qe,Qe,?m12,trivial⟩) (Q6 13 ⟨?s0,?s1,?s2,?s3,?s4,?s5,?s6,?s7,?s8,?s9,?s10,?s11,?s12,trivial⟩) ?_
 case m3=>
  exact⟨λ u w1 w2 h h1=>h1.below hR0 h,λ _ u w1 w2 h h1=>h1.below hR0 (Qz h)⟩
 case m4=>
  exact⟨λ u w1 w2 h ⟨v,h1,h2⟩=>⟨v,h1,hP0 _ _ _ h h2⟩,λ _ u w1 w2 h ⟨v,h1,h2⟩=>⟨v,h1,hP0 _ _ _ (Qz h) h2⟩⟩
 case m8=>
  exact⟨λ u w1 w2 h ⟨v,h1,h2⟩=>⟨v,h1,hP1 _ _ _ h h2⟩,λ _ u w1 w2 h ⟨v,h1,h2⟩=>⟨v,h1,hP1 _ _ _ (Qz h) h2⟩⟩
 case m12=>
  exact⟨λ u w1 w2 h ⟨v,h1,h2⟩=>⟨v,h1,hP2 _ _ _ h h2⟩,λ _ u w1 w2 h ⟨v,h1,h2⟩=>⟨v,h1,hP2 _ _ _ (Qz h) h2⟩⟩
 case s0=>
  refine Qc (v:=(pt sb so)) (λ av wv hE hS hO hD=>?_) (λ _=>rfl)
  have f0:=QEf av 0 (pt sb so) (hO.2.2 0 rfl)
  refine⟨rfl,?_⟩
  simp[go_sem,f0]
 case s1=>
  refine Qc (v:=(pt sb so)) (λ av wv hE hS hO hD=>?_) (λ _=>rfl)
  have f3:=QEf av 3 (pt sb so) (hD.1 rfl _ rfl)
  refine⟨rfl,?_⟩
  simp[go_sem,f3]
 case s2=>
  refine Qc (v:=(pt sb (so+2))) (λ av wv hE hS hO hD=>?_) (λ _=>rfl)
  have f4:=QEf av 4 (pt sb so) (hD.1 rfl _ rfl)
  refine⟨rfl,?_⟩
  simp[go_sem,f4]
 case s3=>
  refine Qo (λ av wv hE hS hO hD=>?_)
  have f5:=QEf av 5 (pt sb (so+2)) (hD.1 rfl _ rfl)
  refine⟨rfl,?_⟩
  refine Qt (f:=108) (args:=#[pt sb (so+2)]) (by simp[go_sem,f5]) (HR0.out wv (Qx hE)) (λ u w2 ⟨h1,hb⟩=>⟨u,rfl,Qm hb,h1⟩)
 case s4=>
  refine Qo (λ av wv hE hS hO hD=>?_)
  have d6:(λ u w'=>RowG R0 u w') (av.eval (.tmp 6)) wv:=hD.1 rfl _ rfl
  refine⟨rfl,?_⟩
  obtain⟨gg,cc,ll,hu,hc,hF,hp⟩:=d6
  have f6:=(Qq av 6).symm.trans hu
  refine Qt (f:=107) (args:=#[.string ⟨#[103]⟩,.slice (some ⟨gg,0,none⟩) (len ll) cc]) (by simp[go_sem,f6]) (HP0.out wv gg cc ll (Qx hE) hF hc hp) (λ u w2 ⟨v,hu,hs,hb⟩=>⟨u,rfl,Qm hb,v,hu,hs⟩)
 case s5=>
  refine Qc (v:=(pt sb so)) (λ av wv hE hS hO hD=>?_) (λ _=>rfl)
  have f0:=QEf av 0 (pt sb so) (hO.2.2 0 rfl)
  refine⟨rfl,?_⟩
  simp[go_sem,f0]
 case s6=>
  refine Qc (v:=(pt sb so)) (λ av wv hE hS hO hD=>?_) (λ _=>rfl)
  have f8:=QEf av 8 (pt sb so) (hD.1 rfl _ rfl)
  refine⟨rfl,?_⟩
  simp[go_sem,f8]
 case s7=>
  refine Qc (v:=(pt sb so)) (λ av wv hE hS hO hD=>?_) (λ _=>rfl)
  have f9:=QEf av 9 (pt sb so) (hD.1 rfl _ rfl)
  refine⟨rfl,?_⟩
  simp[go_sem,f9]
 case s8=>
  refine Qo (λ av wv hE hS hO hD=>?_)
  have f10:=QEf av 10 (pt sb so) (hD.1 rfl _ rfl)
  refine⟨rfl,?_⟩
  refine Qt (f:=109) (args:=#[.string ⟨#[108]⟩,pt sb so]) (by simp[go_sem,f10]) (HP1.out wv (Qx hE)) (λ u w2 ⟨v,hu,hs,hb⟩=>⟨u,rfl,Qm hb,v,hu,hs⟩)
 case s9=>
  refine Qc (v:=(pt sb so)) (λ av wv hE hS hO hD=>?_) (λ _=>rfl)
  have f0:=QEf av 0 (pt sb so) (hO.2.2 0 rfl)
  refine⟨rfl,?_⟩
  simp[go_sem,f0]
 case s10=>
  refine Qc (v:=(pt sb so)) (λ av wv hE hS hO hD=>?_) (λ _=>rfl)
  have f12:=QEf av 12 (pt sb so) (hD.1 rfl _ rfl)
  refine⟨rfl,?_⟩
  simp[go_sem,f12]
 case s11=>
  refine Qc (v:=(pt sb (so+1))) (λ av wv hE hS hO hD=>?_) (λ _=>rfl)
  have f13:=QEf av 13 (pt sb so) (hD.1 rfl _ rfl)
  refine⟨rfl,?_⟩
  simp[go_sem,f13]
 case s12=>
  refine Qo (λ av wv hE hS hO hD=>?_)
  have f14:=QEf av 14 (pt sb (so+1)) (hD.1 rfl _ rfl)
  refine⟨rfl,?_⟩
  refine Qt (f:=110) (args:=#[.string ⟨#[115]⟩,pt sb (so+1)]) (by simp[go_sem,f14]) (HP2.out wv (Qx hE)) (λ u w2 ⟨v,hu,hs,hb⟩=>⟨u,rfl,Qm hb,v,hu,hs⟩)
 intro a' w' hE hO hall
 have hA:=Ql (ds:=[3,4,5,6,7,8,9,10,11,12,13,14,15]) rfl hO (by kernel_rfl);have e3:a'.eval (.tmp 3)=(pt sb so):=hall.1 _ rfl;have e4:a'.eval (.tmp 4)=(pt sb so):=hall.2.1 _ rfl;have e5:a'.eval (.tmp 5)=(pt sb (so+2)):=hall.2.2.1 _ rfl;have e6:(λ u w'=>RowG R0 u w') (a'.eval (.tmp 6)) w':=hall.2.2.2.1 _ rfl;have e7:(λ u w'=>∃v:FVal,u=v.val∧P0 w' v) (a'.eval (.tmp 7)) w':=hall.2.2.2.2.1 _ rfl;have e8:a'.eval (.tmp 8)=(pt sb so):=hall.2.2.2.2.2.1 _ rfl;have e9:a'.eval (.tmp 9)=(pt sb so):=hall.2.2.2.2.2.2.1 _ rfl;have e10:a'.eval (.tmp 10)=(pt sb so):=hall.2.2.2.2.2.2.2.1 _ rfl;have e11:(λ u w'=>∃v:FVal,u=v.val∧P1 w' v) (a'.eval (.tmp 11)) w':=hall.2.2.2.2.2.2.2.2.1 _ rfl;have e12:a'.eval (.tmp 12)=(pt sb so):=hall.2.2.2.2.2.2.2.2.2.1 _ rfl;have e13:a'.eval (.tmp 13)=(pt sb so):=hall.2.2.2.2.2.2.2.2.2.2.1 _ rfl;have e14:a'.eval (.tmp 14)=(pt sb (so+1)):=hall.2.2.2.2.2.2.2.2.2.2.2.1 _ rfl;have e15:(λ u w'=>∃v:FVal,u=v.val∧P2 w' v) (a'.eval (.tmp 15)) w':=hall.2.2.2.2.2.2.2.2.2.2.2.2.1 _ rfl
 obtain⟨v6,hv6⟩:∃v,a'.eval (.tmp 6)=v:=⟨_,rfl⟩
 rw[hv6]at e6
 obtain⟨v7,hv7⟩:∃v,a'.eval (.tmp 7)=v:=⟨_,rfl⟩
 rw[hv7]at e7
 obtain⟨v11,hv11⟩:∃v,a'.eval (.tmp 11)=v:=⟨_,rfl⟩
 rw[hv11]at e11
 obtain⟨v15,hv15⟩:∃v,a'.eval (.tmp 15)=v:=⟨_,rfl⟩
 rw[hv15]at e15
 simp only[List.foldl_cons,List.foldl_nil,Act.put,List.setIfInBounds_toArray,List.set_cons_succ,List.set_cons_zero,e3,e4,e5,hv6,hv7,e8,e9,e10,hv11,e12,e13,e14,hv15]at hA
 clear hO hall e3 e4 e5 hv6 hv7 e8 e9 e10 hv11 e12 e13 e14 hv15
 subst hA
 obtain⟨x0,rfl,s0⟩:=e7
 obtain⟨x1,rfl,s1⟩:=e11
 obtain⟨x2,rfl,s2⟩:=e15
 have HSS:Hid (∀o,Qs7 P0 P1 P2 (w'.alloc o) [x0,x1,x2]):=QLh (λ o=>⟨x0,x1,x2,rfl,hP0 _ _ _ (Qh (Below.refl _ _) _) s0,hP1 _ _ _ (Qh (Below.refl _ _) _) s1,hP2 _ _ _ (Qh (Below.refl _ _) _) s2⟩);have HBW:Hid (Below w.heap.size w w'):=QLh (Qx hE);clear s0 s1 s2 hE
 unfold FVal.val
 go_wp2
 go_ret
 exact⟨_,rfl,⟨w'.heap.size,3,[x0,x1,x2],rfl,Nat.le_refl _,⟨Flds.block (l:=[x0,x1,x2]) (heap_alloc_new w' _),_,heap_alloc_new w' _⟩,HSS.out _⟩,Qk HBW.out (Qh (Below.refl _ _) _)⟩
def Qm0(P0 P1 P2:World→FVal→Prop):World→List FVal→Prop:=λ w l=>∃x0 x1 x2,l=[x0,x1,x2]∧P0 w x0∧P1 w x1∧P2 w x2
theorem Qfx(sb so:Nat)(w:World)(P0 P1 P2:World→FVal→Prop)(R1 R2:World→List FVal→Prop)
  (hp0:∀w',Below w.heap.size w w'→Calls Tryz.prog 109 #[.string ⟨#[112]⟩,pt sb so] w' (Ji P0 w'))
  (hP0:Qaq P0)
  (hR1:Qj9 R1) (hr1:∀w',Below w.heap.size w w'→Calls Tryz.prog 62 #[pt sb (so+6)] w' (Qdi R1 w'))
  (hp1:∀w' g c l,Below w.heap.size w w'→FRow w' g l→len l≤c→R1 w' l→Calls Tryz.prog 107 #[.string ⟨#[113]⟩,.slice (some ⟨g,0,none⟩) (len l) c] w' (Ji P1 w'))
  (hP1:Qaq P1)
  (hR2:Qj9 R2) (hr2:∀w',Below w.heap.size w w'→Calls Tryz.prog 61 #[pt sb (so+1)] w' (Qdi R2 w'))
  (hp2:∀w' g c l,Below w.heap.size w w'→FRow w' g l→len l≤c→R2 w' l→Calls Tryz.prog 107 #[.string ⟨#[115]⟩,.slice (some ⟨g,0,none⟩) (len l) c] w' (Ji P2 w'))
  (hP2:Qaq P2):
  Calls Tryz.prog 155 #[pt sb so] w (Qdi (Qm0 P0 P1 P2) w):=by
 have HP0:=QLh hp0;have HR1:=QLh hr1;have HP1:=QLh hp1;have HR2:=QLh hr2;have HP2:=QLh hp2;clear hp0 hr1 hp1 hr2 hp2
 go_enter Tryz.func155,Tryz.ntmps155
 go_upto_region 1 with fail
 refine Qp 14 1000 (none) (Qaw [λ u _=>u=(pt sb so),λ u _=>u=(pt sb so),λ u _=>u=(pt sb so),λ u w'=>∃v:FVal,u=v.val∧P0 w' v,λ u _=>u=(pt sb so),λ u _=>u=(pt sb so),λ u _=>u=(pt sb (so+6)),λ u w'=>RowG R1 u w',λ u w'=>∃v:FVal,u=v.val∧P1 w' v,λ u _=>u=(pt sb so),λ u _=>u=(pt sb so),λ u _=>u=(pt sb (so+1)),λ u w'=>RowG R2 u w',λ u w'=>∃v:FVal,u=v.val∧P2 w' v]) rfl (by kernel_rfl) (by kernel_rfl) (Zb ⟨Qe,Qe,Qe,?m3,Qe,Qe,Qe,?m7,?m8,Qe,Qe,Qe,?m12,?m13,trivial⟩) (Q6 14 ⟨?s0,?s1,?s2,?s3,?s4,?s5,?s6,?s7,?s8,?s9,?s10,?s11,?s12,?s13,trivial⟩) ?_
 case m3=>
  exact⟨λ u w1 w2 h ⟨v,h1,h2⟩=>⟨v,h1,hP0 _ _ _ h h2⟩,λ _ u w1 w2 h ⟨v,h1,h2⟩=>⟨v,h1,hP0 _ _ _ (Qz h) h2⟩⟩
 case m7=>
  exact⟨λ u w1 w2 h h1=>h1.below hR1 h,λ _ u w1 w2 h h1=>h1.below hR1 (Qz h)⟩
 case m8=>
  exact⟨λ u w1 w2 h ⟨v,h1,h2⟩=>⟨v,h1,hP1 _ _ _ h h2⟩,λ _ u w1 w2 h ⟨v,h1,h2⟩=>⟨v,h1,hP1 _ _ _ (Qz h) h2⟩⟩
 case m12=>
  exact⟨λ u w1 w2 h h1=>h1.below hR2 h,λ _ u w1 w2 h h1=>h1.below hR2 (Qz h)⟩
 case m13=>
  exact⟨λ u w1 w2 h ⟨v,h1,h2⟩=>⟨v,h1,hP2 _ _ _ h h2⟩,λ _ u w1 w2 h ⟨v,h1,h2⟩=>⟨v,h1,hP2 _ _ _ (Qz h) h2⟩⟩
 case s0=>
  refine Qc (v:=(pt sb so)) (λ av wv hE hS hO hD=>?_) (λ _=>rfl)
  have f0:=QEf av 0 (pt sb so) (hO.2.2 0 rfl)
  refine⟨rfl,?_⟩
  simp[go_sem,f0]
 case s1=>
  refine Qc (v:=(pt sb so)) (λ av wv hE hS hO hD=>?_) (λ _=>rfl)
  have f3:=QEf av 3 (pt sb so) (hD.1 rfl _ rfl)
  refine⟨rfl,?_⟩
  simp[go_sem,f3]
 case s2=>
  refine Qc (v:=(pt sb so)) (λ av wv hE hS hO hD=>?_) (λ _=>rfl)
  have f4:=QEf av 4 (pt sb so) (hD.1 rfl _ rfl)
  refine⟨rfl,?_⟩
  simp[go_sem,f4]
 case s3=>
  refine Qo (λ av wv hE hS hO hD=>?_)
  have f5:=QEf av 5 (pt sb so) (hD.1 rfl _ rfl)
  refine⟨rfl,?_⟩
  refine Qt (f:=109) (args:=#[.string ⟨#[112]⟩,pt sb so]) (by simp[go_sem,f5]) (HP0.out wv (Qx hE)) (λ u w2 ⟨v,hu,hs,hb⟩=>⟨u,rfl,Qm hb,v,hu,hs⟩)
 case s4=>
  refine Qc (v:=(pt sb so)) (λ av wv hE hS hO hD=>?_) (λ _=>rfl)
  have f0:=QEf av 0 (pt sb so) (hO.2.2 0 rfl)
  refine⟨rfl,?_⟩
  simp[go_sem,f0]
 case s5=>
  refine Qc (v:=(pt sb so)) (λ av wv hE hS hO hD=>?_) (λ _=>rfl)
  have f7:=QEf av 7 (pt sb so) (hD.1 rfl _ rfl)
  refine⟨rfl,?_⟩
  simp[go_sem,f7]
 case s6=>
  refine Qc (v:=(pt sb (so+6))) (λ av wv hE hS hO hD=>?_) (λ _=>rfl)
  have f8:=QEf av 8 (pt sb so) (hD.1 rfl _ rfl)
  refine⟨rfl,?_⟩
  simp[go_sem,f8]
 case s7=>
  refine Qo (λ av wv hE hS hO hD=>?_)
  have f9:=QEf av 9 (pt sb (so+6)) (hD.1 rfl _ rfl)
  refine⟨rfl,?_⟩
  refine Qt (f:=62) (args:=#[pt sb (so+6)]) (by simp[go_sem,f9]) (HR1.out wv (Qx hE)) (λ u w2 ⟨h1,hb⟩=>⟨u,rfl,Qm hb,h1⟩)
 case s8=>
  refine Qo (λ av wv hE hS hO hD=>?_)
  have d10:(λ u w'=>RowG R1 u w') (av.eval (.tmp 10)) wv:=hD.1 rfl _ rfl
  refine⟨rfl,?_⟩
  obtain⟨gg,cc,ll,hu,hc,hF,hp⟩:=d10
  have f10:=(Qq av 10).symm.trans hu
  refine Qt (f:=107) (args:=#[.string ⟨#[113]⟩,.slice (some ⟨gg,0,none⟩) (len ll) cc]) (by simp[go_sem,f10]) (HP1.out wv gg cc ll (Qx hE) hF hc hp) (λ u w2 ⟨v,hu,hs,hb⟩=>⟨u,rfl,Qm hb,v,hu,hs⟩)
 case s9=>
  refine Qc (v:=(pt sb so)) (λ av wv hE hS hO hD=>?_) (λ _=>rfl)
  have f0:=QEf av 0 (pt sb so) (hO.2.2 0 rfl)
  refine⟨rfl,?_⟩
  simp[go_sem,f0]
 case s10=>
  refine Qc (v:=(pt sb so)) (λ av wv hE hS hO hD=>?_) (λ _=>rfl)
  have f12:=QEf av 12 (pt sb so) (hD.1 rfl _ rfl)
  refine⟨rfl,?_⟩
  simp[go_sem,f12]
 case s11=>
  refine Qc (v:=(pt sb (so+1))) (λ av wv hE hS hO hD=>?_) (λ _=>rfl)
  have f13:=QEf av 13 (pt sb so) (hD.1 rfl _ rfl)
  refine⟨rfl,?_⟩
  simp[go_sem,f13]
 case s12=>
  refine Qo (λ av wv hE hS hO hD=>?_)
  have f14:=QEf av 14 (pt sb (so+1)) (hD.1 rfl _ rfl)
  refine⟨rfl,?_⟩
  refine Qt (f:=61) (args:=#[pt sb (so+1)]) (by simp[go_sem,f14]) (HR2.out wv (Qx hE)) (λ u w2 ⟨h1,hb⟩=>⟨u,rfl,Qm hb,h1⟩)
 case s13=>
  refine Qo (λ av wv hE hS hO hD=>?_)
  have d15:(λ u w'=>RowG R2 u w') (av.eval (.tmp 15)) wv:=hD.1 rfl _ rfl
  refine⟨rfl,?_⟩
  obtain⟨gg,cc,ll,hu,hc,hF,hp⟩:=d15
  have f15:=(Qq av 15).symm.trans hu
  refine Qt (f:=107) (args:=#[.string ⟨#[115]⟩,.slice (some ⟨gg,0,none⟩) (len ll) cc]) (by simp[go_sem,f15]) (HP2.out wv gg cc ll (Qx hE) hF hc hp) (λ u w2 ⟨v,hu,hs,hb⟩=>⟨u,rfl,Qm hb,v,hu,hs⟩)
 intro a' w' hE hO hall
 have hA:=Ql (ds:=[3,4,5,6,7,8,9,10,11,12,13,14,15,16]) rfl hO (by kernel_rfl);have e3:a'.eval (.tmp 3)=(pt sb so):=hall.1 _ rfl;have e4:a'.eval (.tmp 4)=(pt sb so):=hall.2.1 _ rfl;have e5:a'.eval (.tmp 5)=(pt sb so):=hall.2.2.1 _ rfl;have e6:(λ u w'=>∃v:FVal,u=v.val∧P0 w' v) (a'.eval (.tmp 6)) w':=hall.2.2.2.1 _ rfl;have e7:a'.eval (.tmp 7)=(pt sb so):=hall.2.2.2.2.1 _ rfl;have e8:a'.eval (.tmp 8)=(pt sb so):=hall.2.2.2.2.2.1 _ rfl;have e9:a'.eval (.tmp 9)=(pt sb (so+6)):=hall.2.2.2.2.2.2.1 _ rfl;have e10:(λ u w'=>RowG R1 u w') (a'.eval (.tmp 10)) w':=hall.2.2.2.2.2.2.2.1 _ rfl;have e11:(λ u w'=>∃v:FVal,u=v.val∧P1 w' v) (a'.eval (.tmp 11)) w':=hall.2.2.2.2.2.2.2.2.1 _ rfl;have e12:a'.eval (.tmp 12)=(pt sb so):=hall.2.2.2.2.2.2.2.2.2.1 _ rfl;have e13:a'.eval (.tmp 13)=(pt sb so):=hall.2.2.2.2.2.2.2.2.2.2.1 _ rfl;have e14:a'.eval (.tmp 14)=(pt sb (so+1)):=hall.2.2.2.2.2.2.2.2.2.2.2.1 _ rfl;have e15:(λ u w'=>RowG R2 u w') (a'.eval (.tmp 15)) w':=hall.2.2.2.2.2.2.2.2.2.2.2.2.1 _ rfl;have e16:(λ u w'=>∃v:FVal,u=v.val∧P2 w' v) (a'.eval (.tmp 16)) w':=hall.2.2.2.2.2.2.2.2.2.2.2.2.2.1 _ rfl
 obtain⟨v6,hv6⟩:∃v,a'.eval (.tmp 6)=v:=⟨_,rfl⟩
 rw[hv6]at e6
 obtain⟨v10,hv10⟩:∃v,a'.eval (.tmp 10)=v:=⟨_,rfl⟩
 rw[hv10]at e10
 obtain⟨v11,hv11⟩:∃v,a'.eval (.tmp 11)=v:=⟨_,rfl⟩
 rw[hv11]at e11
 obtain⟨v15,hv15⟩:∃v,a'.eval (.tmp 15)=v:=⟨_,rfl⟩
 rw[hv15]at e15
 obtain⟨v16,hv16⟩:∃v,a'.eval (.tmp 16)=v:=⟨_,rfl⟩
 rw[hv16]at e16
 simp only[List.foldl_cons,List.foldl_nil,Act.put,List.setIfInBounds_toArray,List.set_cons_succ,List.set_cons_zero,e3,e4,e5,hv6,e7,e8,e9,hv10,hv11,e12,e13,e14,hv15,hv16]at hA
 clear hO hall e3 e4 e5 hv6 e7 e8 e9 hv10 hv11 e12 e13 e14 hv15 hv16
 subst hA
 obtain⟨x0,rfl,s0⟩:=e6
 obtain⟨x1,rfl,s1⟩:=e11
 obtain⟨x2,rfl,s2⟩:=e16
 have HSS:Hid (∀o,Qm0 P0 P1 P2 (w'.alloc o) [x0,x1,x2]):=QLh (λ o=>⟨x0,x1,x2,rfl,hP0 _ _ _ (Qh (Below.refl _ _) _) s0,hP1 _ _ _ (Qh (Below.refl _ _) _) s1,hP2 _ _ _ (Qh (Below.refl _ _) _) s2⟩);have HBW:Hid (Below w.heap.size w w'):=QLh (Qx hE);clear s0 s1 s2 hE
 unfold FVal.val
 go_wp2
 go_ret
 exact⟨_,rfl,⟨w'.heap.size,3,[x0,x1,x2],rfl,Nat.le_refl _,⟨Flds.block (l:=[x0,x1,x2]) (heap_alloc_new w' _),_,heap_alloc_new w' _⟩,HSS.out _⟩,Qk HBW.out (Qh (Below.refl _ _) _)⟩
def Qs8(P0 P1 P2 P3 P4 P5:World→FVal→Prop):World→List FVal→Prop:=λ w l=>∃x0 x1 x2 x3 x4 x5,l=[x0,x1,x2,x3,x4,x5]∧P0 w x0∧P1 w x1∧P2 w x2∧P3 w x3∧P4 w x4∧P5 w x5
theorem Qiv(sb so:Nat)(w:World)(P0 P1 P2 P3 P4 P5:World→FVal→Prop)
  (hp0:∀w',Below w.heap.size w w'→Calls Tryz.prog 145 #[.string ⟨#[80]⟩,pt sb (so+5),.int .i64 10240] w' (Ji P0 w'))
  (hP0:Qaq P0)
  (hp1:∀w',Below w.heap.size w w'→Calls Tryz.prog 145 #[.string ⟨#[83]⟩,pt sb (so+4),.int .i64 10240] w' (Ji P1 w'))
  (hP1:Qaq P1)
  (hp2:∀w',Below w.heap.size w w'→Calls Tryz.prog 111 #[.string ⟨#[99]⟩,pt sb so] w' (Ji P2 w'))
  (hP2:Qaq P2)
  (hp3:∀w',Below w.heap.size w w'→Calls Tryz.prog 146 #[.string ⟨#[112]⟩,pt sb (so+3),.int .i64 640,.func (.func 147) #[] #[],.func (.func 148) #[] #[],.func (.func 150) #[] #[]] w' (Ji P3 w'))
  (hP3:Qaq P3)
  (hp4:∀w',Below w.heap.size w w'→Calls Tryz.prog 153 #[.string ⟨#[114]⟩,pt sb (so+2),.int .i64 640,.func (.func 154) #[] #[],.func (.func 156) #[] #[],.func (.func 157) #[] #[]] w' (Ji P4 w'))
  (hP4:Qaq P4)
  (hp5:∀w',Below w.heap.size w w'→Calls Tryz.prog 109 #[.string ⟨#[119]⟩,pt sb (so+1)] w' (Ji P5 w'))
  (hP5:Qaq P5):
  Calls Tryz.prog 93 #[pt sb so] w (Qdi (Qs8 P0 P1 P2 P3 P4 P5) w):=by
 have HP0:=QLh hp0;have HP1:=QLh hp1;have HP2:=QLh hp2;have HP3:=QLh hp3;have HP4:=QLh hp4;have HP5:=QLh hp5;clear hp0 hp1 hp2 hp3 hp4 hp5
 go_enter Tryz.func93,Tryz.ntmps93
 go_upto_region 1 with fail
 refine Qp 24 1000 (none) (Qaw [λ u _=>u=(pt sb so),λ u _=>u=(pt sb so),λ u _=>u=(pt sb (so+5)),λ u w'=>∃v:FVal,u=v.val∧P0 w' v,λ u _=>u=(pt sb so),λ u _=>u=(pt sb so),λ u _=>u=(pt sb (so+4)),λ u w'=>∃v:FVal,u=v.val∧P1 w' v,λ u _=>u=(pt sb so),λ u _=>u=(pt sb so),λ u _=>u=(pt sb so),λ u w'=>∃v:FVal,u=v.val∧P2 w' v,λ u _=>u=(pt sb so),λ u _=>u=(pt sb so),λ u _=>u=(pt sb (so+3)),λ u w'=>∃v:FVal,u=v.val∧P3 w' v,λ u _=>u=(pt sb so),λ u _=>u=(pt sb so),λ u _=>u=(pt sb (so+2)),λ u w'=>∃v:FVal,u=v.val∧P4 w' v,λ u _=>u=(pt sb so),λ u _=>u=(pt sb so),λ u _=>u=(pt sb (so+1)),λ u w'=>∃v:FVal,u=v.val∧P5 w' v]) rfl (by kernel_rfl) (by kernel_rfl) (Zb ⟨Qe,Qe,Qe,?m3,Qe,Qe,Qe,?m7,Qe,Qe,Qe,?m11,Qe,Qe,Qe,?m15,Qe,Qe,Qe,?m19,Qe,Qe,Qe,?m23,trivial⟩) (Q6 24 ⟨?s0,?s1,?s2,?s3,?s4,?s5,?s6,?s7,?s8,?s9,?s10,?s11,?s12,?s13,?s14,?s15,?s16,?s17,?s18,?s19,?s20,?s21,?s22,?s23,trivial⟩) ?_
 case m3=>
  exact⟨λ u w1 w2 h ⟨v,h1,h2⟩=>⟨v,h1,hP0 _ _ _ h h2⟩,λ _ u w1 w2 h ⟨v,h1,h2⟩=>⟨v,h1,hP0 _ _ _ (Qz h) h2⟩⟩
 case m7=>
  exact⟨λ u w1 w2 h ⟨v,h1,h2⟩=>⟨v,h1,hP1 _ _ _ h h2⟩,λ _ u w1 w2 h ⟨v,h1,h2⟩=>⟨v,h1,hP1 _ _ _ (Qz h) h2⟩⟩
 case m11=>
  exact⟨λ u w1 w2 h ⟨v,h1,h2⟩=>⟨v,h1,hP2 _ _ _ h h2⟩,λ _ u w1 w2 h ⟨v,h1,h2⟩=>⟨v,h1,hP2 _ _ _ (Qz h) h2⟩⟩
 case m15=>
  exact⟨λ u w1 w2 h ⟨v,h1,h2⟩=>⟨v,h1,hP3 _ _ _ h h2⟩,λ _ u w1 w2 h ⟨v,h1,h2⟩=>⟨v,h1,hP3 _ _ _ (Qz h) h2⟩⟩
 case m19=>
  exact⟨λ u w1 w2 h ⟨v,h1,h2⟩=>⟨v,h1,hP4 _ _ _ h h2⟩,λ _ u w1 w2 h ⟨v,h1,h2⟩=>⟨v,h1,hP4 _ _ _ (Qz h) h2⟩⟩
 case m23=>
  exact⟨λ u w1 w2 h ⟨v,h1,h2⟩=>⟨v,h1,hP5 _ _ _ h h2⟩,λ _ u w1 w2 h ⟨v,h1,h2⟩=>⟨v,h1,hP5 _ _ _ (Qz h) h2⟩⟩
 case s0=>
  refine Qc (v:=(pt sb so)) (λ av wv hE hS hO hD=>?_) (λ _=>rfl)
  have f0:=QEf av 0 (pt sb so) (hO.2.2 0 rfl)
  refine⟨rfl,?_⟩
  simp[go_sem,f0]
 case s1=>
  refine Qc (v:=(pt sb so)) (λ av wv hE hS hO hD=>?_) (λ _=>rfl)
  have f3:=QEf av 3 (pt sb so) (hD.1 rfl _ rfl)
  refine⟨rfl,?_⟩
  simp[go_sem,f3]
 case s2=>
  refine Qc (v:=(pt sb (so+5))) (λ av wv hE hS hO hD=>?_) (λ _=>rfl)
  have f4:=QEf av 4 (pt sb so) (hD.1 rfl _ rfl)
  refine⟨rfl,?_⟩
  simp[go_sem,f4]
 case s3=>
  refine Qo (λ av wv hE hS hO hD=>?_)
  have f5:=QEf av 5 (pt sb (so+5)) (hD.1 rfl _ rfl)
  refine⟨rfl,?_⟩
  refine Qt (f:=145) (args:=#[.string ⟨#[80]⟩,pt sb (so+5),.int .i64 10240]) (by simp[go_sem,f5]) (HP0.out wv (Qx hE)) (λ u w2 ⟨v,hu,hs,hb⟩=>⟨u,rfl,Qm hb,v,hu,hs⟩)
 case s4=>
  refine Qc (v:=(pt sb so)) (λ av wv hE hS hO hD=>?_) (λ _=>rfl)
  have f0:=QEf av 0 (pt sb so) (hO.2.2 0 rfl)
  refine⟨rfl,?_⟩
  simp[go_sem,f0]
 case s5=>
  refine Qc (v:=(pt sb so)) (λ av wv hE hS hO hD=>?_) (λ _=>rfl)
  have f7:=QEf av 7 (pt sb so) (hD.1 rfl _ rfl)
  refine⟨rfl,?_⟩
  simp[go_sem,f7]
 case s6=>
  refine Qc (v:=(pt sb (so+4))) (λ av wv hE hS hO hD=>?_) (λ _=>rfl)
  have f8:=QEf av 8 (pt sb so) (hD.1 rfl _ rfl)
  refine⟨rfl,?_⟩
  simp[go_sem,f8]
 case s7=>
  refine Qo (λ av wv hE hS hO hD=>?_)
  have f9:=QEf av 9 (pt sb (so+4)) (hD.1 rfl _ rfl)
  refine⟨rfl,?_⟩
  refine Qt (f:=145) (args:=#[.string ⟨#[83]⟩,pt sb (so+4),.int .i64 10240]) (by simp[go_sem,f9]) (HP1.out wv (Qx hE)) (λ u w2 ⟨v,hu,hs,hb⟩=>⟨u,rfl,Qm hb,v,hu,hs⟩)
 case s8=>
  refine Qc (v:=(pt sb so)) (λ av wv hE hS hO hD=>?_) (λ _=>rfl)
  have f0:=QEf av 0 (pt sb so) (hO.2.2 0 rfl)
  refine⟨rfl,?_⟩
  simp[go_sem,f0]
 case s9=>
  refine Qc (v:=(pt sb so)) (λ av wv hE hS hO hD=>?_) (λ _=>rfl)
  have f11:=QEf av 11 (pt sb so) (hD.1 rfl _ rfl)
  refine⟨rfl,?_⟩
  simp[go_sem,f11]
 case s10=>
  refine Qc (v:=(pt sb so)) (λ av wv hE hS hO hD=>?_) (λ _=>rfl)
  have f12:=QEf av 12 (pt sb so) (hD.1 rfl _ rfl)
  refine⟨rfl,?_⟩
  simp[go_sem,f12]
 case s11=>
  refine Qo (λ av wv hE hS hO hD=>?_)
  have f13:=QEf av 13 (pt sb so) (hD.1 rfl _ rfl)
  refine⟨rfl,?_⟩
  refine Qt (f:=111) (args:=#[.string ⟨#[99]⟩,pt sb so]) (by simp[go_sem,f13]) (HP2.out wv (Qx hE)) (λ u w2 ⟨v,hu,hs,hb⟩=>⟨u,rfl,Qm hb,v,hu,hs⟩)
 case s12=>
  refine Qc (v:=(pt sb so)) (λ av wv hE hS hO hD=>?_) (λ _=>rfl)
  have f0:=QEf av 0 (pt sb so) (hO.2.2 0 rfl)
  refine⟨rfl,?_⟩
  simp[go_sem,f0]
 case s13=>
  refine Qc (v:=(pt sb so)) (λ av wv hE hS hO hD=>?_) (λ _=>rfl)
  have f15:=QEf av 15 (pt sb so) (hD.1 rfl _ rfl)
  refine⟨rfl,?_⟩
  simp[go_sem,f15]
 case s14=>
  refine Qc (v:=(pt sb (so+3))) (λ av wv hE hS hO hD=>?_) (λ _=>rfl)
  have f16:=QEf av 16 (pt sb so) (hD.1 rfl _ rfl)
  refine⟨rfl,?_⟩
  simp[go_sem,f16]
 case s15=>
  refine Qo (λ av wv hE hS hO hD=>?_)
  have f17:=QEf av 17 (pt sb (so+3)) (hD.1 rfl _ rfl)
  refine⟨rfl,?_⟩
  refine Qt (f:=146) (args:=#[.string ⟨#[112]⟩,pt sb (so+3),.int .i64 640,.func (.func 147) #[] #[],.func (.func 148) #[] #[],.func (.func 150) #[] #[]]) (by simp[go_sem,f17]) (HP3.out wv (Qx hE)) (λ u w2 ⟨v,hu,hs,hb⟩=>⟨u,rfl,Qm hb,v,hu,hs⟩)
 case s16=>
  refine Qc (v:=(pt sb so)) (λ av wv hE hS hO hD=>?_) (λ _=>rfl)
  have f0:=QEf av 0 (pt sb so) (hO.2.2 0 rfl)
  refine⟨rfl,?_⟩
  simp[go_sem,f0]
 case s17=>
  refine Qc (v:=(pt sb so)) (λ av wv hE hS hO hD=>?_) (λ _=>rfl)
  have f19:=QEf av 19 (pt sb so) (hD.1 rfl _ rfl)
  refine⟨rfl,?_⟩
  simp[go_sem,f19]
 case s18=>
  refine Qc (v:=(pt sb (so+2))) (λ av wv hE hS hO hD=>?_) (λ _=>rfl)
  have f20:=QEf av 20 (pt sb so) (hD.1 rfl _ rfl)
  refine⟨rfl,?_⟩
  simp[go_sem,f20]
 case s19=>
  refine Qo (λ av wv hE hS hO hD=>?_)
  have f21:=QEf av 21 (pt sb (so+2)) (hD.1 rfl _ rfl)
  refine⟨rfl,?_⟩
  refine Qt (f:=153) (args:=#[.string ⟨#[114]⟩,pt sb (so+2),.int .i64 640,.func (.func 154) #[] #[],.func (.func 156) #[] #[],.func (.func 157) #[] #[]]) (by simp[go_sem,f21]) (HP4.out wv (Qx hE)) (λ u w2 ⟨v,hu,hs,hb⟩=>⟨u,rfl,Qm hb,v,hu,hs⟩)
 case s20=>
  refine Qc (v:=(pt sb so)) (λ av wv hE hS hO hD=>?_) (λ _=>rfl)
  have f0:=QEf av 0 (pt sb so) (hO.2.2 0 rfl)
  refine⟨rfl,?_⟩
  simp[go_sem,f0]
 case s21=>
  refine Qc (v:=(pt sb so)) (λ av wv hE hS hO hD=>?_) (λ _=>rfl)
  have f23:=QEf av 23 (pt sb so) (hD.1 rfl _ rfl)
  refine⟨rfl,?_⟩
  simp[go_sem,f23]
 case s22=>
  refine Qc (v:=(pt sb (so+1))) (λ av wv hE hS hO hD=>?_) (λ _=>rfl)
  have f24:=QEf av 24 (pt sb so) (hD.1 rfl _ rfl)
  refine⟨rfl,?_⟩
  simp[go_sem,f24]
 case s23=>
  refine Qo (λ av wv hE hS hO hD=>?_)
  have f25:=QEf av 25 (pt sb (so+1)) (hD.1 rfl _ rfl)
  refine⟨rfl,?_⟩
  refine Qt (f:=109) (args:=#[.string ⟨#[119]⟩,pt sb (so+1)]) (by simp[go_sem,f25]) (HP5.out wv (Qx hE)) (λ u w2 ⟨v,hu,hs,hb⟩=>⟨u,rfl,Qm hb,v,hu,hs⟩)
 intro a' w' hE hO hall
 have hA:=Ql (ds:=[3,4,5,6,7,8,9,10,11,12,13,14,15,16,17,18,19,20,21,22,23,24,25,26]) rfl hO (by kernel_rfl)
 obtain⟨j0,j1,j2,j3,j4,j5,j6,j7,j8,j9,j10,j11,j12,j13,j14,j15,j16,j17,j18,j19,j20,j21,j22,j23,_⟩:=hall
 have e3:a'.eval (.tmp 3)=(pt sb so):=j0 _ rfl;have e4:a'.eval (.tmp 4)=(pt sb so):=j1 _ rfl;have e5:a'.eval (.tmp 5)=(pt sb (so+5)):=j2 _ rfl;have e6:(λ u w'=>∃v:FVal,u=v.val∧P0 w' v) (a'.eval (.tmp 6)) w':=j3 _ rfl;have e7:a'.eval (.tmp 7)=(pt sb so):=j4 _ rfl;have e8:a'.eval (.tmp 8)=(pt sb so):=j5 _ rfl;have e9:a'.eval (.tmp 9)=(pt sb (so+4)):=j6 _ rfl;have e10:(λ u w'=>∃v:FVal,u=v.val∧P1 w' v) (a'.eval (.tmp 10)) w':=j7 _ rfl;have e11:a'.eval (.tmp 11)=(pt sb so):=j8 _ rfl;have e12:a'.eval (.tmp 12)=(pt sb so):=j9 _ rfl;have e13:a'.eval (.tmp 13)=(pt sb so):=j10 _ rfl;have e14:(λ u w'=>∃v:FVal,u=v.val∧P2 w' v) (a'.eval (.tmp 14)) w':=j11 _ rfl;have e15:a'.eval (.tmp 15)=(pt sb so):=j12 _ rfl;have e16:a'.eval (.tmp 16)=(pt sb so):=j13 _ rfl;have e17:a'.eval (.tmp 17)=(pt sb (so+3)):=j14 _ rfl;have e18:(λ u w'=>∃v:FVal,u=v.val∧P3 w' v) (a'.eval (.tmp 18)) w':=j15 _ rfl;have e19:a'.eval (.tmp 19)=(pt sb so):=j16 _ rfl;have e20:a'.eval (.tmp 20)=(pt sb so):=j17 _ rfl;have e21:a'.eval (.tmp 21)=(pt sb (so+2)):=j18 _ rfl;have e22:(λ u w'=>∃v:FVal,u=v.val∧P4 w' v) (a'.eval (.tmp 22)) w':=j19 _ rfl;have e23:a'.eval (.tmp 23)=(pt sb so):=j20 _ rfl;have e24:a'.eval (.tmp 24)=(pt sb so):=j21 _ rfl;have e25:a'.eval (.tmp 25)=(pt sb (so+1)):=j22 _ rfl;have e26:(λ u w'=>∃v:FVal,u=v.val∧P5 w' v) (a'.eval (.tmp 26)) w':=j23 _ rfl
 obtain⟨v6,hv6⟩:∃v,a'.eval (.tmp 6)=v:=⟨_,rfl⟩
 rw[hv6]at e6
 obtain⟨v10,hv10⟩:∃v,a'.eval (.tmp 10)=v:=⟨_,rfl⟩
 rw[hv10]at e10
 obtain⟨v14,hv14⟩:∃v,a'.eval (.tmp 14)=v:=⟨_,rfl⟩
 rw[hv14]at e14
 obtain⟨v18,hv18⟩:∃v,a'.eval (.tmp 18)=v:=⟨_,rfl⟩
 rw[hv18]at e18
 obtain⟨v22,hv22⟩:∃v,a'.eval (.tmp 22)=v:=⟨_,rfl⟩
 rw[hv22]at e22
 obtain⟨v26,hv26⟩:∃v,a'.eval (.tmp 26)=v:=⟨_,rfl⟩
 rw[hv26]at e26
 simp only[List.foldl_cons,List.foldl_nil,Act.put,List.setIfInBounds_toArray,List.set_cons_succ,List.set_cons_zero,e3,e4,e5,hv6,e7,e8,e9,hv10,e11,e12,e13,hv14,e15,e16,e17,hv18,e19,e20,e21,hv22,e23,e24,e25,hv26]at hA
 clear hO j0 j1 j2 j3 j4 j5 j6 j7 j8 j9 j10 j11 j12 j13 j14 j15 j16 j17 j18 j19 j20 j21 j22 j23 e3 e4 e5 hv6 e7 e8 e9 hv10 e11 e12 e13 hv14 e15 e16 e17 hv18 e19 e20 e21 hv22 e23 e24 e25 hv26
 subst hA
 obtain⟨x0,rfl,s0⟩:=e6
 obtain⟨x1,rfl,s1⟩:=e10
 obtain⟨x2,rfl,s2⟩:=e14
 obtain⟨x3,rfl,s3⟩:=e18
 obtain⟨x4,rfl,s4⟩:=e22
 obtain⟨x5,rfl,s5⟩:=e26
 have HSS:Hid (∀o,Qs8 P0 P1 P2 P3 P4 P5 (w'.alloc o) [x0,x1,x2,x3,x4,x5]):=QLh (λ o=>⟨x0,x1,x2,x3,x4,x5,rfl,hP0 _ _ _ (Qh (Below.refl _ _) _) s0,hP1 _ _ _ (Qh (Below.refl _ _) _) s1,hP2 _ _ _ (Qh (Below.refl _ _) _) s2,hP3 _ _ _ (Qh (Below.refl _ _) _) s3,hP4 _ _ _ (Qh (Below.refl _ _) _) s4,hP5 _ _ _ (Qh (Below.refl _ _) _) s5⟩);have HBW:Hid (Below w.heap.size w w'):=QLh (Qx hE);clear s0 s1 s2 s3 s4 s5 hE
 unfold FVal.val
 go_wp2
 go_ret
 exact⟨_,rfl,⟨w'.heap.size,6,[x0,x1,x2,x3,x4,x5],rfl,Nat.le_refl _,⟨Flds.block (l:=[x0,x1,x2,x3,x4,x5]) (heap_alloc_new w' _),_,heap_alloc_new w' _⟩,HSS.out _⟩,Qk HBW.out (Qh (Below.refl _ _) _)⟩
def Qxy(P0 P1 P2 P3 P4 P5:World→FVal→Prop):World→List FVal→Prop:=λ w l=>∃x0 x1 x2 x3 x4 x5,l=[x0,x1,x2,x3,x4,x5]∧P0 w x0∧P1 w x1∧P2 w x2∧P3 w x3∧P4 w x4∧P5 w x5
theorem Qqz(sb so:Nat)(w:World)(P0 P1 P2 P3 P4 P5:World→FVal→Prop)
  (hp0:∀w',Below w.heap.size w w'→Calls Tryz.prog 109 #[.string ⟨#[102]⟩,pt sb (so+4)] w' (Ji P0 w'))
  (hP0:Qaq P0)
  (hp1:∀w',Below w.heap.size w w'→Calls Tryz.prog 111 #[.string ⟨#[104]⟩,pt sb so] w' (Ji P1 w'))
  (hP1:Qaq P1)
  (hp2:∀w',Below w.heap.size w w'→Calls Tryz.prog 109 #[.string ⟨#[108]⟩,pt sb (so+5)] w' (Ji P2 w'))
  (hP2:Qaq P2)
  (hp3:∀w',Below w.heap.size w w'→Calls Tryz.prog 109 #[.string ⟨#[110]⟩,pt sb (so+2)] w' (Ji P3 w'))
  (hP3:Qaq P3)
  (hp4:∀w',Below w.heap.size w w'→Calls Tryz.prog 111 #[.string ⟨#[118]⟩,pt sb (so+1)] w' (Ji P4 w'))
  (hP4:Qaq P4)
  (hp5:∀w',Below w.heap.size w w'→Calls Tryz.prog 109 #[.string ⟨#[119]⟩,pt sb (so+3)] w' (Ji P5 w'))
  (hP5:Qaq P5):
  Calls Tryz.prog 80 #[pt sb so] w (Qdi (Qxy P0 P1 P2 P3 P4 P5) w):=by
 have HP0:=QLh hp0;have HP1:=QLh hp1;have HP2:=QLh hp2;have HP3:=QLh hp3;have HP4:=QLh hp4;have HP5:=QLh hp5;clear hp0 hp1 hp2 hp3 hp4 hp5
 go_enter Tryz.func80,Tryz.ntmps80
 go_upto_region 1 with fail
 refine Qp 24 1000 (none) (Qaw [λ u _=>u=(pt sb so),λ u _=>u=(pt sb so),λ u _=>u=(pt sb (so+4)),λ u w'=>∃v:FVal,u=v.val∧P0 w' v,λ u _=>u=(pt sb so),λ u _=>u=(pt sb so),λ u _=>u=(pt sb so),λ u w'=>∃v:FVal,u=v.val∧P1 w' v,λ u _=>u=(pt sb so),λ u _=>u=(pt sb so),λ u _=>u=(pt sb (so+5)),λ u w'=>∃v:FVal,u=v.val∧P2 w' v,λ u _=>u=(pt sb so),λ u _=>u=(pt sb so),λ u _=>u=(pt sb (so+2)),λ u w'=>∃v:FVal,u=v.val∧P3 w' v,λ u _=>u=(pt sb so),λ u _=>u=(pt sb so),λ u _=>u=(pt sb (so+1)),λ u w'=>∃v:FVal,u=v.val∧P4 w' v,λ u _=>u=(pt sb so),λ u _=>u=(pt sb so),λ u _=>u=(pt sb (so+3)),λ u w'=>∃v:FVal,u=v.val∧P5 w' v]) rfl (by kernel_rfl) (by kernel_rfl) (Zb ⟨Qe,Qe,Qe,?m3,Qe,Qe,Qe,?m7,Qe,Qe,Qe,?m11,Qe,Qe,Qe,?m15,Qe,Qe,Qe,?m19,Qe,Qe,Qe,?m23,trivial⟩) (Q6 24 ⟨?s0,?s1,?s2,?s3,?s4,?s5,?s6,?s7,?s8,?s9,?s10,?s11,?s12,?s13,?s14,?s15,?s16,?s17,?s18,?s19,?s20,?s21,?s22,?s23,trivial⟩) ?_
 case m3=>
  exact⟨λ u w1 w2 h ⟨v,h1,h2⟩=>⟨v,h1,hP0 _ _ _ h h2⟩,λ _ u w1 w2 h ⟨v,h1,h2⟩=>⟨v,h1,hP0 _ _ _ (Qz h) h2⟩⟩
 case m7=>
  exact⟨λ u w1 w2 h ⟨v,h1,h2⟩=>⟨v,h1,hP1 _ _ _ h h2⟩,λ _ u w1 w2 h ⟨v,h1,h2⟩=>⟨v,h1,hP1 _ _ _ (Qz h) h2⟩⟩
 case m11=>
  exact⟨λ u w1 w2 h ⟨v,h1,h2⟩=>⟨v,h1,hP2 _ _ _ h h2⟩,λ _ u w1 w2 h ⟨v,h1,h2⟩=>⟨v,h1,hP2 _ _ _ (Qz h) h2⟩⟩
 case m15=>
  exact⟨λ u w1 w2 h ⟨v,h1,h2⟩=>⟨v,h1,hP3 _ _ _ h h2⟩,λ _ u w1 w2 h ⟨v,h1,h2⟩=>⟨v,h1,hP3 _ _ _ (Qz h) h2⟩⟩
 case m19=>
  exact⟨λ u w1 w2 h ⟨v,h1,h2⟩=>⟨v,h1,hP4 _ _ _ h h2⟩,λ _ u w1 w2 h ⟨v,h1,h2⟩=>⟨v,h1,hP4 _ _ _ (Qz h) h2⟩⟩
 case m23=>
  exact⟨λ u w1 w2 h ⟨v,h1,h2⟩=>⟨v,h1,hP5 _ _ _ h h2⟩,λ _ u w1 w2 h ⟨v,h1,h2⟩=>⟨v,h1,hP5 _ _ _ (Qz h) h2⟩⟩
 case s0=>
  refine Qc (v:=(pt sb so)) (λ av wv hE hS hO hD=>?_) (λ _=>rfl)
  have f0:=QEf av 0 (pt sb so) (hO.2.2 0 rfl)
  refine⟨rfl,?_⟩
  simp[go_sem,f0]
 case s1=>
  refine Qc (v:=(pt sb so)) (λ av wv hE hS hO hD=>?_) (λ _=>rfl)
  have f3:=QEf av 3 (pt sb so) (hD.1 rfl _ rfl)
  refine⟨rfl,?_⟩
  simp[go_sem,f3]
 case s2=>
  refine Qc (v:=(pt sb (so+4))) (λ av wv hE hS hO hD=>?_) (λ _=>rfl)
  have f4:=QEf av 4 (pt sb so) (hD.1 rfl _ rfl)
  refine⟨rfl,?_⟩
  simp[go_sem,f4]
 case s3=>
  refine Qo (λ av wv hE hS hO hD=>?_)
  have f5:=QEf av 5 (pt sb (so+4)) (hD.1 rfl _ rfl)
  refine⟨rfl,?_⟩
  refine Qt (f:=109) (args:=#[.string ⟨#[102]⟩,pt sb (so+4)]) (by simp[go_sem,f5]) (HP0.out wv (Qx hE)) (λ u w2 ⟨v,hu,hs,hb⟩=>⟨u,rfl,Qm hb,v,hu,hs⟩)
 case s4=>
  refine Qc (v:=(pt sb so)) (λ av wv hE hS hO hD=>?_) (λ _=>rfl)
  have f0:=QEf av 0 (pt sb so) (hO.2.2 0 rfl)
  refine⟨rfl,?_⟩
  simp[go_sem,f0]
 case s5=>
  refine Qc (v:=(pt sb so)) (λ av wv hE hS hO hD=>?_) (λ _=>rfl)
  have f7:=QEf av 7 (pt sb so) (hD.1 rfl _ rfl)
  refine⟨rfl,?_⟩
  simp[go_sem,f7]
 case s6=>
  refine Qc (v:=(pt sb so)) (λ av wv hE hS hO hD=>?_) (λ _=>rfl)
  have f8:=QEf av 8 (pt sb so) (hD.1 rfl _ rfl)
  refine⟨rfl,?_⟩
  simp[go_sem,f8]
 case s7=>
  refine Qo (λ av wv hE hS hO hD=>?_)
  have f9:=QEf av 9 (pt sb so) (hD.1 rfl _ rfl)
  refine⟨rfl,?_⟩
  refine Qt (f:=111) (args:=#[.string ⟨#[104]⟩,pt sb so]) (by simp[go_sem,f9]) (HP1.out wv (Qx hE)) (λ u w2 ⟨v,hu,hs,hb⟩=>⟨u,rfl,Qm hb,v,hu,hs⟩)
 case s8=>
  refine Qc (v:=(pt sb so)) (λ av wv hE hS hO hD=>?_) (λ _=>rfl)
  have f0:=QEf av 0 (pt sb so) (hO.2.2 0 rfl)
  refine⟨rfl,?_⟩
  simp[go_sem,f0]
 case s9=>
  refine Qc (v:=(pt sb so)) (λ av wv hE hS hO hD=>?_) (λ _=>rfl)
  have f11:=QEf av 11 (pt sb so) (hD.1 rfl _ rfl)
  refine⟨rfl,?_⟩
  simp[go_sem,f11]
 case s10=>
  refine Qc (v:=(pt sb (so+5))) (λ av wv hE hS hO hD=>?_) (λ _=>rfl)
  have f12:=QEf av 12 (pt sb so) (hD.1 rfl _ rfl)
  refine⟨rfl,?_⟩
  simp[go_sem,f12]
 case s11=>
  refine Qo (λ av wv hE hS hO hD=>?_)
  have f13:=QEf av 13 (pt sb (so+5)) (hD.1 rfl _ rfl)
  refine⟨rfl,?_⟩
  refine Qt (f:=109) (args:=#[.string ⟨#[108]⟩,pt sb (so+5)]) (by simp[go_sem,f13]) (HP2.out wv (Qx hE)) (λ u w2 ⟨v,hu,hs,hb⟩=>⟨u,rfl,Qm hb,v,hu,hs⟩)
 case s12=>
  refine Qc (v:=(pt sb so)) (λ av wv hE hS hO hD=>?_) (λ _=>rfl)
  have f0:=QEf av 0 (pt sb so) (hO.2.2 0 rfl)
  refine⟨rfl,?_⟩
  simp[go_sem,f0]
 case s13=>
  refine Qc (v:=(pt sb so)) (λ av wv hE hS hO hD=>?_) (λ _=>rfl)
  have f15:=QEf av 15 (pt sb so) (hD.1 rfl _ rfl)
  refine⟨rfl,?_⟩
  simp[go_sem,f15]
 case s14=>
  refine Qc (v:=(pt sb (so+2))) (λ av wv hE hS hO hD=>?_) (λ _=>rfl)
  have f16:=QEf av 16 (pt sb so) (hD.1 rfl _ rfl)
  refine⟨rfl,?_⟩
  simp[go_sem,f16]
 case s15=>
  refine Qo (λ av wv hE hS hO hD=>?_)
  have f17:=QEf av 17 (pt sb (so+2)) (hD.1 rfl _ rfl)
  refine⟨rfl,?_⟩
  refine Qt (f:=109) (args:=#[.string ⟨#[110]⟩,pt sb (so+2)]) (by simp[go_sem,f17]) (HP3.out wv (Qx hE)) (λ u w2 ⟨v,hu,hs,hb⟩=>⟨u,rfl,Qm hb,v,hu,hs⟩)
 case s16=>
  refine Qc (v:=(pt sb so)) (λ av wv hE hS hO hD=>?_) (λ _=>rfl)
  have f0:=QEf av 0 (pt sb so) (hO.2.2 0 rfl)
  refine⟨rfl,?_⟩
  simp[go_sem,f0]
 case s17=>
  refine Qc (v:=(pt sb so)) (λ av wv hE hS hO hD=>?_) (λ _=>rfl)
  have f19:=QEf av 19 (pt sb so) (hD.1 rfl _ rfl)
  refine⟨rfl,?_⟩
  simp[go_sem,f19]
 case s18=>
  refine Qc (v:=(pt sb (so+1))) (λ av wv hE hS hO hD=>?_) (λ _=>rfl)
  have f20:=QEf av 20 (pt sb so) (hD.1 rfl _ rfl)
  refine⟨rfl,?_⟩
  simp[go_sem,f20]
 case s19=>
  refine Qo (λ av wv hE hS hO hD=>?_)
  have f21:=QEf av 21 (pt sb (so+1)) (hD.1 rfl _ rfl)
  refine⟨rfl,?_⟩
  refine Qt (f:=111) (args:=#[.string ⟨#[118]⟩,pt sb (so+1)]) (by simp[go_sem,f21]) (HP4.out wv (Qx hE)) (λ u w2 ⟨v,hu,hs,hb⟩=>⟨u,rfl,Qm hb,v,hu,hs⟩)
 case s20=>
  refine Qc (v:=(pt sb so)) (λ av wv hE hS hO hD=>?_) (λ _=>rfl)
  have f0:=QEf av 0 (pt sb so) (hO.2.2 0 rfl)
  refine⟨rfl,?_⟩
  simp[go_sem,f0]
 case s21=>
  refine Qc (v:=(pt sb so)) (λ av wv hE hS hO hD=>?_) (λ _=>rfl)
  have f23:=QEf av 23 (pt sb so) (hD.1 rfl _ rfl)
  refine⟨rfl,?_⟩
  simp[go_sem,f23]
 case s22=>
  refine Qc (v:=(pt sb (so+3))) (λ av wv hE hS hO hD=>?_) (λ _=>rfl)
  have f24:=QEf av 24 (pt sb so) (hD.1 rfl _ rfl)
  refine⟨rfl,?_⟩
  simp[go_sem,f24]
 case s23=>
  refine Qo (λ av wv hE hS hO hD=>?_)
  have f25:=QEf av 25 (pt sb (so+3)) (hD.1 rfl _ rfl)
  refine⟨rfl,?_⟩
  refine Qt (f:=109) (args:=#[.string ⟨#[119]⟩,pt sb (so+3)]) (by simp[go_sem,f25]) (HP5.out wv (Qx hE)) (λ u w2 ⟨v,hu,hs,hb⟩=>⟨u,rfl,Qm hb,v,hu,hs⟩)
 intro a' w' hE hO hall
 have hA:=Ql (ds:=[3,4,5,6,7,8,9,10,11,12,13,14,15,16,17,18,19,20,21,22,23,24,25,26]) rfl hO (by kernel_rfl)
 obtain⟨j0,j1,j2,j3,j4,j5,j6,j7,j8,j9,j10,j11,j12,j13,j14,j15,j16,j17,j18,j19,j20,j21,j22,j23,_⟩:=hall
 have e3:a'.eval (.tmp 3)=(pt sb so):=j0 _ rfl;have e4:a'.eval (.tmp 4)=(pt sb so):=j1 _ rfl;have e5:a'.eval (.tmp 5)=(pt sb (so+4)):=j2 _ rfl;have e6:(λ u w'=>∃v:FVal,u=v.val∧P0 w' v) (a'.eval (.tmp 6)) w':=j3 _ rfl;have e7:a'.eval (.tmp 7)=(pt sb so):=j4 _ rfl;have e8:a'.eval (.tmp 8)=(pt sb so):=j5 _ rfl;have e9:a'.eval (.tmp 9)=(pt sb so):=j6 _ rfl;have e10:(λ u w'=>∃v:FVal,u=v.val∧P1 w' v) (a'.eval (.tmp 10)) w':=j7 _ rfl;have e11:a'.eval (.tmp 11)=(pt sb so):=j8 _ rfl;have e12:a'.eval (.tmp 12)=(pt sb so):=j9 _ rfl;have e13:a'.eval (.tmp 13)=(pt sb (so+5)):=j10 _ rfl;have e14:(λ u w'=>∃v:FVal,u=v.val∧P2 w' v) (a'.eval (.tmp 14)) w':=j11 _ rfl;have e15:a'.eval (.tmp 15)=(pt sb so):=j12 _ rfl;have e16:a'.eval (.tmp 16)=(pt sb so):=j13 _ rfl;have e17:a'.eval (.tmp 17)=(pt sb (so+2)):=j14 _ rfl;have e18:(λ u w'=>∃v:FVal,u=v.val∧P3 w' v) (a'.eval (.tmp 18)) w':=j15 _ rfl;have e19:a'.eval (.tmp 19)=(pt sb so):=j16 _ rfl;have e20:a'.eval (.tmp 20)=(pt sb so):=j17 _ rfl;have e21:a'.eval (.tmp 21)=(pt sb (so+1)):=j18 _ rfl;have e22:(λ u w'=>∃v:FVal,u=v.val∧P4 w' v) (a'.eval (.tmp 22)) w':=j19 _ rfl;have e23:a'.eval (.tmp 23)=(pt sb so):=j20 _ rfl;have e24:a'.eval (.tmp 24)=(pt sb so):=j21 _ rfl;have e25:a'.eval (.tmp 25)=(pt sb (so+3)):=j22 _ rfl;have e26:(λ u w'=>∃v:FVal,u=v.val∧P5 w' v) (a'.eval (.tmp 26)) w':=j23 _ rfl
 obtain⟨v6,hv6⟩:∃v,a'.eval (.tmp 6)=v:=⟨_,rfl⟩
 rw[hv6]at e6
 obtain⟨v10,hv10⟩:∃v,a'.eval (.tmp 10)=v:=⟨_,rfl⟩
 rw[hv10]at e10
 obtain⟨v14,hv14⟩:∃v,a'.eval (.tmp 14)=v:=⟨_,rfl⟩
 rw[hv14]at e14
 obtain⟨v18,hv18⟩:∃v,a'.eval (.tmp 18)=v:=⟨_,rfl⟩
 rw[hv18]at e18
 obtain⟨v22,hv22⟩:∃v,a'.eval (.tmp 22)=v:=⟨_,rfl⟩
 rw[hv22]at e22
 obtain⟨v26,hv26⟩:∃v,a'.eval (.tmp 26)=v:=⟨_,rfl⟩
 rw[hv26]at e26
 simp only[List.foldl_cons,List.foldl_nil,Act.put,List.setIfInBounds_toArray,List.set_cons_succ,List.set_cons_zero,e3,e4,e5,hv6,e7,e8,e9,hv10,e11,e12,e13,hv14,e15,e16,e17,hv18,e19,e20,e21,hv22,e23,e24,e25,hv26]at hA
 clear hO j0 j1 j2 j3 j4 j5 j6 j7 j8 j9 j10 j11 j12 j13 j14 j15 j16 j17 j18 j19 j20 j21 j22 j23 e3 e4 e5 hv6 e7 e8 e9 hv10 e11 e12 e13 hv14 e15 e16 e17 hv18 e19 e20 e21 hv22 e23 e24 e25 hv26
 subst hA
 obtain⟨x0,rfl,s0⟩:=e6
 obtain⟨x1,rfl,s1⟩:=e10
 obtain⟨x2,rfl,s2⟩:=e14
 obtain⟨x3,rfl,s3⟩:=e18
 obtain⟨x4,rfl,s4⟩:=e22
 obtain⟨x5,rfl,s5⟩:=e26
 have HSS:Hid (∀o,Qxy P0 P1 P2 P3 P4 P5 (w'.alloc o) [x0,x1,x2,x3,x4,x5]):=QLh (λ o=>⟨x0,x1,x2,x3,x4,x5,rfl,hP0 _ _ _ (Qh (Below.refl _ _) _) s0,hP1 _ _ _ (Qh (Below.refl _ _) _) s1,hP2 _ _ _ (Qh (Below.refl _ _) _) s2,hP3 _ _ _ (Qh (Below.refl _ _) _) s3,hP4 _ _ _ (Qh (Below.refl _ _) _) s4,hP5 _ _ _ (Qh (Below.refl _ _) _) s5⟩);have HBW:Hid (Below w.heap.size w w'):=QLh (Qx hE);clear s0 s1 s2 s3 s4 s5 hE
 unfold FVal.val
 go_wp2
 go_ret
 exact⟨_,rfl,⟨w'.heap.size,6,[x0,x1,x2,x3,x4,x5],rfl,Nat.le_refl _,⟨Flds.block (l:=[x0,x1,x2,x3,x4,x5]) (heap_alloc_new w' _),_,heap_alloc_new w' _⟩,HSS.out _⟩,Qk HBW.out (Qh (Below.refl _ _) _)⟩
structure TEnv(B qb rb tb n:Nat)(T:TypeId)(w:World):Prop where
 rd:∃cs,w.heap[rb]?=some (.cells cs 275 (0,0))
 th:∃cs,w.heap[tb]?=some (.cells cs T (0,0))
 ne:tb≠rb
 nq:qb≠tb
 le:B≤tb
 t8:T≠5
 tf:T≠172
theorem TEnv.below{B qb rb tb n:Nat}{T:TypeId}{w w':World}(h:TEnv B qb rb tb n T w)(hb:Below w.heap.size w w'):TEnv B qb rb tb n T w':=by
 obtain⟨cs,h1⟩:=h.rd
 obtain⟨ct,h2⟩:=h.th
 exact⟨⟨cs,(hb.block _ (lt_of_block h1)).trans h1⟩,⟨ct,(hb.block _ (lt_of_block h2)).trans h2⟩,h.ne,h.nq,h.le,h.t8,h.tf⟩
theorem TEnv.rlt{B qb rb tb n:Nat}{T:TypeId}{w:World}(h:TEnv B qb rb tb n T w):rb<w.heap.size:=by obtain⟨cs,h1⟩:=h.rd;exact lt_of_block h1
theorem TEnv.tlt{B qb rb tb n:Nat}{T:TypeId}{w:World}(h:TEnv B qb rb tb n T w):tb<w.heap.size:=by obtain⟨cs,h1⟩:=h.th;exact lt_of_block h1
theorem TEnv.apart{B qb rb tb n:Nat}{T:TypeId}{w:World}(h:TEnv B qb rb tb n T w){g:Nat}(hg:∃cs,w.heap[g]?=some (.cells cs 172 (0,0))):g≠rb∧g≠tb:=by
 obtain⟨cs,h1⟩:=h.rd
 obtain⟨ct,h2⟩:=h.th
 obtain⟨cg,h3⟩:=hg
 refine⟨λ e=>?_,λ e=>?_⟩
 ·subst e;rw[h1]at h3;cases h3
 ·subst e;rw[h2]at h3;cases h3;exact h.tf rfl
theorem RecAt.cellAt{B rb tb:Nat}{T:TypeId}{n:Nat}{w:World}{x:Rcd}(h:RecAt rb tb T n w x)(hT:T≠5){o:Nat}(ho:o<n):∃v,CellAt B w tb o v∧HoldsD rb tb w v (x o):=by
 obtain⟨cs,h1,h2,h3⟩:=h
 obtain⟨v,h4,h5⟩:=h3 o ho
 exact⟨v,Qr h1 hT h4,h5⟩
theorem Kd.strs{x0 x:Rcd}(h:Kd x0 x){o:Nat}(h0:Zj (x0 o)=3):∃n,x o=.strs n:=by
 have:=(h o).trans h0
 cases hx:x o <;> rw[hx]at this <;> first | exact⟨_,rfl⟩ | cases this
theorem Kd.nums{x0 x:Rcd}(h:Kd x0 x){o:Nat}(h0:Zj (x0 o)=4):∃n,x o=.nums n:=by
 have:=(h o).trans h0
 cases hx:x o <;> rw[hx]at this <;> first | exact⟨_,rfl⟩ | cases this
theorem Kd.revs{x0 x:Rcd}(h:Kd x0 x){o:Nat}(h0:Zj (x0 o)=5):∃n,x o=.revs n:=by
 have:=(h o).trans h0
 cases hx:x o <;> rw[hx]at this <;> first | exact⟨_,rfl⟩ | cases this
section
variable {B qb rb tb n:Nat} {T:TypeId} {w:World} {x0:Rcd} {s:ByteArray}
theorem Qv2{lo:Nat}{key:ByteArray}{o:Nat}{v:FVal}(E:TEnv B qb rb tb n T w)(h:NumS w lo key tb o v)(hr:rb<lo)(ht:tb<lo)(ho:o<n)(h0:Zj (x0 o)=0):GSem B qb rb tb x0 T n s w v (Qbl s key o):=by
 obtain⟨bx,hlo,hb,rfl⟩:=h
 have hbk:∀w',Chg rb tb w w'→w'.heap[bx]?=some (.cells #[pt tb o] 177 (0,0)):=λ w' hc=>(hc.block bx (lt_of_block hb) (by omega) (by omega)).trans hb
 refine⟨rfl,rfl,enters_of Tryz.func183 (by kernel_rfl) rfl,enters_of Tryz.func186 (by kernel_rfl) rfl,λ w' x hc hx hk=>?_,λ w' x a hc hx he hf hk=>Qvs B qb rb tb o bx T n s key a x w' (hbk w' hc) (by omega) E.ne ho hx he⟩
 obtain⟨m,hm⟩:=hk.num h0
 obtain⟨u,hu,hv⟩:=hx.cellAt (B:=B) E.t8 ho
 rw[hm]at hv
 obtain rfl:u=.int .u64 m:=hv
 show Calls Tryz.prog _ _ _ λ e w''=>e=.returned (.bool (Qae (x o)))∧Below w'.heap.size w' w''
 rw[hm]
 exact Qk7 B bx tb o m w' (Qr (hbk w' hc) (by decide) rfl) hu
theorem Qs9{lo:Nat}{key:ByteArray}{o:Nat}{v:FVal}(E:TEnv B qb rb tb n T w)(h:Q0k w lo key tb o v)(hr:rb<lo)(ht:tb<lo)(ho:o<n)(h0:Zj (x0 o)=1):GSem B qb rb tb x0 T n s w v (Qam s key o):=by
 obtain⟨bx,hlo,hb,rfl⟩:=h
 have hbk:∀w',Chg rb tb w w'→w'.heap[bx]?=some (.cells #[pt tb o] 179 (0,0)):=λ w' hc=>(hc.block bx (lt_of_block hb) (by omega) (by omega)).trans hb
 refine⟨rfl,rfl,enters_of Tryz.func187 (by kernel_rfl) rfl,enters_of Tryz.func189 (by kernel_rfl) rfl,λ w' x hc hx hk=>?_,λ w' x a hc hx he hf hk=>Qsq B qb rb tb o bx T n s key a x w' (hbk w' hc) (by omega) E.ne ho hx he⟩
 obtain⟨m,hm⟩:=hk.flag h0
 obtain⟨u,hu,hv⟩:=hx.cellAt (B:=B) E.t8 ho
 rw[hm]at hv
 obtain rfl:u=.bool m:=hv
 show Calls Tryz.prog _ _ _ λ e w''=>e=.returned (.bool (Qae (x o)))∧Below w'.heap.size w' w''
 rw[hm]
 exact Qim B bx tb o m w' (Qr (hbk w' hc) (by decide) rfl) hu
theorem Qv3{lo:Nat}{key:ByteArray}{o:Nat}{v:FVal}(E:TEnv B qb rb tb n T w)(h:DigS w lo key tb o v)(hr:rb<lo)(ht:tb<lo)(ho:o<n):GSem B qb rb tb x0 T n s w v (Qb4 s key o):=by
 obtain⟨bx,hlo,hb,rfl⟩:=h
 have hbk:∀w',Chg rb tb w w'→w'.heap[bx]?=some (.cells #[pt tb o] 181 (0,0)):=λ w' hc=>(hc.block bx (lt_of_block hb) (by omega) (by omega)).trans hb
 exact⟨rfl,rfl,enters_of Tryz.func190 (by kernel_rfl) rfl,enters_of Tryz.func194 (by kernel_rfl) rfl,λ w' x hc hx hk=>Qe4 w',λ w' x a hc hx he hf hk=>Qn8 B qb rb tb o bx T n s key a x w' (hbk w' hc) (by omega) E.ne ho hx he⟩
end
theorem Qq0{B qb rb tb n:Nat}{T:TypeId}{w:World}{x0:Rcd}{s:ByteArray}{lo:Nat}{key:ByteArray}{o most:Nat}{v:FVal}{rd:Nat→Except Flt (ByteArray × Nat)}(E:TEnv B qb rb tb n T w)(h:Qs4 w lo key tb o most v)(hr:rb<lo)(ht:tb<lo)(ho:o<n)(hm:most≤10240)(h0:x0 o=.strs [])
  (hget:∀w' xb a',Chg rb tb w w'→w.heap.size≤xb→w'.heap[xb]?=some (.cells #[.string ⟨#[]⟩] 9 (0,0))→RdEnv B w' qb rb s a'→Calls Tryz.prog 213 #[pt qb 0,pt xb 0] w' (Qsr (rd a') (λ y _ c=>c=#[.string y]) rb xb 9 s w')):GSem B qb rb tb x0 T n s w v (Xh s key o most .strs rd):=by
 obtain⟨bx,hlo,hb,rfl⟩:=h
 have hch:∀w' b y,Chg rb tb w w'→bx≤b→w.heap[b]?=some y→w'.heap[b]?=some y:=λ w' b y hc hle hy=>(hc.block b (lt_of_block hy) (by omega) (by omega)).trans hy
 refine⟨rfl,rfl,enters_of Tryz.func247 (by kernel_rfl) rfl,enters_of Tryz.func252 (by kernel_rfl) rfl,λ w' x hc hx hk=>?_,λ w' x a hc hx he hf hk=>?_⟩
 ·obtain⟨m,hm⟩:=hk.strs (show Zj (x0 o)=_ by rw[h0];rfl)
  obtain⟨u,hu,hv⟩:=hx.cellAt (B:=B) E.t8 ho
  rw[hm]at hv
  obtain⟨za,zc,rfl,-⟩:=hv
  show Calls Tryz.prog _ _ _ λ e w''=>e=.returned (.bool (Qae (x o)))∧Below w'.heap.size w' w''
  rw[hm]
  refine(Qip B bx tb o (len m) zc za w' (Qr (hch w' _ _ hc (Nat.le_refl _) hb.b0) (by decide) rfl) hu).mono λ e w'' ⟨h1,h2⟩=>⟨h1.trans ?_,h2⟩
  congr 2
 ·have hx1:x o=.strs []:=(hf o (by simp[Xh])).trans h0
  exact Qqp B qb rb tb o bx (bx+1) (bx+1+1+1+1) 213 most #[] x0 T n s key a x w' rd (hch w' _ _ hc (Nat.le_refl _) hb.b0) (hch w' _ _ hc (by omega) hb.b1) ⟨_,hch w' _ _ hc (by omega) hb.b4⟩ ⟨by omega,by omega⟩ ⟨by omega,by omega⟩ E.ne E.nq E.le ho hm (enters_of Tryz.func213 (by kernel_rfl) rfl)
   (λ w2 xb a' hc2 hxb hx2 he2=>hget w2 xb a' (hc.trans hc2) (Nat.le_trans hc.size hxb) hx2 he2) hx hx1 he
theorem Qkb(B b7 pb po n c:Nat)(a:Option Addr)(w:World)(h1:CellAt B w b7 0 (pt pb po))(h2:CellAt B w pb po (.slice a n c)):Calls Tryz.prog 214 #[pt b7 0] w λ e w'=>e=.returned (.bool (decide (n=0)))∧Below w.heap.size w w':=by
 have c1:=h1.cell;have c2:=h2.cell;have HE:Hid (((n:Int) == 0)=decide (n=0)):=QLh (by rw[Bool.eq_iff_iff];simp);clear h1 h2
 go_enter Tryz.func214,Tryz.ntmps214
 go_wp2
 go_ret
 exact⟨Z7 HE.out,Below.refl _ _⟩
theorem Qq1{B qb rb tb n:Nat}{T:TypeId}{w:World}{x0:Rcd}{s:ByteArray}{lo:Nat}{key:ByteArray}{o most:Nat}{v:FVal}{rd:Nat→Except Flt (Int × Nat)}(E:TEnv B qb rb tb n T w)(h:Qxv w lo key tb o most v)(hr:rb<lo)(ht:tb<lo)(ho:o<n)(hm:most≤10240)(h0:x0 o=.nums [])
  (hget:∀w' xb a',Chg rb tb w w'→w.heap.size≤xb→w'.heap[xb]?=some (.cells #[.int .u64 0] 23 (0,0))→RdEnv B w' qb rb s a'→Calls Tryz.prog 150 #[pt qb 0,pt xb 0] w' (Qsr (rd a') (λ y _ c=>c=#[.int .u64 y]) rb xb 23 s w')):GSem B qb rb tb x0 T n s w v (Xh s key o most .nums rd):=by
 obtain⟨bx,hlo,hb,rfl⟩:=h
 have hch:∀w' b y,Chg rb tb w w'→bx≤b→w.heap[b]?=some y→w'.heap[b]?=some y:=λ w' b y hc hle hy=>(hc.block b (lt_of_block hy) (by omega) (by omega)).trans hy
 refine⟨rfl,rfl,enters_of Tryz.func214 (by kernel_rfl) rfl,enters_of Tryz.func220 (by kernel_rfl) rfl,λ w' x hc hx hk=>?_,λ w' x a hc hx he hf hk=>?_⟩
 ·obtain⟨m,hm⟩:=hk.nums (show Zj (x0 o)=_ by rw[h0];rfl)
  obtain⟨u,hu,hv⟩:=hx.cellAt (B:=B) E.t8 ho
  rw[hm]at hv
  obtain⟨za,zc,rfl,-⟩:=hv
  show Calls Tryz.prog _ _ _ λ e w''=>e=.returned (.bool (Qae (x o)))∧Below w'.heap.size w' w''
  rw[hm]
  refine(Qkb B bx tb o (len m) zc za w' (Qr (hch w' _ _ hc (Nat.le_refl _) hb.b0) (by decide) rfl) hu).mono λ e w'' ⟨h1,h2⟩=>⟨h1.trans ?_,h2⟩
  congr 2
 ·have hx1:x o=.nums []:=(hf o (by simp[Xh])).trans h0
  exact Qqq B qb rb tb o bx (bx+1) (bx+1+1+1+1) 150 most #[] x0 T n s key a x w' rd (hch w' _ _ hc (Nat.le_refl _) hb.b0) (hch w' _ _ hc (by omega) hb.b1) ⟨_,hch w' _ _ hc (by omega) hb.b4⟩ ⟨by omega,by omega⟩ ⟨by omega,by omega⟩ E.ne E.nq E.le ho hm (enters_of Tryz.func150 (by kernel_rfl) rfl)
   (λ w2 xb a' hc2 hxb hx2 he2=>hget w2 xb a' (hc.trans hc2) (Nat.le_trans hc.size hxb) hx2 he2) hx hx1 he
theorem Qkc(B b7 pb po n c:Nat)(a:Option Addr)(w:World)(h1:CellAt B w b7 0 (pt pb po))(h2:CellAt B w pb po (.slice a n c)):Calls Tryz.prog 227 #[pt b7 0] w λ e w'=>e=.returned (.bool (decide (n=0)))∧Below w.heap.size w w':=by
 have c1:=h1.cell;have c2:=h2.cell;have HE:Hid (((n:Int) == 0)=decide (n=0)):=QLh (by rw[Bool.eq_iff_iff];simp);clear h1 h2
 go_enter Tryz.func227,Tryz.ntmps227
 go_wp2
 go_ret
 exact⟨Z7 HE.out,Below.refl _ _⟩
theorem Qq2{B qb rb tb n:Nat}{T:TypeId}{w:World}{x0:Rcd}{s:ByteArray}{lo:Nat}{key:ByteArray}{o most:Nat}{v:FVal}{rd:Nat→Except Flt (RevD × Nat)}(E:TEnv B qb rb tb n T w)(h:Qxw w lo key tb o most v)(hr:rb<lo)(ht:tb<lo)(ho:o<n)(hm:most≤10240)(h0:x0 o=.revs [])
  (hget:∀w' xb a',Chg rb tb w w'→w.heap.size≤xb→w'.heap[xb]?=some (.cells #[.int .u64 0,.int .u64 0,.bool false,.int .u64 0,.slice none 0 0,.slice none 0 0,.string ⟨#[]⟩,.int .u64 0,.int .u64 0,.int .u64 0,.int .u64 0] 48 (0,0))→RdEnv B w' qb rb s a'→Calls Tryz.prog 157 #[pt qb 0,pt xb 0] w' (Qsr (rd a') (λ d w2 c=>∃r:Rev,c=r.cells.toArray∧RevIs rb xb w2 r d) rb xb 48 s w')):GSem B qb rb tb x0 T n s w v (Xh s key o most .revs rd):=by
 obtain⟨bx,hlo,hb,rfl⟩:=h
 have hch:∀w' b y,Chg rb tb w w'→bx≤b→w.heap[b]?=some y→w'.heap[b]?=some y:=λ w' b y hc hle hy=>(hc.block b (lt_of_block hy) (by omega) (by omega)).trans hy
 refine⟨rfl,rfl,enters_of Tryz.func227 (by kernel_rfl) rfl,enters_of Tryz.func231 (by kernel_rfl) rfl,λ w' x hc hx hk=>?_,λ w' x a hc hx he hf hk=>?_⟩
 ·obtain⟨m,hm⟩:=hk.revs (show Zj (x0 o)=_ by rw[h0];rfl)
  obtain⟨u,hu,hv⟩:=hx.cellAt (B:=B) E.t8 ho
  rw[hm]at hv
  obtain⟨za,zc,rfl,-⟩:=hv
  show Calls Tryz.prog _ _ _ λ e w''=>e=.returned (.bool (Qae (x o)))∧Below w'.heap.size w' w''
  rw[hm]
  refine(Qkc B bx tb o (len m) zc za w' (Qr (hch w' _ _ hc (Nat.le_refl _) hb.b0) (by decide) rfl) hu).mono λ e w'' ⟨h1,h2⟩=>⟨h1.trans ?_,h2⟩
  congr 2
 ·have hx1:x o=.revs []:=(hf o (by simp[Xh])).trans h0
  exact Qqr B qb rb tb o bx (bx+1) (bx+1+1+1+1) 157 most #[] x0 T n s key a x w' rd (hch w' _ _ hc (Nat.le_refl _) hb.b0) (hch w' _ _ hc (by omega) hb.b1) ⟨_,hch w' _ _ hc (by omega) hb.b4⟩ ⟨by omega,by omega⟩ ⟨by omega,by omega⟩ E.ne E.nq E.le ho hm (enters_of Tryz.func157 (by kernel_rfl) rfl)
   (λ w2 xb a' hc2 hxb hx2 he2=>hget w2 xb a' (hc.trans hc2) (Nat.le_trans hc.size hxb) hx2 he2) hx hx1 he
theorem Qq3{B qb rb tb n:Nat}{T:TypeId}{W0 w:World}{x0:Rcd}{s:ByteArray}{l:List FVal}{gs:List GSpec}{x:Rcd}(h:GSems B qb rb tb x0 T n s W0 l gs)(hc:Chg rb tb W0 w)(hx:RecAt rb tb T n w x)(hk:Kd x0 x):Qjr w l 179 #[] (λ i=>!(gth gs i).empty x):=by
 refine⟨enters_of Tryz.func179 (by kernel_rfl) rfl,λ i hi w' hb=>?_⟩
 show Calls Tryz.prog 179 (#[(fth l i).val]++#[]) w' (λ e w''=>e=.returned (.bool (!(gth gs i).empty x))∧Below w'.heap.size w' w'')
 have hs:=h.2 i hi
 generalize fth l i=v at hs
 generalize gth gs i=f at hs
 have ee:=hs.ee;have HM:Hid (∀u,Below w'.heap.size w' u→Calls Tryz.prog v.ef v.ec u λ e w'=>e=.returned (.bool (f.empty x))∧Below u.heap.size u w'):=QLh (λ u hu=>hs.empty u x ((hc.next hb).next hu) ((hx.below hb).below hu) hk);clear hs
 show Calls Tryz.prog 179 #[v.val] w' _
 unfold FVal.val
 go_enter Tryz.func179,Tryz.ntmps179
 go_wp2_with fail
 refine(HM.out _ (Qh (Below.refl _ _) _)).mono ?_
 rintro e w1 ⟨rfl,hb1⟩
 have HB1:Hid (Below w'.heap.size w' w1):=QLh (Qk (Qh (Below.refl _ _) _) hb1);clear hb1
 go_wp2
 go_ret
 exact⟨rfl,HB1.out⟩
theorem Qv4(gs:List GSpec)(x:Rcd):((gs.all λ g=>g.empty x)=false ↔ ∃i,i<gs.length∧(!(gth gs i).empty x)=true):=by
 rw[List.all_eq_false]
 constructor
 ·rintro⟨y,hx,hm⟩
  obtain⟨i,hi,rfl⟩:=List.getElem_of_mem hx
  exact⟨i,hi,by rw[Qax gs i hi];simpa using hm⟩
 ·rintro⟨i,hi,hm⟩
  exact⟨gs[i],List.getElem_mem _,by rw[Qax gs i hi]at hm;simpa using hm⟩
theorem Qta{B qb rb tb n:Nat}{T:TypeId}{W0:World}{x0:Rcd}{s:ByteArray}(bx g c:Nat)(l:List FVal)(gs:List GSpec)(x:Rcd)(w:World)(h1:w.heap[bx]?=some (.cells #[.slice (some ⟨g,0,none⟩) (len l) c] 113 (0,0)))(hl:Flds w (some ⟨g,0,none⟩) l)(hn:len l≤1000)(hS:GSems B qb rb tb x0 T n s W0 l gs)(hc:Chg rb tb W0 w)(hx:RecAt rb tb T n w x)(hk:Kd x0 x):
  Calls Tryz.prog 178 #[pt bx 0] w λ e w'=>e=.returned (.bool (gs.all λ g=>g.empty x))∧Below w.heap.size w w':=by
 have c1:w.cell? ⟨bx,0,none⟩=some (.slice (some ⟨g,0,none⟩) (len l) c):=Qa h1 0;have H:=QLh (J7 (some ⟨g,0,none⟩) c l 179 #[] _ w hl hn (Qq3 hS hc hx hk));have HI:=QLh (Qv4 gs x);have HL:Hid (gs.length=len l):=QLh hS.1;clear h1 hl hS hc hx
 go_enter Tryz.func178,Tryz.ntmps178
 go_wp2_with fail
 refine H.out.mono ?_
 rintro e w1 ⟨b,rfl,hb1,hb⟩
 have HB:=QLh hb;have HE:Hid ((!b)=(gs.all λ g=>g.empty x)):=QLh (by
  have h:=HI.out
  rw[HL.out]at h
  cases b with
  | true=>rw[h.2 (hb1.1 rfl)];rfl
  | false=>
   cases hm:(gs.all λ g=>g.empty x)with
   | true=>rfl
   | false=>exact absurd (hb1.2 (h.1 hm)) (by decide))
 clear hb hb1
 go_wp2
 go_ret
 exact⟨Z7 HE.out,HB.out⟩
theorem Qtb{qb rb tb n:Nat}{T:TypeId}{s:ByteArray}(bx g c:Nat)(key:ByteArray)(l:List FVal)(gs:List GSpec)(x:Rcd)(a:Nat)(w:World)(h1:w.heap[bx]?=some (.cells #[.slice (some ⟨g,0,none⟩) (len l) c] 113 (0,0)))
  (H:Calls Tryz.prog 123 #[pt qb 0,.slice (some ⟨g,0,none⟩) (len l) c] w (Qgy (Qbr s gs x a) rb tb T n s w)):
  Calls Tryz.prog 182 #[pt qb 0,pt bx 0] w (Qgy ((Qgt s key gs).read x a) rb tb T n s w):=by
 have c1:w.cell? ⟨bx,0,none⟩=some (.slice (some ⟨g,0,none⟩) (len l) c):=Qa h1 0;have H:=QLh H;clear h1
 go_enter Tryz.func182,Tryz.ntmps182
 go_wp2_with fail
 refine H.out.mono ?_
 intro e w1 hh
 show _
 cases hr:Qbr s gs x a with
 | error f=>
  rw[hr]at hh
  have HTH:=QLh (Qft hh)
  obtain⟨fb,rfl,hf,hc⟩:=Qco hh
  have HF:=QLh hf;have HC:=QLh hc;have HR:Hid ((Qgt s key gs).read x a=.error f):=QLh hr;clear hh hf hc hr
  go_wp2
  refine⟨rfl,?_⟩
  rw[HR.out]
  exact⟨HC.out,fb,rfl,HF.out,HTH.out⟩
 | ok q=>
  rw[hr]at hh
  obtain⟨rfl,h2,h3,h4,h5⟩:=Qd3 hh
  have H2:=QLh h2;have H4:=QLh h4;have H5:=QLh h5;have HR:Hid ((Qgt s key gs).read x a=.ok q):=QLh hr;clear hh h2 h4 h5 hr
  go_wp2
  go_end0
  rw[HR.out]
  exact⟨H5.out,rfl,H2.out,h3,H4.out⟩
theorem FRow.chg{rb tb g:Nat}{w w':World}{l:List FVal}(h:FRow w g l)(hc:Chg rb tb w w')(h1:g≠rb)(h2:g≠tb):FRow w' g l:=by
 obtain⟨hf,cur,hg⟩:=h
 have h3:=hc.block g (lt_of_block hg) h1 h2
 exact⟨Qdr hf h3,cur,h3.trans hg⟩
structure GOk(x0:Rcd)(gs:List GSpec):Prop where
 keys:Qj5 gs
 disj:Qyq gs
 frames:∀g ∈ gs,g.Frames
 kinds:∀g ∈ gs,g.Kinds x0
theorem Qv5{B qb rb tb n:Nat}{T:TypeId}{w:World}{x0:Rcd}{s:ByteArray}{lo:Nat}{key:ByteArray}{g c:Nat}{l:List FVal}{gs:List GSpec}{v:FVal}(E:TEnv B qb rb tb n T w)(h:ObjS w lo key (l.any λ v=>v.must) g (len l) c v)(hr:rb<lo)(ht:tb<lo)(hF:FRow w g l)(hc0:len l≤c)(hn:len l≤1000)(hS:GSems B qb rb tb x0 T n s w l gs)(hG:GOk x0 gs):GSem B qb rb tb x0 T n s w v (Qgt s key gs):=by
 obtain⟨bx,hlo,hb,rfl⟩:=h
 have hg:=E.apart hF.ex;have hl:gs.length=l.length:=hS.1;have hbk:∀w',Chg rb tb w w'→w'.heap[bx]?=some (.cells #[.slice (some ⟨g,0,none⟩) (len l) c] 113 (0,0)):=λ w' hc=>(hc.block bx (lt_of_block hb) (by omega) (by omega)).trans hb
 refine⟨rfl,?_,enters_of Tryz.func178 (by kernel_rfl) rfl,enters_of Tryz.func182 (by kernel_rfl) rfl,λ w' x hc hx hk=>Qta bx g c l gs x w' (hbk w' hc) (hF.chg hc hg.1 hg.2).flds hn hS hc hx hk,λ w' x a hc hx he hf hk=>Qtb bx g c key l gs x a w' (hbk w' hc) ?_⟩
 ·show(l.any λ v=>v.must)=gs.any λ g=>g.must
  rw[Bool.eq_iff_iff,List.any_eq_true,List.any_eq_true]
  constructor
  ·rintro⟨y,hy,hm⟩
   obtain⟨i,hi,rfl⟩:=List.getElem_of_mem hy
   have hi2:i<gs.length:=by omega
   have:=(hS.2 i hi).must
   rw[J9 l i hi,Qax gs i hi2]at this
   exact⟨gs[i],List.getElem_mem _,by rw[←this];exact hm⟩
  ·rintro⟨y,hy,hm⟩
   obtain⟨i,hi,rfl⟩:=List.getElem_of_mem hy
   have hi2:i<l.length:=by omega
   have:=(hS.2 i hi2).must
   rw[J9 l i hi2,Qax gs i hi]at this
   exact⟨l[i],List.getElem_mem _,by rw[this];exact hm⟩
 ·refine Qbu B qb rb tb g 0 c x0 T n s w w' l gs a x (hF.chg hc hg.1 hg.2).flds hc0 hn hS hc hg E.nq E.le E.ne hG.keys hG.disj hG.frames hG.kinds hk hx he (λ i hi o ho=>hf o ?_)
  show o ∈ gs.flatMap λ g=>g.offs
  exact List.mem_flatMap.2 ⟨gth gs i,by rw[Qax gs i hi];exact List.getElem_mem _,ho⟩
def RowIn(B:Nat)(specs:List FSpec)(u:Value)(w:World):Prop:=∃g c,∃l:List FVal,u=.slice (some ⟨g,0,none⟩) (len l) c∧FRow w g l∧B≤w.heap.size∧FSems B w l specs
theorem RowIn.below{B:Nat}{specs:List FSpec}{u:Value}{w w':World}(h:RowIn B specs u w)(hb:Below w.heap.size w w'):RowIn B specs u w':=by
 obtain⟨g,c,l,hu,hF,hB,hS⟩:=h
 exact⟨g,c,l,hu,hF.below hb,Nat.le_trans hB hb.size,hS.later (Keep8.of_below hb hB)⟩
theorem Qv6{B:Nat}{specs:List FSpec}{w w':World}{e:Ending}(hB:B≤w.heap.size)(h:Qoh B specs w e w'):∃u,e=.returned u∧RowIn B specs u w'∧Below w.heap.size w w':=by
 obtain⟨g,c,l,he,hF,hS,hb⟩:=h
 exact⟨_,he,⟨g,c,l,rfl,hF,Nat.le_trans hB hb.size,hS⟩,hb⟩
structure SlotAt(B:Nat)(w:World)(b o:Nat)(L:Int)(q:Bool)(idx:Int)(wots path:List ByteArray):Prop where
 c0:CellAt B w b o (.int .u64 L)
 c1:CellAt B w b (o+1) (.bool q)
 c2:SigAt B w b (o+2) idx wots path
def Q3(L:Int)(q:Bool)(idx:Int)(wots path:List ByteArray):List FSpec:=
 [Jn ⟨#[103]⟩ (Zk idx wots path),⟨⟨#[108]⟩,false,L == 0,true,Xr L⟩,⟨⟨#[115]⟩,false,!q,true,Xr 1⟩]
theorem Qq4(B sb so:Nat)(L:Int)(q:Bool)(idx:Int)(wots path:List ByteArray)(w:World)(hB:B≤w.heap.size)(h:SlotAt B w sb so L q idx wots path)(h0:0≤idx)(h1:idx≤18446744073709551615)(hL0:0≤L)(hL1:L≤18446744073709551615)(hw:len wots≤100000)(hp:len path≤100000):
  Calls Tryz.prog 61 #[pt sb so] w (Qoh B (Q3 L q idx wots path) w):=by
 obtain⟨S3,hS3⟩:∃S3,Zk idx wots path=S3:=⟨_,rfl⟩
 obtain⟨S0,hS0⟩:∃S0:FSpec,Jn ⟨#[103]⟩ S3=S0:=⟨_,rfl⟩
 obtain⟨S1,hS1⟩:∃S1:FSpec,(⟨⟨#[108]⟩,false,L == 0,true,Xr L⟩:FSpec)=S1:=⟨_,rfl⟩
 obtain⟨S2,hS2⟩:∃S2:FSpec,(⟨⟨#[115]⟩,false,!q,true,Xr 1⟩:FSpec)=S2:=⟨_,rfl⟩
 have HSP:Hid (Q3 L q idx wots path=[S0,S1,S2]):=QLh (by unfold Q3;rw[hS3,hS0,hS1,hS2]);have HL3:Hid (len S3=3):=QLh (by rw[←hS3];rfl);have HSG:Hid (∀w',Below w.heap.size w w'→Calls Tryz.prog 108 #[pt sb (so+2)] w' (λ e w''=>∃u,e=.returned u∧RowIn B S3 u w''∧Below w'.heap.size w' w'')):=QLh (λ w' hb=>by
  rw[←hS3]
  exact(Qs5 B sb (so+2) idx wots path w' (Nat.le_trans hB hb.size) (h.c2.below hb) h0 h1 hw hp).mono (λ e w'' hh=>Qv6 (Nat.le_trans hB hb.size) hh))
 have HOB:Hid (∀w' g c,∀l:List FVal,FRow w' g l→len l=3→FSems B w' l S3→B≤w'.heap.size→Calls Tryz.prog 107 #[.string ⟨#[103]⟩,.slice (some ⟨g,0,none⟩) (len l) c] w' (Qhj B S0 w')):=QLh (λ w' g c l hF hl hS hB'=>by
  rw[←hS0]
  exact(Qog B ⟨#[103]⟩ g c w' l S3 w' (by decide) hF (by omega) (by omega) hS (Keep8.refl hB')).mono (λ e w'' hh=>Qbw hB' hh))
 have HS1:Hid (∀w',Below w.heap.size w w'→Calls Tryz.prog 109 #[.string ⟨#[108]⟩,pt sb so] w' (Qhj B S1 w')):=QLh (λ w' hb=>by
  rw[←hS1]
  exact(Qap B ⟨#[108]⟩ sb so L w' (by decide) (Nat.le_trans hB hb.size) (h.c0.below hb) hL0 hL1).mono (λ e w'' hh=>Qbw (Nat.le_trans hB hb.size) hh))
 have HS2:Hid (∀w',Below w.heap.size w w'→Calls Tryz.prog 110 #[.string ⟨#[115]⟩,pt sb (so+1)] w' (Qhj B S2 w')):=QLh (λ w' hb=>by
  rw[←hS2]
  exact(Qs2 B ⟨#[115]⟩ sb (so+1) q w' (by decide) (Nat.le_trans hB hb.size) (h.c1.below hb)).mono (λ e w'' hh=>Qbw (Nat.le_trans hB hb.size) hh))
 clear h hS3 hS0 hS1 hS2
 go_enter Tryz.func61,Tryz.ntmps61
 go_upto_region 1 with fail
 refine Qp 13 1000 (none) (Qaw [λ u _=>u=(pt sb so),λ u _=>u=(pt sb so),λ u _=>u=(pt sb (so+2)),λ u w'=>RowIn B S3 u w',λ u w'=>∃v:FVal,u=v.val∧FIn B w' v S0,λ u _=>u=(pt sb so),λ u _=>u=(pt sb so),λ u _=>u=(pt sb so),λ u w'=>∃v:FVal,u=v.val∧FIn B w' v S1,λ u _=>u=(pt sb so),λ u _=>u=(pt sb so),λ u _=>u=(pt sb (so+1)),λ u w'=>∃v:FVal,u=v.val∧FIn B w' v S2]) rfl (by kernel_rfl) (by kernel_rfl) (Zb ⟨Qe,Qe,Qe,?m3,?m4,Qe,Qe,Qe,?m8,Qe,Qe,Qe,?m12,trivial⟩) (Q6 13 ⟨?s0,?s1,?s2,?s3,?s4,?s5,?s6,?s7,?s8,?s9,?s10,?s11,?s12,trivial⟩) ?_
 case m3=>
  exact⟨λ u w1 w2 h h1=>h1.below h,λ _ u w1 w2 h h1=>h1.below (Qz h)⟩
 case m4=>
  exact⟨λ u w1 w2 h ⟨v,h1,h2⟩=>⟨v,h1,h2.below h⟩,λ _ u w1 w2 h ⟨v,h1,h2⟩=>⟨v,h1,h2.below (Qz h)⟩⟩
 case m8=>
  exact⟨λ u w1 w2 h ⟨v,h1,h2⟩=>⟨v,h1,h2.below h⟩,λ _ u w1 w2 h ⟨v,h1,h2⟩=>⟨v,h1,h2.below (Qz h)⟩⟩
 case m12=>
  exact⟨λ u w1 w2 h ⟨v,h1,h2⟩=>⟨v,h1,h2.below h⟩,λ _ u w1 w2 h ⟨v,h1,h2⟩=>⟨v,h1,h2.below (Qz h)⟩⟩
 case s0=>
  refine Qc (v:=(pt sb so)) (λ av wv hE hS hO hD=>?_) (λ _=>rfl)
  have f0:=QEf av 0 (pt sb so) (hO.2.2 0 rfl)
  refine⟨rfl,?_⟩
  simp[go_sem,f0]
 case s1=>
  refine Qc (v:=(pt sb so)) (λ av wv hE hS hO hD=>?_) (λ _=>rfl)
  have f3:=QEf av 3 (pt sb so) (hD.1 rfl _ rfl)
  refine⟨rfl,?_⟩
  simp[go_sem,f3]
 case s2=>
  refine Qc (v:=(pt sb (so+2))) (λ av wv hE hS hO hD=>?_) (λ _=>rfl)
  have f4:=QEf av 4 (pt sb so) (hD.1 rfl _ rfl)
  refine⟨rfl,?_⟩
  simp[go_sem,f4]
 case s3=>
  refine Qo (λ av wv hE hS hO hD=>?_)
  have f5:=QEf av 5 (pt sb (so+2)) (hD.1 rfl _ rfl)
  refine⟨rfl,?_⟩
  refine Qt (f:=108) (args:=#[pt sb (so+2)]) (by simp[go_sem,f5]) (HSG.out wv (Qx hE)) (λ u w2 ⟨h1,hb⟩=>⟨u,rfl,Qm hb,h1⟩)
 case s4=>
  refine Qo (λ av wv hE hS hO hD=>?_)
  have d6:(λ u w'=>RowIn B S3 u w') (av.eval (.tmp 6)) wv:=hD.1 rfl _ rfl
  refine⟨rfl,?_⟩
  obtain⟨g6,c6,l6,hu6,hF6,hB6,hS6⟩:=d6
  have f6:=(Qq av 6).symm.trans hu6;have hl6:len l6=3:=by rw[←hS6.1];exact HL3.out
  refine Qt (f:=107) (args:=#[.string ⟨#[103]⟩,.slice (some ⟨g6,0,none⟩) (len l6) c6]) (by simp[go_sem,f6]) (HOB.out wv g6 c6 l6 hF6 hl6 hS6 hB6) (λ u w2 ⟨v,hu,hs,hb⟩=>⟨u,rfl,Qm hb,v,hu,hs⟩)
 case s5=>
  refine Qc (v:=(pt sb so)) (λ av wv hE hS hO hD=>?_) (λ _=>rfl)
  have f0:=QEf av 0 (pt sb so) (hO.2.2 0 rfl)
  refine⟨rfl,?_⟩
  simp[go_sem,f0]
 case s6=>
  refine Qc (v:=(pt sb so)) (λ av wv hE hS hO hD=>?_) (λ _=>rfl)
  have f8:=QEf av 8 (pt sb so) (hD.1 rfl _ rfl)
  refine⟨rfl,?_⟩
  simp[go_sem,f8]
 case s7=>
  refine Qc (v:=(pt sb so)) (λ av wv hE hS hO hD=>?_) (λ _=>rfl)
  have f9:=QEf av 9 (pt sb so) (hD.1 rfl _ rfl)
  refine⟨rfl,?_⟩
  simp[go_sem,f9]
 case s8=>
  refine Qo (λ av wv hE hS hO hD=>?_)
  have f10:=QEf av 10 (pt sb so) (hD.1 rfl _ rfl)
  refine⟨rfl,?_⟩
  refine Qt (f:=109) (args:=#[.string ⟨#[108]⟩,pt sb so]) (by simp[go_sem,f10]) (HS1.out wv (Qx hE)) (λ u w2 ⟨v,hu,hs,hb⟩=>⟨u,rfl,Qm hb,v,hu,hs⟩)
 case s9=>
  refine Qc (v:=(pt sb so)) (λ av wv hE hS hO hD=>?_) (λ _=>rfl)
  have f0:=QEf av 0 (pt sb so) (hO.2.2 0 rfl)
  refine⟨rfl,?_⟩
  simp[go_sem,f0]
 case s10=>
  refine Qc (v:=(pt sb so)) (λ av wv hE hS hO hD=>?_) (λ _=>rfl)
  have f12:=QEf av 12 (pt sb so) (hD.1 rfl _ rfl)
  refine⟨rfl,?_⟩
  simp[go_sem,f12]
 case s11=>
  refine Qc (v:=(pt sb (so+1))) (λ av wv hE hS hO hD=>?_) (λ _=>rfl)
  have f13:=QEf av 13 (pt sb so) (hD.1 rfl _ rfl)
  refine⟨rfl,?_⟩
  simp[go_sem,f13]
 case s12=>
  refine Qo (λ av wv hE hS hO hD=>?_)
  have f14:=QEf av 14 (pt sb (so+1)) (hD.1 rfl _ rfl)
  refine⟨rfl,?_⟩
  refine Qt (f:=110) (args:=#[.string ⟨#[115]⟩,pt sb (so+1)]) (by simp[go_sem,f14]) (HS2.out wv (Qx hE)) (λ u w2 ⟨v,hu,hs,hb⟩=>⟨u,rfl,Qm hb,v,hu,hs⟩)
 intro a' w' hE hO hall
 have hA:=Ql (ds:=[3,4,5,6,7,8,9,10,11,12,13,14,15]) rfl hO (by kernel_rfl);have e3:a'.eval (.tmp 3)=(pt sb so):=hall.1 _ rfl;have e4:a'.eval (.tmp 4)=(pt sb so):=hall.2.1 _ rfl;have e5:a'.eval (.tmp 5)=(pt sb (so+2)):=hall.2.2.1 _ rfl;have e6:(λ u w'=>RowIn B S3 u w') (a'.eval (.tmp 6)) w':=hall.2.2.2.1 _ rfl;have e7:(λ u w'=>∃v:FVal,u=v.val∧FIn B w' v S0) (a'.eval (.tmp 7)) w':=hall.2.2.2.2.1 _ rfl;have e8:a'.eval (.tmp 8)=(pt sb so):=hall.2.2.2.2.2.1 _ rfl;have e9:a'.eval (.tmp 9)=(pt sb so):=hall.2.2.2.2.2.2.1 _ rfl;have e10:a'.eval (.tmp 10)=(pt sb so):=hall.2.2.2.2.2.2.2.1 _ rfl;have e11:(λ u w'=>∃v:FVal,u=v.val∧FIn B w' v S1) (a'.eval (.tmp 11)) w':=hall.2.2.2.2.2.2.2.2.1 _ rfl;have e12:a'.eval (.tmp 12)=(pt sb so):=hall.2.2.2.2.2.2.2.2.2.1 _ rfl;have e13:a'.eval (.tmp 13)=(pt sb so):=hall.2.2.2.2.2.2.2.2.2.2.1 _ rfl;have e14:a'.eval (.tmp 14)=(pt sb (so+1)):=hall.2.2.2.2.2.2.2.2.2.2.2.1 _ rfl;have e15:(λ u w'=>∃v:FVal,u=v.val∧FIn B w' v S2) (a'.eval (.tmp 15)) w':=hall.2.2.2.2.2.2.2.2.2.2.2.2.1 _ rfl
 obtain⟨v6,hv6⟩:∃v,a'.eval (.tmp 6)=v:=⟨_,rfl⟩
 rw[hv6]at e6
 obtain⟨v7,hv7⟩:∃v,a'.eval (.tmp 7)=v:=⟨_,rfl⟩
 rw[hv7]at e7
 obtain⟨v11,hv11⟩:∃v,a'.eval (.tmp 11)=v:=⟨_,rfl⟩
 rw[hv11]at e11
 obtain⟨v15,hv15⟩:∃v,a'.eval (.tmp 15)=v:=⟨_,rfl⟩
 rw[hv15]at e15
 simp only[List.foldl_cons,List.foldl_nil,Act.put,List.setIfInBounds_toArray,List.set_cons_succ,List.set_cons_zero,e3,e4,e5,hv6,hv7,e8,e9,e10,hv11,e12,e13,e14,hv15]at hA
 clear hO hall e3 e4 e5 hv6 hv7 e8 e9 e10 hv11 e12 e13 e14 hv15
 subst hA
 obtain⟨x0,rfl,s0⟩:=e7
 obtain⟨x1,rfl,s1⟩:=e11
 obtain⟨x2,rfl,s2⟩:=e15
 have HSS:Hid (FSems B w' [x0,x1,x2] [S0,S1,S2]):=QLh ⟨rfl,λ i hi=>by
  have:i=0 ∨ i=1 ∨ i=2:=by simp[len]at hi;omega
  rcases this with rfl | rfl | rfl
  ·exact s0.2
  ·exact s1.2
  ·exact s2.2⟩
 have HBW:Hid (Below w.heap.size w w'∧B≤w'.heap.size):=QLh ⟨Qx hE,s0.1⟩;clear s0 s1 s2 hE e6
 unfold FVal.val
 go_wp2
 go_ret
 refine⟨w'.heap.size,3,[x0,x1,x2],rfl,⟨Flds.block (l:=[x0,x1,x2]) (heap_alloc_new w' _),_,heap_alloc_new w' _⟩,?_,Qk HBW.out.1 (Qh (Below.refl _ _) _)⟩
 rw[HSP.out]
 exact HSS.out.later (Keep8.of_below (Qh (Below.refl _ _) _) HBW.out.2)
structure PartAt(B:Nat)(w:World)(b o:Nat)(root:ByteArray)(weight first life keys:Int):Prop where
 c0:CellAt B w b o (.string root)
 c1:CellAt B w b (o+1) (.int .u64 weight)
 c2:CellAt B w b (o+2) (.int .u64 first)
 c3:CellAt B w b (o+3) (.int .u64 life)
 c4:CellAt B w b (o+4) (.int .u64 keys)
def Q5(root:ByteArray)(weight first life keys:Int):List FSpec:=
 [⟨⟨#[102]⟩,false,first == 0,true,Xr first⟩,⟨⟨#[107]⟩,false,keys == 0,true,Xr keys⟩,⟨⟨#[108]⟩,false,life == 0,true,Xr life⟩,⟨⟨#[114]⟩,true,false,decide (root.size=32),Jv root⟩,⟨⟨#[119]⟩,false,weight == 0,true,Xr weight⟩]
def X8(x:Int):Prop:=0≤x∧x≤18446744073709551615
theorem Qq5(B sb so:Nat)(root:ByteArray)(weight first life keys:Int)(w:World)(hB:B≤w.heap.size)(h:PartAt B w sb so root weight first life keys)(hr:root.size≤9223372036854775807)(hw:X8 weight)(hf:X8 first)(hl:X8 life)(hk:X8 keys):
  Calls Tryz.prog 62 #[pt sb so] w (Qoh B (Q5 root weight first life keys) w):=by
 obtain⟨S0,hS0⟩:∃S:FSpec,(⟨⟨#[102]⟩,false,first == 0,true,Xr first⟩:FSpec)=S:=⟨_,rfl⟩
 obtain⟨S1,hS1⟩:∃S:FSpec,(⟨⟨#[107]⟩,false,keys == 0,true,Xr keys⟩:FSpec)=S:=⟨_,rfl⟩
 obtain⟨S2,hS2⟩:∃S:FSpec,(⟨⟨#[108]⟩,false,life == 0,true,Xr life⟩:FSpec)=S:=⟨_,rfl⟩
 obtain⟨S3,hS3⟩:∃S:FSpec,(⟨⟨#[114]⟩,true,false,decide (root.size=32),Jv root⟩:FSpec)=S:=⟨_,rfl⟩
 obtain⟨S4,hS4⟩:∃S:FSpec,(⟨⟨#[119]⟩,false,weight == 0,true,Xr weight⟩:FSpec)=S:=⟨_,rfl⟩
 have HSP:Hid (Q5 root weight first life keys=[S0,S1,S2,S3,S4]):=QLh (by unfold Q5;rw[hS0,hS1,hS2,hS3,hS4]);have HS0:Hid (∀w',Below w.heap.size w w'→Calls Tryz.prog 109 #[.string ⟨#[102]⟩,pt sb (so+2)] w' (Qhj B S0 w')):=QLh (λ w' hb=>by
  rw[←hS0]
  exact(Qap B ⟨#[102]⟩ sb (so+2) first w' (by decide) (Nat.le_trans hB hb.size) (h.c2.below hb) hf.1 hf.2).mono (λ e w'' hh=>Qbw (Nat.le_trans hB hb.size) hh))
 have HS1:Hid (∀w',Below w.heap.size w w'→Calls Tryz.prog 109 #[.string ⟨#[107]⟩,pt sb (so+4)] w' (Qhj B S1 w')):=QLh (λ w' hb=>by
  rw[←hS1]
  exact(Qap B ⟨#[107]⟩ sb (so+4) keys w' (by decide) (Nat.le_trans hB hb.size) (h.c4.below hb) hk.1 hk.2).mono (λ e w'' hh=>Qbw (Nat.le_trans hB hb.size) hh))
 have HS2:Hid (∀w',Below w.heap.size w w'→Calls Tryz.prog 109 #[.string ⟨#[108]⟩,pt sb (so+3)] w' (Qhj B S2 w')):=QLh (λ w' hb=>by
  rw[←hS2]
  exact(Qap B ⟨#[108]⟩ sb (so+3) life w' (by decide) (Nat.le_trans hB hb.size) (h.c3.below hb) hl.1 hl.2).mono (λ e w'' hh=>Qbw (Nat.le_trans hB hb.size) hh))
 have HS3:Hid (∀w',Below w.heap.size w w'→Calls Tryz.prog 111 #[.string ⟨#[114]⟩,pt sb so] w' (Qhj B S3 w')):=QLh (λ w' hb=>by
  rw[←hS3]
  exact(Qc3 B ⟨#[114]⟩ sb so root w' (by decide) (Nat.le_trans hB hb.size) (h.c0.below hb) hr).mono (λ e w'' hh=>Qbw (Nat.le_trans hB hb.size) hh))
 have HS4:Hid (∀w',Below w.heap.size w w'→Calls Tryz.prog 109 #[.string ⟨#[119]⟩,pt sb (so+1)] w' (Qhj B S4 w')):=QLh (λ w' hb=>by
  rw[←hS4]
  exact(Qap B ⟨#[119]⟩ sb (so+1) weight w' (by decide) (Nat.le_trans hB hb.size) (h.c1.below hb) hw.1 hw.2).mono (λ e w'' hh=>Qbw (Nat.le_trans hB hb.size) hh))
 clear h hS3 hS0 hS1 hS2 hS4
 go_enter Tryz.func62,Tryz.ntmps62
 go_upto_region 1 with fail
 refine Qp 20 1000 (none) (Qaw [λ u _=>u=(pt sb so),λ u _=>u=(pt sb so),λ u _=>u=(pt sb (so+2)),λ u w'=>∃v:FVal,u=v.val∧FIn B w' v S0,λ u _=>u=(pt sb so),λ u _=>u=(pt sb so),λ u _=>u=(pt sb (so+4)),λ u w'=>∃v:FVal,u=v.val∧FIn B w' v S1,λ u _=>u=(pt sb so),λ u _=>u=(pt sb so),λ u _=>u=(pt sb (so+3)),λ u w'=>∃v:FVal,u=v.val∧FIn B w' v S2,λ u _=>u=(pt sb so),λ u _=>u=(pt sb so),λ u _=>u=(pt sb so),λ u w'=>∃v:FVal,u=v.val∧FIn B w' v S3,λ u _=>u=(pt sb so),λ u _=>u=(pt sb so),λ u _=>u=(pt sb (so+1)),λ u w'=>∃v:FVal,u=v.val∧FIn B w' v S4]) rfl (by kernel_rfl) (by kernel_rfl) (Zb ⟨Qe,Qe,Qe,?m3,Qe,Qe,Qe,?m7,Qe,Qe,Qe,?m11,Qe,Qe,Qe,?m15,Qe,Qe,Qe,?m19,trivial⟩) (Q6 20 ⟨?s0,?s1,?s2,?s3,?s4,?s5,?s6,?s7,?s8,?s9,?s10,?s11,?s12,?s13,?s14,?s15,?s16,?s17,?s18,?s19,trivial⟩) ?_
 case m3=>
  exact⟨λ u w1 w2 h ⟨v,h1,h2⟩=>⟨v,h1,h2.below h⟩,λ _ u w1 w2 h ⟨v,h1,h2⟩=>⟨v,h1,h2.below (Qz h)⟩⟩
 case m7=>
  exact⟨λ u w1 w2 h ⟨v,h1,h2⟩=>⟨v,h1,h2.below h⟩,λ _ u w1 w2 h ⟨v,h1,h2⟩=>⟨v,h1,h2.below (Qz h)⟩⟩
 case m11=>
  exact⟨λ u w1 w2 h ⟨v,h1,h2⟩=>⟨v,h1,h2.below h⟩,λ _ u w1 w2 h ⟨v,h1,h2⟩=>⟨v,h1,h2.below (Qz h)⟩⟩
 case m15=>
  exact⟨λ u w1 w2 h ⟨v,h1,h2⟩=>⟨v,h1,h2.below h⟩,λ _ u w1 w2 h ⟨v,h1,h2⟩=>⟨v,h1,h2.below (Qz h)⟩⟩
 case m19=>
  exact⟨λ u w1 w2 h ⟨v,h1,h2⟩=>⟨v,h1,h2.below h⟩,λ _ u w1 w2 h ⟨v,h1,h2⟩=>⟨v,h1,h2.below (Qz h)⟩⟩
 case s0=>
  refine Qc (v:=(pt sb so)) (λ av wv hE hS hO hD=>?_) (λ _=>rfl)
  have f0:=QEf av 0 (pt sb so) (hO.2.2 0 rfl)
  refine⟨rfl,?_⟩
  simp[go_sem,f0]
 case s1=>
  refine Qc (v:=(pt sb so)) (λ av wv hE hS hO hD=>?_) (λ _=>rfl)
  have f3:=QEf av 3 (pt sb so) (hD.1 rfl _ rfl)
  refine⟨rfl,?_⟩
  simp[go_sem,f3]
 case s2=>
  refine Qc (v:=(pt sb (so+2))) (λ av wv hE hS hO hD=>?_) (λ _=>rfl)
  have f4:=QEf av 4 (pt sb so) (hD.1 rfl _ rfl)
  refine⟨rfl,?_⟩
  simp[go_sem,f4]
 case s3=>
  refine Qo (λ av wv hE hS hO hD=>?_)
  have f5:=QEf av 5 (pt sb (so+2)) (hD.1 rfl _ rfl)
  refine⟨rfl,?_⟩
  refine Qt (f:=109) (args:=#[.string ⟨#[102]⟩,pt sb (so+2)]) (by simp[go_sem,f5]) (HS0.out wv (Qx hE)) (λ u w2 ⟨v,hu,hs,hb⟩=>⟨u,rfl,Qm hb,v,hu,hs⟩)
 case s4=>
  refine Qc (v:=(pt sb so)) (λ av wv hE hS hO hD=>?_) (λ _=>rfl)
  have f0:=QEf av 0 (pt sb so) (hO.2.2 0 rfl)
  refine⟨rfl,?_⟩
  simp[go_sem,f0]
 case s5=>
  refine Qc (v:=(pt sb so)) (λ av wv hE hS hO hD=>?_) (λ _=>rfl)
  have f7:=QEf av 7 (pt sb so) (hD.1 rfl _ rfl)
  refine⟨rfl,?_⟩
  simp[go_sem,f7]
 case s6=>
  refine Qc (v:=(pt sb (so+4))) (λ av wv hE hS hO hD=>?_) (λ _=>rfl)
  have f8:=QEf av 8 (pt sb so) (hD.1 rfl _ rfl)
  refine⟨rfl,?_⟩
  simp[go_sem,f8]
 case s7=>
  refine Qo (λ av wv hE hS hO hD=>?_)
  have f9:=QEf av 9 (pt sb (so+4)) (hD.1 rfl _ rfl)
  refine⟨rfl,?_⟩
  refine Qt (f:=109) (args:=#[.string ⟨#[107]⟩,pt sb (so+4)]) (by simp[go_sem,f9]) (HS1.out wv (Qx hE)) (λ u w2 ⟨v,hu,hs,hb⟩=>⟨u,rfl,Qm hb,v,hu,hs⟩)
 case s8=>
  refine Qc (v:=(pt sb so)) (λ av wv hE hS hO hD=>?_) (λ _=>rfl)
  have f0:=QEf av 0 (pt sb so) (hO.2.2 0 rfl)
  refine⟨rfl,?_⟩
  simp[go_sem,f0]
 case s9=>
  refine Qc (v:=(pt sb so)) (λ av wv hE hS hO hD=>?_) (λ _=>rfl)
  have f11:=QEf av 11 (pt sb so) (hD.1 rfl _ rfl)
  refine⟨rfl,?_⟩
  simp[go_sem,f11]
 case s10=>
  refine Qc (v:=(pt sb (so+3))) (λ av wv hE hS hO hD=>?_) (λ _=>rfl)
  have f12:=QEf av 12 (pt sb so) (hD.1 rfl _ rfl)
  refine⟨rfl,?_⟩
  simp[go_sem,f12]
 case s11=>
  refine Qo (λ av wv hE hS hO hD=>?_)
  have f13:=QEf av 13 (pt sb (so+3)) (hD.1 rfl _ rfl)
  refine⟨rfl,?_⟩
  refine Qt (f:=109) (args:=#[.string ⟨#[108]⟩,pt sb (so+3)]) (by simp[go_sem,f13]) (HS2.out wv (Qx hE)) (λ u w2 ⟨v,hu,hs,hb⟩=>⟨u,rfl,Qm hb,v,hu,hs⟩)
 case s12=>
  refine Qc (v:=(pt sb so)) (λ av wv hE hS hO hD=>?_) (λ _=>rfl)
  have f0:=QEf av 0 (pt sb so) (hO.2.2 0 rfl)
  refine⟨rfl,?_⟩
  simp[go_sem,f0]
 case s13=>
  refine Qc (v:=(pt sb so)) (λ av wv hE hS hO hD=>?_) (λ _=>rfl)
  have f15:=QEf av 15 (pt sb so) (hD.1 rfl _ rfl)
  refine⟨rfl,?_⟩
  simp[go_sem,f15]
 case s14=>
  refine Qc (v:=(pt sb so)) (λ av wv hE hS hO hD=>?_) (λ _=>rfl)
  have f16:=QEf av 16 (pt sb so) (hD.1 rfl _ rfl)
  refine⟨rfl,?_⟩
  simp[go_sem,f16]
 case s15=>
  refine Qo (λ av wv hE hS hO hD=>?_)
  have f17:=QEf av 17 (pt sb so) (hD.1 rfl _ rfl)
  refine⟨rfl,?_⟩
  refine Qt (f:=111) (args:=#[.string ⟨#[114]⟩,pt sb so]) (by simp[go_sem,f17]) (HS3.out wv (Qx hE)) (λ u w2 ⟨v,hu,hs,hb⟩=>⟨u,rfl,Qm hb,v,hu,hs⟩)
 case s16=>
  refine Qc (v:=(pt sb so)) (λ av wv hE hS hO hD=>?_) (λ _=>rfl)
  have f0:=QEf av 0 (pt sb so) (hO.2.2 0 rfl)
  refine⟨rfl,?_⟩
  simp[go_sem,f0]
 case s17=>
  refine Qc (v:=(pt sb so)) (λ av wv hE hS hO hD=>?_) (λ _=>rfl)
  have f19:=QEf av 19 (pt sb so) (hD.1 rfl _ rfl)
  refine⟨rfl,?_⟩
  simp[go_sem,f19]
 case s18=>
  refine Qc (v:=(pt sb (so+1))) (λ av wv hE hS hO hD=>?_) (λ _=>rfl)
  have f20:=QEf av 20 (pt sb so) (hD.1 rfl _ rfl)
  refine⟨rfl,?_⟩
  simp[go_sem,f20]
 case s19=>
  refine Qo (λ av wv hE hS hO hD=>?_)
  have f21:=QEf av 21 (pt sb (so+1)) (hD.1 rfl _ rfl)
  refine⟨rfl,?_⟩
  refine Qt (f:=109) (args:=#[.string ⟨#[119]⟩,pt sb (so+1)]) (by simp[go_sem,f21]) (HS4.out wv (Qx hE)) (λ u w2 ⟨v,hu,hs,hb⟩=>⟨u,rfl,Qm hb,v,hu,hs⟩)
 intro a' w' hE hO hall
 have hA:=Ql (ds:=[3,4,5,6,7,8,9,10,11,12,13,14,15,16,17,18,19,20,21,22]) rfl hO (by kernel_rfl)
 obtain⟨j0,j1,j2,j3,j4,j5,j6,j7,j8,j9,j10,j11,j12,j13,j14,j15,j16,j17,j18,j19,_⟩:=hall
 have e3:a'.eval (.tmp 3)=(pt sb so):=j0 _ rfl;have e4:a'.eval (.tmp 4)=(pt sb so):=j1 _ rfl;have e5:a'.eval (.tmp 5)=(pt sb (so+2)):=j2 _ rfl;have e6:(λ u w'=>∃v:FVal,u=v.val∧FIn B w' v S0) (a'.eval (.tmp 6)) w':=j3 _ rfl;have e7:a'.eval (.tmp 7)=(pt sb so):=j4 _ rfl;have e8:a'.eval (.tmp 8)=(pt sb so):=j5 _ rfl;have e9:a'.eval (.tmp 9)=(pt sb (so+4)):=j6 _ rfl;have e10:(λ u w'=>∃v:FVal,u=v.val∧FIn B w' v S1) (a'.eval (.tmp 10)) w':=j7 _ rfl;have e11:a'.eval (.tmp 11)=(pt sb so):=j8 _ rfl;have e12:a'.eval (.tmp 12)=(pt sb so):=j9 _ rfl;have e13:a'.eval (.tmp 13)=(pt sb (so+3)):=j10 _ rfl;have e14:(λ u w'=>∃v:FVal,u=v.val∧FIn B w' v S2) (a'.eval (.tmp 14)) w':=j11 _ rfl;have e15:a'.eval (.tmp 15)=(pt sb so):=j12 _ rfl;have e16:a'.eval (.tmp 16)=(pt sb so):=j13 _ rfl;have e17:a'.eval (.tmp 17)=(pt sb so):=j14 _ rfl;have e18:(λ u w'=>∃v:FVal,u=v.val∧FIn B w' v S3) (a'.eval (.tmp 18)) w':=j15 _ rfl;have e19:a'.eval (.tmp 19)=(pt sb so):=j16 _ rfl;have e20:a'.eval (.tmp 20)=(pt sb so):=j17 _ rfl;have e21:a'.eval (.tmp 21)=(pt sb (so+1)):=j18 _ rfl;have e22:(λ u w'=>∃v:FVal,u=v.val∧FIn B w' v S4) (a'.eval (.tmp 22)) w':=j19 _ rfl
 obtain⟨v6,hv6⟩:∃v,a'.eval (.tmp 6)=v:=⟨_,rfl⟩
 rw[hv6]at e6
 obtain⟨v10,hv10⟩:∃v,a'.eval (.tmp 10)=v:=⟨_,rfl⟩
 rw[hv10]at e10
 obtain⟨v14,hv14⟩:∃v,a'.eval (.tmp 14)=v:=⟨_,rfl⟩
 rw[hv14]at e14
 obtain⟨v18,hv18⟩:∃v,a'.eval (.tmp 18)=v:=⟨_,rfl⟩
 rw[hv18]at e18
 obtain⟨v22,hv22⟩:∃v,a'.eval (.tmp 22)=v:=⟨_,rfl⟩
 rw[hv22]at e22
 simp only[List.foldl_cons,List.foldl_nil,Act.put,List.setIfInBounds_toArray,List.set_cons_succ,List.set_cons_zero,e3,e4,e5,hv6,e7,e8,e9,hv10,e11,e12,e13,hv14,e15,e16,e17,hv18,e19,e20,e21,hv22]at hA
 clear hO j0 j1 j2 j3 j4 j5 j6 j7 j8 j9 j10 j11 j12 j13 j14 j15 j16 j17 j18 j19 e3 e4 e5 hv6 e7 e8 e9 hv10 e11 e12 e13 hv14 e15 e16 e17 hv18 e19 e20 e21 hv22
 subst hA
 obtain⟨x0,rfl,s0⟩:=e6
 obtain⟨x1,rfl,s1⟩:=e10
 obtain⟨x2,rfl,s2⟩:=e14
 obtain⟨x3,rfl,s3⟩:=e18
 obtain⟨x4,rfl,s4⟩:=e22
 have HSS:Hid (FSems B w' [x0,x1,x2,x3,x4] [S0,S1,S2,S3,S4]):=QLh ⟨rfl,λ i hi=>by
  have:i=0 ∨ i=1 ∨ i=2 ∨ i=3 ∨ i=4:=by simp[len]at hi;omega
  rcases this with rfl | rfl | rfl | rfl | rfl
  ·exact s0.2
  ·exact s1.2
  ·exact s2.2
  ·exact s3.2
  ·exact s4.2⟩
 have HBW:Hid (Below w.heap.size w w'∧B≤w'.heap.size):=QLh ⟨Qx hE,s0.1⟩;clear s0 s1 s2 s3 s4 hE
 unfold FVal.val
 go_wp2
 go_ret
 refine⟨w'.heap.size,5,[x0,x1,x2,x3,x4],rfl,⟨Flds.block (l:=[x0,x1,x2,x3,x4]) (heap_alloc_new w' _),_,heap_alloc_new w' _⟩,?_,Qk HBW.out.1 (Qh (Below.refl _ _) _)⟩
 rw[HSP.out]
 exact HSS.out.later (Keep8.of_below (Qh (Below.refl _ _) _) HBW.out.2)
theorem Qq6(B:Nat)(L:Int)(q:Bool)(idx:Int)(a1 a2:Option Addr)(k1 k2:Nat)(wots path:List ByteArray)(w:World)(ht:PTab B w)(hs1:Strs B w a1 wots)(hs2:Strs B w a2 path)(h0:0≤idx)(h1:idx≤18446744073709551615)(hL0:0≤L)(hL1:L≤18446744073709551615)(hw:len wots≤100000)(hp:len path≤100000)
  (hsz:Q8 (Q3 L q idx wots path)=true→(Qbj (Q3 L q idx wots path)).size≤60000000000000):
  Calls Tryz.prog 24 #[.agg #[.int .u64 L,.bool q,.int .u64 idx,.slice a1 (len wots) k1,.slice a2 (len path) k2]] w (LaidIs (Q3 L q idx wots path) w):=by
 have HT:=QLh ht;have HS1:=QLh hs1;have HS2:=QLh hs2;clear ht hs1 hs2
 go_enter Tryz.func24,Tryz.ntmps24
 go_wp2_with fail
 obtain⟨V,hV⟩:∃V,w.alloc (.cells #[.int .u64 L,.bool q,.int .u64 idx,.slice a1 (len wots) k1,.slice a2 (len path) k2] 44)=V:=⟨_,rfl⟩
 have HB:Hid (Below w.heap.size w V):=QLh (by rw[←hV];(repeat (first | exact Below.refl _ _ | assumption | (refine Zd ?_) | (refine Zc ?_ _) | (refine Qh ?_ _) | (refine Zs ?_ (by first | omega | (simp;done) | (simp;omega)) _) | (refine Qk ?_ (by assumption)))))
 have hblk:V.heap[w.heap.size]?=some (.cells #[.int .u64 L,.bool q,.int .u64 idx,.slice a1 (len wots) k1,.slice a2 (len path) k2] 44 (0,0)):=by rw[←hV];exact heap_alloc_new _ _
 have HSL:Hid (SlotAt B V w.heap.size 0 L q idx wots path):=QLh ⟨Qr hblk (by decide) rfl,Qr hblk (by decide) rfl,⟨Qr hblk (by decide) rfl,⟨a1,k1,Qr hblk (by decide) rfl,HS1.out.below HB.out⟩,⟨a2,k2,Qr hblk (by decide) rfl,HS2.out.below HB.out⟩⟩⟩;have HTV:=QLh (HT.out.keep HB.out HT.out.size)
 try rw[hV]
 clear hV hblk HT
 refine(Qq4 B w.heap.size 0 L q idx wots path V HTV.out.size HSL.out h0 h1 hL0 hL1 hw hp).mono ?_
 rintro e w1 ⟨g,c,l,rfl,hF,hS,hb⟩
 have HF:=QLh hF;have HS:=QLh hS;have HB1:Hid (Below w.heap.size w w1):=QLh (Qk HB.out hb);have HT1:=QLh (HTV.out.keep hb HTV.out.size);have hl:len l=3:=hS.1.symm;have HL:=QLh hl;clear hF hS hb hl HTV HSL
 go_wp2_with fail
 refine(Qd6 B g 0 c w1 l (Q3 L q idx wots path) w1 HF.out.flds (by rw[HL.out];decide) (by rw[HL.out];decide) HS.out (Keep8.refl HT1.out.size) HT1.out hsz).mono ?_
 rintro e w2 ⟨rfl,hb2⟩
 have HB2:Hid (Below w.heap.size w w2):=QLh (Qk HB1.out hb2);clear hb2
 cases hm:Q8 (Q3 L q idx wots path)with
 | true=>
  have HM:=QLh hm;clear hm
  rw[if_pos rfl]
  go_wp2
  go_ret2
  exact⟨by rw[HM.out];rfl,HB2.out⟩
 | false=>
  have HM:=QLh hm;clear hm
  rw[if_neg (by decide)]
  go_wp2
  go_ret2
  exact⟨by rw[HM.out];rfl,HB2.out⟩
theorem Qm1(B:Nat)(L:Int)(q:Bool)(idx:Int)(a1 a2:Option Addr)(k1 k2:Nat)(wots path:List ByteArray)(w:World)(ht:PTab B w)(hs1:Strs B w a1 wots)(hs2:Strs B w a2 path)(h0:0≤idx)(h1:idx≤18446744073709551615)(hL0:0≤L)(hL1:L≤18446744073709551615)(hw:len wots≤100000)(hp:len path≤100000)
  (hsz:(Qbj (Q3 L q idx wots path)).size≤60000000000000):
  Calls Tryz.prog 24 #[.agg #[.int .u64 L,.bool q,.int .u64 idx,.slice a1 (len wots) k1,.slice a2 (len path) k2]] w (LaidIs (Q3 L q idx wots path) w):=
 Qq6 B L q idx a1 a2 k1 k2 wots path w ht hs1 hs2 h0 h1 hL0 hL1 hw hp (λ _=>hsz)
theorem Qq7(B:Nat)(root:ByteArray)(weight first life keys:Int)(w:World)(ht:PTab B w)(hr:root.size≤9223372036854775807)(hw:X8 weight)(hf:X8 first)(hl:X8 life)(hk:X8 keys)
  (hsz:Q8 (Q5 root weight first life keys)=true→(Qbj (Q5 root weight first life keys)).size≤60000000000000):
  Calls Tryz.prog 25 #[.agg #[.string root,.int .u64 weight,.int .u64 first,.int .u64 life,.int .u64 keys]] w (LaidIs (Q5 root weight first life keys) w):=by
 have HT:=QLh ht;clear ht
 go_enter Tryz.func25,Tryz.ntmps25
 go_wp2_with fail
 obtain⟨V,hV⟩:∃V,w.alloc (.cells #[.string root,.int .u64 weight,.int .u64 first,.int .u64 life,.int .u64 keys] 46)=V:=⟨_,rfl⟩
 have HB:Hid (Below w.heap.size w V):=QLh (by rw[←hV];(repeat (first | exact Below.refl _ _ | assumption | (refine Zd ?_) | (refine Zc ?_ _) | (refine Qh ?_ _) | (refine Zs ?_ (by first | omega | (simp;done) | (simp;omega)) _) | (refine Qk ?_ (by assumption)))))
 have hblk:V.heap[w.heap.size]?=some (.cells #[.string root,.int .u64 weight,.int .u64 first,.int .u64 life,.int .u64 keys] 46 (0,0)):=by rw[←hV];exact heap_alloc_new _ _
 have HSL:Hid (PartAt B V w.heap.size 0 root weight first life keys):=QLh ⟨Qr hblk (by decide) rfl,Qr hblk (by decide) rfl,Qr hblk (by decide) rfl,Qr hblk (by decide) rfl,Qr hblk (by decide) rfl⟩;have HTV:=QLh (HT.out.keep HB.out HT.out.size)
 try rw[hV]
 clear hV hblk HT
 refine(Qq5 B w.heap.size 0 root weight first life keys V HTV.out.size HSL.out hr hw hf hl hk).mono ?_
 rintro e w1 ⟨g,c,l,rfl,hF,hS,hb⟩
 have HF:=QLh hF;have HS:=QLh hS;have HB1:Hid (Below w.heap.size w w1):=QLh (Qk HB.out hb);have HT1:=QLh (HTV.out.keep hb HTV.out.size);have hl:len l=5:=hS.1.symm;have HL:=QLh hl;clear hF hS hb hl HTV HSL
 go_wp2_with fail
 refine(Qd6 B g 0 c w1 l (Q5 root weight first life keys) w1 HF.out.flds (by rw[HL.out];decide) (by rw[HL.out];decide) HS.out (Keep8.refl HT1.out.size) HT1.out hsz).mono ?_
 rintro e w2 ⟨rfl,hb2⟩
 have HB2:Hid (Below w.heap.size w w2):=QLh (Qk HB1.out hb2);clear hb2
 cases hm:Q8 (Q5 root weight first life keys)with
 | true=>
  have HM:=QLh hm;clear hm
  rw[if_pos rfl]
  go_wp2
  go_ret2
  exact⟨by rw[HM.out];rfl,HB2.out⟩
 | false=>
  have HM:=QLh hm;clear hm
  rw[if_neg (by decide)]
  go_wp2
  go_ret2
  exact⟨by rw[HM.out];rfl,HB2.out⟩
theorem Qm2(B:Nat)(root:ByteArray)(weight first life keys:Int)(w:World)(ht:PTab B w)(hr:root.size≤9223372036854775807)(hw:X8 weight)(hf:X8 first)(hl:X8 life)(hk:X8 keys)
  (hsz:(Qbj (Q5 root weight first life keys)).size≤60000000000000):
  Calls Tryz.prog 25 #[.agg #[.string root,.int .u64 weight,.int .u64 first,.int .u64 life,.int .u64 keys]] w (LaidIs (Q5 root weight first life keys) w):=
 Qq7 B root weight first life keys w ht hr hw hf hl hk (λ _=>hsz)
theorem Jj(B:Nat)(S:FSpec):Qaq (λ w v=>FIn B w v S):=λ w w' v hb h=>h.below hb
structure MsgAt(B:Nat)(w:World)(b o:Nat)(hd:ByteArray)(pt:ByteArray)(cnt:Int)(prv:Int)(fst:Int)(lst:Int):Prop where
 c0:CellAt B w b (o) (.string hd)
 c1:CellAt B w b (o+1) (.string pt)
 c2:CellAt B w b (o+2) (.int .u64 cnt)
 c3:CellAt B w b (o+3) (.int .u64 prv)
 c4:CellAt B w b (o+4) (.int .u64 fst)
 c5:CellAt B w b (o+5) (.int .u64 lst)
def Qc4(hd:ByteArray)(pt:ByteArray)(cnt:Int)(prv:Int)(fst:Int)(lst:Int):List FSpec:=
 [⟨⟨#[102]⟩,false,fst == 0,true,Xr fst⟩,⟨⟨#[104]⟩,true,false,decide (hd.size=32),Jv hd⟩,⟨⟨#[108]⟩,false,lst == 0,true,Xr lst⟩,⟨⟨#[110]⟩,false,cnt == 0,true,Xr cnt⟩,⟨⟨#[118]⟩,true,false,decide (pt.size=32),Jv pt⟩,⟨⟨#[119]⟩,false,prv == 0,true,Xr prv⟩]
theorem Qtc(B sb so:Nat)(hd:ByteArray)(pt:ByteArray)(cnt:Int)(prv:Int)(fst:Int)(lst:Int)(w:World)(hB:B≤w.heap.size)(h:MsgAt B w sb so hd pt cnt prv fst lst)(h0:hd.size≤9223372036854775807)(h1:pt.size≤9223372036854775807)(h2:X8 cnt)(h3:X8 prv)(h4:X8 fst)(h5:X8 lst):
  Calls Tryz.prog 80 #[.pointer (some ⟨sb, so, none⟩)] w (Qoh B (Qc4 hd pt cnt prv fst lst) w):=by
 obtain⟨S0,hS0⟩:∃S:FSpec,(⟨⟨#[102]⟩,false,fst == 0,true,Xr fst⟩:FSpec)=S:=⟨_,rfl⟩
 obtain⟨S1,hS1⟩:∃S:FSpec,(⟨⟨#[104]⟩,true,false,decide (hd.size=32),Jv hd⟩:FSpec)=S:=⟨_,rfl⟩
 obtain⟨S2,hS2⟩:∃S:FSpec,(⟨⟨#[108]⟩,false,lst == 0,true,Xr lst⟩:FSpec)=S:=⟨_,rfl⟩
 obtain⟨S3,hS3⟩:∃S:FSpec,(⟨⟨#[110]⟩,false,cnt == 0,true,Xr cnt⟩:FSpec)=S:=⟨_,rfl⟩
 obtain⟨S4,hS4⟩:∃S:FSpec,(⟨⟨#[118]⟩,true,false,decide (pt.size=32),Jv pt⟩:FSpec)=S:=⟨_,rfl⟩
 obtain⟨S5,hS5⟩:∃S:FSpec,(⟨⟨#[119]⟩,false,prv == 0,true,Xr prv⟩:FSpec)=S:=⟨_,rfl⟩
 refine(Qqz sb so w (λ w v=>FIn B w v S0) (λ w v=>FIn B w v S1) (λ w v=>FIn B w v S2) (λ w v=>FIn B w v S3) (λ w v=>FIn B w v S4) (λ w v=>FIn B w v S5) (λ w' hb=>?p0) (Jj B S0) (λ w' hb=>?p1) (Jj B S1) (λ w' hb=>?p2) (Jj B S2) (λ w' hb=>?p3) (Jj B S3) (λ w' hb=>?p4) (Jj B S4) (λ w' hb=>?p5) (Jj B S5)).mono ?_
 case p0=>
  rw[←hS0]
  exact(Qap B ⟨#[102]⟩ sb (so+4) fst w' (by decide) (Nat.le_trans hB hb.size) (h.c4.below hb) h4.1 h4.2).mono (λ e w'' hh=>Qbw (Nat.le_trans hB hb.size) hh)
 case p1=>
  rw[←hS1]
  exact(Qc3 B ⟨#[104]⟩ sb (so) hd w' (by decide) (Nat.le_trans hB hb.size) (h.c0.below hb) h0).mono (λ e w'' hh=>Qbw (Nat.le_trans hB hb.size) hh)
 case p2=>
  rw[←hS2]
  exact(Qap B ⟨#[108]⟩ sb (so+5) lst w' (by decide) (Nat.le_trans hB hb.size) (h.c5.below hb) h5.1 h5.2).mono (λ e w'' hh=>Qbw (Nat.le_trans hB hb.size) hh)
 case p3=>
  rw[←hS3]
  exact(Qap B ⟨#[110]⟩ sb (so+2) cnt w' (by decide) (Nat.le_trans hB hb.size) (h.c2.below hb) h2.1 h2.2).mono (λ e w'' hh=>Qbw (Nat.le_trans hB hb.size) hh)
 case p4=>
  rw[←hS4]
  exact(Qc3 B ⟨#[118]⟩ sb (so+1) pt w' (by decide) (Nat.le_trans hB hb.size) (h.c1.below hb) h1).mono (λ e w'' hh=>Qbw (Nat.le_trans hB hb.size) hh)
 case p5=>
  rw[←hS5]
  exact(Qap B ⟨#[119]⟩ sb (so+3) prv w' (by decide) (Nat.le_trans hB hb.size) (h.c3.below hb) h3.1 h3.2).mono (λ e w'' hh=>Qbw (Nat.le_trans hB hb.size) hh)
 rintro e w' ⟨u,rfl,⟨g,c,l,rfl,hc,hF,⟨x0,x1,x2,x3,x4,x5,rfl,p0,p1,p2,p3,p4,p5⟩⟩,hb⟩
 refine⟨g,c,[x0,x1,x2,x3,x4,x5],rfl,hF,⟨rfl,λ i hi=>?_⟩,hb⟩
 have hi:i<6:=by simpa [len] using hi
 match i,hi with
 | 0,_=>show FSem B w' x0 (⟨⟨#[102]⟩,false,fst == 0,true,Xr fst⟩);rw[hS0];exact p0.2
 | 1,_=>show FSem B w' x1 (⟨⟨#[104]⟩,true,false,decide (hd.size=32),Jv hd⟩);rw[hS1];exact p1.2
 | 2,_=>show FSem B w' x2 (⟨⟨#[108]⟩,false,lst == 0,true,Xr lst⟩);rw[hS2];exact p2.2
 | 3,_=>show FSem B w' x3 (⟨⟨#[110]⟩,false,cnt == 0,true,Xr cnt⟩);rw[hS3];exact p3.2
 | 4,_=>show FSem B w' x4 (⟨⟨#[118]⟩,true,false,decide (pt.size=32),Jv pt⟩);rw[hS4];exact p4.2
 | 5,_=>show FSem B w' x5 (⟨⟨#[119]⟩,false,prv == 0,true,Xr prv⟩);rw[hS5];exact p5.2
theorem Qtd(B:Nat)(hd:ByteArray)(pt:ByteArray)(cnt:Int)(prv:Int)(fst:Int)(lst:Int)(w:World)(ht:PTab B w)(h0:hd.size≤9223372036854775807)(h1:pt.size≤9223372036854775807)(h2:X8 cnt)(h3:X8 prv)(h4:X8 fst)(h5:X8 lst)
  (hsz:Q8 (Qc4 hd pt cnt prv fst lst)=true→(Qbj (Qc4 hd pt cnt prv fst lst)).size≤60000000000000):
  Calls Tryz.prog 38 #[.agg #[.string hd,.string pt,.int .u64 cnt,.int .u64 prv,.int .u64 fst,.int .u64 lst]] w (LaidIs (Qc4 hd pt cnt prv fst lst) w):=by
 have HT:=QLh ht;clear ht
 go_enter Tryz.func38,Tryz.ntmps38
 go_wp2_with fail
 obtain⟨V,hV⟩:∃V,w.alloc (.cells #[.string hd,.string pt,.int .u64 cnt,.int .u64 prv,.int .u64 fst,.int .u64 lst] 76)=V:=⟨_,rfl⟩
 have HB:Hid (Below w.heap.size w V):=QLh (by rw[←hV];(repeat (first | exact Below.refl _ _ | assumption | (refine Zd ?_) | (refine Zc ?_ _) | (refine Qh ?_ _) | (refine Zs ?_ (by first | omega | (simp;done) | (simp;omega)) _) | (refine Qk ?_ (by assumption)))))
 have hblk:V.heap[w.heap.size]?=some (.cells #[.string hd,.string pt,.int .u64 cnt,.int .u64 prv,.int .u64 fst,.int .u64 lst] 76 (0,0)):=by rw[←hV];exact heap_alloc_new _ _
 have HSL:Hid (MsgAt B V w.heap.size 0 hd pt cnt prv fst lst):=QLh ⟨Qr hblk (by decide) rfl,Qr hblk (by decide) rfl,Qr hblk (by decide) rfl,Qr hblk (by decide) rfl,Qr hblk (by decide) rfl,Qr hblk (by decide) rfl⟩;have HTV:=QLh (HT.out.keep HB.out HT.out.size)
 try rw[hV]
 clear hV hblk HT
 refine(Qtc B w.heap.size 0 hd pt cnt prv fst lst V HTV.out.size HSL.out h0 h1 h2 h3 h4 h5).mono ?_
 rintro e w1 ⟨g,c,l,rfl,hF,hS,hb⟩
 have HF:=QLh hF;have HS:=QLh hS;have HB1:Hid (Below w.heap.size w w1):=QLh (Qk HB.out hb);have HT1:=QLh (HTV.out.keep hb HTV.out.size);have hl:len l=6:=hS.1.symm;have HL:=QLh hl;clear hF hS hb hl HTV HSL
 go_wp2_with fail
 refine(Qd6 B g 0 c w1 l (Qc4 hd pt cnt prv fst lst) w1 HF.out.flds (by rw[HL.out];decide) (by rw[HL.out];decide) HS.out (Keep8.refl HT1.out.size) HT1.out hsz).mono ?_
 rintro e w2 ⟨rfl,hb2⟩
 have HB2:Hid (Below w.heap.size w w2):=QLh (Qk HB1.out hb2);clear hb2
 cases hm:Q8 (Qc4 hd pt cnt prv fst lst)with
 | true=>
  have HM:=QLh hm;clear hm
  rw[if_pos rfl]
  go_wp2
  go_ret2
  exact⟨by rw[HM.out];rfl,HB2.out⟩
 | false=>
  have HM:=QLh hm;clear hm
  rw[if_neg (by decide)]
  go_wp2
  go_ret2
  exact⟨by rw[HM.out];rfl,HB2.out⟩
def Nms(B:Nat)(w:World)(a:Option Addr)(l:List Int):Prop:=∀i,i<len l→∃b off,a=some ⟨b,off,none⟩∧CellAt B w b (off+i) (.int .u64 (nth l i))
theorem Nms.keep{B:Nat}{w w':World}{a:Option Addr}{l:List Int}(h:Nms B w a l)(hk:Keep8 B w w'):Nms B w' a l:=λ i hi=>by
 obtain⟨b,off,e,hc⟩:=h i hi;exact⟨b,off,e,hc.keep hk⟩
theorem Nms.below{B:Nat}{w w':World}{a:Option Addr}{l:List Int}(h:Nms B w a l)(hk:Below w.heap.size w w'):Nms B w' a l:=λ i hi=>by
 obtain⟨b,off,e,hc⟩:=h i hi;exact⟨b,off,e,hc.below hk⟩
def Q0l(w:World)(l:List Int)(g:Nat)(lb:Array Value)(p:Nat→Bool):Prop:=
 (∀args w',(callFunc g args).run Tryz.prog w'=.ok (.enter g args) w')∧∀i,i<len l→∀w',Below w.heap.size w w'→Calls Tryz.prog g (#[.int .u64 (nth l i)]++lb) w' λ e w''=>e=.returned (.bool (p i))∧Below w'.heap.size w' w''
theorem Qv7(B:Nat)(a:Option Addr)(c:Nat)(l:List Int)(g:Nat)(lb:Array Value)(p:Nat→Bool)(w:World)(hl:Nms B w a l)(hn:len l≤100000)(hp:Q0l w l g lb p):
  Calls Tryz.prog 253 #[.slice a (len l) c,.func (.func g) #[] lb] w (Qpe (len l) p w):=by
 have HL:=QLh hl;have HP:=QLh hp.2;have eg:=hp.1;clear hl hp
 go_enter Tryz.func253,Tryz.ntmps253
 go_wp2
 go_loopg [8] (len l) (λ g i wr=>∃m:Nat,g+m=len l∧i=.int .i64 m∧Hid (∀i,i<m→p i=false)∧Hid (Below w.heap.size w wr))
 case atStart=>exact⟨0,rfl,rfl,λ i hi=>by omega,Below.refl _ _⟩
 case round=>
  obtain⟨m,hm,rfl,HN,HB⟩:=hrel
  by_cases hlt:m<len l
  ·obtain⟨b,off,rfl,hc⟩:=(HL.out.below HB.out) m hlt
   have c0:=hc.cell;have i1:(m:Int)<len l:=by omega
   have HC:=QLh (HP.out m hlt wr HB.out);clear hc
   generalize nth l m=v at c0 HC
   go_wp2_with fail
   refine HC.out.mono ?_
   rintro e w1 ⟨rfl,hb⟩
   have HB1:Hid (Below w.heap.size w w1):=QLh (Qk HB.out hb);clear hb c0
   cases hpm:p m with
   | true=>
    go_wp2
    go_ret
    exact⟨m,rfl,.inr ⟨m,hlt,rfl,hpm,HN.out⟩,HB1.out⟩
   | false=>
    have HN2:Hid (∀i,i<m+1→p i=false):=QLh (λ i hi=>by
     by_cases e:i=m
     ·subst e;exact hpm
     ·exact HN.out i (by omega))
    clear hpm
    go_wp2
    go_roundg (len l - (m+1))
    case rel=>exact⟨m+1,by omega,by go_num,HN2.out,HB1.out⟩
    case measure=>omega
  ·obtain rfl:m=len l:=by omega
   have i1:¬((len l:Nat):Int)<len l:=by omega
   go_wp2
   go_ret
   exact⟨-1,rfl,.inl ⟨rfl,HN.out⟩,HB.out⟩
theorem Qk9(B:Nat)(a:Option Addr)(c:Nat)(l:List Int)(g:Nat)(lb:Array Value)(p:Nat→Bool)(w:World)(hl:Nms B w a l)(hn:len l≤100000)(hp:Q0l w l g lb p):
  Calls Tryz.prog 216 #[.slice a (len l) c,.func (.func g) #[] lb] w λ e w'=>∃b,e=.returned (.bool b)∧(b=true ↔ ∃i,i<len l∧p i=true)∧Below w.heap.size w w':=by
 have H:=QLh (Qv7 B a c l g lb p w hl hn hp);clear hl hp
 go_enter Tryz.func216,Tryz.ntmps216
 go_wp2_with fail
 refine H.out.mono ?_
 rintro e w1 ⟨r,rfl,hr,hb⟩
 have HB:=QLh hb;clear hb
 rcases hr with⟨rfl,hall⟩ | ⟨k,hk,rfl,hpk,-⟩
 ·have HA:=QLh hall
  clear hall
  go_wp2
  go_ret
  exact⟨false,rfl,⟨λ h=>(by cases h),fun ⟨i,hi,h⟩=>by rw[HA.out i hi]at h;cases h⟩,HB.out⟩
 ·have HK:=QLh hpk
  clear hpk
  go_wp2
  go_ret
  exact⟨true,rfl,⟨λ _=>⟨k,hk,HK.out⟩,λ _=>rfl⟩,HB.out⟩
theorem Qyr(p:Value)(w:World):Calls Tryz.prog 147 #[p] w λ e w'=>e=.returned (.bool true)∧Below w.heap.size w w':=by
 go_enter Tryz.func147,Tryz.ntmps147
 go_wp2
 go_ret
 exact⟨rfl,Below.refl _ _⟩
theorem Qys(B b base pb po:Nat)(x:Int)(s:ByteArray)(w:World)(h:CellAt B w pb po (.int .u64 x))(hx:X8 x)(ht:PTab B w)(hB:B≤base)(hW:WrB w b base s)(hs:s.size+(Xr x).size≤60000000000000):
  Calls Tryz.prog 148 #[pt b 0,pt pb po] w λ e w'=>e=.returned (.tuple #[])∧WrB w' b base (s++Xr x)∧WK base b w w':=by
 have c1:=h.cell;have H:=QLh (Qyn B b base x s w ht hB hW hx.1 hx.2 (by omega));clear h ht hW hx
 go_enter Tryz.func148,Tryz.ntmps148
 go_wp2_with fail
 refine H.out.mono ?_
 rintro e w' ⟨rfl,h3,h4⟩
 have H3:=QLh h3;have H4:=QLh h4;clear h3 h4
 go_wp2
 go_end0
 exact⟨rfl,H3.out,H4.out⟩
theorem Qoi(B b9:Nat)(x:Int)(w:World)(h1:CellAt B w b9 0 (.func (.func 147) #[] #[])):Calls Tryz.prog 217 #[.int .u64 x,pt b9 0] w λ e w'=>e=.returned (.bool false)∧Below w.heap.size w w':=by
 have c1:=h1.cell;have l1:=h1.lt;have eg:=enters_of Tryz.func147 (by kernel_rfl) rfl;clear h1
 go_enter Tryz.func217,Tryz.ntmps217
 go_wp2_with fail
 refine(Qyr _ _).mono ?_
 rintro e w1 ⟨rfl,hb⟩
 have HB:Hid (Below w.heap.size w w1):=QLh (Qk (Qh (Below.refl _ _) _) hb);clear hb
 go_wp2
 go_ret
 exact⟨rfl,HB.out⟩
theorem Qq8(B b7 b8 b9 pb po c most:Nat)(a:Option Addr)(l:List Int)(w:World)(h1:CellAt B w b7 0 (pt pb po))(h2:CellAt B w pb po (.slice a (len l) c))(h3:CellAt B w b8 0 (.int .i64 most))(h4:CellAt B w b9 0 (.func (.func 147) #[] #[]))
  (hl:Nms B w a l) (hn:len l≤100000):Calls Tryz.prog 215 #[pt b7 0,pt b8 0,pt b9 0] w λ e w'=>e=.returned (.bool (decide (len l≤most)))∧Below w.heap.size w w':=by
 have c1:=h1.cell;have c2:=h2.cell;have c3:=h3.cell;have H4:=QLh h4;have HL:=QLh hl;have eg:=enters_of Tryz.func217 (by kernel_rfl) rfl;clear h1 h2 h3 h4 hl;have HCF:Hid (∀w',Below w.heap.size w w'→Calls Tryz.prog 216 #[.slice a (len l) c,.func (.func 217) #[] #[pt b9 0]] w' λ e w''=>∃b,e=.returned (.bool b)∧(b=true ↔ ∃i,i<len l∧(false:Bool)=true)∧Below w'.heap.size w' w''):=
  QLh (λ w' hb=>Qk9 B a c l _ _ (λ _=>false) w' (HL.out.below hb) hn ⟨eg,λ i hi w'' hb2=>Qoi B b9 (nth l i) w'' ((H4.out.below hb).below hb2)⟩)
 by_cases hm:len l≤most
 ·have i1:decide (len l≤most)=true:=decide_eq_true hm
  have i2:(len l:Int)≤most:=by omega
  have HM:=QLh i1;clear i1 hm
  go_enter Tryz.func215,Tryz.ntmps215
  go_wp2_with fail
  go_still_tail 11,(by kernel_rfl)
  go_wp2_with fail
  refine(HCF.out _ (Zd (Below.refl _ _))).mono ?_
  rintro e w1 ⟨q,rfl,hq,hb⟩
  have HB:Hid (Below w.heap.size w w1):=QLh (Qk (Zd (Below.refl _ _)) hb);have HE:Hid ((!q)=decide (len l≤most)):=QLh (by
   rw[HM.out]
   cases q with
   | true=>obtain⟨i,_,h⟩:=hq.1 rfl;cases h
   | false=>rfl)
  clear hb hq c1 c2 c3
  go_wp2
  go_ret
  exact⟨Z7 HE.out,HB.out⟩
 ·have i1:decide (len l≤most)=false:=decide_eq_false hm
  have HM:=QLh i1;have i2:¬(len l:Int)≤most:=by omega
  go_enter Tryz.func215,Tryz.ntmps215
  go_wp2_with fail
  go_quiet (fail)
  go_wp2
  go_ret
  exact⟨Z7 (by rw[HM.out]),by(repeat (first | exact Below.refl _ _ | assumption | (refine Zd ?_) | (refine Zc ?_ _) | (refine Qh ?_ _) | (refine Zs ?_ (by first | omega | (simp;done) | (simp;omega)) _) | (refine Qk ?_ (by assumption))))⟩
def Q0m(l:List Int):ByteArray:=Z0 (len l)++Xo (l.map Xr)
theorem Qq9(B b base b7 b10 pb po c:Nat)(a:Option Addr)(l:List Int)(s:ByteArray)(W0 w:World)(h1:CellAt B W0 b7 0 (pt pb po))(h2:CellAt B W0 pb po (.slice a (len l) c))(h3:CellAt B W0 b10 0 (.func (.func 148) #[] #[]))
  (hl:Nms B W0 a l) (hn:len l≤60000) (h32:∀i,i<len l→X8 (nth l i)) (hk:Keep8 B W0 w) (hb0:Off8 W0 b)
  (ht:PTab B w) (hB:B≤base) (hW:WrB w b base s) (hs:s.size+(Q0m l).size≤60000000000000):
  Calls Tryz.prog 218 #[pt b 0,pt b7 0,pt b10 0] w λ e w'=>e=.returned (.tuple #[])∧WrB w' b base (s++Q0m l)∧WK base b w w':=by
 have H1:=QLh h1;have H2:=QLh h2;have H3:=QLh h3;have HL:=QLh hl;have H32:=QLh h32;have HK:=QLh hk;have HT:=QLh ht;have HWR:=QLh hW;have HBS:Hid (base≤w.heap.size):=QLh (by have:=hW.1;have:=hW.lt;omega);have HS:Hid (s.size+(Z0 (len l)).size+(Xo (l.map Xr)).size≤60000000000000):=QLh (by unfold Q0m at hs;rw[ByteArray.size_append]at hs;omega);have hs0:s.size≤60000000000000:=by omega
 have c1:=(h1.keep hk).cell;have c2:=(h2.keep hk).cell;have eg:=enters_of Tryz.func148 (by kernel_rfl) rfl;clear h1 h2 h3 hl h32 hk ht hW hs
 go_enter Tryz.func218,Tryz.ntmps218
 go_wp2_with fail
 refine(Qsn B b base (len l) s w HT.out hB HWR.out (by omega) (by omega)).mono ?_
 rintro e w3 ⟨rfl,hw3,hk3⟩
 have HW3:Hid (WrB w3 b base (s++Z0 (len l)++Xo ((l.map Xr).take 0))):=QLh (by
  have e:s++Z0 (len l)++Xo ((l.map Xr).take 0)=s++Z0 (len l):=Xx (by simp[Xo])
  rw[e];exact hw3)
 have HK3:Hid (WK base b w w3):=QLh hk3;have hk8:=HK.out.wk hk3 hb0 hB;have d1:=(H1.out.keep hk8).cell;have d2:=(H2.out.keep hk8).cell;clear hw3 hk3 hk8 c1 c2
 go_wp2
 clear d1 d2
 go_loopg [15] (len l) (λ gg i wr=>∃m:Nat,gg+m=len l∧i=.int .i64 m∧Hid (WrB wr b base (s++Z0 (len l)++Xo ((l.map Xr).take m)))∧Hid (WK base b w wr))
 case atStart=>exact⟨0,rfl,rfl,HW3.out,HK3.out⟩
 case round=>
  clear HW3 HK3
  obtain⟨m,hm2,rfl,HWW,HWK⟩:=hrel
  by_cases hlt:m<len l
  ·have i1:(m:Int)<len l:=by omega
   have hml:m<l.length:=hlt;have hk8:=HK.out.wk HWK.out hb0 hB;have HK8:=QLh hk8;have d1:=(H1.out.keep hk8).cell;have d2:=(H2.out.keep hk8).cell;have d3:=(H3.out.keep hk8).cell
   obtain⟨gb,go,rfl,hcell⟩:=(HL.out.keep hk8) m hlt
   have HCL:=QLh hcell;have hsn:(l.map Xr).take (m+1)=(l.map Xr).take m++[Xr (nth l m)]:=by
    rw[List.take_succ_eq_append_getElem (by simpa using hml),List.getElem_map,Qce l m hml]
   have hct:=Qfw (L:=l.map Xr) (t:=m) (by simpa using hml);have hfm:(l.map Xr)[m]'(by simpa using hml)=Xr (nth l m):=by rw[List.getElem_map,Qce l m hml]
   rw[hfm]at hct
   have h32m:=H32.out m hlt
   obtain⟨x,hx⟩:∃x,nth l m=x:=⟨_,rfl⟩
   rw[hx]at hsn hct h32m HCL
   obtain⟨s1,hs1⟩:∃s1,s++Z0 (len l)++Xo ((l.map Xr).take m)=s1:=⟨_,rfl⟩
   rw[hs1]at HWW
   have hs1s:s1.size+(Xr x).size≤60000000000000:=by
    rw[←hs1,ByteArray.size_append,ByteArray.size_append]
    have:=HS.out
    omega
   have HSN:Hid (s++Z0 (len l)++Xo ((l.map Xr).take (m+1))=s1++Xr x):=QLh (by
    rw[hsn,Qfs,←hs1];simp only[ByteArray.append_assoc])
   have HTR:Hid (PTab B wr):=QLh (HT.out.keep HWK.out.bel hB);have hbr:base≤wr.heap.size:=by have:=HWK.out.bel.size;have:=HBS.out;omega
   have HBR:=QLh hbr;clear hk8 hcell hsn hct hfm hx hs1 hbr
   go_upto_region 4 with fail
   go_still_tail 7,(by kernel_rfl)
   go_wp2_with fail
   refine(Qys B b base gb (go+m) x s1 _ (HCL.out.below (Zd (Below.refl _ _))) h32m (HTR.out.keep (Zd (Below.refl _ _)) HTR.out.size) hB (HWW.out.below (Zd (Below.refl _ _))) hs1s).mono ?_
   rintro e w5 ⟨rfl,hw5,hk5⟩
   have HW5:Hid (WrB w5 b base (s++Z0 (len l)++Xo ((l.map Xr).take (m+1)))):=QLh (by rw[HSN.out];exact hw5);have HK5:Hid (WK base b w w5):=QLh ((HWK.out.trans (WK.of_below (Zd (Below.refl _ _)) HBR.out)).trans hk5);clear hw5 hk5 HWW HWK d1 d2 d3 HCL
   go_wp2
   go_roundg (len l - (m+1))
   case rel=>exact⟨m+1,by omega,by go_num,HW5.out,HK5.out⟩
   case measure=>omega
  ·obtain rfl:m=len l:=by omega
   have i1:¬((len l:Nat):Int)<len l:=by omega
   go_wp2
   go_end0
   refine⟨rfl,?_,HWK.out⟩
   have h:=HWW.out
   rw[List.take_of_length_le (by rw[List.length_map];exact Nat.le_refl _),ByteArray.append_assoc]at h
   exact h
theorem Qte(B:Nat)(key:ByteArray)(pb po c most:Nat)(a:Option Addr)(l:List Int)(w:World)(hk:key.size<65536)(hBw:B≤w.heap.size)(hc:CellAt B w pb po (.slice a (len l) c))(hl:Nms B w a l)(hn:len l≤100000)(hu:∀i,i<len l→X8 (nth l i))(hm:most≤60000):
  Calls Tryz.prog 146 #[.string key,pt pb po,.int .i64 most,.func (.func 147) #[] #[],.func (.func 148) #[] #[],.func (.func 150) #[] #[]] w λ e w'=>∃v:FVal,e=.returned v.val∧FSem B w' v ⟨key,false,decide (len l=0),decide (len l≤most),Q0m l⟩∧Below w.heap.size w w':=by
 refine(Qj6 key pb po most w).mono ?_
 rintro e V ⟨v,rfl,⟨bx,hlo,hM,rfl⟩,hb⟩
 have C0:CellAt B V bx 0 (pt pb po):=Qr hM.b0 (by decide) rfl;have C1:CellAt B V (bx+1) 0 (.int .i64 most):=Qr hM.b1 (by decide) rfl;have C2:CellAt B V (bx+1+1) 0 (.func (.func 147) #[] #[]):=Qr hM.b2 (by decide) rfl;have C3:CellAt B V (bx+1+1+1) 0 (.func (.func 148) #[] #[]):=Qr hM.b3 (by decide) rfl;have CP:CellAt B V pb po (.slice a (len l) c):=hc.below hb;have SL:Nms B V a l:=hl.below hb
 refine⟨_,rfl,?_,hb⟩
 refine⟨rfl,rfl,hk,enters_of Tryz.func214 (by kernel_rfl) rfl,enters_of Tryz.func215 (by kernel_rfl) rfl,enters_of Tryz.func218 (by kernel_rfl) rfl,λ w' hw=>Qkb B bx pb po (len l) c a w' (C0.keep hw) (CP.keep hw),λ w' hw=>Qq8 B bx (bx+1) (bx+1+1) pb po c most a l w' (C0.keep hw) (CP.keep hw) (C1.keep hw) (C2.keep hw) (SL.keep hw) hn,λ hm1 he w' b base s hw hb ht hB hW hs=>Qq9 B b base bx (bx+1+1+1) pb po c a l s V w' C0 CP C3 SL (by have:=of_decide_eq_true hm1;omega) hu hw hb ht hB hW hs⟩
section
variable {B qb rb tb n:Nat} {T:TypeId} {w:World} {x0:Rcd} {s:ByteArray}
theorem Qb6(E:TEnv B qb rb tb n T w)(key:ByteArray){o:Nat}(ho:o<n)(h0:Zj (x0 o)=0):Calls Tryz.prog 109 #[.string key,pt tb o] w (Ji (λ w v=>GSem B qb rb tb x0 T n s w v (Qbl s key o)) w):=
 (Qpq key tb o w).mono λ e w2 ⟨v,he,hs,hb⟩=>⟨v.val,he,v,rfl,Qv2 (E.below hb) hs E.rlt E.tlt ho h0,hb⟩
theorem Qtf(E:TEnv B qb rb tb n T w)(key:ByteArray){o:Nat}(ho:o<n)(h0:Zj (x0 o)=1):Calls Tryz.prog 110 #[.string key,pt tb o] w (Ji (λ w v=>GSem B qb rb tb x0 T n s w v (Qam s key o)) w):=
 (Qmz key tb o w).mono λ e w2 ⟨v,he,hs,hb⟩=>⟨v.val,he,v,rfl,Qs9 (E.below hb) hs E.rlt E.tlt ho h0,hb⟩
theorem Qpr(E:TEnv B qb rb tb n T w)(key:ByteArray){o:Nat}(ho:o<n):Calls Tryz.prog 111 #[.string key,pt tb o] w (Ji (λ w v=>GSem B qb rb tb x0 T n s w v (Qb4 s key o)) w):=
 (Qir key tb o w).mono λ e w2 ⟨v,he,hs,hb⟩=>⟨v.val,he,v,rfl,Qv3 (E.below hb) hs E.rlt E.tlt ho,hb⟩
theorem Qv8(xb a:Nat)(he:RdEnv B w qb rb s a)(hx:w.heap[xb]?=some (.cells #[.string ⟨#[]⟩] 9 (0,0)))(hne:xb≠rb):Calls Tryz.prog 213 #[pt qb 0,pt xb 0] w (Qsr (Qfp s a) (λ y _ c=>c=#[.string y]) rb xb 9 s w):=by
 have H:=QLh (Qgv B qb rb s a w he);have HX:=QLh hx;clear he hx
 go_enter Tryz.func213,Tryz.ntmps213
 go_wp2_with fail
 refine H.out.mono ?_
 intro e w1 hh
 cases hr:Qfp s a with
 | error f=>
  rw[hr]at hh
  obtain⟨fb,rfl,hf,hE⟩:=Qih hh
  have HF:=QLh hf;have HE:=QLh hE;have HR:=QLh hr;clear hh hf hE hr
  go_wp2
  refine⟨rfl,?_⟩
  rw[HR.out]
  exact⟨Chg.of_ext HE.out,fb,rfl,HF.out⟩
 | ok y=>
  rw[hr]at hh
  obtain⟨rfl,hrd,hle,hE⟩:=Qmf hh
  have hb1:w1.heap[xb]?=some (.cells #[.string ⟨#[]⟩] 9 (0,0)):=(hE.block _ (lt_of_block HX.out) (by simpa using hne)).trans HX.out;have q0:w1.cell? ⟨xb,0,none⟩=some (.string ⟨#[]⟩):=Qa hb1 0;have f0:w1.frozen? ⟨xb,0,none⟩=false:=Qj hb1 0;have HB1:=QLh hb1;have HRD:=QLh hrd;have HE:=QLh hE;have HR:=QLh hr;clear hh hrd hE hr hb1
  go_wp2
  go_end0
  rw[HR.out]
  exact⟨(Chg.of_ext HE.out).set 0 _,rfl,Qg HRD.out (by exact λ e=>hne e.symm) _,hle,_,Qb HB1.out _,rfl⟩
theorem Qtg(xb a:Nat)(he:RdEnv B w qb rb s a)(hx:w.heap[xb]?=some (.cells #[.int .u64 0] 23 (0,0)))(hne:xb≠rb):Calls Tryz.prog 150 #[pt qb 0,pt xb 0] w (Qsr (Qib s a) (λ y _ c=>c=#[.int .u64 y]) rb xb 23 s w):=by
 have H:=QLh (Qme w B qb rb s a he);have HX:=QLh hx;have c0:w.cell? ⟨qb,0,none⟩=some (pt rb 0):=Qa he.q 0;clear he hx
 go_enter Tryz.func150,Tryz.ntmps150
 go_wp2_with fail
 refine H.out.mono ?_
 intro e w1 hh
 cases hr:tkR 0 s a with
 | error f=>
  rw[hr]at hh
  obtain⟨fb,rfl,hf,hE,-⟩:=Qc0 hh
  have HF:=QLh hf;have HE:=QLh hE;have HR:Hid (Qib s a=.error f):=QLh (by unfold Qib;rw[hr]);clear hh hf hE hr
  go_wp2_with fail
  refine(Qig _ fb w1).mono ?_
  rintro e w2 ⟨rfl,rfl⟩
  go_wp2
  refine⟨rfl,?_⟩
  rw[HR.out]
  exact⟨Chg.of_ext HE.out,fb,rfl,HF.out⟩
 | ok y=>
  rw[hr]at hh
  obtain⟨rfl,hrd,hE⟩:=Qew hh
  have hle:=(Qck (by decide) hr).1;have HR:Hid (Qib s a=.ok (y.1,y.2.2)):=QLh (by unfold Qib;rw[hr]);have hb1:w1.heap[xb]?=some (.cells #[.int .u64 0] 23 (0,0)):=(hE.block _ (lt_of_block HX.out) (by simpa using hne)).trans HX.out;have q0:w1.cell? ⟨xb,0,none⟩=some (.int .u64 0):=Qa hb1 0;have f0:w1.frozen? ⟨xb,0,none⟩=false:=Qj hb1 0;have HB1:=QLh hb1;have HRD:=QLh hrd;have HE:=QLh hE;clear hh hrd hE hr hb1 c0
  go_wp2_with fail
  refine(Qif _ w1).mono ?_
  rintro e w2 ⟨rfl,rfl⟩
  go_wp2
  go_end0
  rw[HR.out]
  exact⟨(Chg.of_ext HE.out).set 0 _,rfl,Qg HRD.out (by exact λ e=>hne e.symm) _,hle,_,Qb HB1.out _,rfl⟩
theorem Qfy(E:TEnv B qb rb tb n T w)(key:ByteArray){o most:Nat}(ho:o<n)(hm:most≤10240)(h0:x0 o=.strs []):Calls Tryz.prog 145 #[.string key,pt tb o,.int .i64 most] w (Ji (λ w v=>GSem B qb rb tb x0 T n s w v (Qa3 s key o most)) w):=
 (Qhb key tb o most w).mono λ e w2 ⟨v,he,hs,hb⟩=>⟨v.val,he,v,rfl,Qq0 (E.below hb) hs E.rlt E.tlt ho hm h0 (λ w' xb a' hc hxb hx he2=>Qv8 xb a' he2 hx (by have:=(E.below hb).rlt;omega)),hb⟩
theorem Qth(E:TEnv B qb rb tb n T w)(key:ByteArray){o most:Nat}(ho:o<n)(hm:most≤10240)(h0:x0 o=.nums []):Calls Tryz.prog 146 #[.string key,pt tb o,.int .i64 most,.func (.func 147) #[] #[],.func (.func 148) #[] #[],.func (.func 150) #[] #[]] w (Ji (λ w v=>GSem B qb rb tb x0 T n s w v (Xh s key o most .nums (Qib s))) w):=
 (Qj6 key tb o most w).mono λ e w2 ⟨v,he,hs,hb⟩=>⟨v.val,he,v,rfl,Qq1 (E.below hb) hs E.rlt E.tlt ho hm h0 (λ w' xb a' hc hxb hx he2=>Qtg xb a' he2 hx (by have:=(E.below hb).rlt;omega)),hb⟩
theorem Qla(E:TEnv B qb rb tb n T w)(key:ByteArray){g c:Nat}{l:List FVal}{gs:List GSpec}(hF:FRow w g l)(hc:len l≤c)(hS:GSems B qb rb tb x0 T n s w l gs)(hG:GOk x0 gs)(hn:gs.length≤1000):Calls Tryz.prog 107 #[.string key,.slice (some ⟨g,0,none⟩) (len l) c] w (Ji (λ w v=>GSem B qb rb tb x0 T n s w v (Qgt s key gs)) w):=by
 have hl:gs.length=l.length:=hS.1;have hn2:len l≤1000:=by show l.length≤1000;omega
 exact(Qis key g c l w hF hn2).mono λ e w2 ⟨v,he,hs,hb⟩=>⟨v.val,he,v,rfl,Qv5 (E.below hb) hs E.rlt E.tlt (hF.below hb) hc hn2 (hS.later (Chg.of_below hb)) hG,hb⟩
theorem Zq(g:GSpec):Qaq (λ w v=>GSem B qb rb tb x0 T n s w v g):=λ w w' v hb h=>h.later (Chg.of_below hb)
theorem Qe5(gs:List GSpec):Qj9 (λ w l=>GSems B qb rb tb x0 T n s w l gs):=λ w w' l hb h=>h.later (Chg.of_below hb)
end
theorem RowG.imp{P Q:World→List FVal→Prop}{u:Value}{w:World}(h:RowG P u w)(hi:∀l,P w l→Q w l):RowG Q u w:=by
 obtain⟨g,c,l,hu,hc,hF,hp⟩:=h
 exact⟨g,c,l,hu,hc,hF,hi l hp⟩
theorem Qbx{gs:List GSpec}{ks:List ByteArray}(h:gs.map (λ g=>g.key)=ks)(hn:ks.Nodup):Qj5 gs:=λ i j hi hj e=>by
 subst h
 rw[Qax gs i hi,Qax gs j hj]at e
 exact(List.getElem_inj (i:=i) (j:=j) (h₀:=by simpa using hi) (h₁:=by simpa using hj) hn).1 (by simpa using e)
theorem Qe6{gs:List GSpec}{L:List (List Nat)}(h:gs.map (λ g=>g.offs)=L)(hp:L.Pairwise (λ a b=>∀o,o ∈ a→o ∉ b)):Qyq gs:=λ i j hi hj hne o ho hin=>by
 subst h
 rw[Qax gs i hi]at ho
 rw[Qax gs j hj]at hin
 rcases Nat.lt_or_gt_of_ne hne with hlt | hlt
 ·exact List.pairwise_iff_getElem.1 hp i j (by simpa using hi) (by simpa using hj) hlt o (by simpa using ho) (by simpa using hin)
 ·exact List.pairwise_iff_getElem.1 hp j i (by simpa using hj) (by simpa using hi) hlt o (by simpa using hin) (by simpa using ho)
structure KPart(x0:Rcd)(o:Nat):Prop where
 c0:Zj (x0 o)=2
 c1:Zj (x0 (o+1))=0
 c2:Zj (x0 (o+2))=0
 c3:Zj (x0 (o+3))=0
 c4:Zj (x0 (o+4))=0
structure KSig(x0:Rcd)(o:Nat):Prop where
 c0:Zj (x0 o)=0
 c1:x0 (o+1)=.strs []
 c2:x0 (o+2)=.strs []
structure KSlot(x0:Rcd)(o:Nat):Prop where
 c0:Zj (x0 o)=0
 c1:Zj (x0 (o+1))=1
 c2:KSig x0 (o+2)
theorem Qiw{x0:Rcd}(s:ByteArray)(o:Nat)(hK:KPart x0 o):GOk x0 (Zo s o):=by
 refine⟨Qbx (ks:=[⟨#[102]⟩,⟨#[107]⟩,⟨#[108]⟩,⟨#[114]⟩,⟨#[119]⟩]) rfl (by decide),Qe6 rfl ?_,λ g hg=>?_,λ g hg=>?_⟩
 ·simp only[Zo,Qa4,Z3,Zo,Qbl,Qam,Qb4,Qa3,Xh,Qgt,List.map_cons,List.map_nil,List.flatMap_cons,List.flatMap_nil,List.pairwise_cons,List.mem_cons,List.mem_append,List.not_mem_nil,or_false,List.Pairwise.nil,and_true,List.append_nil,List.singleton_append,List.cons_append,List.nil_append,forall_eq_or_imp,forall_eq];(repeat' apply And.intro) <;> first | omega | (intro a h;exact h.elim)
 ·simp only[Zo,List.mem_cons,List.not_mem_nil,or_false]at hg;rcases hg with rfl | rfl | rfl | rfl | rfl
  ·exact Xi _ _ _
  ·exact Xi _ _ _
  ·exact Xi _ _ _
  ·exact Qaf _ _ _
  ·exact Xi _ _ _
 ·simp only[Zo,List.mem_cons,List.not_mem_nil,or_false]at hg;rcases hg with rfl | rfl | rfl | rfl | rfl
  ·exact Xt _ _ (hK.c2)
  ·exact Xt _ _ (hK.c4)
  ·exact Xt _ _ (hK.c3)
  ·exact Qa5 _ _ (hK.c0)
  ·exact Xt _ _ (hK.c1)
theorem Qix{B qb rb tb n:Nat}{T:TypeId}{w:World}{x0:Rcd}{s:ByteArray}(E:TEnv B qb rb tb n T w)(o:Nat)(hn:o+5≤n)(hK:KPart x0 o):Calls Tryz.prog 62 #[pt tb o] w (Qdi (λ w l=>GSems B qb rb tb x0 T n s w l (Zo s o)) w):=by
 refine(Qit tb o w
  (λ w v=>GSem B qb rb tb x0 T n s w v (Qbl s ⟨#[102]⟩ (o+2))) (λ w v=>GSem B qb rb tb x0 T n s w v (Qbl s ⟨#[107]⟩ (o+4))) (λ w v=>GSem B qb rb tb x0 T n s w v (Qbl s ⟨#[108]⟩ (o+3))) (λ w v=>GSem B qb rb tb x0 T n s w v (Qb4 s ⟨#[114]⟩ (o))) (λ w v=>GSem B qb rb tb x0 T n s w v (Qbl s ⟨#[119]⟩ (o+1)))
  (λ w' hb=>Qb6 (E.below hb) ⟨#[102]⟩ (by omega) hK.c2)
  (Zq _)
  (λ w' hb=>Qb6 (E.below hb) ⟨#[107]⟩ (by omega) hK.c4)
  (Zq _)
  (λ w' hb=>Qb6 (E.below hb) ⟨#[108]⟩ (by omega) hK.c3)
  (Zq _)
  (λ w' hb=>Qpr (E.below hb) ⟨#[114]⟩ (by omega))
  (Zq _)
  (λ w' hb=>Qb6 (E.below hb) ⟨#[119]⟩ (by omega) hK.c1)
  (Zq _)).mono ?_
 rintro e w' ⟨u,he,hu,hb⟩
 refine⟨u,he,hu.imp λ l h=>?_,hb⟩
 obtain⟨x0,x1,x2,x3,x4,rfl,p0,p1,p2,p3,p4⟩:=h
 refine⟨rfl,λ i hi=>?_⟩
 match i,hi with
 | 0,_=>exact p0
 | 1,_=>exact p1
 | 2,_=>exact p2
 | 3,_=>exact p3
 | 4,_=>exact p4
theorem Qv9{x0:Rcd}(s:ByteArray)(o:Nat)(hK:KSig x0 o):GOk x0 (Qa4 s o):=by
 refine⟨Qbx (ks:=[⟨#[105]⟩,⟨#[112]⟩,⟨#[118]⟩]) rfl (by decide),Qe6 rfl ?_,λ g hg=>?_,λ g hg=>?_⟩
 ·simp only[Qa4,Qa4,Z3,Zo,Qbl,Qam,Qb4,Qa3,Xh,Qgt,List.map_cons,List.map_nil,List.flatMap_cons,List.flatMap_nil,List.pairwise_cons,List.mem_cons,List.mem_append,List.not_mem_nil,or_false,List.Pairwise.nil,and_true,List.append_nil,List.singleton_append,List.cons_append,List.nil_append,forall_eq_or_imp,forall_eq];(repeat' apply And.intro) <;> first | omega | (intro a h;exact h.elim)
 ·simp only[Qa4,List.mem_cons,List.not_mem_nil,or_false]at hg;rcases hg with rfl | rfl | rfl
  ·exact Xi _ _ _
  ·exact Qaj _ _ _ _ _ _
  ·exact Qaj _ _ _ _ _ _
 ·simp only[Qa4,List.mem_cons,List.not_mem_nil,or_false]at hg;rcases hg with rfl | rfl | rfl
  ·exact Xt _ _ (hK.c0)
  ·exact Qa6 _ _ (λ l=>by rw[hK.c2];rfl)
  ·exact Qa6 _ _ (λ l=>by rw[hK.c1];rfl)
theorem Qra{B qb rb tb n:Nat}{T:TypeId}{w:World}{x0:Rcd}{s:ByteArray}(E:TEnv B qb rb tb n T w)(o:Nat)(hn:o+3≤n)(hK:KSig x0 o):Calls Tryz.prog 108 #[pt tb o] w (Qdi (λ w l=>GSems B qb rb tb x0 T n s w l (Qa4 s o)) w):=by
 refine(Qka tb o w
  (λ w v=>GSem B qb rb tb x0 T n s w v (Qbl s ⟨#[105]⟩ (o))) (λ w v=>GSem B qb rb tb x0 T n s w v (Qa3 s ⟨#[112]⟩ (o+2) 16)) (λ w v=>GSem B qb rb tb x0 T n s w v (Qa3 s ⟨#[118]⟩ (o+1) 67))
  (λ w' hb=>Qb6 (E.below hb) ⟨#[105]⟩ (by omega) hK.c0)
  (Zq _)
  (λ w' hb=>Qfy (E.below hb) ⟨#[112]⟩ (by omega) (by decide) hK.c2)
  (Zq _)
  (λ w' hb=>Qfy (E.below hb) ⟨#[118]⟩ (by omega) (by decide) hK.c1)
  (Zq _)).mono ?_
 rintro e w' ⟨u,he,hu,hb⟩
 refine⟨u,he,hu.imp λ l h=>?_,hb⟩
 obtain⟨x0,x1,x2,rfl,p0,p1,p2⟩:=h
 refine⟨rfl,λ i hi=>?_⟩
 match i,hi with
 | 0,_=>exact p0
 | 1,_=>exact p1
 | 2,_=>exact p2
theorem Qm3{x0:Rcd}(s:ByteArray)(o:Nat)(hK:KSlot x0 o):GOk x0 (Z3 s o):=by
 have hS0:=Qv9 (x0:=x0) s (o+2) hK.c2
 refine⟨Qbx (ks:=[⟨#[103]⟩,⟨#[108]⟩,⟨#[115]⟩]) rfl (by decide),Qe6 rfl ?_,λ g hg=>?_,λ g hg=>?_⟩
 ·simp only[Z3,Qa4,Z3,Zo,Qbl,Qam,Qb4,Qa3,Xh,Qgt,List.map_cons,List.map_nil,List.flatMap_cons,List.flatMap_nil,List.pairwise_cons,List.mem_cons,List.mem_append,List.not_mem_nil,or_false,List.Pairwise.nil,and_true,List.append_nil,List.singleton_append,List.cons_append,List.nil_append,forall_eq_or_imp,forall_eq];(repeat' apply And.intro) <;> first | omega | (intro a h;exact h.elim)
 ·simp only[Z3,List.mem_cons,List.not_mem_nil,or_false]at hg;rcases hg with rfl | rfl | rfl
  ·exact Qcz (hS0).frames
  ·exact Xi _ _ _
  ·exact Ql9 _ _ _
 ·simp only[Z3,List.mem_cons,List.not_mem_nil,or_false]at hg;rcases hg with rfl | rfl | rfl
  ·exact Qd1 (hS0).kinds
  ·exact Xt _ _ (hK.c0)
  ·exact Qn6 _ _ (hK.c1)
theorem Qiy{B qb rb tb n:Nat}{T:TypeId}{w:World}{x0:Rcd}{s:ByteArray}(E:TEnv B qb rb tb n T w)(o:Nat)(hn:o+5≤n)(hK:KSlot x0 o):Calls Tryz.prog 61 #[pt tb o] w (Qdi (λ w l=>GSems B qb rb tb x0 T n s w l (Z3 s o)) w):=by
 refine(Qiu tb o w
  (λ w v=>GSem B qb rb tb x0 T n s w v (Qgt s ⟨#[103]⟩ (Qa4 s (o+2)))) (λ w v=>GSem B qb rb tb x0 T n s w v (Qbl s ⟨#[108]⟩ (o))) (λ w v=>GSem B qb rb tb x0 T n s w v (Qam s ⟨#[115]⟩ (o+1))) (λ w l=>GSems B qb rb tb x0 T n s w l (Qa4 s (o+2)))
  (Qe5 _) (λ w' hb=>Qra (E.below hb) (o+2) (by omega) hK.c2)
  (λ w' g c l hb hF hc hS=>Qla (E.below hb) ⟨#[103]⟩ hF hc hS (Qv9 s (o+2) hK.c2) (show(3:Nat)≤1000 by decide))
  (Zq _)
  (λ w' hb=>Qb6 (E.below hb) ⟨#[108]⟩ (by omega) hK.c0)
  (Zq _)
  (λ w' hb=>Qtf (E.below hb) ⟨#[115]⟩ (by omega) hK.c1)
  (Zq _)).mono ?_
 rintro e w' ⟨u,he,hu,hb⟩
 refine⟨u,he,hu.imp λ l h=>?_,hb⟩
 obtain⟨x0,x1,x2,rfl,p0,p1,p2⟩:=h
 refine⟨rfl,λ i hi=>?_⟩
 match i,hi with
 | 0,_=>exact p0
 | 1,_=>exact p1
 | 2,_=>exact p2
theorem Qc5(s:ByteArray):GOk Jq (Qcj s):=by
 have hS1:=Qiw (x0:=Jq) s (6) ⟨rfl,rfl,rfl,rfl,rfl⟩;have hS2:=Qm3 (x0:=Jq) s (1) ⟨rfl,rfl,⟨rfl,rfl,rfl⟩⟩
 refine⟨Qbx (ks:=[⟨#[112]⟩,⟨#[113]⟩,⟨#[115]⟩]) rfl (by decide),Qe6 rfl ?_,λ g hg=>?_,λ g hg=>?_⟩
 ·simp only[Qcj,Qa4,Z3,Zo,Qbl,Qam,Qb4,Qa3,Xh,Qgt,List.map_cons,List.map_nil,List.flatMap_cons,List.flatMap_nil,List.pairwise_cons,List.mem_cons,List.mem_append,List.not_mem_nil,or_false,List.Pairwise.nil,and_true,List.append_nil,List.singleton_append,List.cons_append,List.nil_append,forall_eq_or_imp,forall_eq];(repeat' apply And.intro) <;> first | omega | (intro a h;exact h.elim)
 ·simp only[Qcj,List.mem_cons,List.not_mem_nil,or_false]at hg;rcases hg with rfl | rfl | rfl
  ·exact Xi _ _ _
  ·exact Qcz (hS1).frames
  ·exact Qcz (hS2).frames
 ·simp only[Qcj,List.mem_cons,List.not_mem_nil,or_false]at hg;rcases hg with rfl | rfl | rfl
  ·exact Xt _ _ (rfl)
  ·exact Qd1 (hS1).kinds
  ·exact Qd1 (hS2).kinds
theorem Qlb{B qb rb tb:Nat}{T:TypeId}{w:World}{s:ByteArray}(E:TEnv B qb rb tb 11 T w):Calls Tryz.prog 155 #[pt tb 0] w (Qdi (λ w l=>GSems B qb rb tb Jq T 11 s w l (Qcj s)) w):=by
 refine(Qfx tb 0 w
  (λ w v=>GSem B qb rb tb Jq T 11 s w v (Qbl s ⟨#[112]⟩ (0))) (λ w v=>GSem B qb rb tb Jq T 11 s w v (Qgt s ⟨#[113]⟩ (Zo s (6)))) (λ w v=>GSem B qb rb tb Jq T 11 s w v (Qgt s ⟨#[115]⟩ (Z3 s (1)))) (λ w l=>GSems B qb rb tb Jq T 11 s w l (Zo s (6))) (λ w l=>GSems B qb rb tb Jq T 11 s w l (Z3 s (1)))
  (λ w' hb=>Qb6 (E.below hb) ⟨#[112]⟩ (by omega) rfl)
  (Zq _)
  (Qe5 _) (λ w' hb=>Qix (E.below hb) (6) (by omega) ⟨rfl,rfl,rfl,rfl,rfl⟩)
  (λ w' g c l hb hF hc hS=>Qla (E.below hb) ⟨#[113]⟩ hF hc hS (Qiw s (6) ⟨rfl,rfl,rfl,rfl,rfl⟩) (show(5:Nat)≤1000 by decide))
  (Zq _)
  (Qe5 _) (λ w' hb=>Qiy (E.below hb) (1) (by omega) ⟨rfl,rfl,⟨rfl,rfl,rfl⟩⟩)
  (λ w' g c l hb hF hc hS=>Qla (E.below hb) ⟨#[115]⟩ hF hc hS (Qm3 s (1) ⟨rfl,rfl,⟨rfl,rfl,rfl⟩⟩) (show(3:Nat)≤1000 by decide))
  (Zq _)).mono ?_
 rintro e w' ⟨u,he,hu,hb⟩
 refine⟨u,he,hu.imp λ l h=>?_,hb⟩
 obtain⟨x0,x1,x2,rfl,p0,p1,p2⟩:=h
 refine⟨rfl,λ i hi=>?_⟩
 match i,hi with
 | 0,_=>exact p0
 | 1,_=>exact p1
 | 2,_=>exact p2
theorem MsgOk(s:ByteArray):GOk msg0 (Qvn s):=by
 refine⟨Qbx (ks:=[⟨#[102]⟩,⟨#[104]⟩,⟨#[108]⟩,⟨#[110]⟩,⟨#[118]⟩,⟨#[119]⟩]) rfl (by decide),Qe6 rfl ?_,λ g hg=>?_,λ g hg=>?_⟩
 ·simp only[Qvn,Qa4,Z3,Zo,Qbl,Qam,Qb4,Qa3,Xh,Qgt,List.map_cons,List.map_nil,List.flatMap_cons,List.flatMap_nil,List.pairwise_cons,List.mem_cons,List.mem_append,List.not_mem_nil,or_false,List.Pairwise.nil,and_true,List.append_nil,List.singleton_append,List.cons_append,List.nil_append,forall_eq_or_imp,forall_eq];(repeat' apply And.intro) <;> first | omega | (intro a h;exact h.elim)
 ·simp only[Qvn,List.mem_cons,List.not_mem_nil,or_false]at hg;rcases hg with rfl | rfl | rfl | rfl | rfl | rfl
  ·exact Xi _ _ _
  ·exact Qaf _ _ _
  ·exact Xi _ _ _
  ·exact Xi _ _ _
  ·exact Qaf _ _ _
  ·exact Xi _ _ _
 ·simp only[Qvn,List.mem_cons,List.not_mem_nil,or_false]at hg;rcases hg with rfl | rfl | rfl | rfl | rfl | rfl
  ·exact Xt _ _ (rfl)
  ·exact Qa5 _ _ (rfl)
  ·exact Xt _ _ (rfl)
  ·exact Xt _ _ (rfl)
  ·exact Qa5 _ _ (rfl)
  ·exact Xt _ _ (rfl)
theorem Q1r(s:ByteArray):GOk Qyh (Qhq s):=by
 refine⟨Qbx (ks:=[⟨#[112]⟩,⟨#[114]⟩,⟨#[115]⟩,⟨#[116]⟩]) rfl (by decide),Qe6 rfl ?_,λ g hg=>?_,λ g hg=>?_⟩
 ·simp only[Qhq,Qa4,Z3,Zo,Qbl,Qam,Qb4,Qa3,Xh,Qgt,List.map_cons,List.map_nil,List.flatMap_cons,List.flatMap_nil,List.pairwise_cons,List.mem_cons,List.mem_append,List.not_mem_nil,or_false,List.Pairwise.nil,and_true,List.append_nil,List.singleton_append,List.cons_append,List.nil_append,forall_eq_or_imp,forall_eq];(repeat' apply And.intro) <;> first | omega | (intro a h;exact h.elim)
 ·simp only[Qhq,List.mem_cons,List.not_mem_nil,or_false]at hg;rcases hg with rfl | rfl | rfl | rfl
  ·exact Qaf _ _ _
  ·exact Xi _ _ _
  ·exact Qaf _ _ _
  ·exact Qaf _ _ _
 ·simp only[Qhq,List.mem_cons,List.not_mem_nil,or_false]at hg;rcases hg with rfl | rfl | rfl | rfl
  ·exact Qa5 _ _ (rfl)
  ·exact Xt _ _ (rfl)
  ·exact Qa5 _ _ (rfl)
  ·exact Qa5 _ _ (rfl)
theorem Qti(s:ByteArray):GOk Q7 (Zp s):=by
 refine⟨Qbx (ks:=[⟨#[80]⟩,⟨#[83]⟩,⟨#[99]⟩,⟨#[112]⟩,⟨#[114]⟩,⟨#[119]⟩]) rfl (by decide),Qe6 rfl ?_,λ g hg=>?_,λ g hg=>?_⟩
 ·simp only[Zp,Qa4,Z3,Zo,Qbl,Qam,Qb4,Qa3,Xh,Qgt,List.map_cons,List.map_nil,List.flatMap_cons,List.flatMap_nil,List.pairwise_cons,List.mem_cons,List.mem_append,List.not_mem_nil,or_false,List.Pairwise.nil,and_true,List.append_nil,List.singleton_append,List.cons_append,List.nil_append,forall_eq_or_imp,forall_eq];(repeat' apply And.intro) <;> first | omega | (intro a h;exact h.elim)
 ·simp only[Zp,List.mem_cons,List.not_mem_nil,or_false]at hg;rcases hg with rfl | rfl | rfl | rfl | rfl | rfl
  ·exact Qaj _ _ _ _ _ _
  ·exact Qaj _ _ _ _ _ _
  ·exact Qaf _ _ _
  ·exact Qaj _ _ _ _ _ _
  ·exact Qaj _ _ _ _ _ _
  ·exact Xi _ _ _
 ·simp only[Zp,List.mem_cons,List.not_mem_nil,or_false]at hg;rcases hg with rfl | rfl | rfl | rfl | rfl | rfl
  ·exact Qa6 _ _ (λ l=>by skip;rfl)
  ·exact Qa6 _ _ (λ l=>by skip;rfl)
  ·exact Qa5 _ _ (rfl)
  ·exact Qa6 _ _ (λ l=>rfl)
  ·exact Qa6 _ _ (λ l=>rfl)
  ·exact Xt _ _ (rfl)
theorem Qbo{rb tb:Nat}{T:TypeId}{w:World}{x:Rcd}{cs:Array Value}(h:w.heap[tb]?=some (.cells cs T (0,0))){n:Nat}(hn:cs.size=n)(hz:∀i,i<n→∃v,cs[i]?=some v∧(match x i with | .num k=>v=.int .u64 k | .flag q=>v=.bool q | .str t=>v=.string t | .strs l=>l=[]∧v=.slice none 0 0 | .nums l=>l=[]∧v=.slice none 0 0 | .revs l=>l=[]∧v=.slice none 0 0)):RecAt rb tb T n w x:=by
 refine⟨cs,h,hn,λ i hi=>?_⟩
 obtain⟨v,h1,h2⟩:=hz i hi
 refine⟨v,h1,?_⟩
 cases hx:x i with
 | num k=>rw[hx]at h2;exact h2
 | flag q=>rw[hx]at h2;exact h2
 | str t=>rw[hx]at h2;exact h2
 | strs l=>
  rw[hx]at h2;obtain⟨rfl,rfl⟩:=h2
  exact⟨none,0,rfl,λ _=>⟨rfl,rfl⟩,λ b off e=>(by cases e),λ i hi=>(by simp[len]at hi),λ b off e=>(by cases e)⟩
 | nums l=>
  rw[hx]at h2;obtain⟨rfl,rfl⟩:=h2
  exact⟨none,0,rfl,λ _=>⟨rfl,rfl⟩,λ b off e=>(by cases e),λ i hi=>(by simp[len]at hi),λ b off e=>(by cases e)⟩
 | revs l=>
  rw[hx]at h2;obtain⟨rfl,rfl⟩:=h2
  exact⟨none,0,rfl,λ _=>⟨rfl,rfl⟩,λ b off e=>(by cases e),[],rfl,λ i hi=>(by simp[len]at hi),λ i hi=>(by simp[len]at hi)⟩
theorem Kd.str{x0 x:Rcd}(h:Kd x0 x){o:Nat}(h0:Zj (x0 o)=2):∃n,x o=.str n:=by
 have:=(h o).trans h0
 cases hx:x o <;> rw[hx]at this <;> first | exact⟨_,rfl⟩ | cases this
theorem Qd7{x0:Rcd}{s:ByteArray}{fs:List GSpec}(hf:∀g ∈ fs,g.Kinds x0){x:Rcd}{a:Nat}{y:Rcd × Nat}(h:Qbr s fs x a=.ok y)(hk:Kd x0 x):Kd x0 y.1:=Qd1 (s:=s) (key:=ByteArray.empty) hf x a y h hk
theorem Qrb{rb xb:Nat}{w:World}{x:Rcd}(h:RecAt rb xb 48 11 w x)(hk:Kd Jq x):∃r:Rev,w.heap[xb]?=some (.cells r.cells.toArray 48 (0,0))∧RevIs rb xb w r (Qnv x):=by
 obtain⟨cs,h1,h2,h3⟩:=h
 obtain⟨m0,e0⟩:=hk.num (show Zj (Jq 0)=_ from rfl)
 obtain⟨u0,g0,d0⟩:=h3 0 (by decide)
 rw[e0]at d0
 obtain⟨m1,e1⟩:=hk.num (show Zj (Jq 1)=_ from rfl)
 obtain⟨u1,g1,d1⟩:=h3 1 (by decide)
 rw[e1]at d1
 obtain⟨m2,e2⟩:=hk.flag (show Zj (Jq 2)=_ from rfl)
 obtain⟨u2,g2,d2⟩:=h3 2 (by decide)
 rw[e2]at d2
 obtain⟨m3,e3⟩:=hk.num (show Zj (Jq 3)=_ from rfl)
 obtain⟨u3,g3,d3⟩:=h3 3 (by decide)
 rw[e3]at d3
 obtain⟨m4,e4⟩:=hk.strs (show Zj (Jq 4)=_ from rfl)
 obtain⟨u4,g4,d4⟩:=h3 4 (by decide)
 rw[e4]at d4
 obtain⟨m5,e5⟩:=hk.strs (show Zj (Jq 5)=_ from rfl)
 obtain⟨u5,g5,d5⟩:=h3 5 (by decide)
 rw[e5]at d5
 obtain⟨m6,e6⟩:=hk.str (show Zj (Jq 6)=_ from rfl)
 obtain⟨u6,g6,d6⟩:=h3 6 (by decide)
 rw[e6]at d6
 obtain⟨m7,e7⟩:=hk.num (show Zj (Jq 7)=_ from rfl)
 obtain⟨u7,g7,d7⟩:=h3 7 (by decide)
 rw[e7]at d7
 obtain⟨m8,e8⟩:=hk.num (show Zj (Jq 8)=_ from rfl)
 obtain⟨u8,g8,d8⟩:=h3 8 (by decide)
 rw[e8]at d8
 obtain⟨m9,e9⟩:=hk.num (show Zj (Jq 9)=_ from rfl)
 obtain⟨u9,g9,d9⟩:=h3 9 (by decide)
 rw[e9]at d9
 obtain⟨m10,e10⟩:=hk.num (show Zj (Jq 10)=_ from rfl)
 obtain⟨u10,g10,d10⟩:=h3 10 (by decide)
 rw[e10]at d10
 obtain⟨a4,k4,d4,-,o4,t4⟩:=d4
 obtain⟨a5,k5,d5,-,o5,t5⟩:=d5
 simp only[HoldsD]at d0 d1 d2 d3 d6 d7 d8 d9 d10
 subst d0 d1 d2 d3 d4 d5 d6 d7 d8 d9 d10
 refine⟨⟨m0,m1,m2,m3,a4,len m4,k4,a5,len m5,k5,m6,m7,m8,m9,m10⟩,?_,?_⟩
 ·rw[h1]
  congr 2
  apply Array.ext_getElem?
  intro i
  match i with
  | 0=>exact g0
  | 1=>exact g1
  | 2=>exact g2
  | 3=>exact g3
  | 4=>exact g4
  | 5=>exact g5
  | 6=>exact g6
  | 7=>exact g7
  | 8=>exact g8
  | 9=>exact g9
  | 10=>exact g10
  | i+11=>rw[Array.getElem?_eq_none (by omega),Array.getElem?_eq_none (by simp[Rev.cells])]
 ·refine⟨?_,?_,?_,?_,?_,?_,o4,?_,?_,o5,?_,?_,?_,?_,?_⟩ <;> simp only[Qnv,e0,e1,e2,e3,e4,e5,e6,e7,e8,e9,e10,DV.n,DV.q,DV.s,DV.l] <;> assumption
section
variable {B qb rb tb n:Nat} {T:TypeId} {w:World} {x0:Rcd} {s:ByteArray}
theorem Qtj(xb a:Nat)(he:RdEnv B w qb rb s a)(hx:w.heap[xb]?=some (.cells #[.int .u64 0,.int .u64 0,.bool false,.int .u64 0,.slice none 0 0,.slice none 0 0,.string ⟨#[]⟩,.int .u64 0,.int .u64 0,.int .u64 0,.int .u64 0] 48 (0,0)))(hne:rb<xb)(hnq:qb≠xb)(hB:B≤xb):Calls Tryz.prog 157 #[pt qb 0,pt xb 0] w (Qsr (Qsf s a) (λ d w2 c=>∃r:Rev,c=r.cells.toArray∧RevIs rb xb w2 r d) rb xb 48 s w):=by
 have E:TEnv B qb rb xb 11 48 w:=⟨⟨_,he.r⟩,⟨_,hx⟩,by omega,hnq,hB,by decide,by decide⟩;have hrec:RecAt rb xb 48 11 w Jq:=Qbo hx rfl (λ i hi=>by
  match i,hi with
  | 0,_=>exact⟨_,rfl,rfl⟩
  | 1,_=>exact⟨_,rfl,rfl⟩
  | 2,_=>exact⟨_,rfl,rfl⟩
  | 3,_=>exact⟨_,rfl,rfl⟩
  | 4,_=>exact⟨_,rfl,rfl,rfl⟩
  | 5,_=>exact⟨_,rfl,rfl,rfl⟩
  | 6,_=>exact⟨_,rfl,rfl⟩
  | 7,_=>exact⟨_,rfl,rfl⟩
  | 8,_=>exact⟨_,rfl,rfl⟩
  | 9,_=>exact⟨_,rfl,rfl⟩
  | 10,_=>exact⟨_,rfl,rfl⟩)
 have H1:=QLh (Qlb (s:=s) E);have HE:=QLh he;have HEE:=QLh E;have HRC:=QLh hrec;clear he hx E hrec
 go_enter Tryz.func157,Tryz.ntmps157
 go_wp2_with fail
 refine H1.out.mono ?_
 rintro e w1 ⟨u,rfl,⟨g,c,l,rfl,hc,hF,hS⟩,hb⟩
 have hl:(Qcj s).length=l.length:=hS.1;have hl3:l.length=3:=hl.symm;have hg:=(HEE.out.below hb).apart hF.ex;have H2:=QLh (Qbu B qb rb xb g 0 c Jq 48 11 s w1 w1 l (Qcj s) a Jq hF.flds hc (by omega:l.length≤1000) hS (Chg.refl _ _ _) hg HEE.out.nq HEE.out.le HEE.out.ne (Qc5 s).keys (Qc5 s).disj (Qc5 s).frames (Qc5 s).kinds (λ i=>rfl) (HRC.out.below hb) (HE.out.below hb) (λ i hi o ho=>rfl));have HB:=QLh hb;clear hF hS hb hl hc
 go_wp2_with fail
 refine H2.out.mono ?_
 intro e w2 hh
 cases hr:Qbr s (Qcj s) Jq a with
 | error f=>
  rw[hr]at hh
  obtain⟨fb,rfl,hf,hc⟩:=Qco hh
  have HF:=QLh hf;have HC:=QLh hc;have HR:Hid (Qsf s a=.error f):=QLh (by unfold Qsf;rw[hr]);clear hh hf hc hr
  go_wp2
  refine⟨rfl,?_⟩
  rw[HR.out]
  exact⟨(Chg.of_below HB.out).trans HC.out,fb,rfl,HF.out⟩
 | ok q=>
  rw[hr]at hh
  obtain⟨rfl,h2,h3,h4,h5⟩:=Qd3 hh
  have H2:=QLh h2;have H4:=QLh (Qrb h4 (Qd7 (Qc5 s).kinds hr (λ i=>rfl)));have H5:=QLh h5;have HR:Hid (Qsf s a=.ok (Qnv q.1,q.2)):=QLh (by unfold Qsf;rw[hr]);clear hh h2 h4 h5 hr
  go_wp2
  go_end0
  obtain⟨r,h6,h7⟩:=H4.out
  rw[HR.out]
  exact⟨(Chg.of_below HB.out).trans H5.out,rfl,H2.out,h3,_,h6,r,rfl,h7⟩
theorem Qtk(E:TEnv B qb rb tb n T w)(key:ByteArray){o most:Nat}(ho:o<n)(hm:most≤10240)(h0:x0 o=.revs []):Calls Tryz.prog 153 #[.string key,pt tb o,.int .i64 most,.func (.func 154) #[] #[],.func (.func 156) #[] #[],.func (.func 157) #[] #[]] w (Ji (λ w v=>GSem B qb rb tb x0 T n s w v (Xh s key o most .revs (Qsf s))) w):=
 (Qj7 key tb o most w).mono λ e w2 ⟨v,he,hs,hb⟩=>⟨v.val,he,v,rfl,Qq2 (E.below hb) hs E.rlt E.tlt ho hm h0 (λ w' xb a' hc hxb hx he2=>Qtj xb a' he2 hx (by have:=(E.below hb).rlt;omega) (by
  intro e;subst e
  have:=he2.q;rw[hx]at this;cases this) (by have:=(E.below hb).tlt;have:=E.le;omega)),hb⟩
end
theorem Qoj{B qb rb tb:Nat}{T:TypeId}{w:World}{s:ByteArray}(E:TEnv B qb rb tb 6 T w):Calls Tryz.prog 93 #[pt tb 0] w (Qdi (λ w l=>GSems B qb rb tb Q7 T 6 s w l (Zp s)) w):=by
 refine(Qiv tb 0 w (λ w v=>GSem B qb rb tb Q7 T 6 s w v (Qa3 s ⟨#[80]⟩ 5 10240)) (λ w v=>GSem B qb rb tb Q7 T 6 s w v (Qa3 s ⟨#[83]⟩ 4 10240)) (λ w v=>GSem B qb rb tb Q7 T 6 s w v (Qb4 s ⟨#[99]⟩ 0)) (λ w v=>GSem B qb rb tb Q7 T 6 s w v (Xh s ⟨#[112]⟩ 3 640 .nums (Qib s))) (λ w v=>GSem B qb rb tb Q7 T 6 s w v (Xh s ⟨#[114]⟩ 2 640 .revs (Qsf s))) (λ w v=>GSem B qb rb tb Q7 T 6 s w v (Qbl s ⟨#[119]⟩ 1))
  (λ w' hb=>Qfy (E.below hb) ⟨#[80]⟩ (by omega) (by decide) rfl) (Zq _)
  (λ w' hb=>Qfy (E.below hb) ⟨#[83]⟩ (by omega) (by decide) rfl) (Zq _)
  (λ w' hb=>Qpr (E.below hb) ⟨#[99]⟩ (by omega)) (Zq _)
  (λ w' hb=>Qth (E.below hb) ⟨#[112]⟩ (by omega) (by decide) rfl) (Zq _)
  (λ w' hb=>Qtk (E.below hb) ⟨#[114]⟩ (by omega) (by decide) rfl) (Zq _)
  (λ w' hb=>Qb6 (E.below hb) ⟨#[119]⟩ (by omega) rfl) (Zq _)).mono ?_
 rintro e w' ⟨u,he,hu,hb⟩
 refine⟨u,he,hu.imp λ l h=>?_,hb⟩
 obtain⟨x0,x1,x2,x3,x4,x5,rfl,p0,p1,p2,p3,p4,p5⟩:=h
 refine⟨rfl,λ i hi=>?_⟩
 match i,hi with
 | 0,_=>exact p0
 | 1,_=>exact p1
 | 2,_=>exact p2
 | 3,_=>exact p3
 | 4,_=>exact p4
 | 5,_=>exact p5
def POk:DV→Prop
 | .num n=>X8 n
 | .nums l=>∀n ∈ l,X8 n
 | _=>True
variable {s:ByteArray} {x0:Rcd}
abbrev FPair:=GSpec × (Rcd→FSpec)
variable {s:ByteArray} {x0:Rcd} {P:List FPair}
theorem Qtl(l:List FSpec):(J6 l).length≤l.length:=List.length_filter_le _ _
def Zh(r:RevD):List FSpec:=[⟨⟨#[112]⟩,false,r.pos == 0,true,Xr r.pos⟩,Jn ⟨#[113]⟩ (Q5 r.root r.wt r.first r.life r.keys),Jn ⟨#[115]⟩ (Q3 r.L r.signed r.idx r.ws r.ps)]
def Qe7(r:RevD):ByteArray:=Qbj (Zh r)
def Qps(l:List RevD)(most:Nat):Bool:=decide (len l≤most) && l.all λ r=>Q8 (Zh r)
theorem Qlc(l:List ByteArray)(most:Nat):Qab l most=true ↔ len l≤most∧∀x ∈ l,x.size=32:=by
 unfold Qab
 rw[Bool.and_eq_true,decide_eq_true_iff,List.all_eq_true]
 exact and_congr_right λ _=>forall_congr' λ x=>forall_congr' λ _=>decide_eq_true_iff
theorem Qld(l:List RevD)(most:Nat):Qps l most=true ↔ len l≤most∧∀x ∈ l,Q8 (Zh x)=true:=by
 unfold Qps
 rw[Bool.and_eq_true,decide_eq_true_iff,List.all_eq_true]
def Za(root:ByteArray)(sg:Int)(rs:List RevD)(cs:List Int)(sp pp:List ByteArray):List FSpec:=
 [⟨⟨#[80]⟩,false,decide (len pp=0),Qab pp 10240,Qdh pp⟩,⟨⟨#[83]⟩,false,decide (len sp=0),Qab sp 10240,Qdh sp⟩,⟨⟨#[99]⟩,true,false,decide (root.size=32),Jv root⟩,
 ⟨⟨#[112]⟩,false,decide (len cs=0),decide (len cs≤640),Z0 (len cs)++Xo (cs.map Xr)⟩,⟨⟨#[114]⟩,false,decide (len rs=0),Qps rs 640,Z0 (len rs)++Xo (rs.map Qe7)⟩,⟨⟨#[119]⟩,false,sg == 0,true,Xr sg⟩]
def RvOk(r:RevD):Prop:=∀o,POk (revC r o)
structure CertOkD(sg:Int)(rs:List RevD)(cs:List Int):Prop where
 sg:X8 sg
 cs:∀n ∈ cs,X8 n
 rs:∀r ∈ rs,RvOk r
def Qdk(w:World)(t:Nat)(y:Obj):World:={ w with heap:=w.heap.setIfInBounds t y }
theorem Qc6{w:World}{t k:Nat}{y:Obj}(h:k≠t):(Qdk w t y).heap[k]?=w.heap[k]?:=by
 show(w.heap.setIfInBounds t y)[k]?=_
 rw[Array.getElem?_setIfInBounds_ne (λ e=>h e.symm)]
theorem Qcr(w:World)(t:Nat)(y:Obj):(Qdk w t y).heap.size=w.heap.size:=Array.size_setIfInBounds
theorem Qtm(w:World)(t:Nat):∃y,Qdk w t y=w:=by
 by_cases h:t<w.heap.size
 ·refine⟨w.heap[t],?_⟩
  unfold Qdk
  have:w.heap.setIfInBounds t w.heap[t]=w.heap:=by
   apply Array.ext_getElem?
   intro i
   by_cases e:t=i
   ·subst e;rw[Array.getElem?_setIfInBounds_self_of_lt h,Array.getElem?_eq_getElem h]
   ·rw[Array.getElem?_setIfInBounds_ne e]
  rw[this]
 ·refine⟨.cells #[] 0 (0,0),?_⟩
  unfold Qdk
  have:w.heap.setIfInBounds t (.cells #[] 0 (0,0))=w.heap:=by
   apply Array.ext_getElem?
   intro i
   by_cases e:t=i
   ·subst e;rw[Array.getElem?_eq_none (by rw[Array.size_setIfInBounds];omega),Array.getElem?_eq_none (by omega)]
   ·rw[Array.getElem?_setIfInBounds_ne e]
  rw[this]
theorem Qok{w:World}{t:Nat}{y x:Obj}(h:(Qdk w t y).heap[t]?=some x):x=y:=by
 have h':(w.heap.setIfInBounds t y)[t]?=some x:=h
 by_cases hl:t<w.heap.size
 ·rw[Array.getElem?_setIfInBounds_self_of_lt hl]at h';cases h';rfl
 ·rw[Array.getElem?_eq_none (by rw[Array.size_setIfInBounds];omega)]at h';cases h'
theorem CellAt.putB{B:Nat}{w:World}{b o t:Nat}{x:Value}(h:CellAt B w b o x)(hb:b≠t)(y:Obj):CellAt B (Qdk w t y) b o x:=h.but hb λ k hk=>Qc6 hk
theorem Qm4{B t:Nat}{w w':World}(hb:Below w.heap.size w w')(hB:B≤w.heap.size)(ht:B≤t)(y:Obj):Keep8 B (Qdk w t y) (Qdk w' t y):=by
 refine⟨by rw[Qcr];exact hB,by rw[Qcr,Qcr];exact hb.size,λ k hk=>?_,λ k x hx hn=>?_⟩
 ·rw[Qc6 (by omega),Qc6 (by omega)];exact hb.block k (by omega)
 ·by_cases e:k=t
  ·subst e
   have hl:k<w.heap.size:=by have:=lt_of_block hx;rw[Qcr]at this;exact this
   have:=Qok hx
   subst this
   show(w'.heap.setIfInBounds k x)[k]?=some x
   rw[Array.getElem?_setIfInBounds_self_of_lt (Nat.lt_of_lt_of_le hl hb.size)]
  ·rw[Qc6 e]at hx ⊢
   rw[hb.block k (lt_of_block hx)];exact hx
def FIT(B t:Nat)(w:World)(v:FVal)(f:FSpec):Prop:=B≤w.heap.size∧B≤t∧∀y,FSem B (Qdk w t y) v f
theorem FIT.below{B t:Nat}{w w':World}{v:FVal}{f:FSpec}(h:FIT B t w v f)(hb:Below w.heap.size w w'):FIT B t w' v f:=
 ⟨Nat.le_trans h.1 hb.size,h.2.1,λ y=>(h.2.2 y).later (Qm4 hb h.1 h.2.1 y)⟩
theorem X6(B t:Nat)(S:FSpec):Qaq (λ w v=>FIT B t w v S):=λ w w' v hb h=>h.below hb
def FITs(B t:Nat)(fs:List FSpec)(w:World)(l:List FVal):Prop:=B≤w.heap.size∧B≤t∧∀y,FSems B (Qdk w t y) l fs
theorem Qd8(B t:Nat)(fs:List FSpec):Qj9 (FITs B t fs):=λ w w' l hb h=>⟨Nat.le_trans h.1 hb.size,h.2.1,λ y=>(h.2.2 y).later (Qm4 hb h.1 h.2.1 y)⟩
theorem FITs.sems{B t:Nat}{fs:List FSpec}{w:World}{l:List FVal}(h:FITs B t fs w l):FSems B w l fs:=by
 obtain⟨y,hy⟩:=Qtm w t
 have:=h.2.2 y
 rw[hy]at this;exact this
theorem Qyt{B t:Nat}{w:World}{x0 x1 x2:FVal}{S0 S1 S2:FSpec}(p0:FIT B t w x0 S0)(p1:FIT B t w x1 S1)(p2:FIT B t w x2 S2):FITs B t [S0,S1,S2] w [x0,x1,x2]:=
 ⟨p0.1,p0.2.1,λ y=>⟨rfl,λ i hi=>by
  have hi:i<3:=by simpa [len] using hi
  match i,hi with
  | 0,_=>exact p0.2.2 y
  | 1,_=>exact p1.2.2 y
  | 2,_=>exact p2.2.2 y⟩⟩
theorem fits5{B t:Nat}{w:World}{x0 x1 x2 x3 x4:FVal}{S0 S1 S2 S3 S4:FSpec}(p0:FIT B t w x0 S0)(p1:FIT B t w x1 S1)(p2:FIT B t w x2 S2)(p3:FIT B t w x3 S3)(p4:FIT B t w x4 S4):FITs B t [S0,S1,S2,S3,S4] w [x0,x1,x2,x3,x4]:=
 ⟨p0.1,p0.2.1,λ y=>⟨rfl,λ i hi=>by
  have hi:i<5:=by simpa [len] using hi
  match i,hi with
  | 0,_=>exact p0.2.2 y
  | 1,_=>exact p1.2.2 y
  | 2,_=>exact p2.2.2 y
  | 3,_=>exact p3.2.2 y
  | 4,_=>exact p4.2.2 y⟩⟩
def CellOff(B t:Nat)(w:World)(b o:Nat)(x:Value):Prop:=CellAt B w b o x∧b≠t
theorem CellOff.below{B t:Nat}{w w':World}{b o:Nat}{x:Value}(h:CellOff B t w b o x)(hb:Below w.heap.size w w'):CellOff B t w' b o x:=⟨h.1.below hb,h.2⟩
theorem CellOff.putB{B t:Nat}{w:World}{b o:Nat}{x:Value}(h:CellOff B t w b o x)(y:Obj):CellAt B (Qdk w t y) b o x:=h.1.putB h.2 y
theorem CellOff.of{B b0:Nat}{W0:World}{b o:Nat}{x:Value}(h:CellAt B W0 b o x)(hb:Off8 W0 b0)(hB:B≤b0):b≠b0:=by
 rcases h.ex with h1 | ⟨y,h1,h2⟩
 ·omega
 ·exact hb.ne h1 h2
def StrsOff(B t:Nat)(w:World)(a:Option Addr)(l:List ByteArray):Prop:=∀i,i<len l→∃b off,a=some ⟨b,off,none⟩∧CellOff B t w b (off+i) (.string (sth l i))
theorem StrsOff.below{B t:Nat}{w w':World}{a:Option Addr}{l:List ByteArray}(h:StrsOff B t w a l)(hb:Below w.heap.size w w'):StrsOff B t w' a l:=λ i hi=>by
 obtain⟨b,off,e,hc⟩:=h i hi;exact⟨b,off,e,hc.below hb⟩
theorem StrsOff.putB{B t:Nat}{w:World}{a:Option Addr}{l:List ByteArray}(h:StrsOff B t w a l)(y:Obj):Strs B (Qdk w t y) a l:=λ i hi=>by
 obtain⟨b,off,e,hc⟩:=h i hi;exact⟨b,off,e,hc.putB y⟩
section
variable {B t:Nat} {w:World}
theorem Qc7(key:ByteArray)(pb po:Nat)(n:Int)(hk:key.size<65536)(hB:B≤w.heap.size)(ht:B≤t)(htw:t<w.heap.size)(hc:CellOff B t w pb po (.int .u64 n))(hn:X8 n):Calls Tryz.prog 109 #[.string key,pt pb po] w (Ji (λ w v=>FIT B t w v ⟨key,false,n == 0,true,Xr n⟩) w):=by
 refine(Qpq key pb po w).mono ?_
 rintro e V ⟨v,rfl,⟨bx,hlo,h0,rfl⟩,hb⟩
 refine⟨_,rfl,_,rfl,⟨Nat.le_trans hB hb.size,ht,λ y=>?_⟩,hb⟩
 have C0:CellAt B (Qdk V t y) bx 0 (pt pb po):=(Qr (B:=B) h0 (by decide) rfl).putB (by omega) y;have C1:=(hc.below hb).putB y
 exact⟨rfl,rfl,hk,enters_of Tryz.func183 (by kernel_rfl) rfl,enters_of Tryz.func184 (by kernel_rfl) rfl,enters_of Tryz.func185 (by kernel_rfl) rfl,
  λ w' hw=>Qk7 B bx pb po n w' (C0.keep hw) (C1.keep hw),λ w' hw=>Qk6 w',λ _ _ w' b base s hw hb ht hB hW hs=>Qpm B b base bx pb po n s w' (C0.keep hw) (C1.keep hw) hn.1 hn.2 ht hB hW hs⟩
theorem Qtn(key:ByteArray)(pb po:Nat)(q:Bool)(hk:key.size<65536)(hB:B≤w.heap.size)(ht:B≤t)(htw:t<w.heap.size)(hc:CellOff B t w pb po (.bool q)):Calls Tryz.prog 110 #[.string key,pt pb po] w (Ji (λ w v=>FIT B t w v ⟨key,false,!q,true,Xr 1⟩) w):=by
 refine(Qmz key pb po w).mono ?_
 rintro e V ⟨v,rfl,⟨bx,hlo,h0,rfl⟩,hb⟩
 refine⟨_,rfl,_,rfl,⟨Nat.le_trans hB hb.size,ht,λ y=>?_⟩,hb⟩
 have C0:CellAt B (Qdk V t y) bx 0 (pt pb po):=(Qr (B:=B) h0 (by decide) rfl).putB (by omega) y;have C1:=(hc.below hb).putB y
 exact⟨rfl,rfl,hk,enters_of Tryz.func187 (by kernel_rfl) rfl,enters_of Tryz.func184 (by kernel_rfl) rfl,enters_of Tryz.func188 (by kernel_rfl) rfl,
  λ w' hw=>Qim B bx pb po q w' (C0.keep hw) (C1.keep hw),λ w' hw=>Qk6 w',λ _ _ w' b base s hw hb ht hB hW hs=>Qmu B b base s w' ht hB hW hs⟩
theorem Qwa(key:ByteArray)(pb po:Nat)(x:ByteArray)(hk:key.size<65536)(hB:B≤w.heap.size)(ht:B≤t)(htw:t<w.heap.size)(hc:CellOff B t w pb po (.string x))(hx:x.size≤9223372036854775807):Calls Tryz.prog 111 #[.string key,pt pb po] w (Ji (λ w v=>FIT B t w v ⟨key,true,false,decide (x.size=32),Jv x⟩) w):=by
 refine(Qir key pb po w).mono ?_
 rintro e V ⟨v,rfl,⟨bx,hlo,h0,rfl⟩,hb⟩
 refine⟨_,rfl,_,rfl,⟨Nat.le_trans hB hb.size,ht,λ y=>?_⟩,hb⟩
 have C0:CellAt B (Qdk V t y) bx 0 (pt pb po):=(Qr (B:=B) h0 (by decide) rfl).putB (by omega) y;have C1:=(hc.below hb).putB y
 exact⟨rfl,rfl,hk,enters_of Tryz.func190 (by kernel_rfl) rfl,enters_of Tryz.func191 (by kernel_rfl) rfl,enters_of Tryz.func192 (by kernel_rfl) rfl,
  λ w' hw=>Qe4 w',λ w' hw=>Qin B bx pb po x w' (C0.keep hw) (C1.keep hw) hx,λ hm _ w' b base s hw hb ht hB hW hs=>Qio B b base bx pb po x s w' (C0.keep hw) (C1.keep hw) (of_decide_eq_true hm) ht hB hW hs⟩
theorem Qm5(key:ByteArray)(pb po c most:Nat)(a:Option Addr)(l:List ByteArray)(hk:key.size<65536)(hB:B≤w.heap.size)(ht:B≤t)(htw:t<w.heap.size)(hc:CellOff B t w pb po (.slice a (len l) c))(hl:StrsOff B t w a l)(hn:len l≤100000)(hm:most≤60000):
  Calls Tryz.prog 145 #[.string key,pt pb po,.int .i64 most] w (Ji (λ w v=>FIT B t w v ⟨key,false,decide (len l=0),Qab l most,Qdh l⟩) w):=by
 refine(Qhb key pb po most w).mono ?_
 rintro e V ⟨v,rfl,⟨bx,hlo,hM,rfl⟩,hb⟩
 refine⟨_,rfl,_,rfl,⟨Nat.le_trans hB hb.size,ht,λ y=>?_⟩,hb⟩
 have hM:=hM.but (t:=t) (w':=Qdk V t y) (by omega) (λ i hi=>Qc6 hi);have C0:CellAt B (Qdk V t y) bx 0 (pt pb po):=Qr hM.b0 (by decide) rfl;have C1:CellAt B (Qdk V t y) (bx+1) 0 (.int .i64 most):=Qr hM.b1 (by decide) rfl;have C2:CellAt B (Qdk V t y) (bx+1+1) 0 (.func (.func 211) #[] #[]):=Qr hM.b2 (by decide) rfl;have C3:CellAt B (Qdk V t y) (bx+1+1+1) 0 (.func (.func 212) #[] #[]):=Qr hM.b3 (by decide) rfl;have CP:=(hc.below hb).putB y;have SL:=(hl.below hb).putB y
 refine⟨rfl,rfl,hk,enters_of Tryz.func247 (by kernel_rfl) rfl,enters_of Tryz.func248 (by kernel_rfl) rfl,enters_of Tryz.func251 (by kernel_rfl) rfl,λ w' hw=>Qip B bx pb po (len l) c a w' (C0.keep hw) (CP.keep hw),λ w' hw=>Qmw B bx (bx+1) (bx+1+1) pb po c most a l w' (C0.keep hw) (CP.keep hw) (C1.keep hw) (C2.keep hw) (SL.keep hw) hn,λ hm1 he w' b base s hw hb ht hB hW hs=>Qmx B b base bx (bx+1+1+1) pb po c a l s (Qdk V t y) w' C0 CP C3 SL (by have:=(Qbv hm1).1;omega) (Qbv hm1).2 hw hb ht hB hW hs⟩
theorem Qwb{W:World}{l:List FVal}{fs:List FSpec}(h:FSems B W l fs):(l.any λ v=>v.must)=(fs.any λ f=>f.must):=by
 rw[Bool.eq_iff_iff,List.any_eq_true,Qiq fs (len l) h.1]
 constructor
 ·rintro⟨v,hv,hm⟩
  obtain⟨i,hi,rfl⟩:=List.getElem_of_mem hv
  have hs:=h.2 i hi
  rw[J9 l i hi]at hs
  exact⟨i,hi,by rw[←hs.must];exact hm⟩
 ·rintro⟨i,hi,hm⟩
  have hi':i<l.length:=hi;have hs:=h.2 i hi
  rw[J9 l i hi']at hs
  exact⟨l[i],List.getElem_mem _,by rw[hs.must];exact hm⟩
theorem Qle(key:ByteArray)(g c:Nat)(l:List FVal)(fs:List FSpec)(hk:key.size<65536)(htw:t<w.heap.size)(hgt:g≠t)(hF:FRow w g l)(h0:0<len fs)(hn:len fs≤1000)(hS:FITs B t fs w l):
  Calls Tryz.prog 107 #[.string key,.slice (some ⟨g,0,none⟩) (len l) c] w (Ji (λ w v=>FIT B t w v (Jn key fs)) w):=by
 have hln:len fs=len l:=hS.sems.1
 refine(Qis key g c l w hF (by omega)).mono ?_
 rintro e V ⟨v,rfl,⟨bx,hlo,hO,rfl⟩,hb⟩
 have hS':=Qd8 B t fs _ _ _ hb hS
 refine⟨_,rfl,_,rfl,⟨hS'.1,hS'.2.1,λ y=>?_⟩,hb⟩
 have hSy:=hS'.2.2 y;have hFy:FRow (Qdk V t y) g l:=by
  obtain⟨h1,cur,h2⟩:=hF.below hb
  exact⟨Qdr h1 (Qc6 hgt),cur,(Qc6 hgt).trans h2⟩
 have C0:CellAt B (Qdk V t y) bx 0 (.slice (some ⟨g,0,none⟩) (len l) c):=(Qr (B:=B) hO (by decide) rfl).putB (by omega) y
 refine⟨rfl,Qwb hSy,hk,enters_of Tryz.func178 (by kernel_rfl) rfl,enters_of Tryz.func180 (by kernel_rfl) rfl,enters_of Tryz.func181 (by kernel_rfl) rfl,
  λ w' hw=>Qpn B bx g c _ l fs w' (C0.keep hw) (hFy.keep hw).flds (by omega) hSy hw,λ w' hw=>Qpo B bx g c _ l fs w' (C0.keep hw) (hFy.keep hw).flds (by omega) hSy hw,
  λ hm _ w' b base s hw hb ht hB hW hs=>Qpp B b base bx g c _ l fs s w' (C0.keep hw) (hFy.keep hw).flds (by omega) (by omega) hSy hm hw hb ht hB hW hs⟩
end
def EsV(VO:Nat→Option Nat)(X:Nat→World→World→Prop)(j:Nat)(w w':World):Prop:=w.grownBy w' (VO j)∧X j w w'
theorem Qpt{VO:Nat→Option Nat}{X:Nat→World→World→Prop}{j:Nat}(hX:∀j w,X j w w)(w:World):EsV VO X j w w:=⟨⟨rfl,rfl,rfl,Nat.le_refl _,λ _ _ _=>rfl⟩,hX j w⟩
theorem Qcs{VO:Nat→Option Nat}{X:Nat→World→World→Prop}{j:Nat}{w w':World}(h:Ext w w')(hx:X j w w'):EsV VO X j w w':=⟨⟨h.os,h.tape,h.output,h.size,λ i hi _=>h.block i hi⟩,hx⟩
structure ExtS(VO:Nat→Option Nat)(w w':World):Prop where
 os:w'.os=w.os
 tape:w'.tape=w.tape
 output:w'.output=w.output
 size:w.heap.size≤w'.heap.size
 block:∀k,k<w.heap.size→(∀j,VO j≠some k)→w'.heap[k]?=w.heap[k]?
theorem ExtS.refl(VO:Nat→Option Nat)(w:World):ExtS VO w w:=⟨rfl,rfl,rfl,Nat.le_refl _,λ _ _ _=>rfl⟩
theorem ExtS.step{VO:Nat→Option Nat}{X:Nat→World→World→Prop}{j:Nat}{a b c:World}(h:ExtS VO a b)(k':EsV VO X j b c):ExtS VO a c:=
 have k:=k'.1
 ⟨k.os.trans h.os,k.tape.trans h.tape,k.output.trans h.output,Nat.le_trans h.size k.size,λ i hi hn=>(k.block i (Nat.lt_of_lt_of_le hi h.size) (λ e=>hn j e.symm)).trans (h.block i hi hn)⟩
structure Here(VO:Nat→Option Nat)(I:World→Prop)(ops:List Oper)(w0 w:World)(D:Nat→Prop)(i:Nat):Prop where
 ext:ExtS VO w0 w
 inv:I w
 late:∀j,¬D j→∀b,VO j=some b→b<w0.heap.size→w.heap[b]?=w0.heap[b]?
 notyet:∀(j:Nat) oj,ops[j]?=some oj→∀e ∈ oj.after,Region.binds .any e=true→¬D e.on→¬D j
 me:¬D i
theorem Here.own{VO:Nat→Option Nat}{I:World→Prop}{ops:List Oper}{w0 w:World}{D:Nat→Prop}{i:Nat}(h:Here VO I ops w0 w D i):∀b,VO i=some b→b<w0.heap.size→w.heap[b]?=w0.heap[b]?:=h.late i h.me
section
variable (P:Program) (ops:List Oper) (a0:Act) (w0:World) (VO:Nat→Option Nat) (X:Nat→World→World→Prop) (I:World→Prop) (PR:Nat→Nat→Value→Value→World→Prop) (Φ:Nat→Value→World→Prop) (Q:Exit→Act→World→Prop)
def Qpu(D:Nat→Prop)(a:Act)(i:Nat)(v:Value)(w':World):Prop:=∀j oj,ops[j]?=some oj→D j→j≠i→PR i j v (Z8 oj a) w'∧PR j i (Z8 oj a) v w'
def Qe8(hd:Nat)(i:Nat)(o:Oper):Prop:=∀(D:Nat→Prop) a w,(∀j oj,ops[j]?=some oj→D j→Φ j (Z8 oj a) w)→Here VO I ops w0 w D i→Qdg ops a0 hd a→Qny ops Φ a w o.after.toList→
 if Region.wanted o (yielded ops.toArray a.tmps)then o.wp P a w (λ a' w'=>∃v,a'=a.put o.dst v∧EsV VO X i w w'∧Φ i (Js o v) w'∧Qpu ops PR D a i (Js o v) w') Q else Φ i undef w∧∀j vi vj w,PR i j vi vj w∧PR j i vi vj w
structure RInvV(n:Nat)(listed:Array Bool)(a:Act)(w:World):Prop where
 head:HeadInv .any ops.toArray n listed
 ext:ExtS VO w0 w
 inv:I w
 ext0:∀i,listed.getD i true=false→∀b,VO i=some b→b<w0.heap.size→w.heap[b]?=w0.heap[b]?
 outer:Qdg ops a0 n a
 done:∀(i:Nat) o,ops[i]?=some o→listed.getD i true=true→Φ i (Z8 o a) w
 pair:∀i j oi oj,ops[i]?=some oi→ops[j]?=some oj→listed.getD i true=true→listed.getD j true=true→i≠j→PR i j (Z8 oi a) (Z8 oj a) w
variable {P ops a0 w0 VO X I PR Φ Q}
theorem Qkd{o:Oper}{i:Nat}{a:Act}{v:Value}(hB:Qau ops a0.tmps.size=true)(hs:a.tmps.size=a0.tmps.size)(ho:ops[i]?=some o):Z8 o (a.put o.dst v)=Js o v:=by
 unfold Z8 Js
 cases hd:o.dst with
 | none=>rfl
 | some d=>
  have hdl:∀d ∈ X4 ops,d<a0.tmps.size:=by
   unfold Qau at hB;simp only[Bool.and_eq_true]at hB
   intro d hd;simpa using List.all_eq_true.1 hB.2 d hd
  have hmem:d ∈ X4 ops:=List.mem_filterMap.2 ⟨o,List.mem_of_getElem? ho,hd⟩
  exact J1 (by rw[hs];exact hdl d hmem)
theorem Qd9{o oj:Oper}{i j:Nat}{a:Act}{v:Value}(hB:Qau ops a0.tmps.size=true)(hij:i≠j)(ho:ops[i]?=some o)(hoj:ops[j]?=some oj):Z8 oj (a.put o.dst v)=Z8 oj a:=by
 have hnd:(X4 ops).Nodup:=by unfold Qau at hB;simp only[Bool.and_eq_true,decide_eq_true_eq]at hB;exact hB.1.2
 unfold Z8
 cases hdj:oj.dst with
 | none=>rfl
 | some d=>
  cases hdo:o.dst with
  | none=>rfl
  | some d'=>
   have hne:d≠d':=by
    rintro rfl
    exact Qh7 hnd hij ho hoj hdo hdj
   exact Je hne
theorem RInvV.next{n:Nat}(hB:Qau ops a0.tmps.size=true)(hVO:∀i j b,VO i=some b→VO j=some b→i=j)
  (hmono:∀i j v w w',i≠j→EsV VO X j w w'→Φ i v w→Φ i v w') (hI:∀j w w',EsV VO X j w w'→I w→I w') (hmonoP:∀i j k vi vj w w',k≠i→k≠j→EsV VO X k w w'→PR i j vi vj w→PR i j vi vj w') {listed:Array Bool} {a:Act} {w:World} (inv:RInvV ops a0 w0 VO I PR Φ n listed a w)
  {i:Nat} {o:Oper} (hi:i ∈ Region.ready .any ops.toArray listed) (hin:i<n) (ho':ops[i]?=some o) {v:Value} {w':World} (he:EsV VO X i w w') (hv:Φ i (Js o v) w') (hpr:Qpu ops PR (λ j=>listed.getD j true=true) a i (Js o v) w'):
  RInvV ops a0 w0 VO I PR Φ n (listed.setIfInBounds i true) (a.put o.dst v) w':=by
 have hnd:(X4 ops).Nodup:=by unfold Qau at hB;simp only[Bool.and_eq_true,decide_eq_true_eq]at hB;exact hB.1.2
 have hdl:∀d ∈ X4 ops,d<a0.tmps.size:=by
  unfold Qau at hB;simp only[Bool.and_eq_true]at hB
  intro d hd;simpa using List.all_eq_true.1 hB.2 d hd
 refine⟨inv.head.set hi hin,inv.ext.step he,hI _ _ _ he inv.inv,λ k hl b hb hlt=>?_,?_,?_,λ i1 j1 oi oj hoi hoj l1 l2 hne=>?_⟩
 ·by_cases his:k=i
  ·exfalso
   subst his
   obtain⟨hun,o',ho,_⟩:=mem_ready.1 hi
   have hil:k<listed.size:=by rw[inv.head.size];exact(Array.getElem?_eq_some_iff.1 ho).1
   simp[hil]at hl
  ·rw[getD_set_ne true (Ne.symm his)]at hl
   have h1:=inv.ext0 k hl b hb hlt
   rw[←h1]
   exact he.1.block b (Nat.lt_of_lt_of_le hlt inv.ext.size) (λ e=>his (hVO k i b hb e.symm))
 ·obtain⟨h1,h2,h3⟩:=inv.outer
  cases hd:o.dst with
  | none=>exact⟨h1,h2,h3⟩
  | some d=>
   refine⟨h1,by simp[Act.put,h2],λ t ht=>?_⟩
   have hmem:d ∈ X4 (ops.take n):=List.mem_filterMap.2 ⟨o,List.mem_of_getElem? (i:=i) (by rw[List.getElem?_take,if_pos hin];exact ho'),hd⟩
   rw[Je (by rintro rfl;simp at ht;exact ht hmem)];exact h3 t ht
 ·intro j oj hoj hl
  by_cases hij:j=i
  ·subst hij
   have:oj=o:=Option.some.inj (hoj.symm.trans ho')
   subst this
   unfold Z8
   unfold Js at hv
   cases hd:oj.dst with
   | none=>simpa [hd] using hv
   | some d=>
    simp only[hd]at hv
    have hmem:d ∈ X4 ops:=List.mem_filterMap.2 ⟨oj,List.mem_of_getElem? ho',hd⟩
    simp only
    rw[J1 (by rw[inv.outer.2.1];exact hdl d hmem)];exact hv
  ·rw[getD_set_ne true (Ne.symm hij)]at hl
   have h1:=hmono j i _ w w' hij he (inv.done j oj hoj hl)
   unfold Z8 at h1 ⊢
   cases hdj:oj.dst with
   | none=>first | exact h1 | simpa [hdj] using h1
   | some d=>
    try simp only[hdj]at h1 ⊢
    cases hdo:o.dst with
    | none=>exact h1
    | some d'=>
     have hne:d≠d':=by
      rintro rfl
      exact Qh7 hnd (Ne.symm hij) ho' hoj hdo hdj
     rw[Je hne];exact h1
 ·by_cases h1:i1=i
  ·subst h1
   have e:oi=o:=Option.some.inj (hoi.symm.trans ho')
   subst e
   rw[Qkd hB inv.outer.2.1 ho',Qd9 hB hne ho' hoj]
   exact(hpr j1 oj hoj (by rwa [getD_set_ne true hne]at l2) (Ne.symm hne)).1
  ·by_cases h2:j1=i
   ·subst h2
    have e:oj=o:=Option.some.inj (hoj.symm.trans ho')
    subst e
    rw[Qkd hB inv.outer.2.1 ho',Qd9 hB (Ne.symm hne) ho' hoi]
    exact(hpr i1 oi hoi (by rwa [getD_set_ne true (Ne.symm hne)]at l1) hne).2
   ·rw[Qd9 hB (Ne.symm h1) ho' hoi,Qd9 hB (Ne.symm h2) ho' hoj]
    exact hmonoP i1 j1 i _ _ w w' (Ne.symm h1) (Ne.symm h2) he (inv.pair i1 j1 oi oj hoi hoj (by rwa [getD_set_ne true (Ne.symm h1)]at l1) (by rwa [getD_set_ne true (Ne.symm h2)]at l2) hne)
theorem Qol{n g:Nat}(hB:Qau ops a0.tmps.size=true)(hVO:∀i j b,VO i=some b→VO j=some b→i=j)
  (hmono:∀i j v w w',i≠j→EsV VO X j w w'→Φ i v w→Φ i v w') (hI:∀j w w',EsV VO X j w w'→I w→I w') (hmonoP:∀i j k vi vj w w',k≠i→k≠j→EsV VO X k w w'→PR i j vi vj w→PR i j vi vj w') (hX:∀j w,X j w w) (hnN:n≤ops.length)
  (hstep:∀(i:Nat) o,i<n→ops[i]?=some o→Qe8 P ops a0 w0 VO X I PR Φ Q n i o)
  (hlate:∀listed,HeadInv .any ops.toArray n listed→(∃i,i<n∧listed.getD i true=false)→Region.ready .any ops.toArray listed≠[]∧∀t ∈ Region.ready .any ops.toArray listed,t<n)
  (hend:∀listed a w,RInvV ops a0 w0 VO I PR Φ n listed a w→(∀i,i<n→listed.getD i true=true)→wpAny P .any ops.toArray Q g listed a w):
  ∀(fuel:Nat) (listed:Array Bool) (a:Act) (w:World),((List.range n).filter (λ i=>!listed.getD i true)).length=fuel→RInvV ops a0 w0 VO I PR Φ n listed a w→
   wpAny P .any ops.toArray Q (fuel+g) listed a w:=by
 intro fuel
 induction fuel with
 | zero=>
  intro listed a w hf inv
  rw[Nat.zero_add]
  refine hend listed a w inv λ i hi=>?_
  cases h:listed.getD i true with
  | true=>rfl
  | false=>
   have:i ∈ (List.range n).filter (λ i=>!listed.getD i true):=List.mem_filter.2 ⟨List.mem_range.2 hi,by rw[h];rfl⟩
   rw[List.eq_nil_of_length_eq_zero hf]at this;cases this
 | succ fuel ih=>
  intro listed a w hf inv
  rw[show fuel+1+g=(fuel+g)+1 by omega]
  have hex:∃i,i<n∧listed.getD i true=false:=by
   cases hl:(List.range n).filter (λ i=>!listed.getD i true)with
   | nil=>rw[hl]at hf;cases hf
   | cons x L=>
    have:x ∈ (List.range n).filter (λ i=>!listed.getD i true):=by rw[hl];exact List.mem_cons_self ..
    obtain⟨h1,h2⟩:=List.mem_filter.1 this
    exact⟨x,List.mem_range.1 h1,by simpa using h2⟩
  obtain⟨hne,hlt⟩:=hlate listed inv.head hex
  refine⟨λ hr=>absurd hr hne,λ i hi=>?_⟩
  have hin:=hlt i hi
  obtain⟨hun,o,ho,hall⟩:=mem_ready.1 hi
  have ho':ops[i]?=some o:=by simpa using ho
  have hls:listed.size=ops.length:=by rw[inv.head.size];simp
  have hdep:Qny ops Φ a w o.after.toList:=Qks λ e he hb oj hoj=>by
   have h1:=hall e (by simpa using he) hb
   refine inv.done e.on oj hoj ?_
   have h2:e.on<listed.size:=by
    rcases Nat.lt_or_ge e.on listed.size with h | h
    ·exact h
    ·simp[Array.getElem?_eq_none h]at h1
   simp[h2]at h1 ⊢;exact h1
  have hst:=hstep i o hin ho' (λ j=>listed.getD j true=true) a w (λ j oj hoj hl=>inv.done j oj hoj hl)
   ⟨inv.ext,inv.inv,λ j hj=>inv.ext0 j (by simpa using hj),λ j oj hoj e he hb hne hD=>(by
    have hjl:j<listed.size:=by rw[hls];exact(List.getElem?_eq_some_iff.1 hoj).1
    have h1:=inv.head.closed j oj (by simpa using hoj) (by simp[hjl]at hD ⊢;exact hD) e he hb
    rcases Nat.lt_or_ge e.on listed.size with h | h
    ·simp[h]at h1 hne;rw[h1]at hne;cases hne
    ·simp[Array.getElem?_eq_none h]at h1),(by rw[hun];exact Bool.false_ne_true)⟩ inv.outer hdep
  have next:∀v w',EsV VO X i w w'→Φ i (Js o v) w'→Qpu ops PR (λ j=>listed.getD j true=true) a i (Js o v) w'→wpAny P .any ops.toArray Q (fuel+g) (listed.setIfInBounds i true) (a.put o.dst v) w':=by
   intro v w' he hv hpr
   refine ih _ _ _ ?_ (inv.next hB hVO hmono hI hmonoP hi hin ho' he hv hpr)
   have:=Qgn (listed:=listed) (i:=i) (by omega) hun _ List.nodup_range (List.mem_range.2 hin)
   omega
  unfold wpOp
  rw[ho]
  dsimp only
  by_cases hw:Region.wanted o (yielded ops.toArray a.tmps)=true
  ·rw[if_pos hw]at hst ⊢
   left
   refine Oper.wp_mono (λ a' w' h=>?_) hst
   obtain⟨v,rfl,he,hv,hpr⟩:=h
   exact next v w' he hv hpr
  ·rw[if_neg hw]at hst ⊢
   have e:Js o undef=undef:=by unfold Js;cases o.dst <;> rfl
   exact next undef w (Qpt hX w) (by rw[e];exact hst.1) (λ j oj _ _ _=>⟨(hst.2 j _ _ w).1,(hst.2 j _ _ w).2⟩)
end
section
variable {P:Program} {Q:Exit→Act→World→Prop} {a:Act} {w:World} {l:List Oper} {VO:Nat→Option Nat} {X:Nat→World→World→Prop} {I:World→Prop} {PR:Nat→Nat→Value→Value→World→Prop} {Φ:Nat→Value→World→Prop}
theorem Qom{n:Nat}(hI0:I w.drew)(hn:n≤l.length):RInvV l a w.drew VO I PR Φ n (Array.replicate l.length false) a w.drew:=
 ⟨⟨by simp,λ j oj _ hl=>(by rw[getD_replicate_false]at hl;cases hl),λ t _ ht=>getD_in (by simpa using ht) (getD_replicate_false _ _)⟩,ExtS.refl _ _,hI0,λ _ _ _ _ _=>rfl,⟨rfl,rfl,λ _ _=>rfl⟩,
  λ i o ho hl=>(by
   have hi:=(List.getElem?_eq_some_iff.1 ho).1
   rw[getD_in (by simpa using hi) (getD_replicate_false _ _)]at hl;cases hl),λ i1 _ oi _ hoi _ l1 _ _=>(by
   have hi:=(List.getElem?_eq_some_iff.1 hoi).1
   rw[getD_in (by simpa using hi) (getD_replicate_false _ _)]at l1;cases l1)⟩
theorem Qar{id:Nat}(n:Nat)(VO:Nat→Option Nat)(hVO:∀i j b,VO i=some b→VO j=some b→i=j)(X:Nat→World→World→Prop)(I:World→Prop)(PR:Nat→Nat→Value→Value→World→Prop)(hX:∀j w,X j w w)(hI0:I w.drew)(Φ:Nat→Value→World→Prop)(hm:P.follows .mixedOrders=true)(hB:Qau l a.tmps.size=true)(hT:Qgo l n=true)
  (hmono:∀i j v w1 w',i≠j→EsV VO X j w1 w'→Φ i v w1→Φ i v w') (hI:∀j w w',EsV VO X j w w'→I w→I w') (hmonoP:∀i j k vi vj w w',k≠i→k≠j→EsV VO X k w w'→PR i j vi vj w→PR i j vi vj w')
  (hstep:∀(i:Nat) o,i<n→l[i]?=some o→Qe8 P l a w.drew VO X I PR Φ Q n i o)
  (hend:∀a' w',ExtS VO w.drew w'→I w'→Qdg l a n a'→Qgm l Φ a' w' 0 n→(∀i j oi oj,l[i]?=some oi→l[j]?=some oj→i<n→j<n→i≠j→PR i j (Z8 oi a') (Z8 oj a') w')→wpList P l.toArray Q (l.drop n) a' w'):(Code.region id l.toArray true).wp P Q a w:=by
 unfold Qgo at hT
 simp only[Bool.and_eq_true,decide_eq_true_eq]at hT
 obtain⟨⟨⟨hn,hs⟩,hc⟩,hseq⟩:=hT
 refine wp_region_any hm ?_
 have H:=Qol (P:=P) (ops:=l) (a0:=a) (w0:=w.drew) (VO:=VO) (X:=X) (I:=I) (PR:=PR) (Φ:=Φ) (Q:=Q) (n:=n) (g:=l.length - n) hB hVO hmono hI hmonoP hX (by omega) hstep
  (λ listed inv ⟨i,hi,hun⟩=>⟨λ hr=>(by
    have:=Qaa (a0:=a) hB (by rw[inv.size];simp) hr i (by omega)
    rw[hun]at this;cases this),λ t ht=>(by
    rcases Nat.lt_or_ge t n with h | h
    ·exact h
    ·exact absurd ht (tail_waits hs hc (by simpa using hn) inv (n - i) i rfl hi hun t h))⟩)
  (λ listed a' w' inv hall=>(by
    have e:=Qes (n:=n) (N:=l.length) (by rw[inv.head.size];simp) hall (λ i h1 h2=>inv.head.tail i h1 (by simpa using h2)) (by omega);have h:=wpAny_of_seq (P:=P) (md:=.any) (Q':=Q) (ops:=l.toArray) (l.drop n) n listed a' w' (λ j=>by simp[List.getElem?_drop]) (by rw[List.length_drop,e];exact hseq)
     (hend a' w' inv.ext inv.inv inv.outer (Qcg _ _ λ j _ h2 o ho=>inv.done j o ho (hall j (by omega))) (λ i j oi oj hoi hoj h1 h2 hne=>inv.pair i j oi oj hoi hoj (hall i h1) (hall j h2) hne))
    rwa [List.length_drop]at h))
  n (Array.replicate l.length false) a w.drew (Qcy _ _ (by omega)) (Qom hI0 (by omega))
 rw[show n+(l.length - n)=l.length by omega]at H
 simpa using H
end
def Qlf(VO:Nat→Option Nat)(X:Nat→World→World→Prop):Nat→List (Value→World→Prop)→Prop
 | _,[]=>True
 | i,φ :: r=>(∀j,j≠i→∀v w1 w',EsV VO X j w1 w'→φ v w1→φ v w')∧Qlf VO X (i+1) r
theorem Qpv{VO:Nat→Option Nat}{X:Nat→World→World→Prop}:∀{L:List (Value→World→Prop)} {k:Nat},Qlf VO X k L→∀i j v w1 w',j≠k+i→EsV VO X j w1 w'→L.getD i (λ _ _=>True) v w1→L.getD i (λ _ _=>True) v w'
 | [],_,_,_,_,_,_,_,_,_,_=>by simp
 | φ :: r,k,h,0,j,v,w1,w',hj,he,hp=>h.1 j hj v w1 w' he hp
 | φ :: r,k,h,i+1,j,v,w1,w',hj,he,hp=>Qpv (L:=r) h.2 i j v w1 w' (by omega) he hp
theorem Qhu{VO:Nat→Option Nat}{X:Nat→World→World→Prop}{L:List (Value→World→Prop)}(h:Qlf VO X 0 L):∀i j v w1 w',i≠j→EsV VO X j w1 w'→Qaw L i v w1→Qaw L i v w':=λ i j v w1 w' hij he hp=>
 Qpv h i j v w1 w' (by omega) he hp
theorem Zl{VO:Nat→Option Nat}{X:Nat→World→World→Prop}{i:Nat}{f:Value→Prop}:∀j,j≠i→∀v w1 w',EsV VO X j w1 w'→(λ v (_:World)=>f v) v w1→(λ v (_:World)=>f v) v w':=λ _ _ _ _ _ _ h=>h
def Qgz(P:Program)(ops:List Oper)(a0:Act)(w0:World)(VO:Nat→Option Nat)(X:Nat→World→World→Prop)(I:World→Prop)(PR:Nat→Nat→Value→Value→World→Prop)(Φ:Nat→Value→World→Prop)(Q:Exit→Act→World→Prop)(hd:Nat):Nat→Nat→List Oper→Prop
 | _,0,_=>True
 | _,_+1,[]=>True
 | i,n+1,o :: r=>Qe8 P ops a0 w0 VO X I PR Φ Q hd i o∧Qgz P ops a0 w0 VO X I PR Φ Q hd (i+1) n r
theorem Qiz{P:Program}{ops:List Oper}{a0:Act}{w0:World}{VO:Nat→Option Nat}{X:Nat→World→World→Prop}{I:World→Prop}{PR:Nat→Nat→Value→Value→World→Prop}{Φ:Nat→Value→World→Prop}{Q:Exit→Act→World→Prop}{hd:Nat}:
  ∀(n k:Nat) (r:List Oper),Qgz P ops a0 w0 VO X I PR Φ Q hd k n r→∀(i:Nat) o,i<n→r[i]?=some o→Qe8 P ops a0 w0 VO X I PR Φ Q hd (k+i) o
 | 0,_,_,_,_,_,h,_=>by omega
 | _+1,_,[],_,_,_,_,h=>by simp at h
 | n+1,k,x :: r,h,0,o,_,ho=>by simp at ho;subst ho;exact h.1
 | n+1,k,x :: r,h,i+1,o,hi,ho=>by
  have:=Qiz n (k+1) r h.2 i o (by omega) (by simpa using ho)
  rwa [Nat.add_assoc,Nat.add_comm 1 i]at this
theorem Qfz{P:Program}{ops:List Oper}{a0:Act}{w0:World}{VO:Nat→Option Nat}{X:Nat→World→World→Prop}{I:World→Prop}{PR:Nat→Nat→Value→Value→World→Prop}{Φ:Nat→Value→World→Prop}{Q:Exit→Act→World→Prop}{hd:Nat}(n:Nat)
  (h:Qgz P ops a0 w0 VO X I PR Φ Q hd 0 n ops):∀(i:Nat) o,i<n→ops[i]?=some o→Qe8 P ops a0 w0 VO X I PR Φ Q hd i o:=λ i o hi ho=>by
 have:=Qiz n 0 ops h i o hi ho
 rwa [Nat.zero_add]at this
section
variable {P:Program} {ops:List Oper} {a0:Act} {w0:World} {VO:Nat→Option Nat} {X:Nat→World→World→Prop} {I:World→Prop} {PR:Nat→Nat→Value→Value→World→Prop} {Φ:Nat→Value→World→Prop} {Q:Exit→Act→World→Prop} {hd:Nat} {i:Nat} {o:Oper}
theorem Qbp(h:∀(D:Nat→Prop) a w1,(∀j oj,ops[j]?=some oj→D j→Φ j (Z8 oj a) w1)→Here VO I ops w0 w1 D i→Qdg ops a0 hd a→Qny ops Φ a w1 o.after.toList→
  Region.wanted o (yielded ops.toArray a.tmps)=true∧o.wp P a w1 (λ a' w'=>∃v,a'=a.put o.dst v∧EsV VO X i w1 w'∧Φ i (Js o v) w'∧Qpu ops PR D a i (Js o v) w') Q):Qe8 P ops a0 w0 VO X I PR Φ Q hd i o:=λ D a w1 hP hE hO hD=>by
 obtain⟨h1,h2⟩:=h D a w1 hP hE hO hD
 rw[if_pos h1];exact h2
theorem Ze{v:Value}(hX:∀j w,X j w w)(hp:∀j vi vj w,PR i j vi vj w∧PR j i vi vj w)(h:∀(D:Nat→Prop) a w1,Here VO I ops w0 w1 D i→Qdg ops a0 hd a→Qny ops Φ a w1 o.after.toList→
  Region.wanted o (yielded ops.toArray a.tmps)=true∧(execOp a.eval o).run P w1=.ok (.value v) w1) (hφ:∀w1,Φ i (Js o v) w1):Qe8 P ops a0 w0 VO X I PR Φ Q hd i o:=λ D a w1 hP hE hO hD=>by
 obtain⟨h1,h2⟩:=h D a w1 hE hO hD
 rw[if_pos h1]
 unfold Oper.wp
 rw[h2]
 exact⟨v,rfl,Qpt hX w1,hφ w1,λ j oj _ _ _=>⟨(hp j _ _ w1).1,(hp j _ _ w1).2⟩⟩
end
theorem Qv{w w1:World}{b:Nat}(h:Jg (some b) w w1)(o:Nat)(v:Value):Jg (some b) w (w1.setCell ⟨b,o,none⟩ v):=
 ⟨h.os,h.tape,h.output,by simpa using h.size,λ i hi hn=>by rw[Below.heap_setCell _ _ _ _ (λ e=>hn (by rw[e]))];exact h.block i hi hn⟩
def Up(rb:Nat)(w w':World):Prop:=∀b,rb<b→b<w.heap.size→w'.heap[b]?=w.heap[b]?
theorem Tx.up{rb tb:Nat}{w w':World}{a:Option Addr}{l:List ByteArray}(h:Tx w a l)(ho:Off rb tb a)(hu:Up rb w w'):Tx w' a l:=h.keep λ b off cs e h2=>hu b (ho b off e).1 (lt_of_block h2)
theorem Ux.up{rb tb:Nat}{w w':World}{a:Option Addr}{l:List Int}(h:Ux w a l)(ho:Off rb tb a)(hu:Up rb w w'):Ux w' a l:=h.keep λ b off cs e h2=>hu b (ho b off e).1 (lt_of_block h2)
theorem RevIs.up{rb tb:Nat}{w w':World}{r:Rev}{d:RevD}(h:RevIs rb tb w r d)(hu:Up rb w w'):RevIs rb tb w' r d:=
 ⟨h.pos,h.L,h.signed,h.idx,h.wn,h.ws.up h.wo hu,h.wo,h.pn,h.ps.up h.po hu,h.po,h.root,h.wt,h.first,h.life,h.keys⟩
theorem HoldsD.up{rb tb:Nat}{w w':World}{v:Value}{d:DV}(h:HoldsD rb tb w v d)(hu:Up rb w w'):HoldsD rb tb w' v d:=by
 cases d with
 | num n=>exact h
 | flag q=>exact h
 | str s=>exact h
 | strs l=>obtain⟨a,c,h1,h2,h3,h4⟩:=h;exact⟨a,c,h1,h2,h3,h4.up h3 hu⟩
 | nums l=>obtain⟨a,c,h1,h2,h3,h4⟩:=h;exact⟨a,c,h1,h2,h3,h4.up h3 hu⟩
 | revs l=>
  obtain⟨a,c,h1,h2,h3,rs,h4,h5,h6⟩:=h
  refine⟨a,c,h1,h2,h3,rs,h4,λ i hi=>?_,λ i hi=>(h6 i hi).up hu⟩
  obtain⟨b,off,rfl,hc⟩:=h5 i hi
  have e:∀q,w'.cell? ⟨b,q,none⟩=w.cell? ⟨b,q,none⟩:=λ q=>World.cell?_of_block (w:=w) (hu b (h3 b off rfl).1 (Qw hc.c0))
  obtain⟨c0,c1,c2,c3,c4,c5,c6,c7,c8,c9,c10⟩:=hc
  exact⟨b,off,rfl,by constructor <;> (rw[e];assumption)⟩
theorem arr5{cs:Array Value}(h:cs.size=5):∃u0 u1 u2 u3 u4:Value,cs=#[u0,u1,u2,u3,u4]:=by
 obtain⟨l⟩:=cs
 match l,h with
 | [a,b,c,d,e],_=>exact⟨a,b,c,d,e,rfl⟩
theorem arr6{cs:Array Value}(h:cs.size=6):∃u0 u1 u2 u3 u4 u5:Value,cs=#[u0,u1,u2,u3,u4,u5]:=by
 obtain⟨l⟩:=cs
 match l,h with
 | [a,b,c,d,e,f],_=>exact⟨a,b,c,d,e,f,rfl⟩
theorem Qe9(f:Nat)(w:World):(Instr.typeAssert (.iface 193 (.agg #[.iface 127 (pt f 0)])) 20 193 true).run Tryz.prog w=.ok (.tuple #[.agg #[.iface 127 (pt f 0)],.bool true]) w:=by kernel_rfl
theorem Qa9(p q x:Value):#[p,q]++((Array.replicate 18 undef).setIfInBounds 4 x).setIfInBounds 0 x=#[p,q,x,undef,undef,undef,x,undef,undef,undef,undef,undef,undef,undef,undef,undef,undef,undef,undef,undef]:=by
 simp[Array.replicate,List.replicate]
abbrev Xm(x:Rcd):Array Value:=#[.string (x 0).s,.int .u64 (x 1).n,.int .u64 (x 2).n,.int .u64 (x 3).n,.int .u64 (x 4).n]
abbrev Qc8:Value:=.agg #[.string ⟨#[]⟩,.int .u64 0,.int .u64 0,.int .u64 0,.int .u64 0]
def LiesPart(rb tb:Nat)(w:World)(x:Rcd):Prop:=True
theorem LiesPart.below{rb tb:Nat}{w w':World}{x:Rcd}(h:LiesPart rb tb w x)(hb:Below w.heap.size w w'):LiesPart rb tb w' x:=trivial
theorem LiesPart.up{rb tb:Nat}{w w':World}{x:Rcd}(h:LiesPart rb tb w x)(hb:Up rb w w'):LiesPart rb tb w' x:=trivial
theorem Qby{rb tb:Nat}{w:World}{x:Rcd}(h:RecAt rb tb 46 5 w x)(hk:Kd Xl x):∃(_:Unit),w.heap[tb]?=some (.cells (Xm x) 46 (0,0))∧LiesPart rb tb w x:=by
 obtain⟨cs,h1,h2,h3⟩:=h
 obtain⟨m0,e0⟩:=hk.str (show Zj (Xl 0)=_ from rfl)
 obtain⟨u0,g0,d0⟩:=h3 0 (by decide)
 rw[e0]at d0
 simp only[HoldsD]at d0
 subst d0
 obtain⟨m1,e1⟩:=hk.num (show Zj (Xl 1)=_ from rfl)
 obtain⟨u1,g1,d1⟩:=h3 1 (by decide)
 rw[e1]at d1
 simp only[HoldsD]at d1
 subst d1
 obtain⟨m2,e2⟩:=hk.num (show Zj (Xl 2)=_ from rfl)
 obtain⟨u2,g2,d2⟩:=h3 2 (by decide)
 rw[e2]at d2
 simp only[HoldsD]at d2
 subst d2
 obtain⟨m3,e3⟩:=hk.num (show Zj (Xl 3)=_ from rfl)
 obtain⟨u3,g3,d3⟩:=h3 3 (by decide)
 rw[e3]at d3
 simp only[HoldsD]at d3
 subst d3
 obtain⟨m4,e4⟩:=hk.num (show Zj (Xl 4)=_ from rfl)
 obtain⟨u4,g4,d4⟩:=h3 4 (by decide)
 rw[e4]at d4
 simp only[HoldsD]at d4
 subst d4
 refine⟨(),?_,?_⟩
 ·rw[h1];congr 2;apply Array.ext_getElem?;intro i
  match i with
  | 0=>rw[g0];simp[e0,DV.n,DV.q,DV.s,DV.l,DV.ns,DV.rs]
  | 1=>rw[g1];simp[e1,DV.n,DV.q,DV.s,DV.l,DV.ns,DV.rs]
  | 2=>rw[g2];simp[e2,DV.n,DV.q,DV.s,DV.l,DV.ns,DV.rs]
  | 3=>rw[g3];simp[e3,DV.n,DV.q,DV.s,DV.l,DV.ns,DV.rs]
  | 4=>rw[g4];simp[e4,DV.n,DV.q,DV.s,DV.l,DV.ns,DV.rs]
  | i+5=>rw[Array.getElem?_eq_none (by omega),Array.getElem?_eq_none (by simp)]
 ·trivial
theorem Qem(p q:Value)(w:World):CallsD Tryz.prog 121 #[p,q] .returning w λ e u' w'=>e=.returned (.tuple #[])∧u'=.returning∧w'=w:=by
 refine callsD_of_wpS Tryz.func121 rfl λ c₀ cs hu=>?_
 apply wpS_seq
 apply wpS_region
 simp[wpOpsS,go_sem,recoverD,hu,Tryz.ntmps121,Exit.thenS]
 refine wpS_of_wp ?_
 obtain⟨Q,hQ⟩:∃Q:Exit→Act→World→Prop,(λ e a' w'=>bodyPostS Tryz.prog Tryz.f121 c₀ cs (λ e u' w'=>e=Ending.returned (.tuple #[])∧u'=.returning∧w'=w) e a' (c₀ :: cs) w')=Q:=⟨_,rfl⟩
 rw[hQ,Qa9]
 have HQ:=QLh hQ;clear hQ
 go_wp2
 rw[←HQ.out]
 simp[bodyPostS,results,Tryz.results121]
 cases c₀;simp_all
structure AfterPart(tb eb fb:Nat)(w w':World):Prop where
 os:w'.os=w.os
 tape:w'.tape=w.tape
 output:w'.output=w.output
 size:w.heap.size≤w'.heap.size
 block:∀i,i<w.heap.size→i≠tb→i≠eb→w'.heap[i]?=w.heap[i]?
 th:w'.heap[tb]?=some (.cells #[.string ⟨#[]⟩,.int .u64 0,.int .u64 0,.int .u64 0,.int .u64 0] 46 (0,0))
 er:w'.heap[eb]?=some (.cells #[.iface 127 (pt fb 0)] 59 (0,0))
theorem Qjs(tb eb fb:Nat)(cs:Array Value)(w:World)(ht:w.heap[tb]?=some (.cells cs 46 (0,0)))(hcs:∃u0 u1 u2 u3 u4:Value,cs=#[u0,u1,u2,u3,u4] )(he:w.heap[eb]?=some (.cells #[.nilIface] 59 (0,0)))(hne:tb≠eb):
  CallsD Tryz.prog 121 #[pt tb 0,pt eb 0] (.panicking (Qcb fb)) w λ e u' w'=>
   e=.returned (.tuple #[])∧u'=.panicking [{ v:=.iface 193 (.agg #[.iface 127 (pt fb 0)]),recovered:=true }]∧AfterPart tb eb fb w w':=by
 obtain⟨u0,u1,u2,u3,u4,rfl⟩:=hcs
 refine callsD_of_wpS Tryz.func121 rfl λ c₀ cs hu=>?_
 apply wpS_seq
 apply wpS_region
 simp[wpOpsS,go_sem,recoverD,hu,Qcb,Tryz.ntmps121,Exit.thenS]
 refine wpS_of_wp ?_
 obtain⟨Q,hQ⟩:∃Q:Exit→Act→World→Prop,(λ e a' w'=>bodyPostS Tryz.prog Tryz.f121 c₀ cs (λ e u' w'=>e=Ending.returned (.tuple #[])∧u'=.panicking [{ v:=.iface 193 (.agg #[.iface 127 (pt fb 0)]),recovered:=true }]∧AfterPart tb eb fb w w') e a' ({ c₀ with mode:=.panicking [{ v:=.iface 193 (.agg #[.iface 127 (pt fb 0)]),recovered:=true }] } :: cs) w')=Q:=⟨_,rfl⟩
 rw[hQ,Qa9]
 have HQ:=QLh hQ;have HT:=QLh ht;have HE:=QLh he;clear hQ hu ht he;have ha:=Qe9 fb
 go_wp2_with fail
 obtain⟨V,hV⟩:∃V,(w.alloc (.cells #[.iface 127 (pt fb 0)] 193)).alloc (.cells #[.string ⟨#[]⟩,.int .u64 0,.int .u64 0,.int .u64 0,.int .u64 0] 46)=V:=⟨_,rfl⟩
 obtain⟨sb,hsb⟩:∃sb,w.heap.size=sb:=⟨_,rfl⟩
 have HV:Hid (Below w.heap.size w V):=QLh (by rw[←hV];exact Qh (Qh (Below.refl _ _) _) _);have hbs:V.heap[sb]?=some (.cells #[.iface 127 (pt fb 0)] 193 (0,0)):=by rw[←hV,←hsb];exact Qf (heap_alloc_new _ _) _
 have hbn:V.heap[sb+1]?=some (.cells #[.string ⟨#[]⟩,.int .u64 0,.int .u64 0,.int .u64 0,.int .u64 0] 46 (0,0)):=by rw[←hV];exact Qi _ (by simp[hsb])
 have hbt:V.heap[tb]?=some (.cells #[u0,u1,u2,u3,u4] 46 (0,0)):=(HV.out.block _ (lt_of_block HT.out)).trans HT.out;have hbe:V.heap[eb]?=some (.cells #[.nilIface] 59 (0,0)):=(HV.out.block _ (lt_of_block HE.out)).trans HE.out;have k0:V.cell? ⟨sb,0,none⟩=some (.iface 127 (pt fb 0)):=Qa hbs 0;have m0:V.cell? ⟨sb+1,0,none⟩=some (.string ⟨#[]⟩):=Qa hbn 0;have m1:V.cell? ⟨sb+1,1,none⟩=some (.int .u64 0):=Qa hbn 1;have m2:V.cell? ⟨sb+1,2,none⟩=some (.int .u64 0):=Qa hbn 2;have m3:V.cell? ⟨sb+1,3,none⟩=some (.int .u64 0):=Qa hbn 3;have m4:V.cell? ⟨sb+1,4,none⟩=some (.int .u64 0):=Qa hbn 4;have hts:tb<sb:=by have:=lt_of_block HT.out;omega
 have hnt:some (sb+1)≠some tb:=by simp;omega
 have hst:some sb≠some tb:=by simp;omega
 have HBT:=QLh hbt;have HBE:=QLh hbe
 try rw[hV]
 try simp only[hsb]
 clear hV hbs hbn hbt hbe ha
 refine Qp 4 3 ((some tb)) (Qaw [λ u _=>u=(.agg #[.string ⟨#[]⟩,.int .u64 0,.int .u64 0,.int .u64 0,.int .u64 0]),λ u _=>u=(pt sb 0),λ u _=>u=(.iface 127 (pt fb 0)),λ _ w'=>w'.heap[tb]?=some (.cells #[.string ⟨#[]⟩,.int .u64 0,.int .u64 0,.int .u64 0,.int .u64 0] 46 (0,0))]) rfl (by kernel_rfl) (by kernel_rfl) (Zb ⟨Qe,Qe,Qe,?m3,trivial⟩) (Q6 4 ⟨?s0,?s1,?s2,?s3,trivial⟩) ?_
 case m3=>
  exact⟨λ u w1 w2 h hb=>Zt h hb,λ hn=>absurd rfl hn⟩
 case s0=>
  refine Qc (v:=(.agg #[.string ⟨#[]⟩,.int .u64 0,.int .u64 0,.int .u64 0,.int .u64 0])) (λ av wv hE hS hO hD=>?_) (λ _=>rfl)
  have f5:=QEf av 5 (pt (sb+1) 0) (hO.2.2 5 rfl);have k0:=Qd hE hst k0;have m0:=Qd hE hnt m0;have m1:=Qd hE hnt m1;have m2:=Qd hE hnt m2;have m3:=Qd hE hnt m3;have m4:=Qd hE hnt m4
  refine⟨rfl,?_⟩
  simp[go_sem,f5,k0,m0,m1,m2,m3,m4]
 case s1=>
  refine Qc (v:=(pt sb 0)) (λ av wv hE hS hO hD=>?_) (λ _=>rfl)
  have f3:=QEf av 3 (pt sb 0) (hO.2.2 3 rfl)
  refine⟨rfl,?_⟩
  simp[go_sem,f3]
 case s2=>
  refine Qc (v:=(.iface 127 (pt fb 0))) (λ av wv hE hS hO hD=>?_) (λ _=>rfl)
  have f18:=QEf av 18 (pt sb 0) (hD.1 rfl _ rfl);have k0:=Qd hE hst k0;have m0:=Qd hE hnt m0;have m1:=Qd hE hnt m1;have m2:=Qd hE hnt m2;have m3:=Qd hE hnt m3;have m4:=Qd hE hnt m4
  refine⟨rfl,?_⟩
  simp[go_sem,f18,k0,m0,m1,m2,m3,m4]
 case s3=>
  refine Qo (λ av wv hE hS hO hD=>?_)
  have h0:av.eval (.tmp 0)=(pt tb 0):=hO.2.2 0 rfl;have f0:=(Qq av 0).symm.trans h0;have f17:=QEf av 17 (.agg #[.string ⟨#[]⟩,.int .u64 0,.int .u64 0,.int .u64 0,.int .u64 0]) (hD.1 rfl _ rfl)
  refine⟨rfl,?_⟩
  have hq:wv.heap[tb]?=some (.cells #[u0,u1,u2,u3,u4] 46 (0,0)):=Zt (w:=V.drew) (hS rfl) HBT.out;have q0:wv.cell? ⟨tb,0,none⟩=some u0:=Qa hq 0;have q1:wv.cell? ⟨tb,1,none⟩=some u1:=Qa hq 1;have q2:wv.cell? ⟨tb,2,none⟩=some u2:=Qa hq 2;have q3:wv.cell? ⟨tb,3,none⟩=some u3:=Qa hq 3;have q4:wv.cell? ⟨tb,4,none⟩=some u4:=Qa hq 4;have hz:∀o,wv.frozen? ⟨tb,o,none⟩=false:=Qj hq
  unfold Oper.wp
  have l0:tb<wv.heap.size:=lt_of_block hq;have f0:=QEf av 0 (pt tb 0) (hO.2.2 0 rfl)
  simp[go_sem,f0,f17,hz,l0,q0,q1,q2,q3,q4]
  exact⟨Qcf (Qv (Qv (Qv (Qv (Qv (Qan _ _) 0 _) 1 _) 2 _) 3 _) 4 _),undef,(Qb (Qb (Qb (Qb (Qb hq (o:=0) _) (o:=1) _) (o:=2) _) (o:=3) _) (o:=4) _)⟩
 intro a' w' hE hO hall
 have hA:=Ql (ds:=[17,18,19]) rfl hO (by kernel_rfl);have e17:a'.eval (.tmp 17)=(.agg #[.string ⟨#[]⟩,.int .u64 0,.int .u64 0,.int .u64 0,.int .u64 0]):=hall.1 _ rfl;have e18:a'.eval (.tmp 18)=(pt sb 0):=hall.2.1 _ rfl;have e19:a'.eval (.tmp 19)=(.iface 127 (pt fb 0)):=hall.2.2.1 _ rfl;have z3:(λ _ w'=>w'.heap[tb]?=some (.cells #[.string ⟨#[]⟩,.int .u64 0,.int .u64 0,.int .u64 0,.int .u64 0] 46 (0,0))) undef w':=hall.2.2.2.1 _ rfl
 simp only[List.foldl_cons,List.foldl_nil,Act.put,List.setIfInBounds_toArray,List.set_cons_succ,List.set_cons_zero,e17,e18,e19]at hA
 clear hO hall e17 e18 e19
 subst hA
 have HE:=QLh (Q9 hE);have HZ:=QLh z3;have hbe:w'.heap[eb]?=some (.cells #[.nilIface] 59 (0,0)):=Qn HE.out (by simp;exact λ e=>hne e.symm) HBE.out;have HBE:=QLh hbe;have q0:w'.cell? ⟨eb,0,none⟩=some .nilIface:=Qa hbe 0;have q1:w'.frozen? ⟨eb,0,none⟩=false:=Qj hbe 0;clear hE z3 hbe
 go_wp2
 rw[←HQ.out]
 have hs1:(w'.setCell ⟨eb,0,none⟩ (.iface 127 (pt fb 0))).heap.size=w'.heap.size:=by simp
 refine⟨rfl,_,rfl,.tuple #[],by simp[results,Tryz.results121],rfl,rfl,?_⟩
 exact⟨HE.out.os.trans HV.out.os,HE.out.tape.trans HV.out.tape,HE.out.output.trans HV.out.output,by rw[hs1];exact Nat.le_trans HV.out.size HE.out.size,λ i hi h1 h2=>by
  rw[Below.heap_setCell _ _ _ _ h2]
  exact(HE.out.block i (Nat.lt_of_lt_of_le hi HV.out.size) (by simpa using h1)).trans (HV.out.block i hi),Qg HZ.out hne _,Qb HBE.out _⟩
def Q0n(s:ByteArray)(w:World)(e:Ending)(w':World):Prop:=
 Below w.heap.size w w'∧match Qbr s (Zo s 0) Xl 0 with
  | .error f=>∃fb,e=.returned (.tuple #[Qc8,.iface 127 (pt fb 0)])∧FltB w' fb f.1 f.2
  | .ok y=>Kd Xl y.1∧y.2≤s.size∧(∃rb tb,w.heap.size≤rb∧LiesPart rb tb w' y.1)∧(if y.2<s.size then ∃fb,e=.returned (.tuple #[.agg (Xm y.1),.iface 127 (pt fb 0)])∧FltB w' fb 5 y.2 else e=.returned (.tuple #[.agg (Xm y.1),.nilIface]))
theorem Qm6(B:Nat)(s:ByteArray)(w:World)(hT:Tabs B w)(hET:ErrType w)(hB:B≤w.heap.size)(hg:0<B)(hs:s.size≤9223372036854775807):
  Calls Tryz.prog 67 #[.string s,.func (.func 62) #[] #[]] w (Q0n s w):=by
 have HT:=QLh hT;have HET:=QLh hET;have ef:=enters_of Tryz.func62 (by kernel_rfl) rfl;clear hT hET
 go_enter_defers Tryz.func67,Tryz.ntmps67
 go_wp2_with fail
 obtain⟨tb,htb⟩:∃tb,w.heap.size=tb:=⟨_,rfl⟩
 obtain⟨W,hW⟩:∃W,(w.alloc (.cells #[.string ⟨#[]⟩,.int .u64 0,.int .u64 0,.int .u64 0,.int .u64 0] 46)).alloc (.cells #[.nilIface] 59)=W:=⟨_,rfl⟩
 have WB:Hid (Below w.heap.size w W):=QLh (by rw[←hW];exact Qh (Qh (Below.refl _ _) _) _);have W0:Hid (W.heap[tb]?=some (.cells #[.string ⟨#[]⟩,.int .u64 0,.int .u64 0,.int .u64 0,.int .u64 0] 46 (0,0))):=QLh (by rw[←hW,←htb];exact Qf (heap_alloc_new _ _) _);have W1:Hid (W.heap[tb+1]?=some (.cells #[.nilIface] 59 (0,0))):=QLh (by rw[←hW];exact Qi _ (by simp[htb]));have hWs:W.heap.size=tb+1+1:=by rw[←hW];simp[htb]
 have HTW:Hid (w.heap.size=tb):=QLh htb
 try rw[hW]
 try simp only[htb]
 clear hW htb
 refine(Qn5 W s 10240).mono ?_
 rintro e w1 ⟨rfl,hw1⟩
 have hm:max (10240:Int) 0=10240:=by decide
 rw[hm]at hw1
 obtain⟨rb,hrb⟩:∃rb,W.heap.size=rb:=⟨_,rfl⟩
 have R1:Hid (RdB w1 rb s 0 10240):=QLh (by rw[hw1,←hrb];exact heap_alloc_new _ _);have WB1:Hid (Below W.heap.size W w1):=QLh (by rw[hw1];exact Qh (Below.refl _ _) _);have hs1:w1.heap.size=rb+1:=by rw[hw1,←hrb];simp
 try rw[hrb]
 clear hw1
 go_upto_region 3 with fail
 obtain⟨V,hV⟩:∃V,w1.alloc (.cells #[pt rb 0] 199)=V:=⟨_,rfl⟩
 have VB:Hid (Below w1.heap.size w1 V):=QLh (by rw[←hV];exact Qh (Below.refl _ _) _);have VQ:Hid (V.heap[rb+1]?=some (.cells #[pt rb 0] 199 (0,0))):=QLh (by rw[←hV];exact Qi _ hs1)
 try rw[hV]
 try simp only[hs1]
 have hrbt:rb=tb+1+1:=hrb.symm.trans hWs;have hTW:=HTW.out;have BV:Hid (Below w.heap.size w V):=QLh (Qk (Qk WB.out WB1.out) VB.out);have WV:Hid (Below W.heap.size W V):=QLh (Qk WB1.out VB.out);have VT:Hid (V.heap[tb]?=some (.cells #[.string ⟨#[]⟩,.int .u64 0,.int .u64 0,.int .u64 0,.int .u64 0] 46 (0,0))):=QLh ((WV.out.block _ (lt_of_block W0.out)).trans W0.out);have VE:Hid (V.heap[tb+1]?=some (.cells #[.nilIface] 59 (0,0))):=QLh ((WV.out.block _ (lt_of_block W1.out)).trans W1.out);have VR:Hid (RdB V rb s 0 10240):=QLh (R1.out.below VB.out);have ENV:Hid (RdEnv B V (rb+1) rb s 0):=QLh ⟨VQ.out,VR.out,HT.out.below BV.out,by omega,by omega,by omega,Nat.zero_le _,hs⟩;have E:TEnv B (rb+1) rb tb 5 46 V:=⟨⟨_,VR.out⟩,⟨_,VT.out⟩,by omega,by omega,by omega,by decide,by decide⟩;have REC:Hid (RecAt rb tb 46 5 V Xl):=QLh (Qbo VT.out rfl (λ i hi=>by
  match i,hi with
  | 0,_=>exact⟨_,rfl,rfl⟩
  | 1,_=>exact⟨_,rfl,rfl⟩
  | 2,_=>exact⟨_,rfl,rfl⟩
  | 3,_=>exact⟨_,rfl,rfl⟩
  | 4,_=>exact⟨_,rfl,rfl⟩))
 have HOF:=QLh (Qix (x0:=Xl) (s:=s) E 0 (by omega) ⟨rfl,rfl,rfl,rfl,rfl⟩);have HE:=QLh E;have G:Hid (GOk Xl (Zo s 0)):=QLh (Qiw s 0 ⟨rfl,rfl,rfl,rfl,rfl⟩);have HRBT:=QLh hrbt;clear hV E hrb hs1 hWs hrbt hTW
 go_wp2_with fail
 refine HOF.out.mono ?_
 rintro e w2 ⟨u,rfl,⟨g,c,l,rfl,hc,hF,hS⟩,hb⟩
 have hl:(Zo s 0).length=l.length:=hS.1;have hg:=(HE.out.below hb).apart hF.ex;have H2:=QLh (Qbu B (rb+1) rb tb g 0 c Xl 46 5 s w2 w2 l (Zo s 0) 0 Xl hF.flds hc (show l.length≤1000 by rw[←hl];exact Nat.le_of_ble_eq_true rfl) hS (Chg.refl _ _ _) hg HE.out.nq HE.out.le HE.out.ne G.out.keys G.out.disj G.out.frames G.out.kinds (λ i=>rfl) (REC.out.below hb) (ENV.out.below hb) (λ i hi o ho=>rfl));have HB:=QLh hb;clear hF hS hb hl hc hg HOF ef
 go_wp2_with fail
 refine H2.out.mono ?_
 intro e w3 hh
 cases hr:Qbr s (Zo s 0) Xl 0 with
 | error f=>
  rw[hr]at hh
  have HTH:=QLh (Qft hh)
  obtain⟨fb,rfl,hf,hc3⟩:=Qco hh
  have HF:=QLh hf;have HC:=QLh hc3;have HR:=QLh hr;clear hh hf hc3 hr H2
  go_wp2
  obtain⟨cs,hcs,hcn⟩:=HTH.out
  have hce:w3.heap[tb+1]?=some (.cells #[.nilIface] 59 (0,0)):=(HC.out.block _ (Nat.lt_of_lt_of_le (lt_of_block VE.out) HB.out.size) (by have:=HRBT.out;omega) (by omega)).trans ((HB.out.block _ (lt_of_block VE.out)).trans VE.out)
  refine leaves_cons (f:=121) (args:=#[pt tb 0,pt (tb+1) 0]) (by simp) (by simp[go_sem]) ?_
  refine(Qjs tb (tb+1) fb cs w3 hcs (arr5 hcn) hce (by omega)).mono ?_
  rintro e u' w4 ⟨rfl,rfl,HA⟩
  have y0:∀o,w4.cell? ⟨tb,o,none⟩=_:=Qa HA.th;have y1:w4.cell? ⟨tb+1,0,none⟩=some (.iface 127 (pt fb 0)):=Qa HA.er 0
  refine⟨_,by simp[results,Tryz.results67,go_sem,y0,y1];rfl,?_⟩
  refine⟨?_,by
   rw[HR.out]
   refine⟨fb,rfl,(HA.block fb (lt_of_block HF.out) (λ e=>?_) (λ e=>?_)).trans HF.out⟩
   ·subst e;have h9:=hcs.symm.trans HF.out;cases h9
   ·subst e;have h9:=hce.symm.trans HF.out;cases h9⟩
  have hsz:=HTW.out;have hb9:=HRBT.out
  refine⟨HA.os.trans (HC.out.os.trans (HB.out.os.trans BV.out.os)),HA.tape.trans (HC.out.tape.trans (HB.out.tape.trans BV.out.tape)),HA.output.trans (HC.out.output.trans (HB.out.output.trans BV.out.output)),Nat.le_trans BV.out.size (Nat.le_trans HB.out.size (Nat.le_trans HC.out.size HA.size)),λ i hi=>?_⟩
  have l1:=Nat.lt_of_lt_of_le hi BV.out.size;have l2:=Nat.lt_of_lt_of_le l1 HB.out.size
  exact(HA.block i (Nat.lt_of_lt_of_le l2 HC.out.size) (by omega) (by omega)).trans ((HC.out.block i l2 (by omega) (by omega)).trans ((HB.out.block i l1).trans (BV.out.block i hi)))
 | ok q=>
  rw[hr]at hh
  obtain⟨rfl,hrd,hle,hx3,hc3⟩:=Qd3 hh
  have HRD:=QLh hrd;have HC:=QLh hc3;have HR:=QLh hr;have HKD:Hid (Kd Xl q.1):=QLh (Qd7 G.out.kinds hr (λ i=>rfl))
  obtain⟨_,hth,hlies⟩:=Qby hx3 HKD.out
  have HTH:=QLh hth;have HLI:=QLh hlies;clear hh hrd hx3 hc3 hr H2 hth hlies
  obtain⟨x,a⟩:=q
  have hts:tb<w3.heap.size:=lt_of_block HTH.out;have HQ3:Hid (w3.heap[rb+1]?=some (.cells #[pt rb 0] 199 (0,0))):=QLh ((HC.out.block _ (Nat.lt_of_lt_of_le (lt_of_block VQ.out) HB.out.size) (by omega) (by have:=HRBT.out;omega)).trans ((HB.out.block _ (lt_of_block VQ.out)).trans VQ.out));have HE3:Hid (w3.heap[tb+1]?=some (.cells #[.nilIface] 59 (0,0))):=QLh ((HC.out.block _ (Nat.lt_of_lt_of_le (lt_of_block VE.out) HB.out.size) (by have:=HRBT.out;omega) (by omega)).trans ((HB.out.block _ (lt_of_block VE.out)).trans VE.out));have HET3:Hid (ErrType w3):=QLh (by
   have h1:=HET.out.below BV.out;have h2:=h1.below HB.out
   unfold ErrType at h2 ⊢
   rw[World.cell?_of_block (w:=w2) (HC.out.block _ (Qw h2) (show 0≠rb by have:=HRBT.out;have:=HTW.out;omega) (show 0≠tb by have:=HTW.out;omega))]
   exact h2)
  go_upto_region 4 with fail
  obtain⟨VO,hVO⟩:∃VO:Nat→Option Nat,VO=λ j=>if j=6 then some tb else none:=⟨_,rfl⟩
  have vo6:VO 6=some tb:=by rw[hVO];rfl
  have von:∀j,j≠6→VO j=none:=λ j h1=>by rw[hVO];simp[h1]
  have vob:∀j b,b≠tb→VO j≠some b:=λ j b hb=>by
   by_cases h:j=6
   ·subst h;rw[vo6];simp;exact λ e=>hb e.symm
   ·rw[von j h];simp
  clear hVO
  refine Qar 7 VO (λ i j b h1 h2=>by
    by_cases e1:i=6
    ·by_cases e2:j=6
     ·rw[e1,e2]
     ·rw[von j e2]at h2;cases h2
    ·rw[von i e1]at h1;cases h1) (λ _ _ _=>True) (λ _=>True) (λ _ _ _ _ _=>True) (λ _ _=>trivial) trivial
   (Qaw [λ u _=>u=.agg (Xm x),λ u _=>u=.pointer (some ⟨rb+1,0,none⟩),λ u _=>u=.pointer (some ⟨rb+1,0,none⟩),λ u _=>u=.pointer (some ⟨rb+1,0,none⟩),λ u _=>u=.pointer (some ⟨rb,0,none⟩),λ u w'=>if a<s.size then ∃fb,u=.iface 127 (pt fb 0)∧FltB w' fb 5 a∧fb≠tb else u=.nilIface,λ _ w'=>w'.heap[tb]?=some (.cells (Xm x) 46 (0,0))]) rfl (by kernel_rfl) (by kernel_rfl)
   (Qhu ⟨Zl,Zl,Zl,Zl,Zl,?m5,?m6,trivial⟩) (λ _ _ _ _ _=>trivial) (λ _ _ _ _ _ _ _ _ _ _ _=>trivial) (Qfz 7 ⟨?s0,?s1,?s2,?s3,?s4,?s5,?s6,trivial⟩) ?_
  case m5=>
   intro j hj u w1 w2 he hp
   by_cases hlt:a<s.size
   ·simp only[hlt,if_true]at hp ⊢
    obtain⟨fb,h1,h2,h3⟩:=hp
    refine⟨fb,h1,(he.1.block fb (lt_of_block h2) ?_).trans h2,h3⟩
    exact λ e=>vob j fb h3 e.symm
   ·simp only[hlt,if_false]at hp ⊢;exact hp
  case m6=>
   intro j hj u w1 w2 he hp
   refine(he.1.block tb (lt_of_block hp) ?_).trans hp
   rw[von j hj];simp
  case s0=>
   refine Ze (v:=.agg (Xm x)) (λ _ _=>trivial) (λ _ _ _ _=>⟨trivial,trivial⟩) (λ D av wv hE hO hD=>?_) (λ _=>rfl)
   have h6:¬D 6:=hE.notyet 6 _ rfl { on:=0,ground:=.data } (by simp) rfl hE.me;have hb0:wv.heap[tb]?=some (.cells (Xm x) 46 (0,0)):=(hE.late 6 h6 tb vo6 hts).trans HTH.out;have k0:wv.cell? ⟨tb,0,none⟩=some (.string (x 0).s):=Qa hb0 0;have k1:wv.cell? ⟨tb,1,none⟩=some (.int .u64 (x 1).n):=Qa hb0 1;have k2:wv.cell? ⟨tb,2,none⟩=some (.int .u64 (x 2).n):=Qa hb0 2;have k3:wv.cell? ⟨tb,3,none⟩=some (.int .u64 (x 3).n):=Qa hb0 3;have k4:wv.cell? ⟨tb,4,none⟩=some (.int .u64 (x 4).n):=Qa hb0 4;have f4:=QEf av 4 (pt tb 0) (hO.2.2 4 rfl)
   refine⟨rfl,?_⟩
   simp[go_sem,f4,k0,k1,k2,k3,k4]
  case s1=>
   refine Ze (v:=.pointer (some ⟨rb+1,0,none⟩)) (λ _ _=>trivial) (λ _ _ _ _=>⟨trivial,trivial⟩) (λ D av wv hE hO hD=>?_) (λ _=>rfl)
   have f6:=QEf av 6 (pt (rb+1) 0) (hO.2.2 6 rfl)
   refine⟨rfl,?_⟩
   simp[go_sem,f6]
  case s2=>
   refine Ze (v:=.pointer (some ⟨rb+1,0,none⟩)) (λ _ _=>trivial) (λ _ _ _ _=>⟨trivial,trivial⟩) (λ D av wv hE hO hD=>?_) (λ _=>rfl)
   have f17:=QEf av 17 (pt (rb+1) 0) (hD.1 rfl _ rfl)
   refine⟨rfl,?_⟩
   simp[go_sem,f17]
  case s3=>
   refine Ze (v:=.pointer (some ⟨rb+1,0,none⟩)) (λ _ _=>trivial) (λ _ _ _ _=>⟨trivial,trivial⟩) (λ D av wv hE hO hD=>?_) (λ _=>rfl)
   have f18:=QEf av 18 (pt (rb+1) 0) (hD.1 rfl _ rfl)
   refine⟨rfl,?_⟩
   simp[go_sem,f18]
  case s4=>
   refine Ze (v:=.pointer (some ⟨rb,0,none⟩)) (λ _ _=>trivial) (λ _ _ _ _=>⟨trivial,trivial⟩) (λ D av wv hE hO hD=>?_) (λ _=>rfl)
   have f19:=QEf av 19 (pt (rb+1) 0) (hD.1 rfl _ rfl);have k0:wv.cell? ⟨rb+1,0,none⟩=some (pt rb 0):=Qa ((hE.ext.block (rb+1) (lt_of_block HQ3.out) (λ j=>vob j _ (by have:=HRBT.out;omega))).trans HQ3.out) 0
   refine⟨rfl,?_⟩
   simp[go_sem,f19,k0]
  case s5=>
   refine Qbp (λ D av wv hPP hE hO hD=>?_)
   have f20:=QEf av 20 (pt rb 0) (hD.1 rfl _ rfl);have hrd:RdB wv rb s a 10240:=(hE.ext.block rb (lt_of_block HRD.out) (λ j=>vob j _ (by have:=HRBT.out;omega))).trans HRD.out;have het:ErrType wv:=by
    have h2:ErrType w3.drew:=HET3.out
    unfold ErrType at h2 ⊢
    rw[World.cell?_of_block (w:=w3.drew) (hE.ext.block _ (Qw h2) (λ j=>vob j _ (show 0≠tb by have:=HTW.out;omega)))]
    exact h2
   have hvs:w3.heap.size≤wv.heap.size:=hE.ext.size
   refine⟨rfl,Xq (f:=124) (args:=#[pt rb 0]) (R:=λ u w2=>Below wv.heap.size wv w2∧(if a<s.size then ∃fb,u=.iface 127 (pt fb 0)∧FltB w2 fb 5 a∧fb≠tb else u=.nilIface)) (by simp[go_sem,f20]) ((Qn4 wv rb s a 10240 het hrd hle hs).mono λ e w2 hh=>?_) (λ u w2 ⟨h1,h2⟩=>⟨u,rfl,Qcs h1 trivial,h2,λ _ _ _ _ _=>⟨trivial,trivial⟩⟩)⟩
   obtain⟨h1,h2⟩:=hh
   unfold Qdm at h2
   by_cases hlt:a<s.size
   ·simp only[hlt,if_true]at h2 ⊢
    obtain⟨fb,h3,h4,h5⟩:=h2
    exact⟨_,h3,h1,fb,rfl,h5,by omega⟩
   ·simp only[hlt,if_false]at h2 ⊢
    exact⟨_,h2,h1,rfl⟩
  case s6=>
   refine Qbp (λ D av wv hPP hE hO hD=>?_)
   have f16:=QEf av 16 (.agg (Xm x)) (hD.1 rfl _ rfl);have f4:=QEf av 4 (pt tb 0) (hO.2.2 4 rfl);have hq:wv.heap[tb]?=some (.cells (Xm x) 46 (0,0)):=(hE.own tb vo6 hts).trans HTH.out;have k0:wv.cell? ⟨tb,0,none⟩=some (.string (x 0).s):=Qa hq 0;have k1:wv.cell? ⟨tb,1,none⟩=some (.int .u64 (x 1).n):=Qa hq 1;have k2:wv.cell? ⟨tb,2,none⟩=some (.int .u64 (x 2).n):=Qa hq 2;have k3:wv.cell? ⟨tb,3,none⟩=some (.int .u64 (x 3).n):=Qa hq 3;have k4:wv.cell? ⟨tb,4,none⟩=some (.int .u64 (x 4).n):=Qa hq 4;have hz:∀o,wv.frozen? ⟨tb,o,none⟩=false:=Qj hq;have l0:tb<wv.heap.size:=lt_of_block hq
   refine⟨rfl,?_⟩
   unfold Oper.wp
   simp[go_sem,f4,f16,hz,l0,k0,k1,k2,k3,k4]
   exact⟨⟨by rw[vo6];exact(Qv (Qv (Qv (Qv (Qv (Qan _ _) 0 _) 1 _) 2 _) 3 _) 4 _),trivial⟩,undef,(Qb (Qb (Qb (Qb (Qb hq (o:=0) _) (o:=1) _) (o:=2) _) (o:=3) _) (o:=4) _),λ _ _ _ _ _=>⟨trivial,trivial⟩⟩
  intro a' w' hE _ hO hall _
  have hA:=Ql (ds:=[16,17,18,19,20,21]) rfl hO (by kernel_rfl);have e16:(λ u (_:World)=>u=.agg (Xm x)) (a'.eval (.tmp 16)) w':=hall.1 _ rfl;have e17:(λ u (_:World)=>u=.pointer (some ⟨rb+1,0,none⟩)) (a'.eval (.tmp 17)) w':=hall.2.1 _ rfl;have e18:(λ u (_:World)=>u=.pointer (some ⟨rb+1,0,none⟩)) (a'.eval (.tmp 18)) w':=hall.2.2.1 _ rfl;have e19:(λ u (_:World)=>u=.pointer (some ⟨rb+1,0,none⟩)) (a'.eval (.tmp 19)) w':=hall.2.2.2.1 _ rfl;have e20:(λ u (_:World)=>u=.pointer (some ⟨rb,0,none⟩)) (a'.eval (.tmp 20)) w':=hall.2.2.2.2.1 _ rfl;have e21:(λ u w'=>if a<s.size then ∃fb,u=.iface 127 (pt fb 0)∧FltB w' fb 5 a∧fb≠tb else u=.nilIface) (a'.eval (.tmp 21)) w':=hall.2.2.2.2.2.1 _ rfl;have z6:w'.heap[tb]?=some (.cells (Xm x) 46 (0,0)):=hall.2.2.2.2.2.2.1 _ rfl
  obtain⟨v21,hv21⟩:∃v,a'.eval (.tmp 21)=v:=⟨_,rfl⟩
  rw[hv21]at e21
  simp only[List.foldl_cons,List.foldl_nil,Act.put,List.setIfInBounds_toArray,List.set_cons_succ,List.set_cons_zero,e16,e17,e18,e19,e20,hv21]at hA
  clear hO hall e16 e17 e18 e19 e20 hv21
  subst hA
  have HX4:Hid (ExtS VO w3 w'):=QLh ⟨hE.os,hE.tape,hE.output,hE.size,hE.block⟩;have HZ6:=QLh z6;have hbe:w'.heap[tb+1]?=some (.cells #[.nilIface] 59 (0,0)):=(HX4.out.block _ (lt_of_block HE3.out) (λ j=>vob j _ (by omega))).trans HE3.out;have HBE:=QLh hbe;have g0:w'.cell? ⟨tb+1,0,none⟩=some .nilIface:=Qa hbe 0;have g1:w'.frozen? ⟨tb+1,0,none⟩=false:=Qj hbe 0;have HVO:Hid (∀j b,b≠tb→VO j≠some b):=QLh vob;have HFIN:∀v,Hid (Below w.heap.size w (w'.setCell ⟨tb+1,0,none⟩ v)):=λ v=>QLh (by
   have hsz:=HTW.out;have hb9:=HRBT.out
   refine⟨HX4.out.os.trans (HC.out.os.trans (HB.out.os.trans BV.out.os)),HX4.out.tape.trans (HC.out.tape.trans (HB.out.tape.trans BV.out.tape)),HX4.out.output.trans (HC.out.output.trans (HB.out.output.trans BV.out.output)),by simpa using Nat.le_trans BV.out.size (Nat.le_trans HB.out.size (Nat.le_trans HC.out.size HX4.out.size)),λ i hi=>?_⟩
   have l1:=Nat.lt_of_lt_of_le hi BV.out.size;have l2:=Nat.lt_of_lt_of_le l1 HB.out.size
   rw[Below.heap_setCell _ _ _ _ (by omega:i≠tb+1)]
   exact(HX4.out.block i (Nat.lt_of_lt_of_le l2 HC.out.size) (λ j=>HVO.out j i (by omega))).trans ((HC.out.block i l2 (by omega) (by omega)).trans ((HB.out.block i l1).trans (BV.out.block i hi))))
  have HLF:∀v,Hid (LiesPart rb tb (w'.setCell ⟨tb+1,0,none⟩ v) x):=λ v=>QLh (HLI.out.up (λ b h1 h2=>by
   have hb9:=HRBT.out
   rw[Below.heap_setCell _ _ _ _ (by omega:b≠tb+1)]
   exact HX4.out.block b h2 (λ j=>HVO.out j b (by omega))))
  have HTF:∀v o,(w'.setCell ⟨tb+1,0,none⟩ v).cell? ⟨tb,o,none⟩=(Xm x)[o]?:=λ v o=>Qa (Qg HZ6.out (by show tb≠tb+1;omega) v) o;have HEF:∀v,(w'.setCell ⟨tb+1,0,none⟩ v).cell? ⟨tb+1,0,none⟩=some v:=λ v=>Qa (Qb HBE.out v) 0;have HTFH:=QLh HTF;have HEFH:=QLh HEF;clear hE z6 hbe vo6 von vob HTF HEF
  by_cases hlt:a<s.size
  ·simp only[hlt,if_true]at e21
   obtain⟨fb,rfl,hf,hft⟩:=e21
   have HF:=QLh hf;have HLT:=QLh hlt;clear hf hlt
   go_wp2
   refine leaves_cons (f:=121) (args:=#[pt tb 0,pt (tb+1) 0]) (by simp) (by simp[go_sem]) ?_
   refine(Qem _ _ _).mono ?_
   rintro e u' w'' ⟨rfl,rfl,rfl⟩
   have y0:=HTFH.out (.iface 127 (pt fb 0));have y1:=HEFH.out (.iface 127 (pt fb 0))
   refine⟨_,by simp[results,Tryz.results67,go_sem,y0,y1];rfl,?_⟩
   refine⟨(HFIN _).out,?_⟩
   rw[HR.out]
   refine⟨HKD.out,hle,⟨rb,tb,by have:=HRBT.out;have:=HTW.out;omega,(HLF _).out⟩,?_⟩
   rw[if_pos HLT.out]
   exact⟨fb,rfl,Qg HF.out (by intro e;subst e;have h9:=HBE.out.symm.trans HF.out;cases h9) _⟩
  ·simp only[hlt,if_false]at e21
   subst e21
   have HLT:=QLh hlt;clear hlt
   go_wp2
   refine leaves_cons (f:=121) (args:=#[pt tb 0,pt (tb+1) 0]) (by simp) (by simp[go_sem]) ?_
   refine(Qem _ _ _).mono ?_
   rintro e u' w'' ⟨rfl,rfl,rfl⟩
   have y0:=HTFH.out .nilIface;have y1:=HEFH.out .nilIface
   refine⟨_,by simp[results,Tryz.results67,go_sem,y0,y1];rfl,?_⟩
   refine⟨(HFIN _).out,?_⟩
   rw[HR.out]
   refine⟨HKD.out,hle,⟨rb,tb,by have:=HRBT.out;have:=HTW.out;omega,(HLF _).out⟩,?_⟩
   rw[if_neg HLT.out]
abbrev Xn(x:Rcd)(a3:Option Addr)(c3:Nat)(a4:Option Addr)(c4:Nat):Array Value:=#[.int .u64 (x 0).n,.bool (x 1).q,.int .u64 (x 2).n,.slice a3 (len (x 3).l) c3,.slice a4 (len (x 4).l) c4]
abbrev Qc9:Value:=.agg #[.int .u64 0,.bool false,.int .u64 0,.slice none 0 0,.slice none 0 0]
def LiesSlot(rb tb:Nat)(w:World)(x:Rcd)(a3:Option Addr)(c3:Nat)(a4:Option Addr)(c4:Nat):Prop:=HoldsD rb tb w (.slice a3 (len (x 3).l) c3) (x 3)∧HoldsD rb tb w (.slice a4 (len (x 4).l) c4) (x 4)
theorem LiesSlot.below{rb tb:Nat}{w w':World}{x:Rcd}{a3:Option Addr}{c3:Nat}{a4:Option Addr}{c4:Nat}(h:LiesSlot rb tb w x a3 c3 a4 c4)(hb:Below w.heap.size w w'):LiesSlot rb tb w' x a3 c3 a4 c4:=⟨h.1.chg (Chg.of_below hb),h.2.chg (Chg.of_below hb)⟩
theorem LiesSlot.up{rb tb:Nat}{w w':World}{x:Rcd}{a3:Option Addr}{c3:Nat}{a4:Option Addr}{c4:Nat}(h:LiesSlot rb tb w x a3 c3 a4 c4)(hb:Up rb w w'):LiesSlot rb tb w' x a3 c3 a4 c4:=⟨h.1.up hb,h.2.up hb⟩
theorem Qda{rb tb:Nat}{w:World}{x:Rcd}(h:RecAt rb tb 44 5 w x)(hk:Kd Xd x):∃(a3:Option Addr) (c3:Nat) (a4:Option Addr) (c4:Nat),w.heap[tb]?=some (.cells (Xn x a3 c3 a4 c4) 44 (0,0))∧LiesSlot rb tb w x a3 c3 a4 c4:=by
 obtain⟨cs,h1,h2,h3⟩:=h
 obtain⟨m0,e0⟩:=hk.num (show Zj (Xd 0)=_ from rfl)
 obtain⟨u0,g0,d0⟩:=h3 0 (by decide)
 rw[e0]at d0
 simp only[HoldsD]at d0
 subst d0
 obtain⟨m1,e1⟩:=hk.flag (show Zj (Xd 1)=_ from rfl)
 obtain⟨u1,g1,d1⟩:=h3 1 (by decide)
 rw[e1]at d1
 simp only[HoldsD]at d1
 subst d1
 obtain⟨m2,e2⟩:=hk.num (show Zj (Xd 2)=_ from rfl)
 obtain⟨u2,g2,d2⟩:=h3 2 (by decide)
 rw[e2]at d2
 simp only[HoldsD]at d2
 subst d2
 obtain⟨m3,e3⟩:=hk.strs (show Zj (Xd 3)=_ from rfl)
 obtain⟨u3,g3,d3⟩:=h3 3 (by decide)
 have D3:=d3
 rw[e3]at d3
 obtain⟨a3,c3,q3,-⟩:=d3
 subst q3
 obtain⟨m4,e4⟩:=hk.strs (show Zj (Xd 4)=_ from rfl)
 obtain⟨u4,g4,d4⟩:=h3 4 (by decide)
 have D4:=d4
 rw[e4]at d4
 obtain⟨a4,c4,q4,-⟩:=d4
 subst q4
 refine⟨a3,c3,a4,c4,?_,?_⟩
 ·rw[h1];congr 2;apply Array.ext_getElem?;intro i
  match i with
  | 0=>rw[g0];simp[e0,DV.n,DV.q,DV.s,DV.l,DV.ns,DV.rs]
  | 1=>rw[g1];simp[e1,DV.n,DV.q,DV.s,DV.l,DV.ns,DV.rs]
  | 2=>rw[g2];simp[e2,DV.n,DV.q,DV.s,DV.l,DV.ns,DV.rs]
  | 3=>rw[g3];simp[e3,DV.n,DV.q,DV.s,DV.l,DV.ns,DV.rs]
  | 4=>rw[g4];simp[e4,DV.n,DV.q,DV.s,DV.l,DV.ns,DV.rs]
  | i+5=>rw[Array.getElem?_eq_none (by omega),Array.getElem?_eq_none (by simp)]
 ·exact⟨(by rw[e3]at D3 ⊢;exact D3),(by rw[e4]at D4 ⊢;exact D4)⟩
theorem Qen(p q:Value)(w:World):CallsD Tryz.prog 140 #[p,q] .returning w λ e u' w'=>e=.returned (.tuple #[])∧u'=.returning∧w'=w:=by
 refine callsD_of_wpS Tryz.func140 rfl λ c₀ cs hu=>?_
 apply wpS_seq
 apply wpS_region
 simp[wpOpsS,go_sem,recoverD,hu,Tryz.ntmps140,Exit.thenS]
 refine wpS_of_wp ?_
 obtain⟨Q,hQ⟩:∃Q:Exit→Act→World→Prop,(λ e a' w'=>bodyPostS Tryz.prog Tryz.f140 c₀ cs (λ e u' w'=>e=Ending.returned (.tuple #[])∧u'=.returning∧w'=w) e a' (c₀ :: cs) w')=Q:=⟨_,rfl⟩
 rw[hQ,Qa9]
 have HQ:=QLh hQ;clear hQ
 go_wp2
 rw[←HQ.out]
 simp[bodyPostS,results,Tryz.results140]
 cases c₀;simp_all
structure AfterSlot(tb eb fb:Nat)(w w':World):Prop where
 os:w'.os=w.os
 tape:w'.tape=w.tape
 output:w'.output=w.output
 size:w.heap.size≤w'.heap.size
 block:∀i,i<w.heap.size→i≠tb→i≠eb→w'.heap[i]?=w.heap[i]?
 th:w'.heap[tb]?=some (.cells #[.int .u64 0,.bool false,.int .u64 0,.slice none 0 0,.slice none 0 0] 44 (0,0))
 er:w'.heap[eb]?=some (.cells #[.iface 127 (pt fb 0)] 59 (0,0))
theorem Qjt(tb eb fb:Nat)(cs:Array Value)(w:World)(ht:w.heap[tb]?=some (.cells cs 44 (0,0)))(hcs:∃u0 u1 u2 u3 u4:Value,cs=#[u0,u1,u2,u3,u4] )(he:w.heap[eb]?=some (.cells #[.nilIface] 59 (0,0)))(hne:tb≠eb):
  CallsD Tryz.prog 140 #[pt tb 0,pt eb 0] (.panicking (Qcb fb)) w λ e u' w'=>
   e=.returned (.tuple #[])∧u'=.panicking [{ v:=.iface 193 (.agg #[.iface 127 (pt fb 0)]),recovered:=true }]∧AfterSlot tb eb fb w w':=by
 obtain⟨u0,u1,u2,u3,u4,rfl⟩:=hcs
 refine callsD_of_wpS Tryz.func140 rfl λ c₀ cs hu=>?_
 apply wpS_seq
 apply wpS_region
 simp[wpOpsS,go_sem,recoverD,hu,Qcb,Tryz.ntmps140,Exit.thenS]
 refine wpS_of_wp ?_
 obtain⟨Q,hQ⟩:∃Q:Exit→Act→World→Prop,(λ e a' w'=>bodyPostS Tryz.prog Tryz.f140 c₀ cs (λ e u' w'=>e=Ending.returned (.tuple #[])∧u'=.panicking [{ v:=.iface 193 (.agg #[.iface 127 (pt fb 0)]),recovered:=true }]∧AfterSlot tb eb fb w w') e a' ({ c₀ with mode:=.panicking [{ v:=.iface 193 (.agg #[.iface 127 (pt fb 0)]),recovered:=true }] } :: cs) w')=Q:=⟨_,rfl⟩
 rw[hQ,Qa9]
 have HQ:=QLh hQ;have HT:=QLh ht;have HE:=QLh he;clear hQ hu ht he;have ha:=Qe9 fb
 go_wp2_with fail
 obtain⟨V,hV⟩:∃V,(w.alloc (.cells #[.iface 127 (pt fb 0)] 193)).alloc (.cells #[.int .u64 0,.bool false,.int .u64 0,.slice none 0 0,.slice none 0 0] 44)=V:=⟨_,rfl⟩
 obtain⟨sb,hsb⟩:∃sb,w.heap.size=sb:=⟨_,rfl⟩
 have HV:Hid (Below w.heap.size w V):=QLh (by rw[←hV];exact Qh (Qh (Below.refl _ _) _) _);have hbs:V.heap[sb]?=some (.cells #[.iface 127 (pt fb 0)] 193 (0,0)):=by rw[←hV,←hsb];exact Qf (heap_alloc_new _ _) _
 have hbn:V.heap[sb+1]?=some (.cells #[.int .u64 0,.bool false,.int .u64 0,.slice none 0 0,.slice none 0 0] 44 (0,0)):=by rw[←hV];exact Qi _ (by simp[hsb])
 have hbt:V.heap[tb]?=some (.cells #[u0,u1,u2,u3,u4] 44 (0,0)):=(HV.out.block _ (lt_of_block HT.out)).trans HT.out;have hbe:V.heap[eb]?=some (.cells #[.nilIface] 59 (0,0)):=(HV.out.block _ (lt_of_block HE.out)).trans HE.out;have k0:V.cell? ⟨sb,0,none⟩=some (.iface 127 (pt fb 0)):=Qa hbs 0;have m0:V.cell? ⟨sb+1,0,none⟩=some (.int .u64 0):=Qa hbn 0;have m1:V.cell? ⟨sb+1,1,none⟩=some (.bool false):=Qa hbn 1;have m2:V.cell? ⟨sb+1,2,none⟩=some (.int .u64 0):=Qa hbn 2;have m3:V.cell? ⟨sb+1,3,none⟩=some (.slice none 0 0):=Qa hbn 3;have m4:V.cell? ⟨sb+1,4,none⟩=some (.slice none 0 0):=Qa hbn 4;have hts:tb<sb:=by have:=lt_of_block HT.out;omega
 have hnt:some (sb+1)≠some tb:=by simp;omega
 have hst:some sb≠some tb:=by simp;omega
 have HBT:=QLh hbt;have HBE:=QLh hbe
 try rw[hV]
 try simp only[hsb]
 clear hV hbs hbn hbt hbe ha
 refine Qp 4 3 ((some tb)) (Qaw [λ u _=>u=(.agg #[.int .u64 0,.bool false,.int .u64 0,.slice none 0 0,.slice none 0 0]),λ u _=>u=(pt sb 0),λ u _=>u=(.iface 127 (pt fb 0)),λ _ w'=>w'.heap[tb]?=some (.cells #[.int .u64 0,.bool false,.int .u64 0,.slice none 0 0,.slice none 0 0] 44 (0,0))]) rfl (by kernel_rfl) (by kernel_rfl) (Zb ⟨Qe,Qe,Qe,?m3,trivial⟩) (Q6 4 ⟨?s0,?s1,?s2,?s3,trivial⟩) ?_
 case m3=>
  exact⟨λ u w1 w2 h hb=>Zt h hb,λ hn=>absurd rfl hn⟩
 case s0=>
  refine Qc (v:=(.agg #[.int .u64 0,.bool false,.int .u64 0,.slice none 0 0,.slice none 0 0])) (λ av wv hE hS hO hD=>?_) (λ _=>rfl)
  have f5:=QEf av 5 (pt (sb+1) 0) (hO.2.2 5 rfl);have k0:=Qd hE hst k0;have m0:=Qd hE hnt m0;have m1:=Qd hE hnt m1;have m2:=Qd hE hnt m2;have m3:=Qd hE hnt m3;have m4:=Qd hE hnt m4
  refine⟨rfl,?_⟩
  simp[go_sem,f5,k0,m0,m1,m2,m3,m4]
 case s1=>
  refine Qc (v:=(pt sb 0)) (λ av wv hE hS hO hD=>?_) (λ _=>rfl)
  have f3:=QEf av 3 (pt sb 0) (hO.2.2 3 rfl)
  refine⟨rfl,?_⟩
  simp[go_sem,f3]
 case s2=>
  refine Qc (v:=(.iface 127 (pt fb 0))) (λ av wv hE hS hO hD=>?_) (λ _=>rfl)
  have f18:=QEf av 18 (pt sb 0) (hD.1 rfl _ rfl);have k0:=Qd hE hst k0;have m0:=Qd hE hnt m0;have m1:=Qd hE hnt m1;have m2:=Qd hE hnt m2;have m3:=Qd hE hnt m3;have m4:=Qd hE hnt m4
  refine⟨rfl,?_⟩
  simp[go_sem,f18,k0,m0,m1,m2,m3,m4]
 case s3=>
  refine Qo (λ av wv hE hS hO hD=>?_)
  have h0:av.eval (.tmp 0)=(pt tb 0):=hO.2.2 0 rfl;have f0:=(Qq av 0).symm.trans h0;have f17:=QEf av 17 (.agg #[.int .u64 0,.bool false,.int .u64 0,.slice none 0 0,.slice none 0 0]) (hD.1 rfl _ rfl)
  refine⟨rfl,?_⟩
  have hq:wv.heap[tb]?=some (.cells #[u0,u1,u2,u3,u4] 44 (0,0)):=Zt (w:=V.drew) (hS rfl) HBT.out;have q0:wv.cell? ⟨tb,0,none⟩=some u0:=Qa hq 0;have q1:wv.cell? ⟨tb,1,none⟩=some u1:=Qa hq 1;have q2:wv.cell? ⟨tb,2,none⟩=some u2:=Qa hq 2;have q3:wv.cell? ⟨tb,3,none⟩=some u3:=Qa hq 3;have q4:wv.cell? ⟨tb,4,none⟩=some u4:=Qa hq 4;have hz:∀o,wv.frozen? ⟨tb,o,none⟩=false:=Qj hq
  unfold Oper.wp
  have l0:tb<wv.heap.size:=lt_of_block hq;have f0:=QEf av 0 (pt tb 0) (hO.2.2 0 rfl)
  simp[go_sem,f0,f17,hz,l0,q0,q1,q2,q3,q4]
  exact⟨Qcf (Qv (Qv (Qv (Qv (Qv (Qan _ _) 0 _) 1 _) 2 _) 3 _) 4 _),undef,(Qb (Qb (Qb (Qb (Qb hq (o:=0) _) (o:=1) _) (o:=2) _) (o:=3) _) (o:=4) _)⟩
 intro a' w' hE hO hall
 have hA:=Ql (ds:=[17,18,19]) rfl hO (by kernel_rfl);have e17:a'.eval (.tmp 17)=(.agg #[.int .u64 0,.bool false,.int .u64 0,.slice none 0 0,.slice none 0 0]):=hall.1 _ rfl;have e18:a'.eval (.tmp 18)=(pt sb 0):=hall.2.1 _ rfl;have e19:a'.eval (.tmp 19)=(.iface 127 (pt fb 0)):=hall.2.2.1 _ rfl;have z3:(λ _ w'=>w'.heap[tb]?=some (.cells #[.int .u64 0,.bool false,.int .u64 0,.slice none 0 0,.slice none 0 0] 44 (0,0))) undef w':=hall.2.2.2.1 _ rfl
 simp only[List.foldl_cons,List.foldl_nil,Act.put,List.setIfInBounds_toArray,List.set_cons_succ,List.set_cons_zero,e17,e18,e19]at hA
 clear hO hall e17 e18 e19
 subst hA
 have HE:=QLh (Q9 hE);have HZ:=QLh z3;have hbe:w'.heap[eb]?=some (.cells #[.nilIface] 59 (0,0)):=Qn HE.out (by simp;exact λ e=>hne e.symm) HBE.out;have HBE:=QLh hbe;have q0:w'.cell? ⟨eb,0,none⟩=some .nilIface:=Qa hbe 0;have q1:w'.frozen? ⟨eb,0,none⟩=false:=Qj hbe 0;clear hE z3 hbe
 go_wp2
 rw[←HQ.out]
 have hs1:(w'.setCell ⟨eb,0,none⟩ (.iface 127 (pt fb 0))).heap.size=w'.heap.size:=by simp
 refine⟨rfl,_,rfl,.tuple #[],by simp[results,Tryz.results140],rfl,rfl,?_⟩
 exact⟨HE.out.os.trans HV.out.os,HE.out.tape.trans HV.out.tape,HE.out.output.trans HV.out.output,by rw[hs1];exact Nat.le_trans HV.out.size HE.out.size,λ i hi h1 h2=>by
  rw[Below.heap_setCell _ _ _ _ h2]
  exact(HE.out.block i (Nat.lt_of_lt_of_le hi HV.out.size) (by simpa using h1)).trans (HV.out.block i hi),Qg HZ.out hne _,Qb HBE.out _⟩
def Q0o(s:ByteArray)(w:World)(e:Ending)(w':World):Prop:=
 Below w.heap.size w w'∧match Qbr s (Z3 s 0) Xd 0 with
  | .error f=>∃fb,e=.returned (.tuple #[Qc9,.iface 127 (pt fb 0)])∧FltB w' fb f.1 f.2
  | .ok y=>Kd Xd y.1∧y.2≤s.size∧∃(a3:Option Addr) (c3:Nat) (a4:Option Addr) (c4:Nat),(∃rb tb,w.heap.size≤rb∧LiesSlot rb tb w' y.1 a3 c3 a4 c4)∧(if y.2<s.size then ∃fb,e=.returned (.tuple #[.agg (Xn y.1 a3 c3 a4 c4),.iface 127 (pt fb 0)])∧FltB w' fb 5 y.2 else e=.returned (.tuple #[.agg (Xn y.1 a3 c3 a4 c4),.nilIface]))
theorem Qm7(B:Nat)(s:ByteArray)(w:World)(hT:Tabs B w)(hET:ErrType w)(hB:B≤w.heap.size)(hg:0<B)(hs:s.size≤9223372036854775807):
  Calls Tryz.prog 77 #[.string s,.func (.func 61) #[] #[]] w (Q0o s w):=by
 have HT:=QLh hT;have HET:=QLh hET;have ef:=enters_of Tryz.func61 (by kernel_rfl) rfl;clear hT hET
 go_enter_defers Tryz.func77,Tryz.ntmps77
 go_wp2_with fail
 obtain⟨tb,htb⟩:∃tb,w.heap.size=tb:=⟨_,rfl⟩
 obtain⟨W,hW⟩:∃W,(w.alloc (.cells #[.int .u64 0,.bool false,.int .u64 0,.slice none 0 0,.slice none 0 0] 44)).alloc (.cells #[.nilIface] 59)=W:=⟨_,rfl⟩
 have WB:Hid (Below w.heap.size w W):=QLh (by rw[←hW];exact Qh (Qh (Below.refl _ _) _) _);have W0:Hid (W.heap[tb]?=some (.cells #[.int .u64 0,.bool false,.int .u64 0,.slice none 0 0,.slice none 0 0] 44 (0,0))):=QLh (by rw[←hW,←htb];exact Qf (heap_alloc_new _ _) _);have W1:Hid (W.heap[tb+1]?=some (.cells #[.nilIface] 59 (0,0))):=QLh (by rw[←hW];exact Qi _ (by simp[htb]));have hWs:W.heap.size=tb+1+1:=by rw[←hW];simp[htb]
 have HTW:Hid (w.heap.size=tb):=QLh htb
 try rw[hW]
 try simp only[htb]
 clear hW htb
 refine(Qn5 W s 10240).mono ?_
 rintro e w1 ⟨rfl,hw1⟩
 have hm:max (10240:Int) 0=10240:=by decide
 rw[hm]at hw1
 obtain⟨rb,hrb⟩:∃rb,W.heap.size=rb:=⟨_,rfl⟩
 have R1:Hid (RdB w1 rb s 0 10240):=QLh (by rw[hw1,←hrb];exact heap_alloc_new _ _);have WB1:Hid (Below W.heap.size W w1):=QLh (by rw[hw1];exact Qh (Below.refl _ _) _);have hs1:w1.heap.size=rb+1:=by rw[hw1,←hrb];simp
 try rw[hrb]
 clear hw1
 go_upto_region 3 with fail
 obtain⟨V,hV⟩:∃V,w1.alloc (.cells #[pt rb 0] 199)=V:=⟨_,rfl⟩
 have VB:Hid (Below w1.heap.size w1 V):=QLh (by rw[←hV];exact Qh (Below.refl _ _) _);have VQ:Hid (V.heap[rb+1]?=some (.cells #[pt rb 0] 199 (0,0))):=QLh (by rw[←hV];exact Qi _ hs1)
 try rw[hV]
 try simp only[hs1]
 have hrbt:rb=tb+1+1:=hrb.symm.trans hWs;have hTW:=HTW.out;have BV:Hid (Below w.heap.size w V):=QLh (Qk (Qk WB.out WB1.out) VB.out);have WV:Hid (Below W.heap.size W V):=QLh (Qk WB1.out VB.out);have VT:Hid (V.heap[tb]?=some (.cells #[.int .u64 0,.bool false,.int .u64 0,.slice none 0 0,.slice none 0 0] 44 (0,0))):=QLh ((WV.out.block _ (lt_of_block W0.out)).trans W0.out);have VE:Hid (V.heap[tb+1]?=some (.cells #[.nilIface] 59 (0,0))):=QLh ((WV.out.block _ (lt_of_block W1.out)).trans W1.out);have VR:Hid (RdB V rb s 0 10240):=QLh (R1.out.below VB.out);have ENV:Hid (RdEnv B V (rb+1) rb s 0):=QLh ⟨VQ.out,VR.out,HT.out.below BV.out,by omega,by omega,by omega,Nat.zero_le _,hs⟩;have E:TEnv B (rb+1) rb tb 5 44 V:=⟨⟨_,VR.out⟩,⟨_,VT.out⟩,by omega,by omega,by omega,by decide,by decide⟩;have REC:Hid (RecAt rb tb 44 5 V Xd):=QLh (Qbo VT.out rfl (λ i hi=>by
  match i,hi with
  | 0,_=>exact⟨_,rfl,rfl⟩
  | 1,_=>exact⟨_,rfl,rfl⟩
  | 2,_=>exact⟨_,rfl,rfl⟩
  | 3,_=>exact⟨_,rfl,rfl,rfl⟩
  | 4,_=>exact⟨_,rfl,rfl,rfl⟩))
 have HOF:=QLh (Qiy (x0:=Xd) (s:=s) E 0 (by omega) ⟨rfl,rfl,⟨rfl,rfl,rfl⟩⟩);have HE:=QLh E;have G:Hid (GOk Xd (Z3 s 0)):=QLh (Qm3 s 0 ⟨rfl,rfl,⟨rfl,rfl,rfl⟩⟩);have HRBT:=QLh hrbt;clear hV E hrb hs1 hWs hrbt hTW
 go_wp2_with fail
 refine HOF.out.mono ?_
 rintro e w2 ⟨u,rfl,⟨g,c,l,rfl,hc,hF,hS⟩,hb⟩
 have hl:(Z3 s 0).length=l.length:=hS.1;have hg:=(HE.out.below hb).apart hF.ex;have H2:=QLh (Qbu B (rb+1) rb tb g 0 c Xd 44 5 s w2 w2 l (Z3 s 0) 0 Xd hF.flds hc (show l.length≤1000 by rw[←hl];exact Nat.le_of_ble_eq_true rfl) hS (Chg.refl _ _ _) hg HE.out.nq HE.out.le HE.out.ne G.out.keys G.out.disj G.out.frames G.out.kinds (λ i=>rfl) (REC.out.below hb) (ENV.out.below hb) (λ i hi o ho=>rfl));have HB:=QLh hb;clear hF hS hb hl hc hg HOF ef
 go_wp2_with fail
 refine H2.out.mono ?_
 intro e w3 hh
 cases hr:Qbr s (Z3 s 0) Xd 0 with
 | error f=>
  rw[hr]at hh
  have HTH:=QLh (Qft hh)
  obtain⟨fb,rfl,hf,hc3⟩:=Qco hh
  have HF:=QLh hf;have HC:=QLh hc3;have HR:=QLh hr;clear hh hf hc3 hr H2
  go_wp2
  obtain⟨cs,hcs,hcn⟩:=HTH.out
  have hce:w3.heap[tb+1]?=some (.cells #[.nilIface] 59 (0,0)):=(HC.out.block _ (Nat.lt_of_lt_of_le (lt_of_block VE.out) HB.out.size) (by have:=HRBT.out;omega) (by omega)).trans ((HB.out.block _ (lt_of_block VE.out)).trans VE.out)
  refine leaves_cons (f:=140) (args:=#[pt tb 0,pt (tb+1) 0]) (by simp) (by simp[go_sem]) ?_
  refine(Qjt tb (tb+1) fb cs w3 hcs (arr5 hcn) hce (by omega)).mono ?_
  rintro e u' w4 ⟨rfl,rfl,HA⟩
  have y0:∀o,w4.cell? ⟨tb,o,none⟩=_:=Qa HA.th;have y1:w4.cell? ⟨tb+1,0,none⟩=some (.iface 127 (pt fb 0)):=Qa HA.er 0
  refine⟨_,by simp[results,Tryz.results77,go_sem,y0,y1];rfl,?_⟩
  refine⟨?_,by
   rw[HR.out]
   refine⟨fb,rfl,(HA.block fb (lt_of_block HF.out) (λ e=>?_) (λ e=>?_)).trans HF.out⟩
   ·subst e;have h9:=hcs.symm.trans HF.out;cases h9
   ·subst e;have h9:=hce.symm.trans HF.out;cases h9⟩
  have hsz:=HTW.out;have hb9:=HRBT.out
  refine⟨HA.os.trans (HC.out.os.trans (HB.out.os.trans BV.out.os)),HA.tape.trans (HC.out.tape.trans (HB.out.tape.trans BV.out.tape)),HA.output.trans (HC.out.output.trans (HB.out.output.trans BV.out.output)),Nat.le_trans BV.out.size (Nat.le_trans HB.out.size (Nat.le_trans HC.out.size HA.size)),λ i hi=>?_⟩
  have l1:=Nat.lt_of_lt_of_le hi BV.out.size;have l2:=Nat.lt_of_lt_of_le l1 HB.out.size
  exact(HA.block i (Nat.lt_of_lt_of_le l2 HC.out.size) (by omega) (by omega)).trans ((HC.out.block i l2 (by omega) (by omega)).trans ((HB.out.block i l1).trans (BV.out.block i hi)))
 | ok q=>
  rw[hr]at hh
  obtain⟨rfl,hrd,hle,hx3,hc3⟩:=Qd3 hh
  have HRD:=QLh hrd;have HC:=QLh hc3;have HR:=QLh hr;have HKD:Hid (Kd Xd q.1):=QLh (Qd7 G.out.kinds hr (λ i=>rfl))
  obtain⟨a3,c3,a4,c4,hth,hlies⟩:=Qda hx3 HKD.out
  have HTH:=QLh hth;have HLI:=QLh hlies;clear hh hrd hx3 hc3 hr H2 hth hlies
  obtain⟨x,a⟩:=q
  have hts:tb<w3.heap.size:=lt_of_block HTH.out;have HQ3:Hid (w3.heap[rb+1]?=some (.cells #[pt rb 0] 199 (0,0))):=QLh ((HC.out.block _ (Nat.lt_of_lt_of_le (lt_of_block VQ.out) HB.out.size) (by omega) (by have:=HRBT.out;omega)).trans ((HB.out.block _ (lt_of_block VQ.out)).trans VQ.out));have HE3:Hid (w3.heap[tb+1]?=some (.cells #[.nilIface] 59 (0,0))):=QLh ((HC.out.block _ (Nat.lt_of_lt_of_le (lt_of_block VE.out) HB.out.size) (by have:=HRBT.out;omega) (by omega)).trans ((HB.out.block _ (lt_of_block VE.out)).trans VE.out));have HET3:Hid (ErrType w3):=QLh (by
   have h1:=HET.out.below BV.out;have h2:=h1.below HB.out
   unfold ErrType at h2 ⊢
   rw[World.cell?_of_block (w:=w2) (HC.out.block _ (Qw h2) (show 0≠rb by have:=HRBT.out;have:=HTW.out;omega) (show 0≠tb by have:=HTW.out;omega))]
   exact h2)
  go_upto_region 4 with fail
  obtain⟨VO,hVO⟩:∃VO:Nat→Option Nat,VO=λ j=>if j=6 then some tb else none:=⟨_,rfl⟩
  have vo6:VO 6=some tb:=by rw[hVO];rfl
  have von:∀j,j≠6→VO j=none:=λ j h1=>by rw[hVO];simp[h1]
  have vob:∀j b,b≠tb→VO j≠some b:=λ j b hb=>by
   by_cases h:j=6
   ·subst h;rw[vo6];simp;exact λ e=>hb e.symm
   ·rw[von j h];simp
  clear hVO
  refine Qar 7 VO (λ i j b h1 h2=>by
    by_cases e1:i=6
    ·by_cases e2:j=6
     ·rw[e1,e2]
     ·rw[von j e2]at h2;cases h2
    ·rw[von i e1]at h1;cases h1) (λ _ _ _=>True) (λ _=>True) (λ _ _ _ _ _=>True) (λ _ _=>trivial) trivial
   (Qaw [λ u _=>u=.agg (Xn x a3 c3 a4 c4),λ u _=>u=.pointer (some ⟨rb+1,0,none⟩),λ u _=>u=.pointer (some ⟨rb+1,0,none⟩),λ u _=>u=.pointer (some ⟨rb+1,0,none⟩),λ u _=>u=.pointer (some ⟨rb,0,none⟩),λ u w'=>if a<s.size then ∃fb,u=.iface 127 (pt fb 0)∧FltB w' fb 5 a∧fb≠tb else u=.nilIface,λ _ w'=>w'.heap[tb]?=some (.cells (Xn x a3 c3 a4 c4) 44 (0,0))]) rfl (by kernel_rfl) (by kernel_rfl)
   (Qhu ⟨Zl,Zl,Zl,Zl,Zl,?m5,?m6,trivial⟩) (λ _ _ _ _ _=>trivial) (λ _ _ _ _ _ _ _ _ _ _ _=>trivial) (Qfz 7 ⟨?s0,?s1,?s2,?s3,?s4,?s5,?s6,trivial⟩) ?_
  case m5=>
   intro j hj u w1 w2 he hp
   by_cases hlt:a<s.size
   ·simp only[hlt,if_true]at hp ⊢
    obtain⟨fb,h1,h2,h3⟩:=hp
    refine⟨fb,h1,(he.1.block fb (lt_of_block h2) ?_).trans h2,h3⟩
    exact λ e=>vob j fb h3 e.symm
   ·simp only[hlt,if_false]at hp ⊢;exact hp
  case m6=>
   intro j hj u w1 w2 he hp
   refine(he.1.block tb (lt_of_block hp) ?_).trans hp
   rw[von j hj];simp
  case s0=>
   refine Ze (v:=.agg (Xn x a3 c3 a4 c4)) (λ _ _=>trivial) (λ _ _ _ _=>⟨trivial,trivial⟩) (λ D av wv hE hO hD=>?_) (λ _=>rfl)
   have h6:¬D 6:=hE.notyet 6 _ rfl { on:=0,ground:=.data } (by simp) rfl hE.me;have hb0:wv.heap[tb]?=some (.cells (Xn x a3 c3 a4 c4) 44 (0,0)):=(hE.late 6 h6 tb vo6 hts).trans HTH.out;have k0:wv.cell? ⟨tb,0,none⟩=some (.int .u64 (x 0).n):=Qa hb0 0;have k1:wv.cell? ⟨tb,1,none⟩=some (.bool (x 1).q):=Qa hb0 1;have k2:wv.cell? ⟨tb,2,none⟩=some (.int .u64 (x 2).n):=Qa hb0 2;have k3:wv.cell? ⟨tb,3,none⟩=some (.slice a3 (len (x 3).l) c3):=Qa hb0 3;have k4:wv.cell? ⟨tb,4,none⟩=some (.slice a4 (len (x 4).l) c4):=Qa hb0 4;have f4:=QEf av 4 (pt tb 0) (hO.2.2 4 rfl)
   refine⟨rfl,?_⟩
   simp[go_sem,f4,k0,k1,k2,k3,k4]
  case s1=>
   refine Ze (v:=.pointer (some ⟨rb+1,0,none⟩)) (λ _ _=>trivial) (λ _ _ _ _=>⟨trivial,trivial⟩) (λ D av wv hE hO hD=>?_) (λ _=>rfl)
   have f6:=QEf av 6 (pt (rb+1) 0) (hO.2.2 6 rfl)
   refine⟨rfl,?_⟩
   simp[go_sem,f6]
  case s2=>
   refine Ze (v:=.pointer (some ⟨rb+1,0,none⟩)) (λ _ _=>trivial) (λ _ _ _ _=>⟨trivial,trivial⟩) (λ D av wv hE hO hD=>?_) (λ _=>rfl)
   have f17:=QEf av 17 (pt (rb+1) 0) (hD.1 rfl _ rfl)
   refine⟨rfl,?_⟩
   simp[go_sem,f17]
  case s3=>
   refine Ze (v:=.pointer (some ⟨rb+1,0,none⟩)) (λ _ _=>trivial) (λ _ _ _ _=>⟨trivial,trivial⟩) (λ D av wv hE hO hD=>?_) (λ _=>rfl)
   have f18:=QEf av 18 (pt (rb+1) 0) (hD.1 rfl _ rfl)
   refine⟨rfl,?_⟩
   simp[go_sem,f18]
  case s4=>
   refine Ze (v:=.pointer (some ⟨rb,0,none⟩)) (λ _ _=>trivial) (λ _ _ _ _=>⟨trivial,trivial⟩) (λ D av wv hE hO hD=>?_) (λ _=>rfl)
   have f19:=QEf av 19 (pt (rb+1) 0) (hD.1 rfl _ rfl);have k0:wv.cell? ⟨rb+1,0,none⟩=some (pt rb 0):=Qa ((hE.ext.block (rb+1) (lt_of_block HQ3.out) (λ j=>vob j _ (by have:=HRBT.out;omega))).trans HQ3.out) 0
   refine⟨rfl,?_⟩
   simp[go_sem,f19,k0]
  case s5=>
   refine Qbp (λ D av wv hPP hE hO hD=>?_)
   have f20:=QEf av 20 (pt rb 0) (hD.1 rfl _ rfl);have hrd:RdB wv rb s a 10240:=(hE.ext.block rb (lt_of_block HRD.out) (λ j=>vob j _ (by have:=HRBT.out;omega))).trans HRD.out;have het:ErrType wv:=by
    have h2:ErrType w3.drew:=HET3.out
    unfold ErrType at h2 ⊢
    rw[World.cell?_of_block (w:=w3.drew) (hE.ext.block _ (Qw h2) (λ j=>vob j _ (show 0≠tb by have:=HTW.out;omega)))]
    exact h2
   have hvs:w3.heap.size≤wv.heap.size:=hE.ext.size
   refine⟨rfl,Xq (f:=124) (args:=#[pt rb 0]) (R:=λ u w2=>Below wv.heap.size wv w2∧(if a<s.size then ∃fb,u=.iface 127 (pt fb 0)∧FltB w2 fb 5 a∧fb≠tb else u=.nilIface)) (by simp[go_sem,f20]) ((Qn4 wv rb s a 10240 het hrd hle hs).mono λ e w2 hh=>?_) (λ u w2 ⟨h1,h2⟩=>⟨u,rfl,Qcs h1 trivial,h2,λ _ _ _ _ _=>⟨trivial,trivial⟩⟩)⟩
   obtain⟨h1,h2⟩:=hh
   unfold Qdm at h2
   by_cases hlt:a<s.size
   ·simp only[hlt,if_true]at h2 ⊢
    obtain⟨fb,h3,h4,h5⟩:=h2
    exact⟨_,h3,h1,fb,rfl,h5,by omega⟩
   ·simp only[hlt,if_false]at h2 ⊢
    exact⟨_,h2,h1,rfl⟩
  case s6=>
   refine Qbp (λ D av wv hPP hE hO hD=>?_)
   have f16:=QEf av 16 (.agg (Xn x a3 c3 a4 c4)) (hD.1 rfl _ rfl);have f4:=QEf av 4 (pt tb 0) (hO.2.2 4 rfl);have hq:wv.heap[tb]?=some (.cells (Xn x a3 c3 a4 c4) 44 (0,0)):=(hE.own tb vo6 hts).trans HTH.out;have k0:wv.cell? ⟨tb,0,none⟩=some (.int .u64 (x 0).n):=Qa hq 0;have k1:wv.cell? ⟨tb,1,none⟩=some (.bool (x 1).q):=Qa hq 1;have k2:wv.cell? ⟨tb,2,none⟩=some (.int .u64 (x 2).n):=Qa hq 2;have k3:wv.cell? ⟨tb,3,none⟩=some (.slice a3 (len (x 3).l) c3):=Qa hq 3;have k4:wv.cell? ⟨tb,4,none⟩=some (.slice a4 (len (x 4).l) c4):=Qa hq 4;have hz:∀o,wv.frozen? ⟨tb,o,none⟩=false:=Qj hq;have l0:tb<wv.heap.size:=lt_of_block hq
   refine⟨rfl,?_⟩
   unfold Oper.wp
   simp[go_sem,f4,f16,hz,l0,k0,k1,k2,k3,k4]
   exact⟨⟨by rw[vo6];exact(Qv (Qv (Qv (Qv (Qv (Qan _ _) 0 _) 1 _) 2 _) 3 _) 4 _),trivial⟩,undef,(Qb (Qb (Qb (Qb (Qb hq (o:=0) _) (o:=1) _) (o:=2) _) (o:=3) _) (o:=4) _),λ _ _ _ _ _=>⟨trivial,trivial⟩⟩
  intro a' w' hE _ hO hall _
  have hA:=Ql (ds:=[16,17,18,19,20,21]) rfl hO (by kernel_rfl);have e16:(λ u (_:World)=>u=.agg (Xn x a3 c3 a4 c4)) (a'.eval (.tmp 16)) w':=hall.1 _ rfl;have e17:(λ u (_:World)=>u=.pointer (some ⟨rb+1,0,none⟩)) (a'.eval (.tmp 17)) w':=hall.2.1 _ rfl;have e18:(λ u (_:World)=>u=.pointer (some ⟨rb+1,0,none⟩)) (a'.eval (.tmp 18)) w':=hall.2.2.1 _ rfl;have e19:(λ u (_:World)=>u=.pointer (some ⟨rb+1,0,none⟩)) (a'.eval (.tmp 19)) w':=hall.2.2.2.1 _ rfl;have e20:(λ u (_:World)=>u=.pointer (some ⟨rb,0,none⟩)) (a'.eval (.tmp 20)) w':=hall.2.2.2.2.1 _ rfl;have e21:(λ u w'=>if a<s.size then ∃fb,u=.iface 127 (pt fb 0)∧FltB w' fb 5 a∧fb≠tb else u=.nilIface) (a'.eval (.tmp 21)) w':=hall.2.2.2.2.2.1 _ rfl;have z6:w'.heap[tb]?=some (.cells (Xn x a3 c3 a4 c4) 44 (0,0)):=hall.2.2.2.2.2.2.1 _ rfl
  obtain⟨v21,hv21⟩:∃v,a'.eval (.tmp 21)=v:=⟨_,rfl⟩
  rw[hv21]at e21
  simp only[List.foldl_cons,List.foldl_nil,Act.put,List.setIfInBounds_toArray,List.set_cons_succ,List.set_cons_zero,e16,e17,e18,e19,e20,hv21]at hA
  clear hO hall e16 e17 e18 e19 e20 hv21
  subst hA
  have HX4:Hid (ExtS VO w3 w'):=QLh ⟨hE.os,hE.tape,hE.output,hE.size,hE.block⟩;have HZ6:=QLh z6;have hbe:w'.heap[tb+1]?=some (.cells #[.nilIface] 59 (0,0)):=(HX4.out.block _ (lt_of_block HE3.out) (λ j=>vob j _ (by omega))).trans HE3.out;have HBE:=QLh hbe;have g0:w'.cell? ⟨tb+1,0,none⟩=some .nilIface:=Qa hbe 0;have g1:w'.frozen? ⟨tb+1,0,none⟩=false:=Qj hbe 0;have HVO:Hid (∀j b,b≠tb→VO j≠some b):=QLh vob;have HFIN:∀v,Hid (Below w.heap.size w (w'.setCell ⟨tb+1,0,none⟩ v)):=λ v=>QLh (by
   have hsz:=HTW.out;have hb9:=HRBT.out
   refine⟨HX4.out.os.trans (HC.out.os.trans (HB.out.os.trans BV.out.os)),HX4.out.tape.trans (HC.out.tape.trans (HB.out.tape.trans BV.out.tape)),HX4.out.output.trans (HC.out.output.trans (HB.out.output.trans BV.out.output)),by simpa using Nat.le_trans BV.out.size (Nat.le_trans HB.out.size (Nat.le_trans HC.out.size HX4.out.size)),λ i hi=>?_⟩
   have l1:=Nat.lt_of_lt_of_le hi BV.out.size;have l2:=Nat.lt_of_lt_of_le l1 HB.out.size
   rw[Below.heap_setCell _ _ _ _ (by omega:i≠tb+1)]
   exact(HX4.out.block i (Nat.lt_of_lt_of_le l2 HC.out.size) (λ j=>HVO.out j i (by omega))).trans ((HC.out.block i l2 (by omega) (by omega)).trans ((HB.out.block i l1).trans (BV.out.block i hi))))
  have HLF:∀v,Hid (LiesSlot rb tb (w'.setCell ⟨tb+1,0,none⟩ v) x a3 c3 a4 c4):=λ v=>QLh (HLI.out.up (λ b h1 h2=>by
   have hb9:=HRBT.out
   rw[Below.heap_setCell _ _ _ _ (by omega:b≠tb+1)]
   exact HX4.out.block b h2 (λ j=>HVO.out j b (by omega))))
  have HTF:∀v o,(w'.setCell ⟨tb+1,0,none⟩ v).cell? ⟨tb,o,none⟩=(Xn x a3 c3 a4 c4)[o]?:=λ v o=>Qa (Qg HZ6.out (by show tb≠tb+1;omega) v) o;have HEF:∀v,(w'.setCell ⟨tb+1,0,none⟩ v).cell? ⟨tb+1,0,none⟩=some v:=λ v=>Qa (Qb HBE.out v) 0;have HTFH:=QLh HTF;have HEFH:=QLh HEF;clear hE z6 hbe vo6 von vob HTF HEF
  by_cases hlt:a<s.size
  ·simp only[hlt,if_true]at e21
   obtain⟨fb,rfl,hf,hft⟩:=e21
   have HF:=QLh hf;have HLT:=QLh hlt;clear hf hlt
   go_wp2
   refine leaves_cons (f:=140) (args:=#[pt tb 0,pt (tb+1) 0]) (by simp) (by simp[go_sem]) ?_
   refine(Qen _ _ _).mono ?_
   rintro e u' w'' ⟨rfl,rfl,rfl⟩
   have y0:=HTFH.out (.iface 127 (pt fb 0));have y1:=HEFH.out (.iface 127 (pt fb 0))
   refine⟨_,by simp[results,Tryz.results77,go_sem,y0,y1];rfl,?_⟩
   refine⟨(HFIN _).out,?_⟩
   rw[HR.out]
   refine⟨HKD.out,hle,a3,c3,a4,c4,⟨rb,tb,by have:=HRBT.out;have:=HTW.out;omega,(HLF _).out⟩,?_⟩
   rw[if_pos HLT.out]
   exact⟨fb,rfl,Qg HF.out (by intro e;subst e;have h9:=HBE.out.symm.trans HF.out;cases h9) _⟩
  ·simp only[hlt,if_false]at e21
   subst e21
   have HLT:=QLh hlt;clear hlt
   go_wp2
   refine leaves_cons (f:=140) (args:=#[pt tb 0,pt (tb+1) 0]) (by simp) (by simp[go_sem]) ?_
   refine(Qen _ _ _).mono ?_
   rintro e u' w'' ⟨rfl,rfl,rfl⟩
   have y0:=HTFH.out .nilIface;have y1:=HEFH.out .nilIface
   refine⟨_,by simp[results,Tryz.results77,go_sem,y0,y1];rfl,?_⟩
   refine⟨(HFIN _).out,?_⟩
   rw[HR.out]
   refine⟨HKD.out,hle,a3,c3,a4,c4,⟨rb,tb,by have:=HRBT.out;have:=HTW.out;omega,(HLF _).out⟩,?_⟩
   rw[if_neg HLT.out]
abbrev Zy(x:Rcd)(a2:Option Addr)(c2:Nat)(a3:Option Addr)(c3:Nat)(a4:Option Addr)(c4:Nat)(a5:Option Addr)(c5:Nat):Array Value:=#[.string (x 0).s,.int .u64 (x 1).n,.slice a2 (len (x 2).rs) c2,.slice a3 (len (x 3).ns) c3,.slice a4 (len (x 4).l) c4,.slice a5 (len (x 5).l) c5]
abbrev Qdb:Value:=.agg #[.string ⟨#[]⟩,.int .u64 0,.slice none 0 0,.slice none 0 0,.slice none 0 0,.slice none 0 0]
def LiesCert(rb tb:Nat)(w:World)(x:Rcd)(a2:Option Addr)(c2:Nat)(a3:Option Addr)(c3:Nat)(a4:Option Addr)(c4:Nat)(a5:Option Addr)(c5:Nat):Prop:=HoldsD rb tb w (.slice a2 (len (x 2).rs) c2) (x 2)∧HoldsD rb tb w (.slice a3 (len (x 3).ns) c3) (x 3)∧HoldsD rb tb w (.slice a4 (len (x 4).l) c4) (x 4)∧HoldsD rb tb w (.slice a5 (len (x 5).l) c5) (x 5)
theorem LiesCert.below{rb tb:Nat}{w w':World}{x:Rcd}{a2:Option Addr}{c2:Nat}{a3:Option Addr}{c3:Nat}{a4:Option Addr}{c4:Nat}{a5:Option Addr}{c5:Nat}(h:LiesCert rb tb w x a2 c2 a3 c3 a4 c4 a5 c5)(hb:Below w.heap.size w w'):LiesCert rb tb w' x a2 c2 a3 c3 a4 c4 a5 c5:=⟨h.1.chg (Chg.of_below hb),h.2.1.chg (Chg.of_below hb),h.2.2.1.chg (Chg.of_below hb),h.2.2.2.chg (Chg.of_below hb)⟩
theorem LiesCert.up{rb tb:Nat}{w w':World}{x:Rcd}{a2:Option Addr}{c2:Nat}{a3:Option Addr}{c3:Nat}{a4:Option Addr}{c4:Nat}{a5:Option Addr}{c5:Nat}(h:LiesCert rb tb w x a2 c2 a3 c3 a4 c4 a5 c5)(hb:Up rb w w'):LiesCert rb tb w' x a2 c2 a3 c3 a4 c4 a5 c5:=⟨h.1.up hb,h.2.1.up hb,h.2.2.1.up hb,h.2.2.2.up hb⟩
theorem Qbz{rb tb:Nat}{w:World}{x:Rcd}(h:RecAt rb tb 28 6 w x)(hk:Kd Q7 x):∃(a2:Option Addr) (c2:Nat) (a3:Option Addr) (c3:Nat) (a4:Option Addr) (c4:Nat) (a5:Option Addr) (c5:Nat),w.heap[tb]?=some (.cells (Zy x a2 c2 a3 c3 a4 c4 a5 c5) 28 (0,0))∧LiesCert rb tb w x a2 c2 a3 c3 a4 c4 a5 c5:=by
 obtain⟨cs,h1,h2,h3⟩:=h
 obtain⟨m0,e0⟩:=hk.str (show Zj (Q7 0)=_ from rfl)
 obtain⟨u0,g0,d0⟩:=h3 0 (by decide)
 rw[e0]at d0
 simp only[HoldsD]at d0
 subst d0
 obtain⟨m1,e1⟩:=hk.num (show Zj (Q7 1)=_ from rfl)
 obtain⟨u1,g1,d1⟩:=h3 1 (by decide)
 rw[e1]at d1
 simp only[HoldsD]at d1
 subst d1
 obtain⟨m2,e2⟩:=hk.revs (show Zj (Q7 2)=_ from rfl)
 obtain⟨u2,g2,d2⟩:=h3 2 (by decide)
 have D2:=d2
 rw[e2]at d2
 obtain⟨a2,c2,q2,-⟩:=d2
 subst q2
 obtain⟨m3,e3⟩:=hk.nums (show Zj (Q7 3)=_ from rfl)
 obtain⟨u3,g3,d3⟩:=h3 3 (by decide)
 have D3:=d3
 rw[e3]at d3
 obtain⟨a3,c3,q3,-⟩:=d3
 subst q3
 obtain⟨m4,e4⟩:=hk.strs (show Zj (Q7 4)=_ from rfl)
 obtain⟨u4,g4,d4⟩:=h3 4 (by decide)
 have D4:=d4
 rw[e4]at d4
 obtain⟨a4,c4,q4,-⟩:=d4
 subst q4
 obtain⟨m5,e5⟩:=hk.strs (show Zj (Q7 5)=_ from rfl)
 obtain⟨u5,g5,d5⟩:=h3 5 (by decide)
 have D5:=d5
 rw[e5]at d5
 obtain⟨a5,c5,q5,-⟩:=d5
 subst q5
 refine⟨a2,c2,a3,c3,a4,c4,a5,c5,?_,?_⟩
 ·rw[h1];congr 2;apply Array.ext_getElem?;intro i
  match i with
  | 0=>rw[g0];simp[e0,DV.n,DV.q,DV.s,DV.l,DV.ns,DV.rs]
  | 1=>rw[g1];simp[e1,DV.n,DV.q,DV.s,DV.l,DV.ns,DV.rs]
  | 2=>rw[g2];simp[e2,DV.n,DV.q,DV.s,DV.l,DV.ns,DV.rs]
  | 3=>rw[g3];simp[e3,DV.n,DV.q,DV.s,DV.l,DV.ns,DV.rs]
  | 4=>rw[g4];simp[e4,DV.n,DV.q,DV.s,DV.l,DV.ns,DV.rs]
  | 5=>rw[g5];simp[e5,DV.n,DV.q,DV.s,DV.l,DV.ns,DV.rs]
  | i+6=>rw[Array.getElem?_eq_none (by omega),Array.getElem?_eq_none (by simp)]
 ·exact⟨(by rw[e2]at D2 ⊢;exact D2),(by rw[e3]at D3 ⊢;exact D3),(by rw[e4]at D4 ⊢;exact D4),(by rw[e5]at D5 ⊢;exact D5)⟩
theorem Qeo(p q:Value)(w:World):CallsD Tryz.prog 160 #[p,q] .returning w λ e u' w'=>e=.returned (.tuple #[])∧u'=.returning∧w'=w:=by
 refine callsD_of_wpS Tryz.func160 rfl λ c₀ cs hu=>?_
 apply wpS_seq
 apply wpS_region
 simp[wpOpsS,go_sem,recoverD,hu,Tryz.ntmps160,Exit.thenS]
 refine wpS_of_wp ?_
 obtain⟨Q,hQ⟩:∃Q:Exit→Act→World→Prop,(λ e a' w'=>bodyPostS Tryz.prog Tryz.f160 c₀ cs (λ e u' w'=>e=Ending.returned (.tuple #[])∧u'=.returning∧w'=w) e a' (c₀ :: cs) w')=Q:=⟨_,rfl⟩
 rw[hQ,Qa9]
 have HQ:=QLh hQ;clear hQ
 go_wp2
 rw[←HQ.out]
 simp[bodyPostS,results,Tryz.results160]
 cases c₀;simp_all
structure AfterCert(tb eb fb:Nat)(w w':World):Prop where
 os:w'.os=w.os
 tape:w'.tape=w.tape
 output:w'.output=w.output
 size:w.heap.size≤w'.heap.size
 block:∀i,i<w.heap.size→i≠tb→i≠eb→w'.heap[i]?=w.heap[i]?
 th:w'.heap[tb]?=some (.cells #[.string ⟨#[]⟩,.int .u64 0,.slice none 0 0,.slice none 0 0,.slice none 0 0,.slice none 0 0] 28 (0,0))
 er:w'.heap[eb]?=some (.cells #[.iface 127 (pt fb 0)] 59 (0,0))
theorem Qju(tb eb fb:Nat)(cs:Array Value)(w:World)(ht:w.heap[tb]?=some (.cells cs 28 (0,0)))(hcs:∃u0 u1 u2 u3 u4 u5:Value,cs=#[u0,u1,u2,u3,u4,u5] )(he:w.heap[eb]?=some (.cells #[.nilIface] 59 (0,0)))(hne:tb≠eb):
  CallsD Tryz.prog 160 #[pt tb 0,pt eb 0] (.panicking (Qcb fb)) w λ e u' w'=>
   e=.returned (.tuple #[])∧u'=.panicking [{ v:=.iface 193 (.agg #[.iface 127 (pt fb 0)]),recovered:=true }]∧AfterCert tb eb fb w w':=by
 obtain⟨u0,u1,u2,u3,u4,u5,rfl⟩:=hcs
 refine callsD_of_wpS Tryz.func160 rfl λ c₀ cs hu=>?_
 apply wpS_seq
 apply wpS_region
 simp[wpOpsS,go_sem,recoverD,hu,Qcb,Tryz.ntmps160,Exit.thenS]
 refine wpS_of_wp ?_
 obtain⟨Q,hQ⟩:∃Q:Exit→Act→World→Prop,(λ e a' w'=>bodyPostS Tryz.prog Tryz.f160 c₀ cs (λ e u' w'=>e=Ending.returned (.tuple #[])∧u'=.panicking [{ v:=.iface 193 (.agg #[.iface 127 (pt fb 0)]),recovered:=true }]∧AfterCert tb eb fb w w') e a' ({ c₀ with mode:=.panicking [{ v:=.iface 193 (.agg #[.iface 127 (pt fb 0)]),recovered:=true }] } :: cs) w')=Q:=⟨_,rfl⟩
 rw[hQ,Qa9]
 have HQ:=QLh hQ;have HT:=QLh ht;have HE:=QLh he;clear hQ hu ht he;have ha:=Qe9 fb
 go_wp2_with fail
 obtain⟨V,hV⟩:∃V,(w.alloc (.cells #[.iface 127 (pt fb 0)] 193)).alloc (.cells #[.string ⟨#[]⟩,.int .u64 0,.slice none 0 0,.slice none 0 0,.slice none 0 0,.slice none 0 0] 28)=V:=⟨_,rfl⟩
 obtain⟨sb,hsb⟩:∃sb,w.heap.size=sb:=⟨_,rfl⟩
 have HV:Hid (Below w.heap.size w V):=QLh (by rw[←hV];exact Qh (Qh (Below.refl _ _) _) _);have hbs:V.heap[sb]?=some (.cells #[.iface 127 (pt fb 0)] 193 (0,0)):=by rw[←hV,←hsb];exact Qf (heap_alloc_new _ _) _
 have hbn:V.heap[sb+1]?=some (.cells #[.string ⟨#[]⟩,.int .u64 0,.slice none 0 0,.slice none 0 0,.slice none 0 0,.slice none 0 0] 28 (0,0)):=by rw[←hV];exact Qi _ (by simp[hsb])
 have hbt:V.heap[tb]?=some (.cells #[u0,u1,u2,u3,u4,u5] 28 (0,0)):=(HV.out.block _ (lt_of_block HT.out)).trans HT.out;have hbe:V.heap[eb]?=some (.cells #[.nilIface] 59 (0,0)):=(HV.out.block _ (lt_of_block HE.out)).trans HE.out;have k0:V.cell? ⟨sb,0,none⟩=some (.iface 127 (pt fb 0)):=Qa hbs 0;have m0:V.cell? ⟨sb+1,0,none⟩=some (.string ⟨#[]⟩):=Qa hbn 0;have m1:V.cell? ⟨sb+1,1,none⟩=some (.int .u64 0):=Qa hbn 1;have m2:V.cell? ⟨sb+1,2,none⟩=some (.slice none 0 0):=Qa hbn 2;have m3:V.cell? ⟨sb+1,3,none⟩=some (.slice none 0 0):=Qa hbn 3;have m4:V.cell? ⟨sb+1,4,none⟩=some (.slice none 0 0):=Qa hbn 4;have m5:V.cell? ⟨sb+1,5,none⟩=some (.slice none 0 0):=Qa hbn 5;have hts:tb<sb:=by have:=lt_of_block HT.out;omega
 have hnt:some (sb+1)≠some tb:=by simp;omega
 have hst:some sb≠some tb:=by simp;omega
 have HBT:=QLh hbt;have HBE:=QLh hbe
 try rw[hV]
 try simp only[hsb]
 clear hV hbs hbn hbt hbe ha
 refine Qp 4 3 ((some tb)) (Qaw [λ u _=>u=(.agg #[.string ⟨#[]⟩,.int .u64 0,.slice none 0 0,.slice none 0 0,.slice none 0 0,.slice none 0 0]),λ u _=>u=(pt sb 0),λ u _=>u=(.iface 127 (pt fb 0)),λ _ w'=>w'.heap[tb]?=some (.cells #[.string ⟨#[]⟩,.int .u64 0,.slice none 0 0,.slice none 0 0,.slice none 0 0,.slice none 0 0] 28 (0,0))]) rfl (by kernel_rfl) (by kernel_rfl) (Zb ⟨Qe,Qe,Qe,?m3,trivial⟩) (Q6 4 ⟨?s0,?s1,?s2,?s3,trivial⟩) ?_
 case m3=>
  exact⟨λ u w1 w2 h hb=>Zt h hb,λ hn=>absurd rfl hn⟩
 case s0=>
  refine Qc (v:=(.agg #[.string ⟨#[]⟩,.int .u64 0,.slice none 0 0,.slice none 0 0,.slice none 0 0,.slice none 0 0])) (λ av wv hE hS hO hD=>?_) (λ _=>rfl)
  have f5:=QEf av 5 (pt (sb+1) 0) (hO.2.2 5 rfl);have k0:=Qd hE hst k0;have m0:=Qd hE hnt m0;have m1:=Qd hE hnt m1;have m2:=Qd hE hnt m2;have m3:=Qd hE hnt m3;have m4:=Qd hE hnt m4;have m5:=Qd hE hnt m5
  refine⟨rfl,?_⟩
  simp[go_sem,f5,k0,m0,m1,m2,m3,m4,m5]
 case s1=>
  refine Qc (v:=(pt sb 0)) (λ av wv hE hS hO hD=>?_) (λ _=>rfl)
  have f3:=QEf av 3 (pt sb 0) (hO.2.2 3 rfl)
  refine⟨rfl,?_⟩
  simp[go_sem,f3]
 case s2=>
  refine Qc (v:=(.iface 127 (pt fb 0))) (λ av wv hE hS hO hD=>?_) (λ _=>rfl)
  have f18:=QEf av 18 (pt sb 0) (hD.1 rfl _ rfl);have k0:=Qd hE hst k0;have m0:=Qd hE hnt m0;have m1:=Qd hE hnt m1;have m2:=Qd hE hnt m2;have m3:=Qd hE hnt m3;have m4:=Qd hE hnt m4;have m5:=Qd hE hnt m5
  refine⟨rfl,?_⟩
  simp[go_sem,f18,k0,m0,m1,m2,m3,m4,m5]
 case s3=>
  refine Qo (λ av wv hE hS hO hD=>?_)
  have h0:av.eval (.tmp 0)=(pt tb 0):=hO.2.2 0 rfl;have f0:=(Qq av 0).symm.trans h0;have f17:=QEf av 17 (.agg #[.string ⟨#[]⟩,.int .u64 0,.slice none 0 0,.slice none 0 0,.slice none 0 0,.slice none 0 0]) (hD.1 rfl _ rfl)
  refine⟨rfl,?_⟩
  have hq:wv.heap[tb]?=some (.cells #[u0,u1,u2,u3,u4,u5] 28 (0,0)):=Zt (w:=V.drew) (hS rfl) HBT.out;have q0:wv.cell? ⟨tb,0,none⟩=some u0:=Qa hq 0;have q1:wv.cell? ⟨tb,1,none⟩=some u1:=Qa hq 1;have q2:wv.cell? ⟨tb,2,none⟩=some u2:=Qa hq 2;have q3:wv.cell? ⟨tb,3,none⟩=some u3:=Qa hq 3;have q4:wv.cell? ⟨tb,4,none⟩=some u4:=Qa hq 4;have q5:wv.cell? ⟨tb,5,none⟩=some u5:=Qa hq 5;have hz:∀o,wv.frozen? ⟨tb,o,none⟩=false:=Qj hq
  unfold Oper.wp
  have l0:tb<wv.heap.size:=lt_of_block hq;have f0:=QEf av 0 (pt tb 0) (hO.2.2 0 rfl)
  simp[go_sem,f0,f17,hz,l0,q0,q1,q2,q3,q4,q5]
  exact⟨Qcf (Qv (Qv (Qv (Qv (Qv (Qv (Qan _ _) 0 _) 1 _) 2 _) 3 _) 4 _) 5 _),undef,(Qb (Qb (Qb (Qb (Qb (Qb hq (o:=0) _) (o:=1) _) (o:=2) _) (o:=3) _) (o:=4) _) (o:=5) _)⟩
 intro a' w' hE hO hall
 have hA:=Ql (ds:=[17,18,19]) rfl hO (by kernel_rfl);have e17:a'.eval (.tmp 17)=(.agg #[.string ⟨#[]⟩,.int .u64 0,.slice none 0 0,.slice none 0 0,.slice none 0 0,.slice none 0 0]):=hall.1 _ rfl;have e18:a'.eval (.tmp 18)=(pt sb 0):=hall.2.1 _ rfl;have e19:a'.eval (.tmp 19)=(.iface 127 (pt fb 0)):=hall.2.2.1 _ rfl;have z3:(λ _ w'=>w'.heap[tb]?=some (.cells #[.string ⟨#[]⟩,.int .u64 0,.slice none 0 0,.slice none 0 0,.slice none 0 0,.slice none 0 0] 28 (0,0))) undef w':=hall.2.2.2.1 _ rfl
 simp only[List.foldl_cons,List.foldl_nil,Act.put,List.setIfInBounds_toArray,List.set_cons_succ,List.set_cons_zero,e17,e18,e19]at hA
 clear hO hall e17 e18 e19
 subst hA
 have HE:=QLh (Q9 hE);have HZ:=QLh z3;have hbe:w'.heap[eb]?=some (.cells #[.nilIface] 59 (0,0)):=Qn HE.out (by simp;exact λ e=>hne e.symm) HBE.out;have HBE:=QLh hbe;have q0:w'.cell? ⟨eb,0,none⟩=some .nilIface:=Qa hbe 0;have q1:w'.frozen? ⟨eb,0,none⟩=false:=Qj hbe 0;clear hE z3 hbe
 go_wp2
 rw[←HQ.out]
 have hs1:(w'.setCell ⟨eb,0,none⟩ (.iface 127 (pt fb 0))).heap.size=w'.heap.size:=by simp
 refine⟨rfl,_,rfl,.tuple #[],by simp[results,Tryz.results160],rfl,rfl,?_⟩
 exact⟨HE.out.os.trans HV.out.os,HE.out.tape.trans HV.out.tape,HE.out.output.trans HV.out.output,by rw[hs1];exact Nat.le_trans HV.out.size HE.out.size,λ i hi h1 h2=>by
  rw[Below.heap_setCell _ _ _ _ h2]
  exact(HE.out.block i (Nat.lt_of_lt_of_le hi HV.out.size) (by simpa using h1)).trans (HV.out.block i hi),Qg HZ.out hne _,Qb HBE.out _⟩
def Q0p(s:ByteArray)(w:World)(e:Ending)(w':World):Prop:=
 Below w.heap.size w w'∧match Qbr s (Zp s) Q7 0 with
  | .error f=>∃fb,e=.returned (.tuple #[Qdb,.iface 127 (pt fb 0)])∧FltB w' fb f.1 f.2
  | .ok y=>Kd Q7 y.1∧y.2≤s.size∧∃(a2:Option Addr) (c2:Nat) (a3:Option Addr) (c3:Nat) (a4:Option Addr) (c4:Nat) (a5:Option Addr) (c5:Nat),(∃rb tb,w.heap.size≤rb∧LiesCert rb tb w' y.1 a2 c2 a3 c3 a4 c4 a5 c5)∧(if y.2<s.size then ∃fb,e=.returned (.tuple #[.agg (Zy y.1 a2 c2 a3 c3 a4 c4 a5 c5),.iface 127 (pt fb 0)])∧FltB w' fb 5 y.2 else e=.returned (.tuple #[.agg (Zy y.1 a2 c2 a3 c3 a4 c4 a5 c5),.nilIface]))
theorem Qm8(B:Nat)(s:ByteArray)(w:World)(hT:Tabs B w)(hET:ErrType w)(hB:B≤w.heap.size)(hg:0<B)(hs:s.size≤9223372036854775807):
  Calls Tryz.prog 100 #[.string s,.func (.func 93) #[] #[]] w (Q0p s w):=by
 have HT:=QLh hT;have HET:=QLh hET;have ef:=enters_of Tryz.func93 (by kernel_rfl) rfl;clear hT hET
 go_enter_defers Tryz.func100,Tryz.ntmps100
 go_wp2_with fail
 obtain⟨tb,htb⟩:∃tb,w.heap.size=tb:=⟨_,rfl⟩
 obtain⟨W,hW⟩:∃W,(w.alloc (.cells #[.string ⟨#[]⟩,.int .u64 0,.slice none 0 0,.slice none 0 0,.slice none 0 0,.slice none 0 0] 28)).alloc (.cells #[.nilIface] 59)=W:=⟨_,rfl⟩
 have WB:Hid (Below w.heap.size w W):=QLh (by rw[←hW];exact Qh (Qh (Below.refl _ _) _) _);have W0:Hid (W.heap[tb]?=some (.cells #[.string ⟨#[]⟩,.int .u64 0,.slice none 0 0,.slice none 0 0,.slice none 0 0,.slice none 0 0] 28 (0,0))):=QLh (by rw[←hW,←htb];exact Qf (heap_alloc_new _ _) _);have W1:Hid (W.heap[tb+1]?=some (.cells #[.nilIface] 59 (0,0))):=QLh (by rw[←hW];exact Qi _ (by simp[htb]));have hWs:W.heap.size=tb+1+1:=by rw[←hW];simp[htb]
 have HTW:Hid (w.heap.size=tb):=QLh htb
 try rw[hW]
 try simp only[htb]
 clear hW htb
 refine(Qn5 W s 10240).mono ?_
 rintro e w1 ⟨rfl,hw1⟩
 have hm:max (10240:Int) 0=10240:=by decide
 rw[hm]at hw1
 obtain⟨rb,hrb⟩:∃rb,W.heap.size=rb:=⟨_,rfl⟩
 have R1:Hid (RdB w1 rb s 0 10240):=QLh (by rw[hw1,←hrb];exact heap_alloc_new _ _);have WB1:Hid (Below W.heap.size W w1):=QLh (by rw[hw1];exact Qh (Below.refl _ _) _);have hs1:w1.heap.size=rb+1:=by rw[hw1,←hrb];simp
 try rw[hrb]
 clear hw1
 go_upto_region 3 with fail
 obtain⟨V,hV⟩:∃V,w1.alloc (.cells #[pt rb 0] 199)=V:=⟨_,rfl⟩
 have VB:Hid (Below w1.heap.size w1 V):=QLh (by rw[←hV];exact Qh (Below.refl _ _) _);have VQ:Hid (V.heap[rb+1]?=some (.cells #[pt rb 0] 199 (0,0))):=QLh (by rw[←hV];exact Qi _ hs1)
 try rw[hV]
 try simp only[hs1]
 have hrbt:rb=tb+1+1:=hrb.symm.trans hWs;have hTW:=HTW.out;have BV:Hid (Below w.heap.size w V):=QLh (Qk (Qk WB.out WB1.out) VB.out);have WV:Hid (Below W.heap.size W V):=QLh (Qk WB1.out VB.out);have VT:Hid (V.heap[tb]?=some (.cells #[.string ⟨#[]⟩,.int .u64 0,.slice none 0 0,.slice none 0 0,.slice none 0 0,.slice none 0 0] 28 (0,0))):=QLh ((WV.out.block _ (lt_of_block W0.out)).trans W0.out);have VE:Hid (V.heap[tb+1]?=some (.cells #[.nilIface] 59 (0,0))):=QLh ((WV.out.block _ (lt_of_block W1.out)).trans W1.out);have VR:Hid (RdB V rb s 0 10240):=QLh (R1.out.below VB.out);have ENV:Hid (RdEnv B V (rb+1) rb s 0):=QLh ⟨VQ.out,VR.out,HT.out.below BV.out,by omega,by omega,by omega,Nat.zero_le _,hs⟩;have E:TEnv B (rb+1) rb tb 6 28 V:=⟨⟨_,VR.out⟩,⟨_,VT.out⟩,by omega,by omega,by omega,by decide,by decide⟩;have REC:Hid (RecAt rb tb 28 6 V Q7):=QLh (Qbo VT.out rfl (λ i hi=>by
  match i,hi with
  | 0,_=>exact⟨_,rfl,rfl⟩
  | 1,_=>exact⟨_,rfl,rfl⟩
  | 2,_=>exact⟨_,rfl,rfl,rfl⟩
  | 3,_=>exact⟨_,rfl,rfl,rfl⟩
  | 4,_=>exact⟨_,rfl,rfl,rfl⟩
  | 5,_=>exact⟨_,rfl,rfl,rfl⟩))
 have HOF:=QLh (Qoj (s:=s) E);have HE:=QLh E;have G:Hid (GOk Q7 (Zp s)):=QLh (Qti s);have HRBT:=QLh hrbt;clear hV E hrb hs1 hWs hrbt hTW
 go_wp2_with fail
 refine HOF.out.mono ?_
 rintro e w2 ⟨u,rfl,⟨g,c,l,rfl,hc,hF,hS⟩,hb⟩
 have hl:(Zp s).length=l.length:=hS.1;have hg:=(HE.out.below hb).apart hF.ex;have H2:=QLh (Qbu B (rb+1) rb tb g 0 c Q7 28 6 s w2 w2 l (Zp s) 0 Q7 hF.flds hc (show l.length≤1000 by rw[←hl];exact Nat.le_of_ble_eq_true rfl) hS (Chg.refl _ _ _) hg HE.out.nq HE.out.le HE.out.ne G.out.keys G.out.disj G.out.frames G.out.kinds (λ i=>rfl) (REC.out.below hb) (ENV.out.below hb) (λ i hi o ho=>rfl));have HB:=QLh hb;clear hF hS hb hl hc hg HOF ef
 go_wp2_with fail
 refine H2.out.mono ?_
 intro e w3 hh
 cases hr:Qbr s (Zp s) Q7 0 with
 | error f=>
  rw[hr]at hh
  have HTH:=QLh (Qft hh)
  obtain⟨fb,rfl,hf,hc3⟩:=Qco hh
  have HF:=QLh hf;have HC:=QLh hc3;have HR:=QLh hr;clear hh hf hc3 hr H2
  go_wp2
  obtain⟨cs,hcs,hcn⟩:=HTH.out
  have hce:w3.heap[tb+1]?=some (.cells #[.nilIface] 59 (0,0)):=(HC.out.block _ (Nat.lt_of_lt_of_le (lt_of_block VE.out) HB.out.size) (by have:=HRBT.out;omega) (by omega)).trans ((HB.out.block _ (lt_of_block VE.out)).trans VE.out)
  refine leaves_cons (f:=160) (args:=#[pt tb 0,pt (tb+1) 0]) (by simp) (by simp[go_sem]) ?_
  refine(Qju tb (tb+1) fb cs w3 hcs (arr6 hcn) hce (by omega)).mono ?_
  rintro e u' w4 ⟨rfl,rfl,HA⟩
  have y0:∀o,w4.cell? ⟨tb,o,none⟩=_:=Qa HA.th;have y1:w4.cell? ⟨tb+1,0,none⟩=some (.iface 127 (pt fb 0)):=Qa HA.er 0
  refine⟨_,by simp[results,Tryz.results100,go_sem,y0,y1];rfl,?_⟩
  refine⟨?_,by
   rw[HR.out]
   refine⟨fb,rfl,(HA.block fb (lt_of_block HF.out) (λ e=>?_) (λ e=>?_)).trans HF.out⟩
   ·subst e;have h9:=hcs.symm.trans HF.out;cases h9
   ·subst e;have h9:=hce.symm.trans HF.out;cases h9⟩
  have hsz:=HTW.out;have hb9:=HRBT.out
  refine⟨HA.os.trans (HC.out.os.trans (HB.out.os.trans BV.out.os)),HA.tape.trans (HC.out.tape.trans (HB.out.tape.trans BV.out.tape)),HA.output.trans (HC.out.output.trans (HB.out.output.trans BV.out.output)),Nat.le_trans BV.out.size (Nat.le_trans HB.out.size (Nat.le_trans HC.out.size HA.size)),λ i hi=>?_⟩
  have l1:=Nat.lt_of_lt_of_le hi BV.out.size;have l2:=Nat.lt_of_lt_of_le l1 HB.out.size
  exact(HA.block i (Nat.lt_of_lt_of_le l2 HC.out.size) (by omega) (by omega)).trans ((HC.out.block i l2 (by omega) (by omega)).trans ((HB.out.block i l1).trans (BV.out.block i hi)))
 | ok q=>
  rw[hr]at hh
  obtain⟨rfl,hrd,hle,hx3,hc3⟩:=Qd3 hh
  have HRD:=QLh hrd;have HC:=QLh hc3;have HR:=QLh hr;have HKD:Hid (Kd Q7 q.1):=QLh (Qd7 G.out.kinds hr (λ i=>rfl))
  obtain⟨a2,c2,a3,c3,a4,c4,a5,c5,hth,hlies⟩:=Qbz hx3 HKD.out
  have HTH:=QLh hth;have HLI:=QLh hlies;clear hh hrd hx3 hc3 hr H2 hth hlies
  obtain⟨x,a⟩:=q
  have hts:tb<w3.heap.size:=lt_of_block HTH.out;have HQ3:Hid (w3.heap[rb+1]?=some (.cells #[pt rb 0] 199 (0,0))):=QLh ((HC.out.block _ (Nat.lt_of_lt_of_le (lt_of_block VQ.out) HB.out.size) (by omega) (by have:=HRBT.out;omega)).trans ((HB.out.block _ (lt_of_block VQ.out)).trans VQ.out));have HE3:Hid (w3.heap[tb+1]?=some (.cells #[.nilIface] 59 (0,0))):=QLh ((HC.out.block _ (Nat.lt_of_lt_of_le (lt_of_block VE.out) HB.out.size) (by have:=HRBT.out;omega) (by omega)).trans ((HB.out.block _ (lt_of_block VE.out)).trans VE.out));have HET3:Hid (ErrType w3):=QLh (by
   have h1:=HET.out.below BV.out;have h2:=h1.below HB.out
   unfold ErrType at h2 ⊢
   rw[World.cell?_of_block (w:=w2) (HC.out.block _ (Qw h2) (show 0≠rb by have:=HRBT.out;have:=HTW.out;omega) (show 0≠tb by have:=HTW.out;omega))]
   exact h2)
  go_upto_region 4 with fail
  obtain⟨VO,hVO⟩:∃VO:Nat→Option Nat,VO=λ j=>if j=6 then some tb else none:=⟨_,rfl⟩
  have vo6:VO 6=some tb:=by rw[hVO];rfl
  have von:∀j,j≠6→VO j=none:=λ j h1=>by rw[hVO];simp[h1]
  have vob:∀j b,b≠tb→VO j≠some b:=λ j b hb=>by
   by_cases h:j=6
   ·subst h;rw[vo6];simp;exact λ e=>hb e.symm
   ·rw[von j h];simp
  clear hVO
  refine Qar 7 VO (λ i j b h1 h2=>by
    by_cases e1:i=6
    ·by_cases e2:j=6
     ·rw[e1,e2]
     ·rw[von j e2]at h2;cases h2
    ·rw[von i e1]at h1;cases h1) (λ _ _ _=>True) (λ _=>True) (λ _ _ _ _ _=>True) (λ _ _=>trivial) trivial
   (Qaw [λ u _=>u=.agg (Zy x a2 c2 a3 c3 a4 c4 a5 c5),λ u _=>u=.pointer (some ⟨rb+1,0,none⟩),λ u _=>u=.pointer (some ⟨rb+1,0,none⟩),λ u _=>u=.pointer (some ⟨rb+1,0,none⟩),λ u _=>u=.pointer (some ⟨rb,0,none⟩),λ u w'=>if a<s.size then ∃fb,u=.iface 127 (pt fb 0)∧FltB w' fb 5 a∧fb≠tb else u=.nilIface,λ _ w'=>w'.heap[tb]?=some (.cells (Zy x a2 c2 a3 c3 a4 c4 a5 c5) 28 (0,0))]) rfl (by kernel_rfl) (by kernel_rfl)
   (Qhu ⟨Zl,Zl,Zl,Zl,Zl,?m5,?m6,trivial⟩) (λ _ _ _ _ _=>trivial) (λ _ _ _ _ _ _ _ _ _ _ _=>trivial) (Qfz 7 ⟨?s0,?s1,?s2,?s3,?s4,?s5,?s6,trivial⟩) ?_
  case m5=>
   intro j hj u w1 w2 he hp
   by_cases hlt:a<s.size
   ·simp only[hlt,if_true]at hp ⊢
    obtain⟨fb,h1,h2,h3⟩:=hp
    refine⟨fb,h1,(he.1.block fb (lt_of_block h2) ?_).trans h2,h3⟩
    exact λ e=>vob j fb h3 e.symm
   ·simp only[hlt,if_false]at hp ⊢;exact hp
  case m6=>
   intro j hj u w1 w2 he hp
   refine(he.1.block tb (lt_of_block hp) ?_).trans hp
   rw[von j hj];simp
  case s0=>
   refine Ze (v:=.agg (Zy x a2 c2 a3 c3 a4 c4 a5 c5)) (λ _ _=>trivial) (λ _ _ _ _=>⟨trivial,trivial⟩) (λ D av wv hE hO hD=>?_) (λ _=>rfl)
   have h6:¬D 6:=hE.notyet 6 _ rfl { on:=0,ground:=.data } (by simp) rfl hE.me;have hb0:wv.heap[tb]?=some (.cells (Zy x a2 c2 a3 c3 a4 c4 a5 c5) 28 (0,0)):=(hE.late 6 h6 tb vo6 hts).trans HTH.out;have k0:wv.cell? ⟨tb,0,none⟩=some (.string (x 0).s):=Qa hb0 0;have k1:wv.cell? ⟨tb,1,none⟩=some (.int .u64 (x 1).n):=Qa hb0 1;have k2:wv.cell? ⟨tb,2,none⟩=some (.slice a2 (len (x 2).rs) c2):=Qa hb0 2;have k3:wv.cell? ⟨tb,3,none⟩=some (.slice a3 (len (x 3).ns) c3):=Qa hb0 3;have k4:wv.cell? ⟨tb,4,none⟩=some (.slice a4 (len (x 4).l) c4):=Qa hb0 4;have k5:wv.cell? ⟨tb,5,none⟩=some (.slice a5 (len (x 5).l) c5):=Qa hb0 5;have f4:=QEf av 4 (pt tb 0) (hO.2.2 4 rfl)
   refine⟨rfl,?_⟩
   simp[go_sem,f4,k0,k1,k2,k3,k4,k5]
  case s1=>
   refine Ze (v:=.pointer (some ⟨rb+1,0,none⟩)) (λ _ _=>trivial) (λ _ _ _ _=>⟨trivial,trivial⟩) (λ D av wv hE hO hD=>?_) (λ _=>rfl)
   have f6:=QEf av 6 (pt (rb+1) 0) (hO.2.2 6 rfl)
   refine⟨rfl,?_⟩
   simp[go_sem,f6]
  case s2=>
   refine Ze (v:=.pointer (some ⟨rb+1,0,none⟩)) (λ _ _=>trivial) (λ _ _ _ _=>⟨trivial,trivial⟩) (λ D av wv hE hO hD=>?_) (λ _=>rfl)
   have f17:=QEf av 17 (pt (rb+1) 0) (hD.1 rfl _ rfl)
   refine⟨rfl,?_⟩
   simp[go_sem,f17]
  case s3=>
   refine Ze (v:=.pointer (some ⟨rb+1,0,none⟩)) (λ _ _=>trivial) (λ _ _ _ _=>⟨trivial,trivial⟩) (λ D av wv hE hO hD=>?_) (λ _=>rfl)
   have f18:=QEf av 18 (pt (rb+1) 0) (hD.1 rfl _ rfl)
   refine⟨rfl,?_⟩
   simp[go_sem,f18]
  case s4=>
   refine Ze (v:=.pointer (some ⟨rb,0,none⟩)) (λ _ _=>trivial) (λ _ _ _ _=>⟨trivial,trivial⟩) (λ D av wv hE hO hD=>?_) (λ _=>rfl)
   have f19:=QEf av 19 (pt (rb+1) 0) (hD.1 rfl _ rfl);have k0:wv.cell? ⟨rb+1,0,none⟩=some (pt rb 0):=Qa ((hE.ext.block (rb+1) (lt_of_block HQ3.out) (λ j=>vob j _ (by have:=HRBT.out;omega))).trans HQ3.out) 0
   refine⟨rfl,?_⟩
   simp[go_sem,f19,k0]
  case s5=>
   refine Qbp (λ D av wv hPP hE hO hD=>?_)
   have f20:=QEf av 20 (pt rb 0) (hD.1 rfl _ rfl);have hrd:RdB wv rb s a 10240:=(hE.ext.block rb (lt_of_block HRD.out) (λ j=>vob j _ (by have:=HRBT.out;omega))).trans HRD.out;have het:ErrType wv:=by
    have h2:ErrType w3.drew:=HET3.out
    unfold ErrType at h2 ⊢
    rw[World.cell?_of_block (w:=w3.drew) (hE.ext.block _ (Qw h2) (λ j=>vob j _ (show 0≠tb by have:=HTW.out;omega)))]
    exact h2
   have hvs:w3.heap.size≤wv.heap.size:=hE.ext.size
   refine⟨rfl,Xq (f:=124) (args:=#[pt rb 0]) (R:=λ u w2=>Below wv.heap.size wv w2∧(if a<s.size then ∃fb,u=.iface 127 (pt fb 0)∧FltB w2 fb 5 a∧fb≠tb else u=.nilIface)) (by simp[go_sem,f20]) ((Qn4 wv rb s a 10240 het hrd hle hs).mono λ e w2 hh=>?_) (λ u w2 ⟨h1,h2⟩=>⟨u,rfl,Qcs h1 trivial,h2,λ _ _ _ _ _=>⟨trivial,trivial⟩⟩)⟩
   obtain⟨h1,h2⟩:=hh
   unfold Qdm at h2
   by_cases hlt:a<s.size
   ·simp only[hlt,if_true]at h2 ⊢
    obtain⟨fb,h3,h4,h5⟩:=h2
    exact⟨_,h3,h1,fb,rfl,h5,by omega⟩
   ·simp only[hlt,if_false]at h2 ⊢
    exact⟨_,h2,h1,rfl⟩
  case s6=>
   refine Qbp (λ D av wv hPP hE hO hD=>?_)
   have f16:=QEf av 16 (.agg (Zy x a2 c2 a3 c3 a4 c4 a5 c5)) (hD.1 rfl _ rfl);have f4:=QEf av 4 (pt tb 0) (hO.2.2 4 rfl);have hq:wv.heap[tb]?=some (.cells (Zy x a2 c2 a3 c3 a4 c4 a5 c5) 28 (0,0)):=(hE.own tb vo6 hts).trans HTH.out;have k0:wv.cell? ⟨tb,0,none⟩=some (.string (x 0).s):=Qa hq 0;have k1:wv.cell? ⟨tb,1,none⟩=some (.int .u64 (x 1).n):=Qa hq 1;have k2:wv.cell? ⟨tb,2,none⟩=some (.slice a2 (len (x 2).rs) c2):=Qa hq 2;have k3:wv.cell? ⟨tb,3,none⟩=some (.slice a3 (len (x 3).ns) c3):=Qa hq 3;have k4:wv.cell? ⟨tb,4,none⟩=some (.slice a4 (len (x 4).l) c4):=Qa hq 4;have k5:wv.cell? ⟨tb,5,none⟩=some (.slice a5 (len (x 5).l) c5):=Qa hq 5;have hz:∀o,wv.frozen? ⟨tb,o,none⟩=false:=Qj hq;have l0:tb<wv.heap.size:=lt_of_block hq
   refine⟨rfl,?_⟩
   unfold Oper.wp
   simp[go_sem,f4,f16,hz,l0,k0,k1,k2,k3,k4,k5]
   exact⟨⟨by rw[vo6];exact(Qv (Qv (Qv (Qv (Qv (Qv (Qan _ _) 0 _) 1 _) 2 _) 3 _) 4 _) 5 _),trivial⟩,undef,(Qb (Qb (Qb (Qb (Qb (Qb hq (o:=0) _) (o:=1) _) (o:=2) _) (o:=3) _) (o:=4) _) (o:=5) _),λ _ _ _ _ _=>⟨trivial,trivial⟩⟩
  intro a' w' hE _ hO hall _
  have hA:=Ql (ds:=[16,17,18,19,20,21]) rfl hO (by kernel_rfl);have e16:(λ u (_:World)=>u=.agg (Zy x a2 c2 a3 c3 a4 c4 a5 c5)) (a'.eval (.tmp 16)) w':=hall.1 _ rfl;have e17:(λ u (_:World)=>u=.pointer (some ⟨rb+1,0,none⟩)) (a'.eval (.tmp 17)) w':=hall.2.1 _ rfl;have e18:(λ u (_:World)=>u=.pointer (some ⟨rb+1,0,none⟩)) (a'.eval (.tmp 18)) w':=hall.2.2.1 _ rfl;have e19:(λ u (_:World)=>u=.pointer (some ⟨rb+1,0,none⟩)) (a'.eval (.tmp 19)) w':=hall.2.2.2.1 _ rfl;have e20:(λ u (_:World)=>u=.pointer (some ⟨rb,0,none⟩)) (a'.eval (.tmp 20)) w':=hall.2.2.2.2.1 _ rfl;have e21:(λ u w'=>if a<s.size then ∃fb,u=.iface 127 (pt fb 0)∧FltB w' fb 5 a∧fb≠tb else u=.nilIface) (a'.eval (.tmp 21)) w':=hall.2.2.2.2.2.1 _ rfl;have z6:w'.heap[tb]?=some (.cells (Zy x a2 c2 a3 c3 a4 c4 a5 c5) 28 (0,0)):=hall.2.2.2.2.2.2.1 _ rfl
  obtain⟨v21,hv21⟩:∃v,a'.eval (.tmp 21)=v:=⟨_,rfl⟩
  rw[hv21]at e21
  simp only[List.foldl_cons,List.foldl_nil,Act.put,List.setIfInBounds_toArray,List.set_cons_succ,List.set_cons_zero,e16,e17,e18,e19,e20,hv21]at hA
  clear hO hall e16 e17 e18 e19 e20 hv21
  subst hA
  have HX4:Hid (ExtS VO w3 w'):=QLh ⟨hE.os,hE.tape,hE.output,hE.size,hE.block⟩;have HZ6:=QLh z6;have hbe:w'.heap[tb+1]?=some (.cells #[.nilIface] 59 (0,0)):=(HX4.out.block _ (lt_of_block HE3.out) (λ j=>vob j _ (by omega))).trans HE3.out;have HBE:=QLh hbe;have g0:w'.cell? ⟨tb+1,0,none⟩=some .nilIface:=Qa hbe 0;have g1:w'.frozen? ⟨tb+1,0,none⟩=false:=Qj hbe 0;have HVO:Hid (∀j b,b≠tb→VO j≠some b):=QLh vob;have HFIN:∀v,Hid (Below w.heap.size w (w'.setCell ⟨tb+1,0,none⟩ v)):=λ v=>QLh (by
   have hsz:=HTW.out;have hb9:=HRBT.out
   refine⟨HX4.out.os.trans (HC.out.os.trans (HB.out.os.trans BV.out.os)),HX4.out.tape.trans (HC.out.tape.trans (HB.out.tape.trans BV.out.tape)),HX4.out.output.trans (HC.out.output.trans (HB.out.output.trans BV.out.output)),by simpa using Nat.le_trans BV.out.size (Nat.le_trans HB.out.size (Nat.le_trans HC.out.size HX4.out.size)),λ i hi=>?_⟩
   have l1:=Nat.lt_of_lt_of_le hi BV.out.size;have l2:=Nat.lt_of_lt_of_le l1 HB.out.size
   rw[Below.heap_setCell _ _ _ _ (by omega:i≠tb+1)]
   exact(HX4.out.block i (Nat.lt_of_lt_of_le l2 HC.out.size) (λ j=>HVO.out j i (by omega))).trans ((HC.out.block i l2 (by omega) (by omega)).trans ((HB.out.block i l1).trans (BV.out.block i hi))))
  have HLF:∀v,Hid (LiesCert rb tb (w'.setCell ⟨tb+1,0,none⟩ v) x a2 c2 a3 c3 a4 c4 a5 c5):=λ v=>QLh (HLI.out.up (λ b h1 h2=>by
   have hb9:=HRBT.out
   rw[Below.heap_setCell _ _ _ _ (by omega:b≠tb+1)]
   exact HX4.out.block b h2 (λ j=>HVO.out j b (by omega))))
  have HTF:∀v o,(w'.setCell ⟨tb+1,0,none⟩ v).cell? ⟨tb,o,none⟩=(Zy x a2 c2 a3 c3 a4 c4 a5 c5)[o]?:=λ v o=>Qa (Qg HZ6.out (by show tb≠tb+1;omega) v) o;have HEF:∀v,(w'.setCell ⟨tb+1,0,none⟩ v).cell? ⟨tb+1,0,none⟩=some v:=λ v=>Qa (Qb HBE.out v) 0;have HTFH:=QLh HTF;have HEFH:=QLh HEF;clear hE z6 hbe vo6 von vob HTF HEF
  by_cases hlt:a<s.size
  ·simp only[hlt,if_true]at e21
   obtain⟨fb,rfl,hf,hft⟩:=e21
   have HF:=QLh hf;have HLT:=QLh hlt;clear hf hlt
   go_wp2
   refine leaves_cons (f:=160) (args:=#[pt tb 0,pt (tb+1) 0]) (by simp) (by simp[go_sem]) ?_
   refine(Qeo _ _ _).mono ?_
   rintro e u' w'' ⟨rfl,rfl,rfl⟩
   have y0:=HTFH.out (.iface 127 (pt fb 0));have y1:=HEFH.out (.iface 127 (pt fb 0))
   refine⟨_,by simp[results,Tryz.results100,go_sem,y0,y1];rfl,?_⟩
   refine⟨(HFIN _).out,?_⟩
   rw[HR.out]
   refine⟨HKD.out,hle,a2,c2,a3,c3,a4,c4,a5,c5,⟨rb,tb,by have:=HRBT.out;have:=HTW.out;omega,(HLF _).out⟩,?_⟩
   rw[if_pos HLT.out]
   exact⟨fb,rfl,Qg HF.out (by intro e;subst e;have h9:=HBE.out.symm.trans HF.out;cases h9) _⟩
  ·simp only[hlt,if_false]at e21
   subst e21
   have HLT:=QLh hlt;clear hlt
   go_wp2
   refine leaves_cons (f:=160) (args:=#[pt tb 0,pt (tb+1) 0]) (by simp) (by simp[go_sem]) ?_
   refine(Qeo _ _ _).mono ?_
   rintro e u' w'' ⟨rfl,rfl,rfl⟩
   have y0:=HTFH.out .nilIface;have y1:=HEFH.out .nilIface
   refine⟨_,by simp[results,Tryz.results100,go_sem,y0,y1];rfl,?_⟩
   refine⟨(HFIN _).out,?_⟩
   rw[HR.out]
   refine⟨HKD.out,hle,a2,c2,a3,c3,a4,c4,a5,c5,⟨rb,tb,by have:=HRBT.out;have:=HTW.out;omega,(HLF _).out⟩,?_⟩
   rw[if_neg HLT.out]
end Go.Proofs.YtihiaopilnjonaaGreatDoor

/- Parts of the proof, one behind the other. -/
import Derived.Test.YtihiaopilnjonaaGreatDoorWceP4
import Derived.ProofKit
import Derived.OpenShut
import Derived.ShutString
import Derived.ChangeOld
import Derived.Deep.Slices
import Derived.Deep.Fields
import Derived.ChangeMaps5
import Derived.WideShapes
import Derived.LaidMore
import Derived.LaidHandle
import Derived.Stop.Joined
import Derived.ChangeVars
import Derived.JoinedOf
import Derived.RowKitTokens
import Derived.StillTailTactics
namespace Go.Proofs.YtihiaopilnjonaaGreatDoor
open Go.RowKit
open Go.RowKit Go.ChangeShapes Go.WideShapes Go.ChangeAt Go.Deep
open Go.RowKit Go.ChangeShapes Go.WideShapes Go.ChangeAt
open Go.RowKit Go.ChangeShapes Go.WideShapes Go.ChangeAt Go.ChangeMaps
set_option linter.unusedSimpArgs false
set_option linter.unusedVariables false
set_option maxRecDepth 100000
set_option maxHeartbeats 8000000
attribute [local go_sem] pt
theorem Qub(s:ByteArray)(w:World)(hs:s.size≤140737488355328):Calls Tryz.prog 68 #[.string s] w λ e w'=>∃cb rb,e=.returned (pt cb 0)∧CurIs w' cb rb s (.ok 0)∧w.heap.size≤rb∧w.heap.size≤cb∧Below w.heap.size w w':=by
 go_enter Tryz.func68,Tryz.ntmps68
 go_wp2_with fail
 refine(Qqn w s 10240).mono ?_
 rintro e w1 ⟨rfl,hw1⟩
 have hm:max (10240:Int) 0=10240:=by decide
 rw[hm]at hw1
 have R1:Hid (Qy4 w1 w.heap.size s 0 10240):=QLh (by rw[hw1];exact heap_alloc_new _ _);have B1:Hid (Below w.heap.size w w1):=QLh (by rw[hw1];exact Qh (Below.refl _ _) _);have hs1:w1.heap.size=w.heap.size+1:=by rw[hw1];simp
 clear hw1
 go_wp2
 go_ret
 exact⟨w.heap.size+1,w.heap.size,rfl,⟨Qi _ hs1,by omega,hs,Qf R1.out _,Nat.zero_le _⟩,Nat.le_refl _,by omega,Qh B1.out _⟩
def Qp1(s:ByteArray):Cst→Cst
 | .ok a=>if a<s.size then .error (5,a)else .ok a
 | .error f=>.error f
theorem Qwr(cb rb:Nat)(s:ByteArray)(σ:Cst)(w:World)(h:CurIs w cb rb s σ):
  Calls Tryz.prog 70 #[pt cb 0] w λ e w'=>e=.returned (.agg #[.int .i64 (Qp1 s σ).flt.1,.int .i64 (Qp1 s σ).flt.2])∧CurIs w' cb rb s (Qp1 s σ)∧Chg rb cb w w':=by
 have H:=QLh h;have HB:=QLh (fun (w':World) (hb:Below w.heap.size w w')=>Qb1 cb rb s σ w' (h.below hb));have hcs:=h.clt;have hrs:=h.rlt;clear h
 cases σ with
 | error f=>
  simp only[Qb0]at HB
  go_enter Tryz.func70,Tryz.ntmps70
  go_upto_region 1 with fail
  obtain⟨W,hW⟩:∃W,w.alloc (.cells #[.int .i64 0,.int .i64 0] 63)=W:=⟨_,rfl⟩
  have WB:Hid (Below w.heap.size w W):=QLh (by rw[←hW];exact Qh (Below.refl _ _) _);have W0:Hid (W.heap[w.heap.size]?=some (.cells #[.int .i64 0,.int .i64 0] 63 (0,0))):=QLh (by rw[←hW];exact heap_alloc_new _ _);have HB:Hid (∀w',Below W.heap.size W w'→Calls Tryz.prog 127 #[pt cb 0] w' λ e w''=>e=.returned (.bool true)∧w''=w'):=QLh (λ w' hb=>HB.out w' (Qk WB.out hb))
  rw[hW]
  clear hW
  refine Z9 1000 (none) (Qaw [λ u _=>u=(pt cb 0),λ u _=>u=(.bool true),λ u _=>u=(.bool false),λ u _=>u=(.bool false),λ u _=>u=undef,λ u _=>u=undef,λ u _=>u=undef,λ u _=>u=undef,λ u _=>u=undef,λ u _=>u=undef,λ u _=>u=undef,λ u _=>u=undef,λ u _=>u=undef,λ u _=>u=undef,λ u _=>u=undef,λ u _=>u=undef,λ u _=>u=undef,λ u _=>u=undef,λ u _=>u=undef,λ u _=>u=undef,λ u _=>u=(.bool false)]) rfl (by kernel_rfl) (Zb ⟨Qe,Qe,Qe,Qe,Qe,Qe,Qe,Qe,Qe,Qe,Qe,Qe,Qe,Qe,Qe,Qe,Qe,Qe,Qe,Qe,Qe,trivial⟩) (Q6 21 ⟨?s0,?s1,?s2,?s3,?s4,?s5,?s6,?s7,?s8,?s9,?s10,?s11,?s12,?s13,?s14,?s15,?s16,?s17,?s18,?s19,?s20,trivial⟩) ?_
  case s0=>
   refine Qc (v:=(pt cb 0)) (λ av wv hE hS hO hD=>?_) (λ _=>rfl)
   have f0:=QEf av 0 (pt cb 0) (hO.2.2 0 rfl)
   refine⟨rfl,?_⟩
   simp[go_sem,f0]
  case s1=>
   refine Qo (λ av wv hE hS hO hD=>?_)
   have f3:=QEf av 3 (pt cb 0) (hD.1 rfl _ rfl)
   refine⟨rfl,?_⟩
   refine Qa0 (v:=.bool true) (by simp[go_sem,f3]) ((HB.out wv (Qx hE)).mono (λ e w2 ⟨h1,h2⟩=>⟨h1,by rw[h2];exact Below.refl _ _⟩)) (λ w2 hb=>⟨_,rfl,Qm hb,rfl⟩)
  case s2=>
   refine Qc (v:=(.bool false)) (λ av wv hE hS hO hD=>?_) (λ _=>rfl)
   have f4:=QEf av 4 (.bool true) (hD.1 rfl _ rfl)
   refine⟨rfl,?_⟩
   simp[go_sem,f4]
  case s3=>
   refine Qc (v:=(.bool false)) (λ av wv hE hS hO hD=>?_) (λ _=>rfl)
   have f5:=QEf av 5 (.bool false) (hD.1 rfl _ rfl)
   refine⟨rfl,?_⟩
   simp[go_sem,f5]
  case s4=>
   refine Zx (λ av wv hE hS hO hD=>?_) (λ _=>rfl)
   have f0:=QEf av 0 (pt cb 0) (hO.2.2 0 rfl);have d6:av.eval (.tmp 6)=(.bool false):=hD.1 rfl _ rfl;have f6:=(Qq av 6).symm.trans d6
   exact(Qs (d:=6) (b:=false) (want:=true) rfl rfl rfl d6)
  case s5=>
   refine Zx (λ av wv hE hS hO hD=>?_) (λ _=>rfl)
   have f7:=QEf av 7 (undef) (hD.1 rfl _ rfl);have d6:av.eval (.tmp 6)=(.bool false):=hD.2.1 rfl _ rfl;have f6:=(Qq av 6).symm.trans d6
   exact(Qs (d:=6) (b:=false) (want:=true) rfl rfl rfl d6)
  case s6=>
   refine Zx (λ av wv hE hS hO hD=>?_) (λ _=>rfl)
   have f8:=QEf av 8 (undef) (hD.1 rfl _ rfl);have d6:av.eval (.tmp 6)=(.bool false):=hD.2.1 rfl _ rfl;have f6:=(Qq av 6).symm.trans d6
   exact(Qs (d:=6) (b:=false) (want:=true) rfl rfl rfl d6)
  case s7=>
   refine Zx (λ av wv hE hS hO hD=>?_) (λ _=>rfl)
   have f9:=QEf av 9 (undef) (hD.1 rfl _ rfl);have d6:av.eval (.tmp 6)=(.bool false):=hD.2.1 rfl _ rfl;have f6:=(Qq av 6).symm.trans d6
   exact(Qs (d:=6) (b:=false) (want:=true) rfl rfl rfl d6)
  case s8=>
   refine Zx (λ av wv hE hS hO hD=>?_) (λ _=>rfl)
   have f10:=QEf av 10 (undef) (hD.1 rfl _ rfl);have d6:av.eval (.tmp 6)=(.bool false):=hD.2.1 rfl _ rfl;have f6:=(Qq av 6).symm.trans d6
   exact(Qs (d:=6) (b:=false) (want:=true) rfl rfl rfl d6)
  case s9=>
   refine Zx (λ av wv hE hS hO hD=>?_) (λ _=>rfl)
   have f11:=QEf av 11 (undef) (hD.1 rfl _ rfl);have d6:av.eval (.tmp 6)=(.bool false):=hD.2.1 rfl _ rfl;have f6:=(Qq av 6).symm.trans d6
   exact(Qs (d:=6) (b:=false) (want:=true) rfl rfl rfl d6)
  case s10=>
   refine Zx (λ av wv hE hS hO hD=>?_) (λ _=>rfl)
   have f12:=QEf av 12 (undef) (hD.1 rfl _ rfl);have d6:av.eval (.tmp 6)=(.bool false):=hD.2.1 rfl _ rfl;have f6:=(Qq av 6).symm.trans d6
   exact(Qs (d:=6) (b:=false) (want:=true) rfl rfl rfl d6)
  case s11=>
   refine Zx (λ av wv hE hS hO hD=>?_) (λ _=>rfl)
   have f0:=QEf av 0 (pt cb 0) (hO.2.2 0 rfl);have d6:av.eval (.tmp 6)=(.bool false):=hD.1 rfl _ rfl;have f6:=(Qq av 6).symm.trans d6
   exact(Qs (d:=6) (b:=false) (want:=true) rfl rfl rfl d6)
  case s12=>
   refine Zx (λ av wv hE hS hO hD=>?_) (λ _=>rfl)
   have f14:=QEf av 14 (undef) (hD.1 rfl _ rfl);have d6:av.eval (.tmp 6)=(.bool false):=hD.2.1 rfl _ rfl;have f6:=(Qq av 6).symm.trans d6
   exact(Qs (d:=6) (b:=false) (want:=true) rfl rfl rfl d6)
  case s13=>
   refine Zx (λ av wv hE hS hO hD=>?_) (λ _=>rfl)
   have f15:=QEf av 15 (undef) (hD.1 rfl _ rfl);have d6:av.eval (.tmp 6)=(.bool false):=hD.2.1 rfl _ rfl;have f6:=(Qq av 6).symm.trans d6
   exact(Qs (d:=6) (b:=false) (want:=true) rfl rfl rfl d6)
  case s14=>
   refine Zx (λ av wv hE hS hO hD=>?_) (λ _=>rfl)
   have f16:=QEf av 16 (undef) (hD.1 rfl _ rfl);have d6:av.eval (.tmp 6)=(.bool false):=hD.2.1 rfl _ rfl;have f6:=(Qq av 6).symm.trans d6
   exact(Qs (d:=6) (b:=false) (want:=true) rfl rfl rfl d6)
  case s15=>
   refine Zx (λ av wv hE hS hO hD=>?_) (λ _=>rfl)
   have f17:=QEf av 17 (undef) (hD.1 rfl _ rfl);have d6:av.eval (.tmp 6)=(.bool false):=hD.2.1 rfl _ rfl;have f6:=(Qq av 6).symm.trans d6
   exact(Qs (d:=6) (b:=false) (want:=true) rfl rfl rfl d6)
  case s16=>
   refine Zx (λ av wv hE hS hO hD=>?_) (λ _=>rfl)
   have f18:=QEf av 18 (undef) (hD.1 rfl _ rfl);have d6:av.eval (.tmp 6)=(.bool false):=hD.2.1 rfl _ rfl;have f6:=(Qq av 6).symm.trans d6
   exact(Qs (d:=6) (b:=false) (want:=true) rfl rfl rfl d6)
  case s17=>
   refine Zx (λ av wv hE hS hO hD=>?_) (λ _=>rfl)
   have f19:=QEf av 19 (undef) (hD.1 rfl _ rfl);have d6:av.eval (.tmp 6)=(.bool false):=hD.2.1 rfl _ rfl;have f6:=(Qq av 6).symm.trans d6
   exact(Qs (d:=6) (b:=false) (want:=true) rfl rfl rfl d6)
  case s18=>
   refine Zx (λ av wv hE hS hO hD=>?_) (λ _=>rfl)
   have f20:=QEf av 20 (undef) (hD.1 rfl _ rfl);have d6:av.eval (.tmp 6)=(.bool false):=hD.2.1 rfl _ rfl;have f6:=(Qq av 6).symm.trans d6
   exact(Qs (d:=6) (b:=false) (want:=true) rfl rfl rfl d6)
  case s19=>
   refine Zx (λ av wv hE hS hO hD=>?_) (λ _=>rfl)
   have f13:=QEf av 13 (undef) (hD.1 rfl _ rfl);have f21:=QEf av 21 (undef) (hD.2.1 rfl _ rfl);have d6:av.eval (.tmp 6)=(.bool false):=hD.2.2.1 rfl _ rfl;have f6:=(Qq av 6).symm.trans d6
   exact(Qs (d:=6) (b:=false) (want:=true) rfl rfl rfl d6)
  case s20=>
   refine Qc (v:=(.bool false)) (λ av wv hE hS hO hD=>?_) (λ _=>rfl)
   have f6:=QEf av 6 (.bool false) (hD.1 rfl _ rfl);have f22:=QEf av 22 (undef) (hD.2.1 rfl _ rfl)
   refine⟨rfl,?_⟩
   simp[go_sem,f6,f22]
  intro a' w' hE hO hall
  have hA:=Ql (ds:=[3,4,5,6,7,8,9,10,11,12,13,14,15,16,17,18,19,20,21,22,23]) rfl hO (by kernel_rfl)
  obtain⟨j0,j1,j2,j3,j4,j5,j6,j7,j8,j9,j10,j11,j12,j13,j14,j15,j16,j17,j18,j19,j20,_⟩:=hall
  have e3:a'.eval (.tmp 3)=(pt cb 0):=j0 _ rfl;have e4:a'.eval (.tmp 4)=(.bool true):=j1 _ rfl;have e5:a'.eval (.tmp 5)=(.bool false):=j2 _ rfl;have e6:a'.eval (.tmp 6)=(.bool false):=j3 _ rfl;have e7:a'.eval (.tmp 7)=undef:=j4 _ rfl;have e8:a'.eval (.tmp 8)=undef:=j5 _ rfl;have e9:a'.eval (.tmp 9)=undef:=j6 _ rfl;have e10:a'.eval (.tmp 10)=undef:=j7 _ rfl;have e11:a'.eval (.tmp 11)=undef:=j8 _ rfl;have e12:a'.eval (.tmp 12)=undef:=j9 _ rfl;have e13:a'.eval (.tmp 13)=undef:=j10 _ rfl;have e14:a'.eval (.tmp 14)=undef:=j11 _ rfl;have e15:a'.eval (.tmp 15)=undef:=j12 _ rfl;have e16:a'.eval (.tmp 16)=undef:=j13 _ rfl;have e17:a'.eval (.tmp 17)=undef:=j14 _ rfl;have e18:a'.eval (.tmp 18)=undef:=j15 _ rfl;have e19:a'.eval (.tmp 19)=undef:=j16 _ rfl;have e20:a'.eval (.tmp 20)=undef:=j17 _ rfl;have e21:a'.eval (.tmp 21)=undef:=j18 _ rfl;have e22:a'.eval (.tmp 22)=undef:=j19 _ rfl;have e23:a'.eval (.tmp 23)=(.bool false):=j20 _ rfl
  simp only[List.foldl_cons,List.foldl_nil,Act.put,List.setIfInBounds_toArray,List.set_cons_succ,List.set_cons_zero,e3,e4,e5,e6,e7,e8,e9,e10,e11,e12,e13,e14,e15,e16,e17,e18,e19,e20,e21,e22,e23]at hA
  clear hO j0 j1 j2 j3 j4 j5 j6 j7 j8 j9 j10 j11 j12 j13 j14 j15 j16 j17 j18 j19 j20 e3 e4 e5 e6 e7 e8 e9 e10 e11 e12 e13 e14 e15 e16 e17 e18 e19 e20 e21 e22 e23
  subst hA
  have WW:Hid (Below W.heap.size W w'):=QLh (Qx hE);have HW2:Hid (CurIs w' cb rb s (.error f)):=QLh ((H.out.below WB.out).below WW.out);have W2:Hid (w'.heap[w.heap.size]?=some (.cells #[.int .i64 0,.int .i64 0] 63 (0,0))):=QLh ((WW.out.block _ (lt_of_block W0.out)).trans W0.out);have c1:w'.cell? ⟨cb,1,none⟩=some (.int .i64 f.1):=Qa HW2.out.c 1;have c2:w'.cell? ⟨cb,2,none⟩=some (.int .i64 f.2):=Qa HW2.out.c 2;have g0:∀o,w'.cell? ⟨w.heap.size,o,none⟩=_:=Qa W2.out;have g1:∀o,w'.frozen? ⟨w.heap.size,o,none⟩=false:=Qj W2.out;have g2:w.heap.size<w'.heap.size:=lt_of_block W2.out;clear hE
  go_wp2
  have hb:=Qb (Qb W2.out (o:=0) (.int .i64 f.1)) (o:=1) (.int .i64 f.2);have d:∀o,_=_:=Qa hb
  refine bodyPost_ret (v:=.agg #[.int .i64 f.1,.int .i64 f.2]) ?_ rfl ?_
  ·simp[results,Tryz.results70,go_sem,d]
  ·exact⟨rfl,(HW2.out.setOff hcs hrs _).setOff hcs hrs _,((Chg.of_below (Qk WB.out WW.out)).setNew (Nat.le_refl _) _).setNew (Nat.le_refl _) _⟩
 | ok a=>
  simp only[Qb0]at HB
  go_enter Tryz.func70,Tryz.ntmps70
  go_upto_region 1 with fail
  obtain⟨W,hW⟩:∃W,w.alloc (.cells #[.int .i64 0,.int .i64 0] 63)=W:=⟨_,rfl⟩
  have WB:Hid (Below w.heap.size w W):=QLh (by rw[←hW];exact Qh (Below.refl _ _) _);have W0:Hid (W.heap[w.heap.size]?=some (.cells #[.int .i64 0,.int .i64 0] 63 (0,0))):=QLh (by rw[←hW];exact heap_alloc_new _ _);have HB:Hid (∀w',Below W.heap.size W w'→Calls Tryz.prog 127 #[pt cb 0] w' λ e w''=>e=.returned (.bool false)∧w''=w'):=QLh (λ w' hb=>HB.out w' (Qk WB.out hb))
  rw[hW]
  clear hW;have HW:=QLh (H.out.below WB.out);have c0:W.cell? ⟨cb,0,none⟩=some (pt rb 0):=Qa HW.out.c 0;have k0:W.cell? ⟨rb,1,none⟩=some (.int .i64 a):=Qa HW.out.st.1 1;have k1:W.cell? ⟨rb,0,none⟩=some (.string s):=Qa HW.out.st.1 0;have i1:((a:Int)<s.size)=((a:Int)<s.size):=rfl
  refine Z9 1000 (none) (Qaw [λ u _=>u=(pt cb 0),λ u _=>u=(.bool false),λ u _=>u=(.bool true),λ u _=>u=(.bool true),λ u _=>u=(pt cb 0),λ u _=>u=(pt cb 0),λ u _=>u=(pt cb 0),λ u _=>u=(pt rb 0),λ u _=>u=(pt rb 0),λ u _=>u=(pt rb 1),λ u _=>u=(.int .i64 a),λ u _=>u=(pt cb 0),λ u _=>u=(pt cb 0),λ u _=>u=(pt cb 0),λ u _=>u=(pt rb 0),λ u _=>u=(pt rb 0),λ u _=>u=(pt rb 0),λ u _=>u=(.string s),λ u _=>u=(.int .i64 s.size),λ u _=>u=(.bool (decide ((a:Int)<s.size))),λ u _=>u=(.bool (decide ((a:Int)<s.size)))]) rfl (by kernel_rfl) (Zb ⟨Qe,Qe,Qe,Qe,Qe,Qe,Qe,Qe,Qe,Qe,Qe,Qe,Qe,Qe,Qe,Qe,Qe,Qe,Qe,Qe,Qe,trivial⟩) (Q6 21 ⟨?s0,?s1,?s2,?s3,?s4,?s5,?s6,?s7,?s8,?s9,?s10,?s11,?s12,?s13,?s14,?s15,?s16,?s17,?s18,?s19,?s20,trivial⟩) ?_
  case s0=>
   refine Qc (v:=(pt cb 0)) (λ av wv hE hS hO hD=>?_) (λ _=>rfl)
   have f0:=QEf av 0 (pt cb 0) (hO.2.2 0 rfl)
   refine⟨rfl,?_⟩
   simp[go_sem,f0,i1]
  case s1=>
   refine Qo (λ av wv hE hS hO hD=>?_)
   have f3:=QEf av 3 (pt cb 0) (hD.1 rfl _ rfl)
   refine⟨rfl,?_⟩
   refine Qa0 (v:=.bool false) (by simp[go_sem,f3]) ((HB.out wv (Qx hE)).mono (λ e w2 ⟨h1,h2⟩=>⟨h1,by rw[h2];exact Below.refl _ _⟩)) (λ w2 hb=>⟨_,rfl,Qm hb,rfl⟩)
  case s2=>
   refine Qc (v:=(.bool true)) (λ av wv hE hS hO hD=>?_) (λ _=>rfl)
   have f4:=QEf av 4 (.bool false) (hD.1 rfl _ rfl)
   refine⟨rfl,?_⟩
   simp[go_sem,f4,i1]
  case s3=>
   refine Qc (v:=(.bool true)) (λ av wv hE hS hO hD=>?_) (λ _=>rfl)
   have f5:=QEf av 5 (.bool true) (hD.1 rfl _ rfl)
   refine⟨rfl,?_⟩
   simp[go_sem,f5,i1]
  case s4=>
   refine Qc (v:=(pt cb 0)) (λ av wv hE hS hO hD=>?_) (λ _=>rfl)
   have f0:=QEf av 0 (pt cb 0) (hO.2.2 0 rfl);have d6:av.eval (.tmp 6)=(.bool true):=hD.1 rfl _ rfl;have f6:=(Qq av 6).symm.trans d6
   refine⟨(Qs (d:=6) (b:=true) (want:=true) rfl rfl rfl d6),?_⟩
   simp[go_sem,f0,f6,i1]
  case s5=>
   refine Qc (v:=(pt cb 0)) (λ av wv hE hS hO hD=>?_) (λ _=>rfl)
   have f7:=QEf av 7 (pt cb 0) (hD.1 rfl _ rfl);have d6:av.eval (.tmp 6)=(.bool true):=hD.2.1 rfl _ rfl;have f6:=(Qq av 6).symm.trans d6
   refine⟨(Qs (d:=6) (b:=true) (want:=true) rfl rfl rfl d6),?_⟩
   simp[go_sem,f7,f6,i1]
  case s6=>
   refine Qc (v:=(pt cb 0)) (λ av wv hE hS hO hD=>?_) (λ _=>rfl)
   have f8:=QEf av 8 (pt cb 0) (hD.1 rfl _ rfl);have d6:av.eval (.tmp 6)=(.bool true):=hD.2.1 rfl _ rfl;have f6:=(Qq av 6).symm.trans d6
   refine⟨(Qs (d:=6) (b:=true) (want:=true) rfl rfl rfl d6),?_⟩
   simp[go_sem,f8,f6,i1]
  case s7=>
   refine Qc (v:=(pt rb 0)) (λ av wv hE hS hO hD=>?_) (λ _=>rfl)
   have f9:=QEf av 9 (pt cb 0) (hD.1 rfl _ rfl);have d6:av.eval (.tmp 6)=(.bool true):=hD.2.1 rfl _ rfl;have f6:=(Qq av 6).symm.trans d6;have c0:=Qd hE (by simp) c0;have k0:=Qd hE (by simp) k0;have k1:=Qd hE (by simp) k1
   refine⟨(Qs (d:=6) (b:=true) (want:=true) rfl rfl rfl d6),?_⟩
   simp[go_sem,f9,f6,c0,k0,k1,i1]
  case s8=>
   refine Qc (v:=(pt rb 0)) (λ av wv hE hS hO hD=>?_) (λ _=>rfl)
   have f10:=QEf av 10 (pt rb 0) (hD.1 rfl _ rfl);have d6:av.eval (.tmp 6)=(.bool true):=hD.2.1 rfl _ rfl;have f6:=(Qq av 6).symm.trans d6
   refine⟨(Qs (d:=6) (b:=true) (want:=true) rfl rfl rfl d6),?_⟩
   simp[go_sem,f10,f6,i1]
  case s9=>
   refine Qc (v:=(pt rb 1)) (λ av wv hE hS hO hD=>?_) (λ _=>rfl)
   have f11:=QEf av 11 (pt rb 0) (hD.1 rfl _ rfl);have d6:av.eval (.tmp 6)=(.bool true):=hD.2.1 rfl _ rfl;have f6:=(Qq av 6).symm.trans d6
   refine⟨(Qs (d:=6) (b:=true) (want:=true) rfl rfl rfl d6),?_⟩
   simp[go_sem,f11,f6,i1]
  case s10=>
   refine Qc (v:=(.int .i64 a)) (λ av wv hE hS hO hD=>?_) (λ _=>rfl)
   have f12:=QEf av 12 (pt rb 1) (hD.1 rfl _ rfl);have d6:av.eval (.tmp 6)=(.bool true):=hD.2.1 rfl _ rfl;have f6:=(Qq av 6).symm.trans d6;have c0:=Qd hE (by simp) c0;have k0:=Qd hE (by simp) k0;have k1:=Qd hE (by simp) k1
   refine⟨(Qs (d:=6) (b:=true) (want:=true) rfl rfl rfl d6),?_⟩
   simp[go_sem,f12,f6,c0,k0,k1,i1]
  case s11=>
   refine Qc (v:=(pt cb 0)) (λ av wv hE hS hO hD=>?_) (λ _=>rfl)
   have f0:=QEf av 0 (pt cb 0) (hO.2.2 0 rfl);have d6:av.eval (.tmp 6)=(.bool true):=hD.1 rfl _ rfl;have f6:=(Qq av 6).symm.trans d6
   refine⟨(Qs (d:=6) (b:=true) (want:=true) rfl rfl rfl d6),?_⟩
   simp[go_sem,f0,f6,i1]
  case s12=>
   refine Qc (v:=(pt cb 0)) (λ av wv hE hS hO hD=>?_) (λ _=>rfl)
   have f14:=QEf av 14 (pt cb 0) (hD.1 rfl _ rfl);have d6:av.eval (.tmp 6)=(.bool true):=hD.2.1 rfl _ rfl;have f6:=(Qq av 6).symm.trans d6
   refine⟨(Qs (d:=6) (b:=true) (want:=true) rfl rfl rfl d6),?_⟩
   simp[go_sem,f14,f6,i1]
  case s13=>
   refine Qc (v:=(pt cb 0)) (λ av wv hE hS hO hD=>?_) (λ _=>rfl)
   have f15:=QEf av 15 (pt cb 0) (hD.1 rfl _ rfl);have d6:av.eval (.tmp 6)=(.bool true):=hD.2.1 rfl _ rfl;have f6:=(Qq av 6).symm.trans d6
   refine⟨(Qs (d:=6) (b:=true) (want:=true) rfl rfl rfl d6),?_⟩
   simp[go_sem,f15,f6,i1]
  case s14=>
   refine Qc (v:=(pt rb 0)) (λ av wv hE hS hO hD=>?_) (λ _=>rfl)
   have f16:=QEf av 16 (pt cb 0) (hD.1 rfl _ rfl);have d6:av.eval (.tmp 6)=(.bool true):=hD.2.1 rfl _ rfl;have f6:=(Qq av 6).symm.trans d6;have c0:=Qd hE (by simp) c0;have k0:=Qd hE (by simp) k0;have k1:=Qd hE (by simp) k1
   refine⟨(Qs (d:=6) (b:=true) (want:=true) rfl rfl rfl d6),?_⟩
   simp[go_sem,f16,f6,c0,k0,k1,i1]
  case s15=>
   refine Qc (v:=(pt rb 0)) (λ av wv hE hS hO hD=>?_) (λ _=>rfl)
   have f17:=QEf av 17 (pt rb 0) (hD.1 rfl _ rfl);have d6:av.eval (.tmp 6)=(.bool true):=hD.2.1 rfl _ rfl;have f6:=(Qq av 6).symm.trans d6
   refine⟨(Qs (d:=6) (b:=true) (want:=true) rfl rfl rfl d6),?_⟩
   simp[go_sem,f17,f6,i1]
  case s16=>
   refine Qc (v:=(pt rb 0)) (λ av wv hE hS hO hD=>?_) (λ _=>rfl)
   have f18:=QEf av 18 (pt rb 0) (hD.1 rfl _ rfl);have d6:av.eval (.tmp 6)=(.bool true):=hD.2.1 rfl _ rfl;have f6:=(Qq av 6).symm.trans d6
   refine⟨(Qs (d:=6) (b:=true) (want:=true) rfl rfl rfl d6),?_⟩
   simp[go_sem,f18,f6,i1]
  case s17=>
   refine Qc (v:=(.string s)) (λ av wv hE hS hO hD=>?_) (λ _=>rfl)
   have f19:=QEf av 19 (pt rb 0) (hD.1 rfl _ rfl);have d6:av.eval (.tmp 6)=(.bool true):=hD.2.1 rfl _ rfl;have f6:=(Qq av 6).symm.trans d6;have c0:=Qd hE (by simp) c0;have k0:=Qd hE (by simp) k0;have k1:=Qd hE (by simp) k1
   refine⟨(Qs (d:=6) (b:=true) (want:=true) rfl rfl rfl d6),?_⟩
   simp[go_sem,f19,f6,c0,k0,k1,i1]
  case s18=>
   refine Qc (v:=(.int .i64 s.size)) (λ av wv hE hS hO hD=>?_) (λ _=>rfl)
   have f20:=QEf av 20 (.string s) (hD.1 rfl _ rfl);have d6:av.eval (.tmp 6)=(.bool true):=hD.2.1 rfl _ rfl;have f6:=(Qq av 6).symm.trans d6
   refine⟨(Qs (d:=6) (b:=true) (want:=true) rfl rfl rfl d6),?_⟩
   simp[go_sem,f20,f6,i1]
  case s19=>
   refine Qc (v:=(.bool (decide ((a:Int)<s.size)))) (λ av wv hE hS hO hD=>?_) (λ _=>rfl)
   have f13:=QEf av 13 (.int .i64 a) (hD.1 rfl _ rfl);have f21:=QEf av 21 (.int .i64 s.size) (hD.2.1 rfl _ rfl);have d6:av.eval (.tmp 6)=(.bool true):=hD.2.2.1 rfl _ rfl;have f6:=(Qq av 6).symm.trans d6
   refine⟨(Qs (d:=6) (b:=true) (want:=true) rfl rfl rfl d6),?_⟩
   simp[go_sem,f13,f21,f6,i1]
  case s20=>
   refine Qc (v:=(.bool (decide ((a:Int)<s.size)))) (λ av wv hE hS hO hD=>?_) (λ _=>rfl)
   have f6:=QEf av 6 (.bool true) (hD.1 rfl _ rfl);have f22:=QEf av 22 (.bool (decide ((a:Int)<s.size))) (hD.2.1 rfl _ rfl)
   refine⟨rfl,?_⟩
   simp[go_sem,f6,f22,i1]
  intro a' w' hE hO hall
  have hA:=Ql (ds:=[3,4,5,6,7,8,9,10,11,12,13,14,15,16,17,18,19,20,21,22,23]) rfl hO (by kernel_rfl)
  obtain⟨j0,j1,j2,j3,j4,j5,j6,j7,j8,j9,j10,j11,j12,j13,j14,j15,j16,j17,j18,j19,j20,_⟩:=hall
  have e3:a'.eval (.tmp 3)=(pt cb 0):=j0 _ rfl;have e4:a'.eval (.tmp 4)=(.bool false):=j1 _ rfl;have e5:a'.eval (.tmp 5)=(.bool true):=j2 _ rfl;have e6:a'.eval (.tmp 6)=(.bool true):=j3 _ rfl;have e7:a'.eval (.tmp 7)=(pt cb 0):=j4 _ rfl;have e8:a'.eval (.tmp 8)=(pt cb 0):=j5 _ rfl;have e9:a'.eval (.tmp 9)=(pt cb 0):=j6 _ rfl;have e10:a'.eval (.tmp 10)=(pt rb 0):=j7 _ rfl;have e11:a'.eval (.tmp 11)=(pt rb 0):=j8 _ rfl;have e12:a'.eval (.tmp 12)=(pt rb 1):=j9 _ rfl;have e13:a'.eval (.tmp 13)=(.int .i64 a):=j10 _ rfl;have e14:a'.eval (.tmp 14)=(pt cb 0):=j11 _ rfl;have e15:a'.eval (.tmp 15)=(pt cb 0):=j12 _ rfl;have e16:a'.eval (.tmp 16)=(pt cb 0):=j13 _ rfl;have e17:a'.eval (.tmp 17)=(pt rb 0):=j14 _ rfl;have e18:a'.eval (.tmp 18)=(pt rb 0):=j15 _ rfl;have e19:a'.eval (.tmp 19)=(pt rb 0):=j16 _ rfl;have e20:a'.eval (.tmp 20)=(.string s):=j17 _ rfl;have e21:a'.eval (.tmp 21)=(.int .i64 s.size):=j18 _ rfl;have e22:a'.eval (.tmp 22)=(.bool (decide ((a:Int)<s.size))):=j19 _ rfl;have e23:a'.eval (.tmp 23)=(.bool (decide ((a:Int)<s.size))):=j20 _ rfl
  simp only[List.foldl_cons,List.foldl_nil,Act.put,List.setIfInBounds_toArray,List.set_cons_succ,List.set_cons_zero,e3,e4,e5,e6,e7,e8,e9,e10,e11,e12,e13,e14,e15,e16,e17,e18,e19,e20,e21,e22,e23]at hA
  clear hO j0 j1 j2 j3 j4 j5 j6 j7 j8 j9 j10 j11 j12 j13 j14 j15 j16 j17 j18 j19 j20 e3 e4 e5 e6 e7 e8 e9 e10 e11 e12 e13 e14 e15 e16 e17 e18 e19 e20 e21 e22 e23
  subst hA
  have WW:Hid (Below W.heap.size W w'):=QLh (Qx hE);have HW2:Hid (CurIs w' cb rb s (.ok a)):=QLh ((H.out.below WB.out).below WW.out);have W2:Hid (w'.heap[w.heap.size]?=some (.cells #[.int .i64 0,.int .i64 0] 63 (0,0))):=QLh ((WW.out.block _ (lt_of_block W0.out)).trans W0.out)
  by_cases hlt:a<s.size
  ·have q1:decide ((a:Int)<s.size)=true:=decide_eq_true (by omega)
   have HS:Hid (Qp1 s (.ok a)=.error (5,a)):=QLh (by unfold Qp1;exact if_pos hlt);have g0:∀o,w'.cell? ⟨w.heap.size,o,none⟩=_:=Qa W2.out;have g1:∀o,w'.frozen? ⟨w.heap.size,o,none⟩=false:=Qj W2.out;have g2:w.heap.size<w'.heap.size:=lt_of_block W2.out;have j0:∀o,w'.cell? ⟨cb,o,none⟩=_:=Qa HW2.out.c;have j1:∀o,w'.frozen? ⟨cb,o,none⟩=false:=Qj HW2.out.c;have j2:cb<w'.heap.size:=HW2.out.clt;have j3:∀o,w'.cell? ⟨rb,o,none⟩=_:=Qa HW2.out.st.1;have hne:=HW2.out.ne;have hcw:cb≠w.heap.size:=by omega
   clear hE hlt i1 c0 k0 k1
   rw[q1]
   go_wp2
   have hb:=Qb (Qb (Qg (Qg W2.out (show w.heap.size≠(⟨cb,1,none⟩:Addr).block from λ e=>hcw e.symm) (.int .i64 5)) (show w.heap.size≠(⟨cb,2,none⟩:Addr).block from λ e=>hcw e.symm) (.int .i64 a)) (o:=0) (.int .i64 5)) (o:=1) (.int .i64 a);have d:∀o,_=_:=Qa hb
   refine bodyPost_ret (v:=.agg #[.int .i64 5,.int .i64 a]) ?_ rfl ?_
   ·simp[results,Tryz.results70,go_sem,d]
   ·rw[HS.out]
    exact⟨rfl,((HW2.out.set (5,a) (show(5:Int)≠0 by decide)).setOff hcs hrs _).setOff hcs hrs _,(((((Chg.of_below (Qk WB.out WW.out)).set 1 _).set 2 _).setNew (Nat.le_refl _) _).setNew (Nat.le_refl _) _)⟩
  ·have q1:decide ((a:Int)<s.size)=false:=decide_eq_false (by omega)
   have HS:Hid (Qp1 s (.ok a)=.ok a):=QLh (by unfold Qp1;exact if_neg hlt);have g0:∀o,w'.cell? ⟨w.heap.size,o,none⟩=_:=Qa W2.out;have g1:∀o,w'.frozen? ⟨w.heap.size,o,none⟩=false:=Qj W2.out;have g2:w.heap.size<w'.heap.size:=lt_of_block W2.out;have c1:w'.cell? ⟨cb,1,none⟩=some (.int .i64 0):=Qa HW2.out.c 1;have c2:w'.cell? ⟨cb,2,none⟩=some (.int .i64 0):=Qa HW2.out.c 2;clear hE hlt i1 c0 k0 k1
   rw[q1]
   go_wp2
   have hb:=Qb (Qb W2.out (o:=0) (.int .i64 0)) (o:=1) (.int .i64 0);have d:∀o,_=_:=Qa hb
   refine bodyPost_ret (v:=.agg #[.int .i64 0,.int .i64 0]) ?_ rfl ?_
   ·simp[results,Tryz.results70,go_sem,d]
   ·rw[HS.out]
    exact⟨rfl,(HW2.out.setOff hcs hrs _).setOff hcs hrs _,((Chg.of_below (Qk WB.out WW.out)).setNew (Nat.le_refl _) _).setNew (Nat.le_refl _) _⟩
theorem Chg.low{rb cb:Nat}{w w1 w':World}(h:Below w.heap.size w w1)(hc:Chg rb cb w1 w')(h1:w.heap.size≤rb)(h2:w.heap.size≤cb):Below w.heap.size w w':=
 ⟨hc.os.trans h.os,hc.tape.trans h.tape,hc.output.trans h.output,Nat.le_trans h.size hc.size,λ i hi=>(hc.block i (Nat.lt_of_lt_of_le hi h.size) (by omega) (by omega)).trans (h.block i hi)⟩
theorem Qnf{s key:ByteArray}{o:Nat}{x:Rcd}{a:Nat}{y:Rcd × Nat}(h:(Qb4 s key o).read x a=.ok y):(y.1 o).s.size=32:=by
 simp only[Qb4]at h
 split at h
 ·cases h
 ·next z hz=>
  cases h
  unfold Qfp at hz
  split at hz
  ·cases hz
  ·split at hz
   ·next h32=>cases hz;show(upd x o (.str _) o).s.size=32;rw[Xc];exact h32
   ·cases hz
def Qz3(o i:Nat)(x:Rcd)(seen:List Nat):Prop:=(i ∈ seen→(x o).s.size=32)∧(i ∉ seen→(x o).s.size=0)
theorem Qjb{s key:ByteArray}{gs:List GSpec}(hd:Qyq gs)(hf:∀g ∈ gs,g.Frames){i o:Nat}(hi:i<gs.length)(hg:gth gs i=Qb4 s key o):∀(n fr:Nat) (x:Rcd) (seen:List Nat) (a:Nat) (y:Rcd × List Nat × Nat),Qy s gs n fr x seen a=.ok y→Qz3 o i x seen→Qz3 o i y.1 y.2.1
 | 0,fr,x,seen,a,y,h,hm=>by simp only[Qy]at h;cases h;exact hm
 | n+1,fr,x,seen,a,y,h,hm=>by
  simp only[Qy]at h
  split at h
  ·cases h
  ·split at h
   ·cases h
   ·next j hj=>
    have hl:=Qdn hj
    split at h
    ·cases h
    ·next z hz=>
     split at h
     ·cases h
     ·refine Qjb hd hf hi hg n _ _ _ _ y h ?_
      by_cases e:fr+j=i
      ·rw[e,hg]at hz
       have h32:=Qnf hz
       exact⟨λ _=>h32,λ hn=>absurd (by rw[e];exact List.mem_cons_self ..) hn⟩
      ·have ho:o ∉ (gth gs (fr+j)).offs:=hd i (fr+j) hi hl (λ e2=>e e2.symm) o (by rw[hg];simp[Qb4])
       have hx:=hf (gth gs (fr+j)) (by rw[Qax gs _ hl];exact List.getElem_mem _) x _ z hz o ho;have hmem:i ∈ (fr+j) :: seen ↔ i ∈ seen:=by
        rw[List.mem_cons]
        exact⟨λ h=>h.resolve_left (λ e2=>e e2.symm),.inr⟩
       unfold Qz3
       rw[hx,hmem]
       exact hm
theorem Qng(t:ByteArray):t.toList.isEmpty=decide (t.size=0):=by
 by_cases h:t.size=0
 ·rw[decide_eq_true h];exact Qkw h
 ·rw[decide_eq_false h];exact Qn3 h
theorem Qkj{o i:Nat}{x:Rcd}{seen:List Nat}(h:Qz3 o i x seen):(x o).s.toList.isEmpty=!seen.contains i:=by
 rw[Qng]
 by_cases hm:i ∈ seen
 ·have h1:=h.1 hm
  simp[hm,h1]
 ·have h1:=h.2 hm
  simp[hm,h1]
def Qhg(s all:ByteArray)(specs:List (UInt8 × Jk))(miss:Rcd→Bool)(x0:Rcd)(σ:Cst):Rcd × Cst:=((Qhf s all specs x0 σ).1,Xy (miss (Qhf s all specs x0 σ).1) 5 (Qhf s all specs x0 σ).2)
theorem Quc(s all:ByteArray)(specs:List (UInt8 × Jk))(miss:Rcd→Bool)(x0:Rcd)(e:Flt):(Qhg s all specs miss x0 (.error e)).2=.error e:=by
 unfold Qhg Qhf Qay
 simp only[tkS]
 rw[Jd];rfl
theorem Qkk{x0:Rcd}{s all:ByteArray}{specs:List (UInt8 × Jk)}{gs:List GSpec}{miss:Rcd→Bool}(h:SpecsOk x0 all specs gs)(hG:GOk x0 gs)(hm:∀n a y,Qy s gs n 0 x0 [] a=.ok y→Xw gs y.2.1=miss y.1)(a:Nat):
  match Qbr s gs x0 a with
  | .error e=>(Qhg s all specs miss x0 (.ok a)).2=.error e
  | .ok y=>Qhg s all specs miss x0 (.ok a)=(y.1,.ok y.2):=by
 unfold Qhg Qhf Qay
 cases hz:tkR 4 s a with
 | error e=>
  rw[Qmo hz]
  simp only[tkS,hz]
  rw[Jd];rfl
 | ok z=>
  simp only[tkS,hz]
  have hl:=Qne h hG.keys hG.disj hG.frames z.1.toNat 0 ⟨#[]⟩ x0 [] z.2.2 (Nat.zero_le _) (by unfold Qnd;rw[if_pos rfl,ByteArray.toList_eq]) (λ i _ _ o _=>rfl) (s:=s)
  cases hL:Qy s gs z.1.toNat 0 x0 [] z.2.2 with
  | error e=>
   rw[hL]at hl
   rw[Qcq hz hL]
   show Xy _ 5 (Q0 s all specs z.1.toNat ⟨#[]⟩ x0 (.ok z.2.2)).2=.error e
   have hl':(Q0 s all specs z.1.toNat ⟨#[]⟩ x0 (.ok z.2.2)).2=.error e:=hl
   rw[hl'];rfl
  | ok y=>
   rw[hL]at hl
   have hl':Q0 s all specs z.1.toNat ⟨#[]⟩ x0 (.ok z.2.2)=(y.1,.ok y.2.2):=hl
   rw[hl']
   have hmm:=hm _ _ _ hL
   cases hmi:Xw gs y.2.1 with
   | true=>
    rw[Qmp hz hL hmi]
    show Xy (miss y.1) 5 (.ok y.2.2)=.error (5,0)
    rw[←hmm,hmi];rfl
   | false=>
    rw[Qsu hz hL hmi]
    show(y.1,Xy (miss y.1) 5 (.ok y.2.2))=(y.1,.ok y.2.2)
    rw[←hmm,hmi];rfl
theorem Qws{x0:Rcd}{s:ByteArray}{gs:List GSpec}{F:Cst→Rcd × Cst}(h:match Qbr s gs x0 0 with | .error e=>(F (.ok 0)).2=.error e | .ok y=>F (.ok 0)=(y.1,.ok y.2)):
  (match Qp1 s (F (.ok 0)).2 with | .error f=>Except.error f | .ok _=>.ok (F (.ok 0)).1)=Xg s gs x0:=by
 unfold Xg
 cases hr:Qbr s gs x0 0 with
 | error e=>
  rw[hr]at h
  have h':(F (.ok 0)).2=.error e:=h
  rw[h'];rfl
 | ok y=>
  rw[hr]at h
  have h':F (.ok 0)=(y.1,.ok y.2):=h
  rw[h']
  show(match Qp1 s (.ok y.2)with | .error f=>Except.error f | .ok _=>.ok y.1)=if y.2<s.size then .error (5,y.2)else .ok y.1
  unfold Qp1
  by_cases hlt:y.2<s.size
  ·simp only[hlt,if_true]
  ·simp only[hlt,if_false]
theorem Qrj{all k:ByteArray}(L:List UInt8)(h:all.data.toList=L):Qdj all k all.size=true ↔ ∃c,c ∈ L∧k.toList=[c]:=by
 subst h
 unfold Qdj
 rw[List.any_eq_true]
 have key:∀i,(hi:i<all.size)→(all.extract i (i+1)).toList=[all.data.toList[i]'(by rw[Qg9];exact hi)]:=λ i hi=>by
  rw[ByteArray.toList_eq,ByteArray.data_extract,Array.toList_extract,List.extract_eq_take_drop]
  have:i<all.data.toList.length:=by rw[Qg9];exact hi
  rw[Nat.add_sub_cancel_left,List.drop_eq_getElem_cons this]
  rfl
 constructor
 ·rintro⟨i,hi,h⟩
  have hi':i<all.size:=by simpa using hi
  refine⟨all.data.toList[i]'(by rw[Qg9];exact hi'),List.getElem_mem _,?_⟩
  rw[key i hi']at h
  exact(by simpa using h:_=k.toList).symm
 ·rintro⟨c,hc,h⟩
  obtain⟨i,hi,rfl⟩:=List.getElem_of_mem hc
  have hi':i<all.size:=by rw[Qg9]at hi;exact hi
  exact⟨i,by simpa using hi',by rw[key i hi',h];simp⟩
theorem Qcw{x0:Rcd}{all:ByteArray}{specs:List (UInt8 × Jk)}{gs:List GSpec}(L:List UInt8)(h1:specs.map (λ p=>p.1)=L)(h2:gs.map (λ g=>g.key)=L.map (λ c=>(⟨#[c]⟩:ByteArray)))(h3:all.data.toList=L)(h4:L.Pairwise (·<·))(h5:∀i,i<gs.length→StepOk x0 (gth gs i) (rth specs i).2):SpecsOk x0 all specs gs:=by
 have l1:specs.length=L.length:=by rw[←h1];simp
 have l2:gs.length=L.length:=by have:=congrArg List.length h2;simpa using this
 have e1:∀i (hi:i<L.length),(rth specs i).1=L[i]:=λ i hi=>by
  rw[Q08 specs i (by omega)]
  have:(specs.map (λ p=>p.1))[i]'(by simp;omega)=L[i]:=by simp only[h1]
  simpa using this
 refine⟨by omega,λ i hi=>?_,λ k=>?_,λ i j hij hj=>?_,h5⟩
 ·rw[Qax gs i hi,e1 i (by omega)]
  have:(gs.map (λ g=>g.key))[i]'(by simp;omega)=(L.map (λ c=>(⟨#[c]⟩:ByteArray)))[i]'(by simp;omega):=by simp only[h2]
  have h9:gs[i].key=⟨#[L[i]'(by omega)]⟩:=by simpa using this
  rw[h9,ByteArray.toList_eq]
 ·rw[Qrj L h3]
  constructor
  ·rintro⟨c,hc,hk⟩
   obtain⟨i,hi,rfl⟩:=List.getElem_of_mem hc
   exact⟨i,by omega,by rw[hk,e1 i hi]⟩
  ·rintro⟨i,hi,hk⟩
   exact⟨L[i]'(by omega),List.getElem_mem _,by rw[hk,e1 i (by omega)]⟩
 ·rw[e1 i (by omega),e1 j (by omega)]
  exact List.pairwise_iff_getElem.1 h4 i j (by omega) (by omega) hij
theorem Qrk(s:ByteArray):SpecsOk Xl ⟨#[102,107,108,114,119]⟩ (Z5 s) (Zo s 0):=by
 refine Qcw [102,107,108,114,119] rfl rfl rfl (by decide) λ i hi=>?_
 match i,hi with
 | 0,_=>exact Qca _ _ _
 | 1,_=>exact Qca _ _ _
 | 2,_=>exact Qca _ _ _
 | 3,_=>exact Qp0 _ _ _
 | 4,_=>exact Qca _ _ _
 | i+5,hi=>exact absurd hi (by simp[Zo];try omega)
theorem Qud(s:ByteArray)(n a:Nat)(y:Rcd × List Nat × Nat)(h:Qy s (Zo s 0) n 0 Xl [] a=.ok y):Xw (Zo s 0) y.2.1=Qf6 y.1:=by
 have G:=Qiw (x0:=Xl) s 0 ⟨rfl,rfl,rfl,rfl,rfl⟩;have m0:Qz3 0 3 y.1 y.2.1:=Qjb (i:=3) (o:=0) G.disj G.frames (show(3:Nat)<5 by decide) rfl n 0 Xl [] a y h ⟨λ h=>(by cases h),λ _=>rfl⟩;have q0:=Qkj m0
 unfold Xw
 show((List.range 5).any λ i=>(gth (Zo s 0) i).must && !y.2.1.contains i)=_
 rw[show List.range 5=[0,1,2,3,4]from rfl]
 simp only[List.any_cons,List.any_nil,Bool.or_false]
 rw[show(gth (Zo s 0) 0).must=false from rfl]
 rw[show(gth (Zo s 0) 1).must=false from rfl]
 rw[show(gth (Zo s 0) 2).must=false from rfl]
 rw[show(gth (Zo s 0) 3).must=true from rfl]
 rw[show(gth (Zo s 0) 4).must=false from rfl]
 simp only[Bool.false_and,Bool.true_and,Bool.false_or,Bool.or_false]
 show _=((y.1 0).s.toList.isEmpty)
 rw[q0]
def Que(a b c:ByteArray):Nat→ByteArray
 | 0=>a
 | 1=>b
 | _=>c
theorem Qp2(a b c:ByteArray)(m:Nat)(h:m<3):(#[Value.string a,.string b,.string c]:Array Value)[m]?=some (.string (Que a b c m)):=by
 match m,h with
 | 0,_=>rfl
 | 1,_=>rfl
 | 2,_=>rfl
theorem Qrl{a b c:ByteArray}{n:Nat}(ha:a.size≤n)(hb:b.size≤n)(hc:c.size≤n)(m:Nat):(Que a b c m).size≤n:=by
 match m with
 | 0=>exact ha
 | 1=>exact hb
 | _+2=>exact hc
def Qnh(fs:List FSpec):ByteArray:=if Q8 fs then Qbj fs else⟨#[]⟩
def Quf(fs:List FSpec):Int:=if Q8 fs then 0 else 2
theorem LaidIs.both{fs:List FSpec}{w w':World}{e:Ending}(h:LaidIs fs w e w'):e=.returned (.tuple #[.string (Qnh fs),.int .i64 (Quf fs)])∧Below w.heap.size w w':=by
 obtain⟨h1,h2⟩:=h
 refine⟨h1.trans ?_,h2⟩
 unfold Qnh Quf
 cases Q8 fs <;> rfl
section
variable {H:Type} {enc:TypeId × Value→H} {P:Program} {w:World}
theorem Qf7(hl:laidOutB P=true){W W':World}(hb:Below W.heap.size W W'):∀{ts:List TypeId} {vs:List Value} {ds:List (DataW H)} {ps:List MemPlace},
  (∀t ∈ ts,P.readableRec t=true∧t<P.types.size)→DataW.TrodAll enc P W 0 (λ _=>true) true ts vs ds ps→DataW.TrodAll enc P W' 0 (λ b=>decide (b<W.heap.size)) true ts vs ds ps
 | [],vs,ds,ps,_,h=>by
  obtain⟨rfl,rfl,rfl⟩:=trodAll_nil h
  exact trodAll_mk0
 | t :: ts,vs,ds,ps,ht,h=>by
  obtain⟨v,vs',d,ds',p,q,rfl,rfl,rfl,h0,r0⟩:=trodAll_cons h
  have lt0:∀x ∈ p,x.block<W.heap.size:=by obtain⟨m,hm⟩:=h0;exact DataW.trod_lt m _ _ _ hm
  exact trodAll_cons_mk (Below.trod hl (ht t (List.mem_cons_self ..)).1 (ht t (List.mem_cons_self ..)).2 h0 hb lt0) (Qf7 hl hb (λ t' h'=>ht t' (List.mem_cons_of_mem _ h')) r0)
theorem Qza{α:Type}{n:Nat}{p:Nat→α→Prop}(h:∀i,i<n→∃x,p i x):∃l:List α,l.length=n∧∀i (hi:i<l.length),p i l[i]:=by
 induction n with
 | zero=>exact⟨[],rfl,λ i hi=>by simp at hi⟩
 | succ n ih=>
  obtain⟨l,hl,hp⟩:=ih (λ i hi=>h i (by omega))
  obtain⟨x,hx⟩:=h n (by omega)
  refine⟨l++[x],by simp[hl],λ i hi=>?_⟩
  rcases Nat.lt_or_ge i l.length with h' | h'
  ·rw[List.getElem_append_left h'];exact hp i h'
  ·have e:i=l.length:=by simp at hi;omega
   subst e
   simp only[List.getElem_append_right (Nat.le_refl _),Nat.sub_self,List.getElem_cons_zero]
   rw[hl];exact hx
theorem Jl{n:Nat}{e:TypeId}{k:IntKind}{v:Value}{y:DataW H × List MemPlace}(he:P.underlying e=some (.int k))(h:DataW.trod enc P w 0 (λ _=>true) true n e [v]=some y):∃x,v=.int k x∧(Lit.int k x).wf=true:=by
 obtain⟨x,hx,_,hw⟩:=DataW.trod_int he h
 exact⟨x,by simpa using hx,hw⟩
end
theorem own:ownKnob Tryz.prog.godebug=none:=by kernel_rfl
theorem Qzb:laidOutB Tryz.prog=true:=by kernel_rfl
section
variable {P:Program} {H:Type} {enc:TypeId × Value→H} {w:World}
theorem Qwt{t:TypeId}(ht:P.underlying t=some .string){v:Value}{d:DataW H}{p:List MemPlace}{r:Reach}{base:Nat}(hv:Value.okWide P w r base t v)(h:DataW.Trod enc P w 0 (λ _=>true) true t v d p):
  ∃s:ByteArray,v=.string s∧d=.lit (.string s.data.toList)∧p=[]∧s.size≤9223372036854775807:=by
 obtain⟨s,rfl,h1,h2,h3⟩:=open_string ht hv h
 exact⟨s,rfl,h1,h2,by unfold maxLen at h3;exact h3⟩
end
section
variable {P:Program} {H:Type} {enc:TypeId × Value→H} {w:World}
theorem Qjc{n:Nat}{e:TypeId}{v:Value}{y:DataW H × List MemPlace}(he:P.underlying e=some .string)(h:DataW.trod enc P w 0 (λ _=>true) true n e [v]=some y):∃s:ByteArray,v=.string s∧s.size≤maxLen:=by
 obtain⟨s,hx,_,hw⟩:=DataW.trod_string he h
 exact⟨s,by simpa using hx,hw⟩
theorem Qde{n:Int}(h:(Lit.int .u64 n).wf=true):X8 n:=by simp[Lit.wf,IntKind.min,IntKind.max,IntKind.signed,IntKind.bits]at h;unfold X8;omega
theorem Qzc{n:Int}(h:(Lit.int .u16 n).wf=true):0≤n∧n≤65535:=by simp[Lit.wf,IntKind.min,IntKind.max,IntKind.signed,IntKind.bits]at h;omega
theorem Q1a{n:Int}(h:(Lit.int .u8 n).wf=true):0≤n∧n≤255:=by simp[Lit.wf,IntKind.min,IntKind.max,IntKind.signed,IntKind.bits]at h;omega
end
theorem Qug{H:Type}{enc:TypeId × Value→H}{w:World}{v:Value}{d:DataW H}{p:List MemPlace}{r:Reach}{base:Nat}(hv:Value.okWide Tryz.prog w r base 55 v)(h:DataW.Trod enc Tryz.prog w 0 (λ _=>true) true 55 v d p):
  ∃a y t:Int,v=.agg #[.int .u16 a,.int .u8 y,.int .i64 t]∧(0≤a∧a≤65535)∧(0≤y∧y≤255):=by
 obtain⟨cs',rfl,hsz⟩:=okWide_struct Tryz.underlying55 hv
 have hsz':cs'.size=3:=hsz.trans (by kernel_rfl)
 obtain⟨l⟩:=cs'
 match l,hsz' with
 | [v0,v1,v2],_=>
  obtain⟨fuel,hf⟩:=h
  obtain⟨xs,m,_,_,_,hxl,hx⟩:=DataW.trod_struct Tryz.underlying55 hf
  have hxl':xs.length=3:=hxl
  simp only[Value.cells]at hx
  have h0:DataW.trod enc Tryz.prog w 0 (λ _=>true) true m 53 (([v0,v1,v2].drop 0).take (Tryz.prog.cellsOf 53))=xs[0]?:=hx 0 _ rfl
  rw[show Tryz.prog.cellsOf 53=1 by kernel_rfl]at h0
  have h1:DataW.trod enc Tryz.prog w 0 (λ _=>true) true m 5 (([v0,v1,v2].drop 1).take (Tryz.prog.cellsOf 5))=xs[1]?:=hx 1 _ rfl
  rw[show Tryz.prog.cellsOf 5=1 by kernel_rfl]at h1
  have h2:DataW.trod enc Tryz.prog w 0 (λ _=>true) true m 3 (([v0,v1,v2].drop 2).take (Tryz.prog.cellsOf 3))=xs[2]?:=hx 2 _ rfl
  rw[show Tryz.prog.cellsOf 3=1 by kernel_rfl]at h2
  obtain⟨x0,rfl,w0⟩:=Jl Tryz.underlying53 (h0.trans (List.getElem?_eq_getElem (by omega:0<xs.length)))
  obtain⟨x1,rfl,w1⟩:=Jl Tryz.underlying5 (h1.trans (List.getElem?_eq_getElem (by omega:1<xs.length)))
  obtain⟨x2,rfl,w2⟩:=Jl Tryz.underlying3 (h2.trans (List.getElem?_eq_getElem (by omega:2<xs.length)))
  exact⟨x0,x1,x2,rfl,Qzc w0,Q1a w1⟩
def CW(w:World):CP:=λ b o x=>w.cell? ⟨b,o,none⟩=some x
theorem CW.at{w:World}{b o:Nat}{x:Value}(h:CW w b o x):CellAt w.heap.size w b o x:=⟨h,.inl (Qw h)⟩
section
variable {H:Type} {enc:TypeId × Value→H} {P:Program} {w:World}
theorem Qg2{α:Type}{t e:TypeId}(k:Nat)(cells:α→List Value)(ok:α→Prop)(ht:P.underlying t=some (.slice e))(hC:P.cellsOf e=k)(hk:0<k)
  (hel:∀n cs' y,cs'.length=k→DataW.trod enc P w 0 (λ _=>true) true n e cs'=some y→∃x,cs'=cells x∧ok x)
  {n:Nat} {v:Value} {y:DataW H × List MemPlace} (h:DataW.trod enc P w 0 (λ _=>true) true n t [v]=some y):
  ∃a c,∃l:List α,v=.slice a (len l) c∧len l≤c∧c≤maxLen∧∀i (hi:i<l.length),ok l[i]∧∃b off,a=some ⟨b,off,none⟩∧∀j,j<k→w.cell? ⟨b,off+i * k+j,none⟩=(cells l[i])[j]?:=by
 rcases open_slice ht h with⟨hcs,_⟩ | ⟨a,n0,c0,m,q,D,Pl,hcs,_,hl,hm,hmm,_,hi⟩
 ·simp at hcs
  subst hcs
  exact⟨none,0,[],rfl,Nat.le_refl _,Nat.zero_le _,λ i hi=>by simp at hi⟩
 ·simp at hcs
  subst hcs
  have hnm:n0≤m:=by rw[hmm];simp;exact hl
  have each:∀i,i<n0→∃x,ok x∧∃b off,some a=some ⟨b,off,none⟩∧∀j,j<k→w.cell? ⟨b,off+i * k+j,none⟩=(cells x)[j]?:=by
   intro i hin
   obtain⟨cs',hc,htr⟩:=hi i (by omega)
   rw[hC]at hc
   obtain⟨_,hcl,hat⟩:=World.cells?_some hc
   obtain⟨x,rfl,hx⟩:=hel q cs' _ hcl htr
   obtain⟨b,off,spot⟩:=a
   have hspot:spot=none:=by
    obtain⟨cs0,hc0,htr0⟩:=hi 0 (by omega)
    rw[hC]at hc0
    obtain⟨_,hcl0,hat0⟩:=World.cells?_some hc0
    have h1:=hat0 0 hk;have h2:cs0[0]?=some (cs0[0]'(by omega)):=List.getElem?_eq_getElem (by omega)
    rw[h2]at h1
    simpa [Addr.add] using World.cell?_spot h1
   subst hspot
   refine⟨x,hx,b,off,rfl,λ j hj=>?_⟩
   have h1:=hat j hj
   rw[Go.Deep.add_add]at h1
   have e:(⟨b,off,none⟩:Addr).add (i * k+j)=⟨b,off+i * k+j,none⟩:=by
    unfold Addr.add;split
    ·rename_i h0;simp <;> omega
    ·simp[Nat.add_assoc]
   rw[e]at h1;exact h1
  obtain⟨l,hll,hp⟩:=Qza each
  subst hll
  exact⟨some a,c0,l,rfl,hl,hm,hp⟩
theorem Qf8{t e:TypeId}(ht:P.underlying t=some (.slice e))(he:P.underlying e=some .string)(hC:P.cellsOf e=1){n:Nat}{v:Value}{y:DataW H × List MemPlace}(h:DataW.trod enc P w 0 (λ _=>true) true n t [v]=some y):
  ∃a c,∃l:List ByteArray,v=.slice a (len l) c∧len l≤c∧c≤maxLen∧StrsC (CW w) a l∧∀i,i<len l→(sth l i).size≤maxLen:=by
 obtain⟨a,c,l,rfl,h1,h2,h3⟩:=Qg2 1 (λ x=>[Value.string x]) (λ x:ByteArray=>x.size≤maxLen) ht hC (by decide) (λ n cs' y hl hy=>by
  match cs',hl with
  | [v0],_=>
   obtain⟨x,rfl,hw⟩:=Qjc he hy
   exact⟨x,rfl,hw⟩) h
 refine⟨a,c,l,rfl,h1,h2,λ i hi=>?_,λ i hi=>?_⟩
 ·obtain⟨_,b,off,e1,e2⟩:=h3 i hi
  refine⟨b,off,e1,?_⟩
  have:=e2 0 (by decide)
  rw[Nat.mul_one,Nat.add_zero]at this
  show w.cell? ⟨b,off+i,none⟩=_
  rw[this,Qcl l i hi];rfl
 ·rw[Qcl l i hi];exact(h3 i hi).1
theorem Quh{t e:TypeId}(ht:P.underlying t=some (.slice e))(he:P.underlying e=some (.int .u64))(hC:P.cellsOf e=1){n:Nat}{v:Value}{y:DataW H × List MemPlace}(h:DataW.trod enc P w 0 (λ _=>true) true n t [v]=some y):
  ∃a c,∃l:List Int,v=.slice a (len l) c∧len l≤c∧c≤maxLen∧(∀i,i<len l→∃b off,a=some ⟨b,off,none⟩∧CW w b (off+i) (.int .u64 (nth l i)))∧∀i,i<len l→X8 (nth l i):=by
 obtain⟨a,c,l,rfl,h1,h2,h3⟩:=Qg2 1 (λ x=>[Value.int .u64 x]) X8 ht hC (by decide) (λ n cs' y hl hy=>by
  match cs',hl with
  | [v0],_=>
   obtain⟨x,rfl,hw⟩:=Jl he hy
   exact⟨x,rfl,Qde hw⟩) h
 refine⟨a,c,l,rfl,h1,h2,λ i hi=>?_,λ i hi=>?_⟩
 ·obtain⟨_,b,off,e1,e2⟩:=h3 i hi
  refine⟨b,off,e1,?_⟩
  have:=e2 0 (by decide)
  rw[Nat.mul_one,Nat.add_zero]at this
  show w.cell? ⟨b,off+i,none⟩=_
  rw[this,Qce l i hi];rfl
 ·rw[Qce l i hi];exact(h3 i hi).1
theorem Qrm{n:Nat}{e:TypeId}{v:Value}{y:DataW H × List MemPlace}(he:P.underlying e=some .bool)(h:DataW.trod enc P w 0 (λ _=>true) true n e [v]=some y):∃b,v=.bool b:=by
 obtain⟨b,hx,_⟩:=DataW.trod_bool he h
 exact⟨b,by simpa using hx⟩
end
section
variable {H:Type} {enc:TypeId × Value→H} {w:World}
theorem Qrn{n:Nat}{v0 v1 v2 v3 v4:Value}{y:DataW H × List MemPlace}(h:DataW.trod enc Tryz.prog w 0 (λ _=>true) true n 46 [v0,v1,v2,v3,v4]=some y):
  ∃(x0:ByteArray) (x1:Int) (x2:Int) (x3:Int) (x4:Int),v0=.string x0∧v1=.int .u64 x1∧v2=.int .u64 x2∧v3=.int .u64 x3∧v4=.int .u64 x4∧x0.size≤maxLen∧X8 x1∧X8 x2∧X8 x3∧X8 x4:=by
 obtain⟨xs,m,_,_,_,hxl,hx⟩:=DataW.trod_struct Tryz.underlying46 h
 have hxl':xs.length=5:=hxl;have h0:DataW.trod enc Tryz.prog w 0 (λ _=>true) true m 9 (([v0,v1,v2,v3,v4].drop 0).take (Tryz.prog.cellsOf 9))=xs[0]?:=hx 0 _ rfl
 rw[show Tryz.prog.cellsOf 9=1 by kernel_rfl]at h0
 have h1:DataW.trod enc Tryz.prog w 0 (λ _=>true) true m 23 (([v0,v1,v2,v3,v4].drop 1).take (Tryz.prog.cellsOf 23))=xs[1]?:=hx 1 _ rfl
 rw[show Tryz.prog.cellsOf 23=1 by kernel_rfl]at h1
 have h2:DataW.trod enc Tryz.prog w 0 (λ _=>true) true m 23 (([v0,v1,v2,v3,v4].drop 2).take (Tryz.prog.cellsOf 23))=xs[2]?:=hx 2 _ rfl
 rw[show Tryz.prog.cellsOf 23=1 by kernel_rfl]at h2
 have h3:DataW.trod enc Tryz.prog w 0 (λ _=>true) true m 23 (([v0,v1,v2,v3,v4].drop 3).take (Tryz.prog.cellsOf 23))=xs[3]?:=hx 3 _ rfl
 rw[show Tryz.prog.cellsOf 23=1 by kernel_rfl]at h3
 have h4:DataW.trod enc Tryz.prog w 0 (λ _=>true) true m 23 (([v0,v1,v2,v3,v4].drop 4).take (Tryz.prog.cellsOf 23))=xs[4]?:=hx 4 _ rfl
 rw[show Tryz.prog.cellsOf 23=1 by kernel_rfl]at h4
 obtain⟨z0,rfl,w0⟩:=Qjc Tryz.underlying9 (h0.trans (List.getElem?_eq_getElem (by omega:0<xs.length)))
 obtain⟨z1,rfl,w1⟩:=Jl Tryz.underlying23 (h1.trans (List.getElem?_eq_getElem (by omega:1<xs.length)))
 obtain⟨z2,rfl,w2⟩:=Jl Tryz.underlying23 (h2.trans (List.getElem?_eq_getElem (by omega:2<xs.length)))
 obtain⟨z3,rfl,w3⟩:=Jl Tryz.underlying23 (h3.trans (List.getElem?_eq_getElem (by omega:3<xs.length)))
 obtain⟨z4,rfl,w4⟩:=Jl Tryz.underlying23 (h4.trans (List.getElem?_eq_getElem (by omega:4<xs.length)))
 exact⟨z0,z1,z2,z3,z4,rfl,rfl,rfl,rfl,rfl,w0,Qde w1,Qde w2,Qde w3,Qde w4⟩
theorem Qui{n:Nat}{v0 v1 v2:Value}{y:DataW H × List MemPlace}(h:DataW.trod enc Tryz.prog w 0 (λ _=>true) true n 42 [v0,v1,v2]=some y):
  ∃(x0:Int) (x1a:Option Addr) (x1c:Nat) (x1:List ByteArray) (x2a:Option Addr) (x2c:Nat) (x2:List ByteArray),v0=.int .u64 x0∧v1=.slice x1a (len x1) x1c∧v2=.slice x2a (len x2) x2c∧X8 x0∧(len x1≤maxLen∧StrsC (CW w) x1a x1∧∀i,i<len x1→(sth x1 i).size≤maxLen)∧(len x2≤maxLen∧StrsC (CW w) x2a x2∧∀i,i<len x2→(sth x2 i).size≤maxLen):=by
 obtain⟨xs,m,_,_,_,hxl,hx⟩:=DataW.trod_struct Tryz.underlying42 h
 have hxl':xs.length=3:=hxl;have h0:DataW.trod enc Tryz.prog w 0 (λ _=>true) true m 23 (([v0,v1,v2].drop 0).take (Tryz.prog.cellsOf 23))=xs[0]?:=hx 0 _ rfl
 rw[show Tryz.prog.cellsOf 23=1 by kernel_rfl]at h0
 have h1:DataW.trod enc Tryz.prog w 0 (λ _=>true) true m 26 (([v0,v1,v2].drop 1).take (Tryz.prog.cellsOf 26))=xs[1]?:=hx 1 _ rfl
 rw[show Tryz.prog.cellsOf 26=1 by kernel_rfl]at h1
 have h2:DataW.trod enc Tryz.prog w 0 (λ _=>true) true m 26 (([v0,v1,v2].drop 2).take (Tryz.prog.cellsOf 26))=xs[2]?:=hx 2 _ rfl
 rw[show Tryz.prog.cellsOf 26=1 by kernel_rfl]at h2
 obtain⟨z0,rfl,w0⟩:=Jl Tryz.underlying23 (h0.trans (List.getElem?_eq_getElem (by omega:0<xs.length)))
 obtain⟨z1a,z1c,z1,rfl,w1,w1',w1S,w1Z⟩:=Qf8 Tryz.underlying26 Tryz.underlying9 (by kernel_rfl) (h1.trans (List.getElem?_eq_getElem (by omega:1<xs.length)))
 obtain⟨z2a,z2c,z2,rfl,w2,w2',w2S,w2Z⟩:=Qf8 Tryz.underlying26 Tryz.underlying9 (by kernel_rfl) (h2.trans (List.getElem?_eq_getElem (by omega:2<xs.length)))
 exact⟨z0,z1a,z1c,z1,z2a,z2c,z2,rfl,rfl,rfl,Qde w0,⟨Nat.le_trans w1 w1',w1S,w1Z⟩,⟨Nat.le_trans w2 w2',w2S,w2Z⟩⟩
theorem Qro{n:Nat}{v0 v1 v2 v3 v4:Value}{y:DataW H × List MemPlace}(h:DataW.trod enc Tryz.prog w 0 (λ _=>true) true n 44 [v0,v1,v2,v3,v4]=some y):
  ∃(x0:Int) (x1:Bool) (x2:Int) (x3a:Option Addr) (x3c:Nat) (x3:List ByteArray) (x4a:Option Addr) (x4c:Nat) (x4:List ByteArray),v0=.int .u64 x0∧v1=.bool x1∧v2=.int .u64 x2∧v3=.slice x3a (len x3) x3c∧v4=.slice x4a (len x4) x4c∧X8 x0∧True∧X8 x2∧(len x3≤maxLen∧StrsC (CW w) x3a x3∧∀i,i<len x3→(sth x3 i).size≤maxLen)∧(len x4≤maxLen∧StrsC (CW w) x4a x4∧∀i,i<len x4→(sth x4 i).size≤maxLen):=by
 obtain⟨xs,m,_,_,_,hxl,hx⟩:=DataW.trod_struct Tryz.underlying44 h
 have hxl':xs.length=3:=hxl;have h0:DataW.trod enc Tryz.prog w 0 (λ _=>true) true m 23 (([v0,v1,v2,v3,v4].drop 0).take (Tryz.prog.cellsOf 23))=xs[0]?:=hx 0 _ rfl
 rw[show Tryz.prog.cellsOf 23=1 by kernel_rfl]at h0
 have h1:DataW.trod enc Tryz.prog w 0 (λ _=>true) true m 4 (([v0,v1,v2,v3,v4].drop 1).take (Tryz.prog.cellsOf 4))=xs[1]?:=hx 1 _ rfl
 rw[show Tryz.prog.cellsOf 4=1 by kernel_rfl]at h1
 have h2:DataW.trod enc Tryz.prog w 0 (λ _=>true) true m 42 (([v0,v1,v2,v3,v4].drop 2).take (Tryz.prog.cellsOf 42))=xs[2]?:=hx 2 _ rfl
 rw[show Tryz.prog.cellsOf 42=3 by kernel_rfl]at h2
 obtain⟨z0,rfl,w0⟩:=Jl Tryz.underlying23 (h0.trans (List.getElem?_eq_getElem (by omega:0<xs.length)))
 obtain⟨z1,rfl⟩:=Qrm Tryz.underlying4 (h1.trans (List.getElem?_eq_getElem (by omega:1<xs.length)))
 obtain⟨z2_0,z2_1a,z2_1c,z2_1,z2_2a,z2_2c,z2_2,rfl,rfl,rfl,w2_0,w2_1,w2_2⟩:=Qui (h2.trans (List.getElem?_eq_getElem (by omega:2<xs.length)))
 exact⟨z0,z1,z2_0,z2_1a,z2_1c,z2_1,z2_2a,z2_2c,z2_2,rfl,rfl,rfl,rfl,rfl,Qde w0,trivial,w2_0,w2_1,w2_2⟩
theorem Qni{n:Nat}{v0 v1 v2 v3 v4 v5 v6 v7 v8 v9 v10:Value}{y:DataW H × List MemPlace}(h:DataW.trod enc Tryz.prog w 0 (λ _=>true) true n 48 [v0,v1,v2,v3,v4,v5,v6,v7,v8,v9,v10]=some y):
  ∃(x0:Int) (x1:Int) (x2:Bool) (x3:Int) (x4a:Option Addr) (x4c:Nat) (x4:List ByteArray) (x5a:Option Addr) (x5c:Nat) (x5:List ByteArray) (x6:ByteArray) (x7:Int) (x8:Int) (x9:Int) (x10:Int),v0=.int .u64 x0∧v1=.int .u64 x1∧v2=.bool x2∧v3=.int .u64 x3∧v4=.slice x4a (len x4) x4c∧v5=.slice x5a (len x5) x5c∧v6=.string x6∧v7=.int .u64 x7∧v8=.int .u64 x8∧v9=.int .u64 x9∧v10=.int .u64 x10∧X8 x0∧X8 x1∧True∧X8 x3∧(len x4≤maxLen∧StrsC (CW w) x4a x4∧∀i,i<len x4→(sth x4 i).size≤maxLen)∧(len x5≤maxLen∧StrsC (CW w) x5a x5∧∀i,i<len x5→(sth x5 i).size≤maxLen)∧x6.size≤maxLen∧X8 x7∧X8 x8∧X8 x9∧X8 x10:=by
 obtain⟨xs,m,_,_,_,hxl,hx⟩:=DataW.trod_struct Tryz.underlying48 h
 have hxl':xs.length=3:=hxl;have h0:DataW.trod enc Tryz.prog w 0 (λ _=>true) true m 23 (([v0,v1,v2,v3,v4,v5,v6,v7,v8,v9,v10].drop 0).take (Tryz.prog.cellsOf 23))=xs[0]?:=hx 0 _ rfl
 rw[show Tryz.prog.cellsOf 23=1 by kernel_rfl]at h0
 have h1:DataW.trod enc Tryz.prog w 0 (λ _=>true) true m 44 (([v0,v1,v2,v3,v4,v5,v6,v7,v8,v9,v10].drop 1).take (Tryz.prog.cellsOf 44))=xs[1]?:=hx 1 _ rfl
 rw[show Tryz.prog.cellsOf 44=5 by kernel_rfl]at h1
 have h2:DataW.trod enc Tryz.prog w 0 (λ _=>true) true m 46 (([v0,v1,v2,v3,v4,v5,v6,v7,v8,v9,v10].drop 6).take (Tryz.prog.cellsOf 46))=xs[2]?:=hx 2 _ rfl
 rw[show Tryz.prog.cellsOf 46=5 by kernel_rfl]at h2
 obtain⟨z0,rfl,w0⟩:=Jl Tryz.underlying23 (h0.trans (List.getElem?_eq_getElem (by omega:0<xs.length)))
 obtain⟨z1_0,z1_1,z1_2,z1_3a,z1_3c,z1_3,z1_4a,z1_4c,z1_4,rfl,rfl,rfl,rfl,rfl,w1_0,w1_1,w1_2,w1_3,w1_4⟩:=Qro (h1.trans (List.getElem?_eq_getElem (by omega:1<xs.length)))
 obtain⟨z2_0,z2_1,z2_2,z2_3,z2_4,rfl,rfl,rfl,rfl,rfl,w2_0,w2_1,w2_2,w2_3,w2_4⟩:=Qrn (h2.trans (List.getElem?_eq_getElem (by omega:2<xs.length)))
 exact⟨z0,z1_0,z1_1,z1_2,z1_3a,z1_3c,z1_3,z1_4a,z1_4c,z1_4,z2_0,z2_1,z2_2,z2_3,z2_4,rfl,rfl,rfl,rfl,rfl,rfl,rfl,rfl,rfl,rfl,rfl,Qde w0,w1_0,w1_1,w1_2,w1_3,w1_4,w2_0,w2_1,w2_2,w2_3,w2_4⟩
structure RvOp(d:RevD):Prop where
 pos:X8 d.pos
 L:X8 d.L
 idx:X8 d.idx
 wt:X8 d.wt
 first:X8 d.first
 life:X8 d.life
 keys:X8 d.keys
 ws:len d.ws≤maxLen
 wz:∀i,i<len d.ws→(sth d.ws i).size≤maxLen
 ps:len d.ps≤maxLen
 pz:∀i,i<len d.ps→(sth d.ps i).size≤maxLen
 root:d.root.size≤maxLen
structure RvX where
 d:RevD
 wa:Option Addr
 wc:Nat
 pa:Option Addr
 pc:Nat
def RvX.cells(x:RvX):List Value:=[.int .u64 x.d.pos,.int .u64 x.d.L,.bool x.d.signed,.int .u64 x.d.idx,.slice x.wa (len x.d.ws) x.wc,.slice x.pa (len x.d.ps) x.pc,.string x.d.root,.int .u64 x.d.wt,.int .u64 x.d.first,.int .u64 x.d.life,.int .u64 x.d.keys]
theorem Quj{n:Nat}{v:Value}{y:DataW H × List MemPlace}(h:DataW.trod enc Tryz.prog w 0 (λ _=>true) true n 24 [v]=some y):
  ∃a c,∃l:List RevD,v=.slice a (len l) c∧len l≤maxLen∧RvsC (CW w) a l∧∀i,i<len l→RvOp (lth l i):=by
 obtain⟨a,c,l,rfl,h1,h2,h3⟩:=Qg2 11 RvX.cells (λ x=>RvOp x.d∧StrsC (CW w) x.wa x.d.ws∧StrsC (CW w) x.pa x.d.ps) Tryz.underlying24 (by kernel_rfl) (by decide) (λ n cs' y hl hy=>by
  match cs',hl with
  | [v0,v1,v2,v3,v4,v5,v6,v7,v8,v9,v10],_=>
   obtain⟨x0,x1,x2,x3,x4a,x4c,x4,x5a,x5c,x5,x6,x7,x8,x9,x10,rfl,rfl,rfl,rfl,rfl,rfl,rfl,rfl,rfl,rfl,rfl,w0,w1,w2,w3,w4,w5,w6,w7,w8,w9,w10⟩:=Qni hy
   exact⟨⟨⟨x0,x1,x2,x3,x4,x5,x6,x7,x8,x9,x10⟩,x4a,x4c,x5a,x5c⟩,rfl,⟨w0,w1,w3,w7,w8,w9,w10,w4.1,w4.2.2,w5.1,w5.2.2,w6⟩,w4.2.1,w5.2.1⟩) h
 have hll:len (l.map λ x=>x.d)=len l:=by simp[len]
 have hat:∀i (hi:i<l.length),lth (l.map λ x=>x.d) i=l[i].d:=λ i hi=>by rw[Jw _ i (by simpa using hi),List.getElem_map]
 refine⟨a,c,l.map λ x=>x.d,by rw[hll],by rw[hll];exact Nat.le_trans h1 h2,λ i hi=>?_,λ i hi=>?_⟩
 ·have hi':i<l.length:=by rw[hll]at hi;exact hi
  obtain⟨⟨_,s4,s5⟩,b,off,e1,e2⟩:=h3 i hi'
  rw[hat i hi']
  refine⟨b,off,e1,?_⟩
  have e0:=e2 0 (by decide)
  rw[Nat.add_zero]at e0
  exact⟨e0,e2 1 (by decide),e2 2 (by decide),e2 3 (by decide),⟨_,_,e2 4 (by decide),s4⟩,⟨_,_,e2 5 (by decide),s5⟩,e2 6 (by decide),e2 7 (by decide),e2 8 (by decide),e2 9 (by decide),e2 10 (by decide)⟩
 ·have hi':i<l.length:=by rw[hll]at hi;exact hi
  rw[hat i hi'];exact(h3 i hi').1.1
theorem Qrp{n:Nat}{v0 v1 v2 v3 v4 v5:Value}{y:DataW H × List MemPlace}(h:DataW.trod enc Tryz.prog w 0 (λ _=>true) true n 28 [v0,v1,v2,v3,v4,v5]=some y):
  ∃(x0:ByteArray) (x1:Int) (x2a:Option Addr) (x2c:Nat) (x2:List RevD) (x3a:Option Addr) (x3c:Nat) (x3:List Int) (x4a:Option Addr) (x4c:Nat) (x4:List ByteArray) (x5a:Option Addr) (x5c:Nat) (x5:List ByteArray),v0=.string x0∧v1=.int .u64 x1∧v2=.slice x2a (len x2) x2c∧v3=.slice x3a (len x3) x3c∧v4=.slice x4a (len x4) x4c∧v5=.slice x5a (len x5) x5c∧x0.size≤maxLen∧X8 x1∧(len x2≤maxLen∧RvsC (CW w) x2a x2∧∀i,i<len x2→RvOp (lth x2 i))∧(len x3≤x3c∧x3c≤maxLen∧(∀i,i<len x3→∃b off,x3a=some ⟨b,off,none⟩∧CW w b (off+i) (.int .u64 (nth x3 i)))∧∀i,i<len x3→X8 (nth x3 i))∧(len x4≤maxLen∧StrsC (CW w) x4a x4∧∀i,i<len x4→(sth x4 i).size≤maxLen)∧(len x5≤maxLen∧StrsC (CW w) x5a x5∧∀i,i<len x5→(sth x5 i).size≤maxLen):=by
 obtain⟨xs,m,_,_,_,hxl,hx⟩:=DataW.trod_struct Tryz.underlying28 h
 have hxl':xs.length=6:=hxl;have h0:DataW.trod enc Tryz.prog w 0 (λ _=>true) true m 9 (([v0,v1,v2,v3,v4,v5].drop 0).take (Tryz.prog.cellsOf 9))=xs[0]?:=hx 0 _ rfl
 rw[show Tryz.prog.cellsOf 9=1 by kernel_rfl]at h0
 have h1:DataW.trod enc Tryz.prog w 0 (λ _=>true) true m 23 (([v0,v1,v2,v3,v4,v5].drop 1).take (Tryz.prog.cellsOf 23))=xs[1]?:=hx 1 _ rfl
 rw[show Tryz.prog.cellsOf 23=1 by kernel_rfl]at h1
 have h2:DataW.trod enc Tryz.prog w 0 (λ _=>true) true m 24 (([v0,v1,v2,v3,v4,v5].drop 2).take (Tryz.prog.cellsOf 24))=xs[2]?:=hx 2 _ rfl
 rw[show Tryz.prog.cellsOf 24=1 by kernel_rfl]at h2
 have h3:DataW.trod enc Tryz.prog w 0 (λ _=>true) true m 25 (([v0,v1,v2,v3,v4,v5].drop 3).take (Tryz.prog.cellsOf 25))=xs[3]?:=hx 3 _ rfl
 rw[show Tryz.prog.cellsOf 25=1 by kernel_rfl]at h3
 have h4:DataW.trod enc Tryz.prog w 0 (λ _=>true) true m 26 (([v0,v1,v2,v3,v4,v5].drop 4).take (Tryz.prog.cellsOf 26))=xs[4]?:=hx 4 _ rfl
 rw[show Tryz.prog.cellsOf 26=1 by kernel_rfl]at h4
 have h5:DataW.trod enc Tryz.prog w 0 (λ _=>true) true m 26 (([v0,v1,v2,v3,v4,v5].drop 5).take (Tryz.prog.cellsOf 26))=xs[5]?:=hx 5 _ rfl
 rw[show Tryz.prog.cellsOf 26=1 by kernel_rfl]at h5
 obtain⟨z0,rfl,w0⟩:=Qjc Tryz.underlying9 (h0.trans (List.getElem?_eq_getElem (by omega:0<xs.length)))
 obtain⟨z1,rfl,w1⟩:=Jl Tryz.underlying23 (h1.trans (List.getElem?_eq_getElem (by omega:1<xs.length)))
 obtain⟨z2a,z2c,z2,rfl,w2,w2S,w2Z⟩:=Quj (h2.trans (List.getElem?_eq_getElem (by omega:2<xs.length)))
 obtain⟨z3a,z3c,z3,rfl,w3,w3',w3S,w3Z⟩:=Quh Tryz.underlying25 Tryz.underlying23 (by kernel_rfl) (h3.trans (List.getElem?_eq_getElem (by omega:3<xs.length)))
 obtain⟨z4a,z4c,z4,rfl,w4,w4',w4S,w4Z⟩:=Qf8 Tryz.underlying26 Tryz.underlying9 (by kernel_rfl) (h4.trans (List.getElem?_eq_getElem (by omega:4<xs.length)))
 obtain⟨z5a,z5c,z5,rfl,w5,w5',w5S,w5Z⟩:=Qf8 Tryz.underlying26 Tryz.underlying9 (by kernel_rfl) (h5.trans (List.getElem?_eq_getElem (by omega:5<xs.length)))
 exact⟨z0,z1,z2a,z2c,z2,z3a,z3c,z3,z4a,z4c,z4,z5a,z5c,z5,rfl,rfl,rfl,rfl,rfl,rfl,w0,Qde w1,⟨w2,w2S,w2Z⟩,⟨w3,w3',w3S,w3Z⟩,⟨Nat.le_trans w4 w4',w4S,w4Z⟩,⟨Nat.le_trans w5 w5',w5S,w5Z⟩⟩
theorem Quk{v:Value}{d:DataW H}{p:List MemPlace}{r:Reach}{base:Nat}(hv:Value.okWide Tryz.prog w r base 28 v)(h:DataW.Trod enc Tryz.prog w 0 (λ _=>true) true 28 v d p):
  ∃(x0:ByteArray) (x1:Int) (x2a:Option Addr) (x2c:Nat) (x2:List RevD) (x3a:Option Addr) (x3c:Nat) (x3:List Int) (x4a:Option Addr) (x4c:Nat) (x4:List ByteArray) (x5a:Option Addr) (x5c:Nat) (x5:List ByteArray),v=.agg #[.string x0,.int .u64 x1,.slice x2a (len x2) x2c,.slice x3a (len x3) x3c,.slice x4a (len x4) x4c,.slice x5a (len x5) x5c]∧x0.size≤maxLen∧X8 x1∧(len x2≤maxLen∧RvsC (CW w) x2a x2∧∀i,i<len x2→RvOp (lth x2 i))∧(len x3≤x3c∧x3c≤maxLen∧(∀i,i<len x3→∃b off,x3a=some ⟨b,off,none⟩∧CW w b (off+i) (.int .u64 (nth x3 i)))∧∀i,i<len x3→X8 (nth x3 i))∧(len x4≤maxLen∧StrsC (CW w) x4a x4∧∀i,i<len x4→(sth x4 i).size≤maxLen)∧(len x5≤maxLen∧StrsC (CW w) x5a x5∧∀i,i<len x5→(sth x5 i).size≤maxLen):=by
 obtain⟨cs',rfl,hsz⟩:=okWide_struct Tryz.underlying28 hv
 have hsz':cs'.size=6:=hsz.trans (by kernel_rfl)
 obtain⟨l⟩:=cs'
 match l,hsz' with
 | [v0,v1,v2,v3,v4,v5],_=>
  obtain⟨fuel,hf⟩:=h
  simp only[Value.cells]at hf
  obtain⟨x0,x1,x2a,x2c,x2,x3a,x3c,x3,x4a,x4c,x4,x5a,x5c,x5,rfl,rfl,rfl,rfl,rfl,rfl,w0,w1,w2,w3,w4,w5⟩:=Qrp hf
  exact⟨x0,x1,x2a,x2c,x2,x3a,x3c,x3,x4a,x4c,x4,x5a,x5c,x5,rfl,w0,w1,w2,w3,w4,w5⟩
end
def Qz4(r:URow):DataW Unit:=.agg [.lit (.int .u8 r.lo),.lit (.int .u8 r.hi),.lit (.int .i64 r.size),.lit (.int .u64 r.least)]
theorem Qwu{w:World}{fuel:Nat}{cs':List Value}{r:URow}{q:List MemPlace}(hl:cs'.length=4)(h:DataW.trod (λ _=>()) Tryz.prog w 0 (λ _=>true) false fuel 338 cs'=some (Qz4 r,q)):cs'=r.cells:=by
 match cs',hl with
 | [v0,v1,v2,v3],_=>
  obtain⟨xs,m,_,e,_,hxl,hx⟩:=DataW.trod_struct Tryz.underlying338 h
  have cu:Tryz.prog.cellsOf 5=1:=by kernel_rfl
  have ci:Tryz.prog.cellsOf 3=1:=by kernel_rfl
  have cq:Tryz.prog.cellsOf 23=1:=by kernel_rfl
  have hxl':xs.length=4:=hxl;have h0:DataW.trod (λ _=>()) Tryz.prog w 0 (λ _=>true) false m 5 (([v0,v1,v2,v3].drop 0).take (Tryz.prog.cellsOf 5))=xs[0]?:=hx 0 _ rfl;have h1:DataW.trod (λ _=>()) Tryz.prog w 0 (λ _=>true) false m 5 (([v0,v1,v2,v3].drop 1).take (Tryz.prog.cellsOf 5))=xs[1]?:=hx 1 _ rfl;have h2:DataW.trod (λ _=>()) Tryz.prog w 0 (λ _=>true) false m 3 (([v0,v1,v2,v3].drop 2).take (Tryz.prog.cellsOf 3))=xs[2]?:=hx 2 _ rfl;have h3:DataW.trod (λ _=>()) Tryz.prog w 0 (λ _=>true) false m 23 (([v0,v1,v2,v3].drop 3).take (Tryz.prog.cellsOf 23))=xs[3]?:=hx 3 _ rfl
  rw[cu]at h0 h1
  rw[ci]at h2
  rw[cq]at h3
  match xs,hxl' with
  | [x0,x1,x2,x3],_=>
   obtain⟨n0,e0,y0,_⟩:=DataW.trod_int Tryz.underlying5 (show DataW.trod (λ _=>()) Tryz.prog w 0 (λ _=>true) false m 5 [v0]=some x0 from h0)
   obtain⟨n1,e1,y1,_⟩:=DataW.trod_int Tryz.underlying5 (show DataW.trod (λ _=>()) Tryz.prog w 0 (λ _=>true) false m 5 [v1]=some x1 from h1)
   obtain⟨n2,e2,y2,_⟩:=DataW.trod_int Tryz.underlying3 (show DataW.trod (λ _=>()) Tryz.prog w 0 (λ _=>true) false m 3 [v2]=some x2 from h2)
   obtain⟨n3,e3,y3,_⟩:=DataW.trod_int Tryz.underlying23 (show DataW.trod (λ _=>()) Tryz.prog w 0 (λ _=>true) false m 23 [v3]=some x3 from h3)
   subst y0 y1 y2 y3
   simp[Qz4]at e e0 e1 e2 e3
   obtain⟨⟨a0,a1,a2,a3⟩,_⟩:=e
   subst e0 e1 e2 e3
   unfold URow.cells
   rw[a0,a1,a2,a3]
theorem Qul{w:World}{fuel:Nat}{cs:List Value}{l:List URow}{p:List MemPlace}(h:DataW.trod (λ _=>()) Tryz.prog w 0 (λ _=>true) false fuel 313 cs=some (.slice (l.map Qz4) [],p))(hl:0<len l):
  ∃tb tq rc,cs=[.slice (some ⟨tb,tq,none⟩) (len l) rc]∧URows w (some ⟨tb,tq,none⟩) l:=by
 have hC:Tryz.prog.cellsOf 338=4:=by kernel_rfl
 rcases Go.Deep.open_slice Tryz.underlying313 h with⟨_,hx⟩ | ⟨a,n,c,m,q,D,Pl,hcs,_,hln,hm,hmm,hx,hi⟩
 ·simp at hx
 ·simp only[Prod.mk.injEq,DataW.slice.injEq]at hx
  obtain⟨⟨hD,_⟩,_⟩:=hx
  have hn:len l=n:=by have:=congrArg List.length hD;simpa [len] using this
  have hnm:n≤m:=by rw[hmm];simp;exact hln
  have each:∀i,i<len l→∃b off,a=⟨b,off,none⟩∧URowAt w b (off+i * 4) (Ja l i):=λ i hil=>by
   obtain⟨cs',hc,htr⟩:=hi i (by omega)
   rw[hC]at hc
   obtain⟨_,hcl,hat⟩:=World.cells?_some hc
   have hDi:D i=Qz4 (Ja l i):=by
    have h1:(l.map Qz4)[i]?=((List.range n).map D)[i]?:=by rw[hD]
    have hil':i<l.length:=hil
    rw[List.getElem?_map,List.getElem?_map,List.getElem?_eq_getElem hil',List.getElem?_range (by omega)]at h1
    rw[Qeu l i hil]
    exact(Option.some.inj h1).symm
   rw[hDi]at htr
   have hcs':=Qwu hcl htr
   obtain⟨b,off,spot⟩:=a
   have hat0:=hat 0 (by decide)
   rw[hcs']at hat
   have hspot:spot=none:=by
    obtain⟨cs0,hc0,htr0⟩:=hi 0 (by omega)
    rw[hC]at hc0
    obtain⟨_,hcl0,hat0⟩:=World.cells?_some hc0
    have h1:=hat0 0 (by decide);have h2:cs0[0]?=some (cs0[0]'(by omega)):=List.getElem?_eq_getElem (by omega)
    rw[h2]at h1
    simpa [Addr.add] using World.cell?_spot h1
   subst hspot
   have key:∀j,j<4→w.cell? ⟨b,off+i * 4+j,none⟩=(Ja l i).cells[j]?:=λ j hj=>by
    have h1:=hat j hj
    rw[Go.Deep.add_add]at h1
    have e:(⟨b,off,none⟩:Addr).add (i * 4+j)=⟨b,off+i * 4+j,none⟩:=by
     unfold Addr.add;split
     ·rename_i h0;simp <;> omega
     ·simp[Nat.add_assoc]
    rw[e]at h1;exact h1
   exact⟨b,off,rfl,key 0 (by decide),key 1 (by decide),key 2 (by decide),key 3 (by decide)⟩
  obtain⟨b,off,rfl,_⟩:=each 0 hl
  refine⟨b,off,c,by rw[hn];exact hcs,λ i hil=>?_⟩
  obtain⟨b',off',e,hR⟩:=each i hil
  cases e
  exact⟨b,off,rfl,hR⟩
theorem Qnj{W:World}{nm:String}{g:Nat}{l:List URow}{cs:Array Value}{fuel:Nat}{p:List MemPlace}(hl:0<len l)(hg:Tryz.prog.globalNamed nm=some g)(hv:W.var? Tryz.prog nm=some cs)
  (h:DataW.trod (λ _=>()) Tryz.prog W 0 (λ _=>true) false fuel 313 cs.toList=some (.slice (l.map Qz4) [],p)):TabAt W.heap.size W g l:=by
 obtain⟨tb,tq,rc,hcs,hr⟩:=Qul h hl
 have hc:W.cell? ⟨g,0,none⟩=some (.slice (some ⟨tb,tq,none⟩) (len l) rc):=by
  have:=World.var?_cell hg hv 0
  rw[Array.eq_one_of_toList hcs]at this
  simpa using this
 obtain⟨b',off',e,hR⟩:=hr 0 hl
 cases e
 exact⟨tb,tq,rc,Qw hc,Qw hR.c0,Nat.le_refl _,hc,hr⟩
theorem Q1b:((List.range Tryz.prog.types.size).filter λ t=>Tryz.prog.rowNamed t [101,114,114,111,114])=[59]:=by kernel_rfl
def Qlp(r:PRow):DataW Unit:=.agg [.lit (.int .u64 r.below),.lit (.int .u8 r.first),.lit (.int .i64 r.size)]
theorem Qum{w:World}{fuel:Nat}{cs':List Value}{r:PRow}{q:List MemPlace}(hl:cs'.length=3)(h:DataW.trod (λ _=>()) Tryz.prog w 0 (λ _=>true) false fuel 332 cs'=some (Qlp r,q)):cs'=r.cells:=by
 match cs',hl with
 | [v0,v1,v2],_=>
  obtain⟨xs,m,_,e,_,hxl,hx⟩:=DataW.trod_struct Tryz.underlying332 h
  have cu:Tryz.prog.cellsOf 5=1:=by kernel_rfl
  have ci:Tryz.prog.cellsOf 3=1:=by kernel_rfl
  have cq:Tryz.prog.cellsOf 23=1:=by kernel_rfl
  have hxl':xs.length=3:=hxl;have h0:DataW.trod (λ _=>()) Tryz.prog w 0 (λ _=>true) false m 23 (([v0,v1,v2].drop 0).take (Tryz.prog.cellsOf 23))=xs[0]?:=hx 0 _ rfl;have h1:DataW.trod (λ _=>()) Tryz.prog w 0 (λ _=>true) false m 5 (([v0,v1,v2].drop 1).take (Tryz.prog.cellsOf 5))=xs[1]?:=hx 1 _ rfl;have h2:DataW.trod (λ _=>()) Tryz.prog w 0 (λ _=>true) false m 3 (([v0,v1,v2].drop 2).take (Tryz.prog.cellsOf 3))=xs[2]?:=hx 2 _ rfl
  rw[cq]at h0
  rw[cu]at h1
  rw[ci]at h2
  match xs,hxl' with
  | [x0,x1,x2],_=>
   obtain⟨n0,e0,y0,_⟩:=DataW.trod_int Tryz.underlying23 (show DataW.trod (λ _=>()) Tryz.prog w 0 (λ _=>true) false m 23 [v0]=some x0 from h0)
   obtain⟨n1,e1,y1,_⟩:=DataW.trod_int Tryz.underlying5 (show DataW.trod (λ _=>()) Tryz.prog w 0 (λ _=>true) false m 5 [v1]=some x1 from h1)
   obtain⟨n2,e2,y2,_⟩:=DataW.trod_int Tryz.underlying3 (show DataW.trod (λ _=>()) Tryz.prog w 0 (λ _=>true) false m 3 [v2]=some x2 from h2)
   subst y0 y1 y2
   simp[Qlp]at e e0 e1 e2
   obtain⟨⟨a0,a1,a2⟩,_⟩:=e
   subst e0 e1 e2
   unfold PRow.cells
   rw[a0,a1,a2]
theorem Qrq{w:World}{fuel:Nat}{cs:List Value}{l:List PRow}{p:List MemPlace}(h:DataW.trod (λ _=>()) Tryz.prog w 0 (λ _=>true) false fuel 334 cs=some (.slice (l.map Qlp) [],p))(hl:0<len l):
  ∃tb tq rc,cs=[.slice (some ⟨tb,tq,none⟩) (len l) rc]∧Qsi w (some ⟨tb,tq,none⟩) l:=by
 have hC:Tryz.prog.cellsOf 332=3:=by kernel_rfl
 rcases Go.Deep.open_slice Tryz.underlying334 h with⟨_,hx⟩ | ⟨a,n,c,m,q,D,Pl,hcs,_,hln,hm,hmm,hx,hi⟩
 ·simp at hx
 ·simp only[Prod.mk.injEq,DataW.slice.injEq]at hx
  obtain⟨⟨hD,_⟩,_⟩:=hx
  have hn:len l=n:=by have:=congrArg List.length hD;simpa [len] using this
  have hnm:n≤m:=by rw[hmm];simp;exact hln
  have each:∀i,i<len l→∃b off,a=⟨b,off,none⟩∧PRowAt w b (off+i * 3) (Qj0 l i):=λ i hil=>by
   obtain⟨cs',hc,htr⟩:=hi i (by omega)
   rw[hC]at hc
   obtain⟨_,hcl,hat⟩:=World.cells?_some hc
   have hDi:D i=Qlp (Qj0 l i):=by
    have h1:(l.map Qlp)[i]?=((List.range n).map D)[i]?:=by rw[hD]
    have hil':i<l.length:=hil
    rw[List.getElem?_map,List.getElem?_map,List.getElem?_eq_getElem hil',List.getElem?_range (by omega)]at h1
    rw[Qii l i hil]
    exact(Option.some.inj h1).symm
   rw[hDi]at htr
   have hcs':=Qum hcl htr
   obtain⟨b,off,spot⟩:=a
   have hat0:=hat 0 (by decide)
   rw[hcs']at hat
   have hspot:spot=none:=by
    obtain⟨cs0,hc0,htr0⟩:=hi 0 (by omega)
    rw[hC]at hc0
    obtain⟨_,hcl0,hat0⟩:=World.cells?_some hc0
    have h1:=hat0 0 (by decide);have h2:cs0[0]?=some (cs0[0]'(by omega)):=List.getElem?_eq_getElem (by omega)
    rw[h2]at h1
    simpa [Addr.add] using World.cell?_spot h1
   subst hspot
   have key:∀j,j<3→w.cell? ⟨b,off+i * 3+j,none⟩=(Qj0 l i).cells[j]?:=λ j hj=>by
    have h1:=hat j hj
    rw[Go.Deep.add_add]at h1
    have e:(⟨b,off,none⟩:Addr).add (i * 3+j)=⟨b,off+i * 3+j,none⟩:=by
     unfold Addr.add;split
     ·rename_i h0;simp <;> omega
     ·simp[Nat.add_assoc]
    rw[e]at h1;exact h1
   exact⟨b,off,rfl,key 0 (by decide),key 1 (by decide),key 2 (by decide)⟩
  obtain⟨b,off,rfl,_⟩:=each 0 hl
  refine⟨b,off,c,by rw[hn];exact hcs,λ i hil=>?_⟩
  obtain⟨b',off',e,hR⟩:=each i hil
  cases e
  exact⟨b,off,rfl,hR⟩
def Qzd:DataW Unit:=.agg ([0,1,2,3,4].map λ k=>.slice ((Xz k).map Qlp) [])
theorem Qze{W:World}{g:Nat}{cs:Array Value}{fuel:Nat}{p:List MemPlace}(hgg:g=4)(hg:Tryz.prog.globalNamed "sextant/pack.rows"=some g)(hv:W.var? Tryz.prog "sextant/pack.rows"=some cs)
  (h:DataW.trod (λ _=>()) Tryz.prog W 0 (λ _=>true) false fuel 335 cs.toList=some (Qzd,p)):PTab W.heap.size W:=by
 obtain⟨xs,m,_,e,hcl,hxl,hx⟩:=DataW.trod_array Tryz.underlying335 h
 have hC:Tryz.prog.cellsOf 334=1:=by kernel_rfl
 have hC5:Tryz.prog.cellsOf 335=5:=by kernel_rfl
 rw[hC5]at hcl
 rw[hC]at hx
 have hd:Qzd=.agg (xs.map (·.1)):=congrArg Prod.fst e
 unfold Qzd at hd
 have hd2:([0,1,2,3,4].map λ k=>(DataW.slice ((Xz k).map Qlp) []:DataW Unit))=xs.map (·.1):=by injection hd
 subst hgg
 have key:∀k,k<5→∃tb tq rc,cs[k]?=some (.slice (some ⟨tb,tq,none⟩) (len (Xz k)) rc)∧Qsi W (some ⟨tb,tq,none⟩) (Xz k):=λ k hk=>by
  have hxk:k<xs.length:=by omega
  have h1:=hx k hk
  rw[List.getElem?_eq_getElem hxk]at h1
  have h2:(xs[k]'hxk).1=.slice ((Xz k).map Qlp) []:=by
   have h3:(xs.map (·.1))[k]?=some (xs[k]'hxk).1:=by rw[List.getElem?_map,List.getElem?_eq_getElem hxk];rfl
   rw[←hd2,List.getElem?_map]at h3
   have h4:[0,1,2,3,4][k]?=some k:=by
    have:k=0 ∨ k=1 ∨ k=2 ∨ k=3 ∨ k=4:=by omega
    rcases this with rfl | rfl | rfl | rfl | rfl <;> rfl
   rw[h4]at h3
   exact(Option.some.inj h3).symm
  have h5:DataW.trod (λ _=>()) Tryz.prog W 0 (λ _=>true) false m 334 ((cs.toList.drop (k * 1)).take 1)=some (.slice ((Xz k).map Qlp) [],(xs[k]'hxk).2):=by rw[h1,←h2]
  obtain⟨tb,tq,rc,hcs,hr⟩:=Qrq h5 (Qmi k)
  refine⟨tb,tq,rc,?_,hr⟩
  have h6:((cs.toList.drop (k * 1)).take 1)[0]?=some (.slice (some ⟨tb,tq,none⟩) (len (Xz k)) rc):=by rw[hcs];rfl
  rw[List.getElem?_take,if_pos (by decide),List.getElem?_drop]at h6
  simpa using h6
 have hlt:4<W.heap.size:=by
  obtain⟨tb,tq,rc,h1,h2⟩:=key 0 (by decide)
  have:=World.var?_cell hg hv 0
  exact Qw (this.trans h1)
 refine⟨hlt,Nat.le_refl _,λ k hk=>?_⟩
 obtain⟨tb,tq,rc,h1,h2⟩:=key k hk
 refine⟨tb,tq,rc,?_,(World.var?_cell hg hv k).trans h1,h2⟩
 obtain⟨b,off,e,hR⟩:=h2 0 (Qmi k)
 cases e
 exact Qw hR.c0
theorem Qwv{W:World}(h:laidMetH Tryz.prog Rows.wirePartsRow.laid W):TE7 W.heap.size W:=by
 have h':laidMet Tryz.prog (Rows.wirePartsRow.laid.filter λ x=>x.2.handleName?.isNone) W∧handlesMet Tryz.prog (Rows.wirePartsRow.laid.filter λ x=>x.2.handleName?.isSome) W:=h
 obtain⟨⟨ps,⟨gp,tp,csp,fp,pp,qp,hgp,htp,hvp,hdp,⟨g0,t0,cs0,f0,p0,q0,hg0,ht0,hv0,hd0,⟨g1,t1,cs1,f1,p1,q1,hg1,ht1,hv1,hd1,⟨g2,t2,cs2,f2,p2,q2,hg2,ht2,hv2,hd2,⟨g3,t3,cs3,f3,p3,q3,hg3,ht3,hv3,hd3,⟨g4,t4,cs4,f4,p4,q4,hg4,ht4,hv4,hd4,_⟩,_⟩,_⟩,_⟩,_⟩,_⟩,_,_⟩,hH⟩:=h'
 obtain rfl:4=gp:=Option.some.inj ((show _=some 4 by kernel_rfl).symm.trans hgp)
 obtain rfl:335=tp:=Option.some.inj ((show _=some 335 by kernel_rfl).symm.trans htp)
 obtain rfl:1=g0:=Option.some.inj ((show _=some 1 by kernel_rfl).symm.trans hg0)
 obtain rfl:313=t0:=Option.some.inj ((show _=some 313 by kernel_rfl).symm.trans ht0)
 obtain rfl:5=g1:=Option.some.inj ((show _=some 5 by kernel_rfl).symm.trans hg1)
 obtain rfl:313=t1:=Option.some.inj ((show _=some 313 by kernel_rfl).symm.trans ht1)
 obtain rfl:3=g2:=Option.some.inj ((show _=some 3 by kernel_rfl).symm.trans hg2)
 obtain rfl:313=t2:=Option.some.inj ((show _=some 313 by kernel_rfl).symm.trans ht2)
 obtain rfl:6=g3:=Option.some.inj ((show _=some 6 by kernel_rfl).symm.trans hg3)
 obtain rfl:313=t3:=Option.some.inj ((show _=some 313 by kernel_rfl).symm.trans ht3)
 obtain rfl:2=g4:=Option.some.inj ((show _=some 2 by kernel_rfl).symm.trans hg4)
 obtain rfl:313=t4:=Option.some.inj ((show _=some 313 by kernel_rfl).symm.trans ht4)
 have hET:ErrType W:=by
  obtain⟨name,u,ty,e1,e2,e3,e4,e5⟩:=hH Rows.wirePartsRow.laid[1] (List.mem_singleton.2 rfl)
  have en:name=[101,114,114,111,114]:=(Option.some.inj e1).symm
  subst en
  obtain rfl:284=u:=Option.some.inj ((show _=some 284 by kernel_rfl).symm.trans e2)
  have hm:ty ∈ (List.range Tryz.prog.types.size).filter λ t=>Tryz.prog.rowNamed t [101,114,114,111,114]:=List.mem_filter.2 ⟨List.mem_range.2 e3,e4⟩
  rw[Q1b]at hm
  obtain rfl:=List.mem_singleton.1 hm
  have hg:Tryz.prog.globalNamed Rows.wirePartsRow.laid[1].1=some 0:=(by kernel_rfl)
  exact World.var?_cell hg e5 0
 exact⟨Qze rfl hgp hvp hdp,⟨Qnj (by decide) hg0 hv0 hd0,Qnj (by decide) hg3 hv3 hd3,Qnj (by decide) hg1 hv1 hd1,Qnj (by decide) hg2 hv2 hd2,Qnj (by decide) hg4 hv4 hd4⟩,hET,Nat.le_refl _,Qw hET⟩
def Qvf:List Nat→Nat
 | []=>0
 | n :: r=>n+Qvf r
theorem Qp3(f:FSpec→ByteArray)(g:FSpec→Nat):∀l:List FSpec,(∀x ∈ l,(f x).size≤g x)→(Xo ((l.filter λ x=>!x.empty).map f)).size≤Qvf (l.map g)
 | [],_=>by simp[Xo,Qvf]
 | x :: r,h=>by
  have h1:=h x (List.mem_cons_self ..);have h2:=Qp3 f g r (λ y hy=>h y (List.mem_cons_of_mem _ hy))
  rw[List.map_cons,Qvf,List.filter_cons]
  split
  ·rw[List.map_cons,Xo,ByteArray.size_append];omega
  ·omega
theorem Qhy(fs:List FSpec)(g:FSpec→Nat)(h:∀f ∈ fs,f.key.size≤1∧f.bytes.size≤g f):(Qbj fs).size≤9+Qvf (fs.map λ f=>10+g f):=by
 unfold Qbj
 rw[ByteArray.size_append]
 have h1:(Qhs (J6 fs).length).size≤9:=Zu 4 _ ByteArray.empty;have h2:=Qp3 Jh (λ f=>10+g f) fs (λ f hf=>by
  obtain⟨h3,h4⟩:=h f hf
  unfold Jh
  rw[ByteArray.size_append]
  have h5:(Qpd f.key).size≤9+f.key.size:=Zu 2 _ _
  omega)
 have h3:(Xo ((J6 fs).map Jh)).size≤Qvf (fs.map λ f=>10+g f):=h2
 omega
theorem Q1c{idx:Int}{ws ps:List ByteArray}(h:Q8 (Zk idx ws ps)=true):(Qbj (Zk idx ws ps)).size≤3500:=by
 have h1:=Qbd (X9 h ⟨⟨#[112]⟩,false,decide (len ps=0),Qab ps 16,Qdh ps⟩ (by unfold Zk;simp));have h2:=Qbd (X9 h ⟨⟨#[118]⟩,false,decide (len ws=0),Qab ws 67,Qdh ws⟩ (by unfold Zk;simp));have h3:=Xb idx;have:=Qhy (Zk idx ws ps) (λ f=>f.bytes.size) (λ f hf=>⟨by
  unfold Zk at hf
  simp only[List.mem_cons,List.not_mem_nil,or_false]at hf
  rcases hf with rfl | rfl | rfl <;> exact Nat.le_refl _,Nat.le_refl _⟩)
 have e:Qvf ((Zk idx ws ps).map λ f=>10+f.bytes.size)=(10+(Xr idx).size)+((10+(Qdh ps).size)+((10+(Qdh ws).size)+0)):=rfl
 rw[e]at this
 omega
theorem Qzf{L:Int}{q:Bool}{idx:Int}{ws ps:List ByteArray}(h:Q8 (Q3 L q idx ws ps)=true):(Qbj (Q3 L q idx ws ps)).size≤3600:=by
 have h1:=Q1c (idx:=idx) (ws:=ws) (ps:=ps) (X9 h (Jn ⟨#[103]⟩ (Zk idx ws ps)) (by unfold Q3;simp));have h2:=Xb L;have h3:=Xb 1;have:=Qhy (Q3 L q idx ws ps) (λ f=>f.bytes.size) (λ f hf=>⟨by
  unfold Q3 at hf
  simp only[List.mem_cons,List.not_mem_nil,or_false]at hf
  rcases hf with rfl | rfl | rfl <;> exact Nat.le_refl _,Nat.le_refl _⟩)
 have e:Qvf ((Q3 L q idx ws ps).map λ f=>10+f.bytes.size)=(10+(Qbj (Zk idx ws ps)).size)+((10+(Xr L).size)+((10+(Xr 1).size)+0)):=rfl
 rw[e]at this
 omega
theorem Qx2{d:RevD}(h:Q8 (Zh d)=true):(Qe7 d).size≤4000:=by
 have h1:=Qx1 (root:=d.root) (weight:=d.wt) (first:=d.first) (life:=d.life) (keys:=d.keys) (X9 h (Jn ⟨#[113]⟩ (Q5 d.root d.wt d.first d.life d.keys)) (by unfold Zh;simp));have h2:=Qzf (L:=d.L) (q:=d.signed) (idx:=d.idx) (ws:=d.ws) (ps:=d.ps) (X9 h (Jn ⟨#[115]⟩ (Q3 d.L d.signed d.idx d.ws d.ps)) (by unfold Zh;simp));have h3:=Xb d.pos;have:=Qhy (Zh d) (λ f=>f.bytes.size) (λ f hf=>⟨by
  unfold Zh at hf
  simp only[List.mem_cons,List.not_mem_nil,or_false]at hf
  rcases hf with rfl | rfl | rfl <;> exact Nat.le_refl _,Nat.le_refl _⟩)
 have e:Qvf ((Zh d).map λ f=>10+f.bytes.size)=(10+(Xr d.pos).size)+((10+(Qbj (Q5 d.root d.wt d.first d.life d.keys)).size)+((10+(Qbj (Q3 d.L d.signed d.idx d.ws d.ps)).size)+0)):=rfl
 rw[e]at this
 show(Qbj (Zh d)).size≤4000
 omega
theorem Qp4{l:List ByteArray}{n m:Nat}(h:Qab l n=true)(hm:len l≤m):Qab l m=true:=(Qlc l m).2 ⟨hm,((Qlc l n).1 h).2⟩
theorem Qzg{root:ByteArray}{sg:Int}{rs:List RevD}{cs:List Int}{sp pp:List ByteArray}(h:Q8 (Za root sg rs cs sp pp)=true)(hr:len rs≤8)(hs:len sp≤20)(hp:len pp≤20):(Qbj (Za root sg rs cs sp pp)).size≤60000:=by
 have h1:=Qbd (Qp4 (X9 h ⟨⟨#[80]⟩,false,decide (len pp=0),Qab pp 10240,Qdh pp⟩ (by unfold Za;simp)) hp);have h2:=Qbd (Qp4 (X9 h ⟨⟨#[83]⟩,false,decide (len sp=0),Qab sp 10240,Qdh sp⟩ (by unfold Za;simp)) hs);have hq:root.size=32:=of_decide_eq_true (X9 h ⟨⟨#[99]⟩,true,false,decide (root.size=32),Jv root⟩ (by unfold Za;simp));have h3:len cs≤640:=of_decide_eq_true (X9 h ⟨⟨#[112]⟩,false,decide (len cs=0),decide (len cs≤640),Z0 (len cs)++Xo (cs.map Xr)⟩ (by unfold Za;simp));have h4:=(Qld rs 640).1 (X9 h ⟨⟨#[114]⟩,false,decide (len rs=0),Qps rs 640,Z0 (len rs)++Xo (rs.map Qe7)⟩ (by unfold Za;simp));have hb:=Qdd root;have hn:=Xb sg;have q1:(Z0 (len cs)).size≤9:=Zu 3 _ ByteArray.empty;have q2:=X7 Xr 9 cs (λ x _=>Xb x);have q3:(Z0 (len rs)).size≤9:=Zu 3 _ ByteArray.empty;have q4:=X7 Qe7 4000 rs (λ x hx=>Qx2 (h4.2 x hx));have:=Qhy (Za root sg rs cs sp pp) (λ f=>f.bytes.size) (λ f hf=>⟨by
  unfold Za at hf
  simp only[List.mem_cons,List.not_mem_nil,or_false]at hf
  rcases hf with rfl | rfl | rfl | rfl | rfl | rfl <;> exact Nat.le_refl _,Nat.le_refl _⟩)
 have e:Qvf ((Za root sg rs cs sp pp).map λ f=>10+f.bytes.size)=(10+(Qdh pp).size)+((10+(Qdh sp).size)+((10+(Jv root).size)+((10+(Z0 (len cs)++Xo (cs.map Xr)).size)+((10+(Z0 (len rs)++Xo (rs.map Qe7)).size)+((10+(Xr sg).size)+0))))):=rfl
 rw[e,ByteArray.size_append,ByteArray.size_append]at this
 rw[Zm]at h3 hr
 omega
def Qg3(d:RevD):BPs:=[(⟨#[112]⟩,Qbb d.pos),(⟨#[113]⟩,Zw (Qdt d.root d.wt d.first d.life d.keys)),(⟨#[115]⟩,Jr (Zw (Jz d.L d.signed d.idx d.ws d.ps)))]
theorem Qrr{root:ByteArray}{weight first life keys:Int}(hr:root.size<65536):(Zw (Qdt root weight first life keys)).size≤70000:=by
 have h0:=Qi6 (Qdt root weight first life keys);have h1:(Qfa (Qdt root weight first life keys)).size≤_:=Qba ([]++[(⟨#[102]⟩,Qbb first)]++[(⟨#[107]⟩,Qbb keys)]++[(⟨#[108]⟩,Qbb life)]++[(⟨#[114]⟩,Jv root)]) ⟨#[119]⟩ (Qbb weight);have h2:=Qba ([]++[(⟨#[102]⟩,Qbb first)]++[(⟨#[107]⟩,Qbb keys)]++[(⟨#[108]⟩,Qbb life)]) ⟨#[114]⟩ (Jv root);have h3:=Qba ([]++[(⟨#[102]⟩,Qbb first)]++[(⟨#[107]⟩,Qbb keys)]) ⟨#[108]⟩ (Qbb life);have h4:=Qba ([]++[(⟨#[102]⟩,Qbb first)]) ⟨#[107]⟩ (Qbb keys);have h5:=Qba [] ⟨#[102]⟩ (Qbb first);have n1:=Z6 weight;have n2:=Z6 first;have n3:=Z6 life;have n4:=Z6 keys;have n5:=Qdd root;have e0:(Qfa []).size=0:=rfl;have e1:(⟨#[102]⟩:ByteArray).size=1:=rfl;have e2:(⟨#[107]⟩:ByteArray).size=1:=rfl;have e3:(⟨#[108]⟩:ByteArray).size=1:=rfl;have e4:(⟨#[114]⟩:ByteArray).size=1:=rfl;have e5:(⟨#[119]⟩:ByteArray).size=1:=rfl
 omega
theorem len3(k1 k2 k3 v1 v2 v3:ByteArray):(Zw [(k1,v1),(k2,v2),(k3,v3)]).size≤36+k1.size+v1.size+k2.size+v2.size+k3.size+v3.size:=by
 have h0:=Qi6 [(k1,v1),(k2,v2),(k3,v3)];have h1:(Qfa [(k1,v1),(k2,v2),(k3,v3)]).size≤_:=Qba ([]++[(k1,v1)]++[(k2,v2)]) k3 v3;have h2:=Qba ([]++[(k1,v1)]) k2 v2;have h3:=Qba [] k1 v1;have e0:(Qfa []).size=0:=rfl
 omega
theorem Qrs(L:Int)(q:Bool)(idx:Int){ws ps:List ByteArray}(hw:Qhk ws)(hp:Qhk ps):(Zw (Jz L q idx ws ps)).size≤10000000000:=by
 have h4:(Jr (Zw (Qav idx ws ps))).size≤9000000000:=Qg0 (Qnc idx hw hp);have h5:=Z6 L;have h6:(if q then Xr 1 else(⟨#[]⟩:ByteArray)).size≤9:=by
  cases q with
  | true=>exact Xb 1
  | false=>exact Nat.zero_le _
 unfold Jz
 generalize Jr (Zw (Qav idx ws ps))=v1 at h4 ⊢
 generalize Qbb L=v2 at h5 ⊢
 generalize (if q then Xr 1 else(⟨#[]⟩:ByteArray))=v3 at h6 ⊢
 have h:=len3 ⟨#[103]⟩ ⟨#[108]⟩ ⟨#[115]⟩ v1 v2 v3;have e1:(⟨#[103]⟩:ByteArray).size=1:=rfl;have e2:(⟨#[108]⟩:ByteArray).size=1:=rfl;have e3:(⟨#[115]⟩:ByteArray).size=1:=rfl
 omega
theorem Qww(d:RevD)(hr:d.root.size<65536)(hw:len d.ws<65536)(hp:len d.ps<65536):Qbj (Zh d)=Zw (Qg3 d):=by
 have k1:∀p ∈ Qav d.idx d.ws d.ps,p.1.size<65536:=λ p hp=>by
  simp only[Qav,List.mem_cons,List.not_mem_nil,or_false]at hp
  rcases hp with rfl | rfl | rfl <;> (show(1:Nat)<65536;decide)
 have k2:∀p ∈ Jz d.L d.signed d.idx d.ws d.ps,p.1.size<65536:=λ p hp=>by
  simp only[Jz,List.mem_cons,List.not_mem_nil,or_false]at hp
  rcases hp with rfl | rfl | rfl <;> (show(1:Nat)<65536;decide)
 have hs:FPs (Q3 d.L d.signed d.idx d.ws d.ps) (Jz d.L d.signed d.idx d.ws d.ps):=⟨⟨rfl,Qtv (Qll d.idx d.ws d.ps hw hp) (by simp[Qav]) k1⟩,⟨rfl,Qf2 ⟨#[]⟩ d.L⟩,⟨rfl,Qx0 d.signed⟩,trivial⟩;have hpart:=Qtw d.root d.wt d.first d.life d.keys hr;have hpe:((Q5 d.root d.wt d.first d.life d.keys).all λ f=>f.empty)=false:=by
  show(_ && (_ && (_ && (false && _))))=false
  simp
 have hpz:0<(Zw (Qdt d.root d.wt d.first d.life d.keys)).size:=by
  rw[←hpart]
  unfold Qbj
  rw[ByteArray.size_append]
  have h:=Qb8 4 (J6 (Q5 d.root d.wt d.first d.life d.keys)).length ByteArray.empty (by decide) (λ _=>by have:=Qtl (Q5 d.root d.wt d.first d.life d.keys);have:(Q5 d.root d.wt d.first d.life d.keys).length=5:=rfl;omega);have e:(Qhs (J6 (Q5 d.root d.wt d.first d.life d.keys)).length).size=(Qa7 4 ((J6 (Q5 d.root d.wt d.first d.life d.keys)).length:Nat) ByteArray.empty).size:=rfl
  omega
 refine Qlj ⟨⟨rfl,Qf2 ⟨#[]⟩ d.pos⟩,⟨rfl,⟨λ h=>?_,λ h=>?_⟩,λ _=>hpart⟩,⟨rfl,Qtv hs (by simp[Jz]) k2⟩,trivial⟩
 ·have:((Q5 d.root d.wt d.first d.life d.keys).all λ f=>f.empty)=true:=h
  rw[hpe]at this;cases this
 ·have h':(Zw (Qdt d.root d.wt d.first d.life d.keys)).size=0:=h
  omega
theorem Qow(B:Nat)(d:RevD)(a4 a5:Option Addr)(k4 k5:Nat)(w:World)(bd:RvBd d)(hr:d.root.size<65536)(hs1:Strs B w a4 d.ws)(hs2:Strs B w a5 d.ps)(hw:Qhk d.ws)(hp:Qhk d.ps):
  Calls Tryz.prog 98 #[.agg #[.int .u64 d.pos,.int .u64 d.L,.bool d.signed,.int .u64 d.idx,.slice a4 (len d.ws) k4,.slice a5 (len d.ps) k5,.string d.root,.int .u64 d.wt,.int .u64 d.first,.int .u64 d.life,.int .u64 d.keys]] w λ e w'=>e=.returned (.string (Zw (Qg3 d)))∧Below w.heap.size w w':=by
 have HS1:=QLh hs1;have HS2:=QLh hs2;have HBD:=QLh bd;have HRZ:=QLh hr;have hd1:(Zw (Qdt d.root d.wt d.first d.life d.keys)).size≤70000:=Qrr hr;have hd2:(Jr (Zw (Jz d.L d.signed d.idx d.ws d.ps))).size≤10000000000:=Qg0 (Qrs d.L d.signed d.idx hw hp);have HW:=QLh hw;have HPA:=QLh hp;clear hs1 hs2 hw hp bd hr
 go_enter Tryz.func98,Tryz.ntmps98
 go_upto_region 2 with fail
 obtain⟨V,hV⟩:∃V,(w.alloc (.cells #[.int .u64 d.pos,.int .u64 d.L,.bool d.signed,.int .u64 d.idx,.slice a4 (len d.ws) k4,.slice a5 (len d.ps) k5,.string d.root,.int .u64 d.wt,.int .u64 d.first,.int .u64 d.life,.int .u64 d.keys] 48)).alloc (.cells #[.int .u64 0,.string ⟨#[]⟩] 141)=V:=⟨_,rfl⟩
 have HB:Hid (Below w.heap.size w V):=QLh (by rw[←hV];(repeat (first | exact Below.refl _ _ | assumption | (refine Zd ?_) | (refine Zc ?_ _) | (refine Qh ?_ _) | (refine Zs ?_ (by first | omega | (simp;done) | (simp;omega)) _) | (refine Qk ?_ (by assumption)))))
 have HP:Hid (V.heap[w.heap.size]?=some (.cells #[.int .u64 d.pos,.int .u64 d.L,.bool d.signed,.int .u64 d.idx,.slice a4 (len d.ws) k4,.slice a5 (len d.ps) k5,.string d.root,.int .u64 d.wt,.int .u64 d.first,.int .u64 d.life,.int .u64 d.keys] 48 (0,0))):=QLh (by rw[←hV];exact Qf (heap_alloc_new _ _) _);have HY:Hid (LyB V (w.heap.size+1) []):=QLh (by rw[←hV];exact Qi _ (by simp));have cP:∀o,V.cell? ⟨w.heap.size,o,none⟩=_:=Qa HP.out
 rw[hV]
 clear hV;have HZ:Hid ((Qfa []).size≤0 * 25000000000):=QLh (by decide)
 go_wp2_with fail
 refine(Qbq d.pos V HBD.out.pos.1 HBD.out.pos.2).mono ?_
 rintro e w1 ⟨rfl,hb⟩
 have HP:=QLh ((hb.block _ (lt_of_block HP.out)).trans HP.out);have HY:=QLh (HY.out.below hb);have HB:=QLh (Qk HB.out hb);clear hb
 try clear cP
 go_wp2_with fail
 refine(Jc _ _ ⟨#[112]⟩ (Qbb d.pos) w1 HY.out (by decide) (by simp) (by have:=HZ.out;omega) (by have:=Z6 d.pos;omega)).mono ?_
 rintro e w2 ⟨rfl,hx,hl⟩
 have HZ:=Qjp (k:=⟨#[112]⟩) (v:=Qbb d.pos) HZ rfl (by have:=Z6 d.pos;omega);have HP:=QLh (Qn hx (by simp) HP.out);have HY:=QLh hl;have HB:=QLh (HB.out.trans (Jb hx (by omega) HB.out.size));have cP:∀o,World.cell? w2 ⟨w.heap.size,o,none⟩=_:=Qa HP.out;clear hx hl
 go_wp2_with fail
 refine(Qnb d.root d.wt d.first d.life d.keys w2 HRZ.out HBD.out.wt HBD.out.first HBD.out.life HBD.out.keys).mono ?_
 rintro e w3 ⟨rfl,hb⟩
 have HP:=QLh ((hb.block _ (lt_of_block HP.out)).trans HP.out);have HY:=QLh (HY.out.below hb);have HB:=QLh (Qk HB.out hb);clear hb
 try clear cP
 go_wp2_with fail
 refine(Jc _ _ ⟨#[113]⟩ (Zw (Qdt d.root d.wt d.first d.life d.keys)) w3 HY.out (by decide) (by simp) (by have:=HZ.out;omega) (by have:=hd1;omega)).mono ?_
 rintro e w4 ⟨rfl,hx,hl⟩
 have HZ:=Qjp (k:=⟨#[113]⟩) (v:=Zw (Qdt d.root d.wt d.first d.life d.keys)) HZ rfl (by have:=hd1;omega);have HP:=QLh (Qn hx (by simp) HP.out);have HY:=QLh hl;have HB:=QLh (HB.out.trans (Jb hx (by omega) HB.out.size));have cP:∀o,World.cell? w4 ⟨w.heap.size,o,none⟩=_:=Qa HP.out;clear hx hl
 go_wp2_with fail
 refine(Qhd B d.L d.signed d.idx a4 a5 k4 k5 d.ws d.ps w4 HBD.out.idx HBD.out.L (HS1.out.below HB.out) (HS2.out.below HB.out) HW.out HPA.out).mono ?_
 rintro e w5 ⟨rfl,hb⟩
 have HP:=QLh ((hb.block _ (lt_of_block HP.out)).trans HP.out);have HY:=QLh (HY.out.below hb);have HB:=QLh (Qk HB.out hb);clear hb
 try clear cP
 go_wp2_with fail
 refine(Qkg _ w5).mono ?_
 rintro e w5b ⟨rfl,hb⟩
 have HP:=QLh ((hb.block _ (lt_of_block HP.out)).trans HP.out);have HY:=QLh (HY.out.below hb);have HB:=QLh (Qk HB.out hb);clear hb
 try clear cP
 go_wp2_with fail
 refine(Jc _ _ ⟨#[115]⟩ (Jr (Zw (Jz d.L d.signed d.idx d.ws d.ps))) w5b HY.out (by decide) (by simp) (by have:=HZ.out;omega) (by have:=hd2;omega)).mono ?_
 rintro e w6 ⟨rfl,hx,hl⟩
 have HZ:=Qjp (k:=⟨#[115]⟩) (v:=Jr (Zw (Jz d.L d.signed d.idx d.ws d.ps))) HZ rfl (by have:=hd2;omega);have HP:=QLh (Qn hx (by simp) HP.out);have HY:=QLh hl;have HB:=QLh (HB.out.trans (Jb hx (by omega) HB.out.size));have cP:∀o,World.cell? w6 ⟨w.heap.size,o,none⟩=_:=Qa HP.out;clear hx hl
 go_wp2_with fail
 refine(Qbs _ _ w6 HY.out (by simp) (by have:=HZ.out;omega)).mono ?_
 rintro e w11 ⟨rfl,hb⟩
 have HB:=QLh (Qk HB.out hb);clear hb cP
 go_wp2
 go_ret
 exact⟨rfl,HB.out⟩
def Qrt(x:ByteArray):ByteArray:=x.extract 0 (min x.size 40)
def Zv(l:List ByteArray)(n:Nat):List ByteArray:=(l.take n).map Qrt
theorem Qru(x:ByteArray):(Qrt x).size≤40:=by unfold Qrt;rw[ByteArray.size_extract];omega
theorem Qg4(l:List ByteArray)(n:Nat):len (Zv l n)=min (len l) n:=by unfold Zv;simp only[len,List.length_map,List.length_take];omega
theorem Qf9(l:List ByteArray)(n i:Nat)(h:i<len (Zv l n)):(sth (Zv l n) i).size≤40:=by
 have h':i<((l.take n).map Qrt).length:=h
 show(sth ((l.take n).map Qrt) i).size≤40
 rw[Qcl _ i h',List.getElem_map];exact Qru _
def CWS(w:World):CP:=λ b o x=>w.cell? ⟨b,o,none⟩=some x∧∃cs,w.heap[b]?=some (.cells cs 9 (0,0))
theorem Qwx{w w':World}(h:∀(b:Nat) (cs:Array Value),w.heap[b]?=some (.cells cs 9 (0,0))→w'.heap[b]?=w.heap[b]?)(b o:Nat)(x:Value)(hc:CWS w b o x):CWS w' b o x:=by
 obtain⟨h1,cs,h2⟩:=hc
 have e:=h b cs h2
 refine⟨?_,cs,e.trans h2⟩
 have:w'.cell? ⟨b,o,none⟩=w.cell? ⟨b,o,none⟩:=by unfold World.cell?;rw[e]
 rw[this];exact h1
theorem StrsC.wkeep{w w':World}{a:Option Addr}{l:List ByteArray}(hs:StrsC (CWS w) a l)(h:∀(b:Nat) (cs:Array Value),w.heap[b]?=some (.cells cs 9 (0,0))→w'.heap[b]?=w.heap[b]?):StrsC (CWS w') a l:=hs.imp (Qwx h)
theorem StrsC.wlow{w w':World}{a:Option Addr}{l:List ByteArray}(hs:StrsC (CWS w) a l)(hb:Below w.heap.size w w'):StrsC (CWS w') a l:=hs.wkeep λ b cs h=>hb.block b (lt_of_block h)
theorem StrsC.wset{w:World}{t j:Nat}{cs:Array Value}{T:TypeId}{fr:Nat × Nat}{a:Option Addr}{l:List ByteArray}(hs:StrsC (CWS w) a l)(h:w.heap[t]?=some (.cells cs T fr))(hT:T≠9)(v:Value):StrsC (CWS (w.setCell ⟨t,j,none⟩ v)) a l:=hs.wkeep λ b cs' hb=>Below.heap_setCell _ _ _ _ (show b≠t from λ e=>by subst e;rw[h]at hb;cases hb;exact hT rfl)
theorem Qjd{w:World}{base n:Nat}{v:Value}{l:List ByteArray}(h:w.ownsRow base 9 1 v n (l.map Value.string)):∃a c,v=.slice a (len l) c∧StrsC (CWS w) a l∧∀b off,a=some ⟨b,off,none⟩→base≤b:=by
 obtain⟨a,c,rfl,h1⟩:=Qsh h
 refine⟨a,c,rfl,λ i hi=>?_,λ b off e=>(h.lt b (by rw[e];rfl)).1⟩
 obtain⟨b,off,rfl,hc⟩:=h1 i hi
 obtain⟨cs,hcs⟩:=Qc1 h b rfl
 exact⟨b,off,rfl,hc,cs,hcs⟩
def Qzh(l:List ByteArray)(w:World)(e:Ending)(w':World):Prop:=∃a' c',e=.returned (.slice a' (len l) c')∧StrsC (CWS w') a' l∧(∀b off,a'=some ⟨b,off,none⟩→w.heap.size≤b)∧Below w.heap.size w w'
theorem Qga(a:Option Addr)(c:Nat)(l:List ByteArray)(n:Nat)(w:World)(hl:StrsC (CW w) a l)(hn:len l≤9223372036854775807)(hk:n≤1000):
  Calls Tryz.prog 73 #[.slice a (len l) c,.int .i64 n] w (Qzh (Zv l n) w):=by
 have HL:=QLh hl;clear hl
 obtain⟨N,hN⟩:∃N,min (len l) n=N:=⟨_,rfl⟩
 have HTL:Hid (Zv l N=Zv l n):=QLh (by
  unfold Zv
  rw[←hN]
  by_cases h:len l≤n
  ·rw[Nat.min_eq_left h,List.take_of_length_le (by rw[Zm];exact Nat.le_refl _),List.take_of_length_le (by rw[←Zm];exact h)]
  ·rw[Nat.min_eq_right (by omega)])
 obtain⟨i0,hi,hz0,hz1,hz2⟩:=info_parts Qky
 have hN1:N≤len l∧N≤n∧(N=len l ∨ N=n):=by omega
 clear hN
 go_enter Tryz.func73,Tryz.ntmps73
 go_wp2
 go_loopg [5,6] N (λ g lv i wr=>∃(m:Nat) (acc:List ByteArray),g+m=N∧i=.int .i64 m∧Hid (acc=Zv l m)∧Hid (Below w.heap.size w wr)∧Hid (wr.ownsRow w.heap.size 9 1 lv m (acc.map Value.string)))
 case atStart=>exact⟨0,[],rfl,rfl,rfl,Below.refl _ _,World.ownsRow_nil _ _ _ _⟩
 case round=>
  obtain⟨m,acc,hm,rfl,HA,HB,HO⟩:=hrel
  by_cases hlt:m<N
  ·have i1:(m:Int)<len l:=by omega
   have i2:(m:Int)<n:=by omega
   obtain⟨gb,go,rfl,hc⟩:=HL.out m (by omega)
   have hcx:wr.cell? ⟨gb,go+m,none⟩=some (.string (sth l m)):=(HB.out.cell (p:=⟨gb,go+m,none⟩) (Qw hc)).trans hc;have hgw:=Qw hc;have hnx:some gb≠u5.ownBlock:=Z4 HO.out hgw;have HAN:Hid (Zv l (m+1)=acc++[Qrt (sth l m)]):=QLh (by
    have hml:m<l.length:=by have:=Zm l;omega
    rw[HA.out];unfold Zv
    rw[List.take_succ_eq_append_getElem hml,List.map_append,Qcl l m hml];rfl)
   generalize sth l m=x at hcx HAN
   obtain⟨k,hk2⟩:∃k,min x.size 40=k:=⟨_,rfl⟩
   have mn:min (x.size:Int) 40=(k:Int):=by rw[←hk2];omega
   have sl:k≤x.size:=by rw[←hk2];exact Nat.min_le_left _ _
   obtain⟨y,hy0⟩:∃y,x.extract 0 k=y:=⟨_,rfl⟩
   have HAN:Hid (Zv l (m+1)=acc++[y]):=QLh (by rw[HAN.out,←hy0,←hk2];rfl);clear hk2 hc;have cx:=hcx;clear hcx;have hwr:w.heap.size≤wr.heap.size:=HB.out.size
   go_upto_region 5 with fail
   refine Qp 14 13 (u5.ownBlock) (Qaw [λ u _=>u=(u5),λ u _=>u=(.slice (some ⟨gb,go,none⟩) (len l) c),λ u _=>u=(.int .i64 m),λ u _=>u=(pt gb (go+m)),λ u _=>u=(.string x),λ u _=>u=(.slice (some ⟨gb,go,none⟩) (len l) c),λ u _=>u=(.int .i64 m),λ u _=>u=(pt gb (go+m)),λ u _=>u=(.string x),λ u _=>u=(.int .i64 x.size),λ u _=>u=(.int .i64 k),λ u _=>u=(.string y),λ u w'=>∃b,u=.slice (some ⟨b,0,none⟩) 1 1∧some b≠u5.ownBlock∧w'.heap[b]?=some (.cells #[.string y] 9 (0,0)),λ u w'=>w'.ownsRow w.heap.size 9 1 u (m+1) ((acc.map Value.string)++[.string y])]) rfl (by kernel_rfl) (by kernel_rfl) (Zb ⟨Qe,Qe,Qe,Qe,Qe,Qe,Qe,Qe,Qe,Qe,Qe,Qe,?m12,?m13,trivial⟩) (Q6 14 ⟨?s0,?s1,?s2,?s3,?s4,?s5,?s6,?s7,?s8,?s9,?s10,?s11,?s12,?s13,trivial⟩) ?_
   case m12=>
    exact⟨λ u w1 w' h ⟨b,h1,hb,hb'⟩=>⟨b,h1,hb,Zt h hb'⟩,λ _ u w1 w' h ⟨b,h1,hb,hb'⟩=>⟨b,h1,hb,Qn h hb hb'⟩⟩
   case m13=>
    exact⟨λ u w1 w' h hu=>Zi hu h,λ hn=>absurd rfl hn⟩
   case s0=>
    refine Qc (v:=(u5)) (λ av wv hE hS hO hD=>?_) (λ _=>rfl)
    have f5:=QEf av 5 (u5) (hO.2.2 5 rfl)
    refine⟨rfl,?_⟩
    simp[go_sem,f5,i1,mn,sl,hy0]
   case s1=>
    refine Qc (v:=(.slice (some ⟨gb,go,none⟩) (len l) c)) (λ av wv hE hS hO hD=>?_) (λ _=>rfl)
    have f0:=QEf av 0 (.slice (some ⟨gb,go,none⟩) (len l) c) (hO.2.2 0 rfl)
    refine⟨rfl,?_⟩
    simp[go_sem,f0,i1,mn,sl,hy0]
   case s2=>
    refine Qc (v:=(.int .i64 m)) (λ av wv hE hS hO hD=>?_) (λ _=>rfl)
    have f6:=QEf av 6 (.int .i64 m) (hO.2.2 6 rfl)
    refine⟨rfl,?_⟩
    simp[go_sem,f6,i1,mn,sl,hy0]
   case s3=>
    refine Qc (v:=(pt gb (go+m))) (λ av wv hE hS hO hD=>?_) (λ _=>rfl)
    have f19:=QEf av 19 (.slice (some ⟨gb,go,none⟩) (len l) c) (hD.1 rfl _ rfl);have f20:=QEf av 20 (.int .i64 m) (hD.2.1 rfl _ rfl)
    refine⟨rfl,?_⟩
    simp[go_sem,f19,f20,i1,mn,sl,hy0]
   case s4=>
    refine Qc (v:=(.string x)) (λ av wv hE hS hO hD=>?_) (λ _=>rfl)
    have f21:=QEf av 21 (pt gb (go+m)) (hD.1 rfl _ rfl);have cx:=Qd hE hnx cx
    refine⟨rfl,?_⟩
    simp[go_sem,f21,cx,i1,mn,sl,hy0]
   case s5=>
    refine Qc (v:=(.slice (some ⟨gb,go,none⟩) (len l) c)) (λ av wv hE hS hO hD=>?_) (λ _=>rfl)
    have f0:=QEf av 0 (.slice (some ⟨gb,go,none⟩) (len l) c) (hO.2.2 0 rfl)
    refine⟨rfl,?_⟩
    simp[go_sem,f0,i1,mn,sl,hy0]
   case s6=>
    refine Qc (v:=(.int .i64 m)) (λ av wv hE hS hO hD=>?_) (λ _=>rfl)
    have f6:=QEf av 6 (.int .i64 m) (hO.2.2 6 rfl)
    refine⟨rfl,?_⟩
    simp[go_sem,f6,i1,mn,sl,hy0]
   case s7=>
    refine Qc (v:=(pt gb (go+m))) (λ av wv hE hS hO hD=>?_) (λ _=>rfl)
    have f23:=QEf av 23 (.slice (some ⟨gb,go,none⟩) (len l) c) (hD.1 rfl _ rfl);have f24:=QEf av 24 (.int .i64 m) (hD.2.1 rfl _ rfl)
    refine⟨rfl,?_⟩
    simp[go_sem,f23,f24,i1,mn,sl,hy0]
   case s8=>
    refine Qc (v:=(.string x)) (λ av wv hE hS hO hD=>?_) (λ _=>rfl)
    have f25:=QEf av 25 (pt gb (go+m)) (hD.1 rfl _ rfl);have cx:=Qd hE hnx cx
    refine⟨rfl,?_⟩
    simp[go_sem,f25,cx,i1,mn,sl,hy0]
   case s9=>
    refine Qc (v:=(.int .i64 x.size)) (λ av wv hE hS hO hD=>?_) (λ _=>rfl)
    have f26:=QEf av 26 (.string x) (hD.1 rfl _ rfl)
    refine⟨rfl,?_⟩
    simp[go_sem,f26,i1,mn,sl,hy0]
   case s10=>
    refine Qc (v:=(.int .i64 k)) (λ av wv hE hS hO hD=>?_) (λ _=>rfl)
    have f27:=QEf av 27 (.int .i64 x.size) (hD.1 rfl _ rfl)
    refine⟨rfl,?_⟩
    simp[go_sem,f27,i1,mn,sl,hy0]
   case s11=>
    refine Qc (v:=(.string y)) (λ av wv hE hS hO hD=>?_) (λ _=>rfl)
    have f22:=QEf av 22 (.string x) (hD.1 rfl _ rfl);have f28:=QEf av 28 (.int .i64 k) (hD.2.1 rfl _ rfl)
    refine⟨rfl,?_⟩
    simp[go_sem,f22,f28,i1,mn,sl,hy0]
   case s12=>
    refine Qo (λ av wv hE hS hO hD=>?_)
    have f29:=QEf av 29 (.string y) (hD.1 rfl _ rfl)
    refine⟨rfl,?_⟩
    refine Zn (v:=.slice (some ⟨wv.heap.size,0,none⟩) 1 1) (w':=wv.alloc (.cells #[.string y] 9)) (by simp[go_sem,f29]) ⟨_,rfl,Qm (Qh (Zr _) _),wv.heap.size,rfl,?_,heap_alloc_new _ _⟩
    exact Jx HO.out (by have:=hE.size;simp at this;omega)
   case s13=>
    refine Qo (λ av wv hE hS hO hD=>?_)
    have d18:av.eval (.tmp 18)=(u5):=hD.1 rfl _ rfl;have f18:=(Qq av 18).symm.trans d18;have d30:(λ u w'=>∃b,u=.slice (some ⟨b,0,none⟩) 1 1∧some b≠u5.ownBlock∧w'.heap[b]?=some (.cells #[.string y] 9 (0,0))) (av.eval (.tmp 30)) wv:=hD.2.1 rfl _ rfl
    refine⟨rfl,?_⟩
    obtain⟨b19,h19,hb19,hc19⟩:=d30
    have hown1:wv.ownsRow w.heap.size 9 1 u5 m (acc.map Value.string):=Zi (w:=wr.drew) HO.out (hS rfl)
    refine wp_append_lies wv _ _ _ rfl w.heap.size 9 i0 (.string ⟨#[]⟩) 1 16 Tryz.underlying26 hi hz0 hz1 hz2 rfl (by decide) u5 m _ d18 hown1 ⟨b19,0,none⟩ 1 1 [.string y] (by exact h19) rfl (World.news_of_block hc19) (by intro u hu;simp at hu;rcases hu with rfl <;> rfl) (by decide) (by unfold maxLen;omega) (by omega) (by have:=hE.size;simp at this;omega) _ rfl ?_
    intro g2 cap2 w2 hown2 hgrow hat hlt2
    exact⟨_,rfl,Qcf hgrow,hown2⟩
   intro a' w' hE hO hall
   have hA:=Ql (ds:=[18,19,20,21,22,23,24,25,26,27,28,29,30,31]) rfl hO (by kernel_rfl);have e18:a'.eval (.tmp 18)=(u5):=hall.1 _ rfl;have e19:a'.eval (.tmp 19)=(.slice (some ⟨gb,go,none⟩) (len l) c):=hall.2.1 _ rfl;have e20:a'.eval (.tmp 20)=(.int .i64 m):=hall.2.2.1 _ rfl;have e21:a'.eval (.tmp 21)=(pt gb (go+m)):=hall.2.2.2.1 _ rfl;have e22:a'.eval (.tmp 22)=(.string x):=hall.2.2.2.2.1 _ rfl;have e23:a'.eval (.tmp 23)=(.slice (some ⟨gb,go,none⟩) (len l) c):=hall.2.2.2.2.2.1 _ rfl;have e24:a'.eval (.tmp 24)=(.int .i64 m):=hall.2.2.2.2.2.2.1 _ rfl;have e25:a'.eval (.tmp 25)=(pt gb (go+m)):=hall.2.2.2.2.2.2.2.1 _ rfl;have e26:a'.eval (.tmp 26)=(.string x):=hall.2.2.2.2.2.2.2.2.1 _ rfl;have e27:a'.eval (.tmp 27)=(.int .i64 x.size):=hall.2.2.2.2.2.2.2.2.2.1 _ rfl;have e28:a'.eval (.tmp 28)=(.int .i64 k):=hall.2.2.2.2.2.2.2.2.2.2.1 _ rfl;have e29:a'.eval (.tmp 29)=(.string y):=hall.2.2.2.2.2.2.2.2.2.2.2.1 _ rfl;have e30:(λ u w'=>∃b,u=.slice (some ⟨b,0,none⟩) 1 1∧some b≠u5.ownBlock∧w'.heap[b]?=some (.cells #[.string y] 9 (0,0))) (a'.eval (.tmp 30)) w':=hall.2.2.2.2.2.2.2.2.2.2.2.2.1 _ rfl;have e31:(λ u w'=>w'.ownsRow w.heap.size 9 1 u (m+1) ((acc.map Value.string)++[.string y])) (a'.eval (.tmp 31)) w':=hall.2.2.2.2.2.2.2.2.2.2.2.2.2.1 _ rfl
   obtain⟨v30,hv30⟩:∃v,a'.eval (.tmp 30)=v:=⟨_,rfl⟩
   rw[hv30]at e30
   obtain⟨v31,hv31⟩:∃v,a'.eval (.tmp 31)=v:=⟨_,rfl⟩
   rw[hv31]at e31
   simp only[List.foldl_cons,List.foldl_nil,Act.put,List.setIfInBounds_toArray,List.set_cons_succ,List.set_cons_zero,e18,e19,e20,e21,e22,e23,e24,e25,e26,e27,e28,e29,hv30,hv31]at hA
   clear hO hall e18 e19 e20 e21 e22 e23 e24 e25 e26 e27 e28 e29 hv30 hv31
   subst hA
   have HB2:Hid (Below w.heap.size w w'):=QLh (J0 HB.out (Q9 hE) (λ k hk=>by have:=(HO.out.lt k hk).1;omega));have HO2:Hid (w'.ownsRow w.heap.size 9 1 v31 (m+1) ((acc++[y]).map Value.string)):=QLh (by rw[List.map_append];exact e31);clear hE e31 e30 cx mn sl hy0
   go_wp2
   go_roundg (N - (m+1))
   case rel=>exact⟨m+1,acc++[y],by omega,by go_num,HAN.out.symm,HB2.out,HO2.out⟩
   case measure=>omega
  ·obtain rfl:m=N:=by omega
   have HF:Hid (acc=Zv l n):=QLh (by rw[HA.out,HTL.out])
   by_cases hq:m<len l
   ·have i1:(m:Int)<len l:=by omega
    have i2:¬(m:Int)<n:=by omega
    go_wp2
    go_ret
    obtain⟨a',c',h1,h2,h3⟩:=Qjd HO.out
    rw[HF.out]at h1 h2
    exact⟨a',c',by rw[h1];rfl,h2,h3,HB.out⟩
   ·have i1:¬(m:Int)<len l:=by omega
    go_wp2
    go_ret
    obtain⟨a',c',h1,h2,h3⟩:=Qjd HO.out
    rw[HF.out]at h1 h2
    exact⟨a',c',by rw[h1];rfl,h2,h3,HB.out⟩
theorem StrsC.low{w w':World}{a:Option Addr}{l:List ByteArray}(h:StrsC (CW w) a l)(hb:Below w.heap.size w w'):StrsC (CW w') a l:=h.imp λ b o x hc=>(hb.cell (p:=⟨b,o,none⟩) (Qw hc)).trans hc
def Q1d(L:Int)(q:Bool)(idx:Int)(ws ps:List ByteArray)(w:World)(e:Ending)(w':World):Prop:=∃a1 k1 a2 k2,e=.returned (.agg #[.int .u64 L,.bool q,.int .u64 idx,.slice a1 (len ws) k1,.slice a2 (len ps) k2])∧StrsC (CWS w') a1 ws∧StrsC (CWS w') a2 ps∧Below w.heap.size w w'
theorem Qwy(L:Int)(q:Bool)(idx:Int)(a1 a2:Option Addr)(k1 k2:Nat)(ws ps:List ByteArray)(w:World)(h1:StrsC (CW w) a1 ws)(h2:StrsC (CW w) a2 ps)(n1:len ws≤9223372036854775807)(n2:len ps≤9223372036854775807):
  Calls Tryz.prog 33 #[.agg #[.int .u64 L,.bool q,.int .u64 idx,.slice a1 (len ws) k1,.slice a2 (len ps) k2]] w (Q1d L q idx (Zv ws 70) (Zv ps 20) w):=by
 have H1:=QLh (fun (w':World) (hb:Below w.heap.size w w')=>Qga a1 k1 ws 70 w' (h1.low hb) n1 (by decide));have H2:=QLh (fun (w':World) (hb:Below w.heap.size w w')=>Qga a2 k2 ps 20 w' (h2.low hb) n2 (by decide));clear h1 h2
 generalize Zv ws 70=ws' at H1
 generalize Zv ps 20=ps' at H2
 go_enter Tryz.func33,Tryz.ntmps33
 go_upto_region 1 with fail
 obtain⟨sb,hsb⟩:∃sb,w.heap.size=sb:=⟨_,rfl⟩
 obtain⟨V,hV⟩:∃V,(w.alloc (.cells #[.int .u64 L,.bool q,.int .u64 idx,.slice a1 (len ws) k1,.slice a2 (len ps) k2] 44)).alloc (.cells #[.int .u64 0,.bool false,.int .u64 0,.slice none 0 0,.slice none 0 0] 44)=V:=⟨_,rfl⟩
 have HB:Hid (Below w.heap.size w V):=QLh (by rw[←hV];exact Qh (Qh (Below.refl _ _) _) _);have HS:Hid (V.heap[sb]?=some (.cells #[.int .u64 L,.bool q,.int .u64 idx,.slice a1 (len ws) k1,.slice a2 (len ps) k2] 44 (0,0))):=QLh (by rw[←hV,←hsb];exact Qf (heap_alloc_new _ _) _);have HR:Hid (V.heap[sb+1]?=some (.cells #[.int .u64 0,.bool false,.int .u64 0,.slice none 0 0,.slice none 0 0] 44 (0,0))):=QLh (by rw[←hV];exact Qi _ (by simp[hsb]));have HSB:=QLh hsb
 try rw[hV]
 try simp only[hsb]
 clear hV hsb;have cS:∀o,V.cell? ⟨sb,o,none⟩=_:=Qa HS.out
 go_wp2_with fail
 refine(H1.out V HB.out).mono ?_
 rintro e w1 ⟨b1,c1,rfl,hs,hf,hb⟩
 have HS1:=QLh hs;have HB1:=QLh (Qk HB.out hb);have HSa:=QLh ((hb.block _ (lt_of_block HS.out)).trans HS.out);have HRa:=QLh ((hb.block _ (lt_of_block HR.out)).trans HR.out);clear hs hf hb cS HS HR HB;have cS:∀o,w1.cell? ⟨sb,o,none⟩=_:=Qa HSa.out;have fS:∀o,w1.frozen? ⟨sb,o,none⟩=false:=Qj HSa.out;have lS:sb<w1.heap.size:=lt_of_block HSa.out
 go_upto_region 2 with fail
 obtain⟨W1,hW1⟩:∃W1,w1.setCell ⟨sb,3,none⟩ (.slice b1 (len ws') c1)=W1:=⟨_,rfl⟩
 have HSb:Hid (W1.heap[sb]?=some (.cells #[.int .u64 L,.bool q,.int .u64 idx,.slice b1 (len ws') c1,.slice a2 (len ps) k2] 44 (0,0))):=QLh (by rw[←hW1];exact Qb HSa.out _);have HRb:Hid (W1.heap[sb+1]?=some (.cells #[.int .u64 0,.bool false,.int .u64 0,.slice none 0 0,.slice none 0 0] 44 (0,0))):=QLh (by rw[←hW1];exact Qg HRa.out (by omega:sb+1≠sb) _);have HB2:Hid (Below w.heap.size w W1):=QLh (by rw[←hW1];exact Zs HB1.out (show w.heap.size≤sb by rw[HSB.out];exact Nat.le_refl _) _);have HS2:Hid (StrsC (CWS W1) b1 ws'):=QLh (by rw[←hW1];exact HS1.out.wset HSa.out (by decide) _);clear cS fS lS HSa HRa HB1 HS1
 rw[hW1]
 clear hW1;have cS:∀o,W1.cell? ⟨sb,o,none⟩=_:=Qa HSb.out
 go_wp2_with fail
 refine(H2.out W1 HB2.out).mono ?_
 rintro e w2 ⟨b2,c2,rfl,hs,hf,hb⟩
 have HT1:=QLh hs;have HB3:=QLh (Qk HB2.out hb);have HSc:=QLh ((hb.block _ (lt_of_block HSb.out)).trans HSb.out);have HRc:=QLh ((hb.block _ (lt_of_block HRb.out)).trans HRb.out);have HS3:Hid (StrsC (CWS w2) b1 ws'):=QLh (HS2.out.wlow hb);clear hs hf hb cS HSb HRb HB2 HS2;have cS:∀o,w2.cell? ⟨sb,o,none⟩=_:=Qa HSc.out;have fS:∀o,w2.frozen? ⟨sb,o,none⟩=false:=Qj HSc.out;have lS:sb<w2.heap.size:=lt_of_block HSc.out
 go_upto_region 3 with fail
 obtain⟨W2,hW2⟩:∃W2,w2.setCell ⟨sb,4,none⟩ (.slice b2 (len ps') c2)=W2:=⟨_,rfl⟩
 have HSd:Hid (W2.heap[sb]?=some (.cells #[.int .u64 L,.bool q,.int .u64 idx,.slice b1 (len ws') c1,.slice b2 (len ps') c2] 44 (0,0))):=QLh (by rw[←hW2];exact Qb HSc.out _);have HRd:Hid (W2.heap[sb+1]?=some (.cells #[.int .u64 0,.bool false,.int .u64 0,.slice none 0 0,.slice none 0 0] 44 (0,0))):=QLh (by rw[←hW2];exact Qg HRc.out (by omega:sb+1≠sb) _);have HB4:Hid (Below w.heap.size w W2):=QLh (by rw[←hW2];exact Zs HB3.out (show w.heap.size≤sb by rw[HSB.out];exact Nat.le_refl _) _);have HS4:Hid (StrsC (CWS W2) b1 ws'):=QLh (by rw[←hW2];exact HS3.out.wset HSc.out (by decide) _);have HT2:Hid (StrsC (CWS W2) b2 ps'):=QLh (by rw[←hW2];exact HT1.out.wset HSc.out (by decide) _);clear cS fS lS HSc HRc HB3 HS3 HT1
 rw[hW2]
 clear hW2;have cS:∀o,W2.cell? ⟨sb,o,none⟩=_:=Qa HSd.out;have g0:∀o,W2.cell? ⟨sb+1,o,none⟩=_:=Qa HRd.out;have g1:∀o,W2.frozen? ⟨sb+1,o,none⟩=false:=Qj HRd.out;have g2:sb+1<W2.heap.size:=lt_of_block HRd.out
 go_wp2
 have hb5:=Qb (Qb (Qb (Qb (Qb HRd.out (o:=0) (.int .u64 L)) (o:=1) (.bool q)) (o:=2) (.int .u64 idx)) (o:=3) (.slice b1 (len ws') c1)) (o:=4) (.slice b2 (len ps') c2);have d:∀o,_=_:=Qa hb5;have hset:∀{a:Option Addr} {l:List ByteArray},StrsC (CWS W2) a l→StrsC (CWS (((((W2.setCell ⟨sb+1,0,none⟩ (.int .u64 L)).setCell ⟨sb+1,1,none⟩ (.bool q)).setCell ⟨sb+1,2,none⟩ (.int .u64 idx)).setCell ⟨sb+1,3,none⟩ (.slice b1 (len ws') c1)).setCell ⟨sb+1,4,none⟩ (.slice b2 (len ps') c2))) a l:=λ h=>
  ((((h.wset HRd.out (by decide) _).wset (Qb HRd.out _) (by decide) _).wset (Qb (Qb HRd.out _) _) (by decide) _).wset (Qb (Qb (Qb HRd.out _) _) _) (by decide) _).wset (Qb (Qb (Qb (Qb HRd.out _) _) _) _) (by decide) _
 have hle:w.heap.size≤sb+1:=by rw[HSB.out];omega
 refine bodyPost_ret (v:=.agg #[.int .u64 L,.bool q,.int .u64 idx,.slice b1 (len ws') c1,.slice b2 (len ps') c2]) ?_ rfl ⟨b1,c1,b2,c2,rfl,hset HS4.out,hset HT2.out,Zs (Zs (Zs (Zs (Zs HB4.out hle _) hle _) hle _) hle _) hle _⟩
 simp[results,Tryz.results33,go_sem,d]
theorem Qhz(a b:Option Addr)(c d:Nat)(l:List ByteArray)(w:World)(ha:StrsC (CW w) a l)(hb:StrsC (CW w) b l)(hn:len l≤9223372036854775807):
  Calls Tryz.prog 92 #[.slice a (len l) c,.slice b (len l) d] w λ e w'=>e=.returned (.bool true)∧Below w.heap.size w w':=by
 have HA:=QLh ha;have HB:=QLh hb;clear ha hb
 go_enter Tryz.func92,Tryz.ntmps92
 go_wp2
 go_loopg [5] (len l) (λ g i wr=>∃m:Nat,g+m=len l∧i=.int .i64 m∧Hid (Below w.heap.size w wr))
 case atStart=>exact⟨0,rfl,rfl,Below.refl _ _⟩
 case round=>
  obtain⟨m,hm,rfl,HW⟩:=hrel
  by_cases hlt:m<len l
  ·have i1:(m:Int)<len l:=by omega
   obtain⟨ga,oa,rfl,hca⟩:=(HA.out.low HW.out) m hlt
   obtain⟨gb,ob,rfl,hcb⟩:=(HB.out.low HW.out) m hlt
   have c0:wr.cell? ⟨ga,oa+m,none⟩=some (.string (sth l m)):=hca;have c1:wr.cell? ⟨gb,ob+m,none⟩=some (.string (sth l m)):=hcb;clear hca hcb
   generalize sth l m=x at c0 c1
   go_upto_region 6 with fail
   go_quiet (fail)
   have HW2:=QLh (Zd HW.out)
   go_wp2
   go_roundg (len l - (m+1))
   case rel=>exact⟨m+1,by omega,by go_num,QLh (Zc HW.out _)⟩
   case measure=>omega
  ·obtain rfl:m=len l:=by omega
   have i1:¬((len l:Nat):Int)<len l:=by omega
   go_wp2
   go_ret
   exact⟨rfl,HW.out⟩
theorem Qed(a b:Option Addr)(c d:Nat)(l:List ByteArray)(w:World)(ha:StrsC (CW w) a l)(hb:StrsC (CW w) b l)(hn:len l≤9223372036854775807):
  Calls Tryz.prog 79 #[.slice a (len l) c,.slice b (len l) d] w λ e w'=>e=.returned (.bool true)∧Below w.heap.size w w':=by
 have HA:=QLh ha;have HB:=QLh hb;clear ha hb
 go_enter Tryz.func79,Tryz.ntmps79
 go_wp2
 go_loopg [5] (len l) (λ g i wr=>∃m:Nat,g+m=len l∧i=.int .i64 m∧Hid (Below w.heap.size w wr))
 case atStart=>exact⟨0,rfl,rfl,Below.refl _ _⟩
 case round=>
  obtain⟨m,hm,rfl,HW⟩:=hrel
  by_cases hlt:m<len l
  ·have i1:(m:Int)<len l:=by omega
   obtain⟨ga,oa,rfl,hca⟩:=(HA.out.low HW.out) m hlt
   obtain⟨gb,ob,rfl,hcb⟩:=(HB.out.low HW.out) m hlt
   have c0:wr.cell? ⟨ga,oa+m,none⟩=some (.string (sth l m)):=hca;have c1:wr.cell? ⟨gb,ob+m,none⟩=some (.string (sth l m)):=hcb;clear hca hcb
   generalize sth l m=x at c0 c1
   go_upto_region 6 with fail
   go_quiet (fail)
   have HW2:=QLh (Zd HW.out)
   go_wp2
   go_roundg (len l - (m+1))
   case rel=>exact⟨m+1,by omega,by go_num,QLh (Zc HW.out _)⟩
   case measure=>omega
  ·obtain rfl:m=len l:=by omega
   have i1:¬((len l:Nat):Int)<len l:=by omega
   go_wp2
   go_ret
   exact⟨rfl,HW.out⟩
theorem Qnk(L:Int)(q:Bool)(idx:Int)(a1 a2 b1 b2:Option Addr)(k1 k2 c1 c2:Nat)(ws ps:List ByteArray)(w:World)(ha1:StrsC (CW w) a1 ws)(ha2:StrsC (CW w) a2 ps)(hb1:StrsC (CW w) b1 ws)(hb2:StrsC (CW w) b2 ps)(n1:len ws≤9223372036854775807)(n2:len ps≤9223372036854775807):
  Calls Tryz.prog 46 #[.agg #[.int .u64 L,.bool q,.int .u64 idx,.slice a1 (len ws) k1,.slice a2 (len ps) k2],.agg #[.int .u64 L,.bool q,.int .u64 idx,.slice b1 (len ws) c1,.slice b2 (len ps) c2]] w λ e w'=>e=.returned (.bool true)∧Below w.heap.size w w':=by
 have HQ1:=QLh (fun (w':World) (h:Below w.heap.size w w')=>Qhz a1 b1 k1 c1 ws w' (ha1.low h) (hb1.low h) n1);have HQ2:=QLh (fun (w':World) (h:Below w.heap.size w w')=>Qhz a2 b2 k2 c2 ps w' (ha2.low h) (hb2.low h) n2);clear ha1 ha2 hb1 hb2
 generalize len ws=l1 at HQ1 ⊢
 generalize len ps=l2 at HQ2 ⊢
 go_enter Tryz.func46,Tryz.ntmps46
 go_upto_region 1 with fail
 obtain⟨sb,hsb⟩:∃sb,w.heap.size=sb:=⟨_,rfl⟩
 obtain⟨tb,htb⟩:∃tb,sb+1=tb:=⟨_,rfl⟩
 obtain⟨V,hV⟩:∃V,(w.alloc (.cells #[.int .u64 L,.bool q,.int .u64 idx,.slice a1 l1 k1,.slice a2 l2 k2] 44)).alloc (.cells #[.int .u64 L,.bool q,.int .u64 idx,.slice b1 l1 c1,.slice b2 l2 c2] 44)=V:=⟨_,rfl⟩
 have HB:Hid (Below w.heap.size w V):=QLh (by rw[←hV];exact Qh (Qh (Below.refl _ _) _) _);have HS:Hid (V.heap[sb]?=some (.cells #[.int .u64 L,.bool q,.int .u64 idx,.slice a1 l1 k1,.slice a2 l2 k2] 44 (0,0))):=QLh (by rw[←hV,←hsb];exact Qf (heap_alloc_new _ _) _);have HT:Hid (V.heap[tb]?=some (.cells #[.int .u64 L,.bool q,.int .u64 idx,.slice b1 l1 c1,.slice b2 l2 c2] 44 (0,0))):=QLh (by rw[←hV,←htb,←hsb];exact Qi _ (by simp))
 simp only[hV,hsb,htb]
 clear hV hsb htb;have cS:∀o,V.cell? ⟨sb,o,none⟩=_:=Qa HS.out;have cT:∀o,V.cell? ⟨tb,o,none⟩=_:=Qa HT.out
 go_wp2_with fail
 refine(HQ1.out V HB.out).mono ?_
 rintro e w1 ⟨rfl,hb⟩
 have HB1:=QLh (Qk HB.out hb);have HS:=QLh ((hb.block _ (lt_of_block HS.out)).trans HS.out);have HT:=QLh ((hb.block _ (lt_of_block HT.out)).trans HT.out);clear hb cS cT;have cS:∀o,w1.cell? ⟨sb,o,none⟩=_:=Qa HS.out;have cT:∀o,w1.cell? ⟨tb,o,none⟩=_:=Qa HT.out
 go_wp2_with fail
 refine(HQ2.out w1 HB1.out).mono ?_
 rintro e w2 ⟨rfl,hb⟩
 have HB2:=QLh (Qk HB1.out hb);clear hb cS cT
 go_wp2
 go_ret
 exact⟨rfl,HB2.out⟩
theorem Qlq(L:Int)(q:Bool)(idx:Int)(a1 a2 b1 b2:Option Addr)(k1 k2 c1 c2:Nat)(ws ps:List ByteArray)(w:World)(ha1:StrsC (CW w) a1 ws)(ha2:StrsC (CW w) a2 ps)(hb1:StrsC (CW w) b1 ws)(hb2:StrsC (CW w) b2 ps)(n1:len ws≤9223372036854775807)(n2:len ps≤9223372036854775807):
  Calls Tryz.prog 37 #[.agg #[.int .u64 L,.bool q,.int .u64 idx,.slice a1 (len ws) k1,.slice a2 (len ps) k2],.agg #[.int .u64 L,.bool q,.int .u64 idx,.slice b1 (len ws) c1,.slice b2 (len ps) c2]] w λ e w'=>e=.returned (.bool true)∧Below w.heap.size w w':=by
 have HQ1:=QLh (fun (w':World) (h:Below w.heap.size w w')=>Qed a1 b1 k1 c1 ws w' (ha1.low h) (hb1.low h) n1);have HQ2:=QLh (fun (w':World) (h:Below w.heap.size w w')=>Qed a2 b2 k2 c2 ps w' (ha2.low h) (hb2.low h) n2);clear ha1 ha2 hb1 hb2
 generalize len ws=l1 at HQ1 ⊢
 generalize len ps=l2 at HQ2 ⊢
 go_enter Tryz.func37,Tryz.ntmps37
 go_upto_region 1 with fail
 obtain⟨sb,hsb⟩:∃sb,w.heap.size=sb:=⟨_,rfl⟩
 obtain⟨tb,htb⟩:∃tb,sb+1=tb:=⟨_,rfl⟩
 obtain⟨V,hV⟩:∃V,(w.alloc (.cells #[.int .u64 L,.bool q,.int .u64 idx,.slice a1 l1 k1,.slice a2 l2 k2] 44)).alloc (.cells #[.int .u64 L,.bool q,.int .u64 idx,.slice b1 l1 c1,.slice b2 l2 c2] 44)=V:=⟨_,rfl⟩
 have HB:Hid (Below w.heap.size w V):=QLh (by rw[←hV];exact Qh (Qh (Below.refl _ _) _) _);have HS:Hid (V.heap[sb]?=some (.cells #[.int .u64 L,.bool q,.int .u64 idx,.slice a1 l1 k1,.slice a2 l2 k2] 44 (0,0))):=QLh (by rw[←hV,←hsb];exact Qf (heap_alloc_new _ _) _);have HT:Hid (V.heap[tb]?=some (.cells #[.int .u64 L,.bool q,.int .u64 idx,.slice b1 l1 c1,.slice b2 l2 c2] 44 (0,0))):=QLh (by rw[←hV,←htb,←hsb];exact Qi _ (by simp))
 simp only[hV,hsb,htb]
 clear hV hsb htb;have cS:∀o,V.cell? ⟨sb,o,none⟩=_:=Qa HS.out;have cT:∀o,V.cell? ⟨tb,o,none⟩=_:=Qa HT.out
 go_wp2_with fail
 refine(HQ1.out V HB.out).mono ?_
 rintro e w1 ⟨rfl,hb⟩
 have HB1:=QLh (Qk HB.out hb);have HS:=QLh ((hb.block _ (lt_of_block HS.out)).trans HS.out);have HT:=QLh ((hb.block _ (lt_of_block HT.out)).trans HT.out);clear hb cS cT;have cS:∀o,w1.cell? ⟨sb,o,none⟩=_:=Qa HS.out;have cT:∀o,w1.cell? ⟨tb,o,none⟩=_:=Qa HT.out
 go_wp2_with fail
 refine(HQ2.out w1 HB1.out).mono ?_
 rintro e w2 ⟨rfl,hb⟩
 have HB2:=QLh (Qk HB1.out hb);clear hb cS cT
 go_wp2
 go_ret
 exact⟨rfl,HB2.out⟩
def Qox(r:Except Flt Rcd)(x0:Rcd):Rcd:=match r with | .ok x=>x | .error _=>x0
def Q1e(r:Except Flt Rcd):Flt:=match r with | .ok _=>(0,0) | .error f=>f
def NeV(r:Except Flt Rcd):Prop:=match r with | .ok _=>True | .error f=>f.1≠0
def Qzi(B:Nat)(ev:Value)(r:Except Flt Rcd)(w:World):Prop:=NeV r→∀w',Below w.heap.size w w'→TE7 B w'→Calls Tryz.prog 31 #[ev,.agg #[.int .i64 (Q1e r).1,.int .i64 (Q1e r).2]] w' λ e w''=>e=.returned (.bool true)∧Below w'.heap.size w' w''
theorem Qwz(B:Nat)(x:Rcd)(w:World):Qzi B .nilIface (.ok x) w:=λ _ w' _ _=>Qty w'
theorem Qw0{B fb:Nat}{f:Flt}{w:World}(h:FltB w fb f.1 f.2):Qzi B (.iface 127 (pt fb 0)) (.error f) w:=λ hn w' hb ht=>
 Qbt fb f.1 f.2 w' ht.e (h.below hb) hn (Nat.lt_of_lt_of_le ht.g ht.s)
def isOkR(r:Except Flt Rcd):Bool:=match r with | .ok _=>true | .error _=>false
def EvOf(r:Except Flt Rcd)(ev:Value):Prop:=match r with
 | .ok _=>ev=.nilIface
 | .error _=>∃fb,ev=.iface 127 (pt fb 0)
theorem TE7.up{B:Nat}{w:World}(h:TE7 B w):PTab w.heap.size w:=⟨Nat.lt_of_lt_of_le h.p.glob h.p.size,Nat.le_refl _,λ k hk=>by
 obtain⟨tb,tq,rc,h1,h2,h3⟩:=h.p.tab k hk
 exact⟨tb,tq,rc,Nat.lt_of_lt_of_le h1 h.p.size,h2,h3⟩⟩
theorem StrsC.at{w:World}{a:Option Addr}{l:List ByteArray}(h:StrsC (CW w) a l):Strs w.heap.size w a l:=h.imp λ b o x hc=>CW.at hc
def NmsC(C:CP)(a:Option Addr)(l:List Int):Prop:=∀i,i<len l→∃b off,a=some ⟨b,off,none⟩∧C b (off+i) (.int .u64 (nth l i))
theorem NmsC.imp{C D:CP}(h:∀b o x,C b o x→D b o x){a:Option Addr}{l:List Int}(hs:NmsC C a l):NmsC D a l:=λ i hi=>by
 obtain⟨b,off,e,hc⟩:=hs i hi;exact⟨b,off,e,h _ _ _ hc⟩
theorem Qu{w w':World}(hb:Below w.heap.size w w')(b o:Nat)(x:Value)(hc:CW w b o x):CW w' b o x:=(hb.cell (p:=⟨b,o,none⟩) (Qw hc)).trans hc
theorem Qal{rb tb:Nat}{w:World}{a:Option Addr}{c n:Nat}{d:DV}(hk:Zj d=3)(h:HoldsD rb tb w (.slice a n c) d):StrsC (CW w) a d.l:=by
 cases d <;> first | cases hk | skip
 obtain⟨a',c',e,_,_,ht⟩:=h
 cases e
 exact λ i hi=>ht.1 i hi
theorem Qkl{rb tb:Nat}{w:World}{a:Option Addr}{c n:Nat}{d:DV}(hk:Zj d=4)(h:HoldsD rb tb w (.slice a n c) d):NmsC (CW w) a d.ns:=by
 cases d <;> first | cases hk | skip
 obtain⟨a',c',e,_,_,ht⟩:=h
 cases e
 exact λ i hi=>ht.1 i hi
theorem Qkm{rb tb:Nat}{w:World}{a:Option Addr}{c n:Nat}{d:DV}(hk:Zj d=5)(h:HoldsD rb tb w (.slice a n c) d):RvsC (CW w) a d.rs:=by
 cases d <;> first | cases hk | skip
 obtain⟨a',c',e,_,_,rs,hl,hr,hi⟩:=h
 cases e
 intro i hi'
 obtain⟨b,off,e,hc⟩:=hr i (by rw[hl];exact hi')
 have h:=hi i hi'
 refine⟨b,off,e,?_⟩
 show RevCl (CW w) b (off+i * 11) (lth _ i)
 have q0:=hc.c0
 rw[h.pos]at q0
 have q1:=hc.c1
 rw[h.L]at q1
 have q2:=hc.c2
 rw[h.signed]at q2
 have q3:=hc.c3
 rw[h.idx]at q3
 have q4:=hc.c4
 rw[h.wn]at q4
 have q5:=hc.c5
 rw[h.pn]at q5
 have q6:=hc.c6
 rw[h.root]at q6
 have q7:=hc.c7
 rw[h.wt]at q7
 have q8:=hc.c8
 rw[h.first]at q8
 have q9:=hc.c9
 rw[h.life]at q9
 have q10:=hc.c10
 rw[h.keys]at q10
 exact⟨q0,q1,q2,q3,⟨_,_,q4,λ j hj=>h.ws.1 j hj⟩,⟨_,_,q5,λ j hj=>h.ps.1 j hj⟩,q6,q7,q8,q9,q10⟩
theorem Qgb(C:CP)(a:Option Addr):StrsC C a []:=λ i hi=>absurd hi (by simp[len])
theorem Qrv(B:Nat)(s:ByteArray)(w:World)(h:TE7 B w)(hs:s.size≤9223372036854775807):Calls Tryz.prog 50 #[.string s] w λ e w'=>∃ev a2 c2 a3 c3 a4 c4 a5 c5,e=.returned (.tuple #[.agg (Zy (Qox (Xg s (Zp s) Q7) Q7) a2 c2 a3 c3 a4 c4 a5 c5),ev])∧EvOf (Xg s (Zp s) Q7) ev∧Qzi B ev (Xg s (Zp s) Q7) w'∧RvsC (CW w') a2 (Qox (Xg s (Zp s) Q7) Q7 2).rs∧NmsC (CW w') a3 (Qox (Xg s (Zp s) Q7) Q7 3).ns∧StrsC (CW w') a4 (Qox (Xg s (Zp s) Q7) Q7 4).l∧StrsC (CW w') a5 (Qox (Xg s (Zp s) Q7) Q7 5).l∧Below w.heap.size w w':=by
 refine(Qor B s w h.t h.e h.s h.g hs).mono ?_
 rintro e w' ⟨hb,hh⟩
 cases hr:Xg s (Zp s) Q7 with
 | error f=>
  rw[hr]at hh
  obtain⟨fb,he,hf⟩:=hh
  exact⟨_,none,0,none,0,none,0,none,0,he,⟨fb,rfl⟩,Qw0 hf,λ i hi=>absurd hi (by simp[len,Qox,Q7,DV.rs]),λ i hi=>absurd hi (by simp[len,Qox,Q7,DV.ns]),Qgb _ _,Qgb _ _,hb⟩
 | ok y=>
  rw[hr]at hh
  obtain⟨hk,a2,c2,a3,c3,a4,c4,a5,c5,⟨rb,tb,hL⟩,he⟩:=hh
  exact⟨_,a2,c2,a3,c3,a4,c4,a5,c5,he,rfl,Qwz B y w',Qkm (hk 2) hL.1,Qkl (hk 3) hL.2.1,Qal (hk 4) hL.2.2.1,Qal (hk 5) hL.2.2.2,hb⟩
def Qbi(d:RevD):RevD:={ d with ws:=Zv d.ws 70,ps:=Zv d.ps 20 }
def Qb3(l:List RevD):List RevD:=(l.take 8).map Qbi
theorem Qee(l:List RevD):len (Qb3 l)=min (len l) 8:=by unfold Qb3;simp only[len,List.length_map,List.length_take];omega
theorem Qje(l:List RevD){i:Nat}(hi:i<len (Qb3 l)):lth (Qb3 l) i=Qbi (lth l i):=by
 have hl:=Qee l;have h':i<((l.take 8).map Qbi).length:=hi;have h2:i<l.length:=by rw[hl,Zm]at hi;omega
 show lth ((l.take 8).map Qbi) i=_
 rw[Jw _ i h',List.getElem_map,List.getElem_take,Jw l i h2]
theorem Qzj{w:World}{base e n:Nat}{v:Value}{l:List RvX}(h:w.ownsRow base e 11 v n (l.flatMap RvX.cells)):∃a c,v=.slice a (len l) c∧∀i (hi:i<l.length),∃b off,a=some ⟨b,off,none⟩∧∀j,j<11→w.cell? ⟨b,off+i * 11+j,none⟩=(l[i].cells)[j]?:=by
 have hn:len l=n:=by
  have:=h.1;rw[Qac RvX.cells 11 (λ _=>rfl)]at this;rw[Zm];omega
 obtain⟨h1,h2⟩:=h
 rcases h2 with⟨rfl,h2⟩ | ⟨g,cap,cur,rfl,hg,hh,hc1,hc2,hc3,hc4⟩
 ·obtain rfl:l=[]:=List.eq_nil_of_length_eq_zero (by rw[←Zm];omega)
  exact⟨none,0,rfl,λ i hi=>by simp at hi⟩
 ·refine⟨some ⟨g,0,none⟩,cap,by rw[hn],λ i hi=>⟨g,0,rfl,λ r hr=>?_⟩⟩
  have hown:w.ownsRow base e 11 (.slice (some ⟨g,0,none⟩) n cap) n (l.flatMap RvX.cells):=⟨h1,.inr ⟨g,cap,cur,rfl,hg,hh,hc1,hc2,hc3,hc4⟩⟩;have:=hown.cellAt (i * 11+r) (by rw[←hn,Zm];omega)
  rw[Nat.zero_add,this,Qdw RvX.cells 11 (λ _=>rfl) l i r hi hr]
theorem Qun{n c k:Nat}(b0:Option Addr)(hk:k≤c)(W:World):(Instr.slice 25 (.slice b0 n c) none (some (.int .i64 (k:Int))) none).run Tryz.prog W=.ok (.slice b0 k c) W:=by
 have hsz:(sizeOf (Tryz.prog.elem 25)).run Tryz.prog W=.ok 1 W:=by kernel_rfl
 rw[run_slice_h (P:=Tryz.prog) W 25 b0 n c Tryz.underlying25 .i64 (k:Int) (by omega) (by omega),hsz]
 simp only[Result.andThen,sliced,Int.toNat_natCast,Nat.sub_zero,Nat.zero_mul]
 have e:(b0.map (·.add 0))=b0:=by cases b0 <;> simp[Addr.add]
 rw[e]
 split <;> rfl
def CW2(n:Nat)(w:World):CP:=λ b o x=>CW w b o x∧(n≤b ∨ ∃cs,w.heap[b]?=some (.cells cs 9 (0,0)))
theorem CW2.cw{n:Nat}{w:World}{b o:Nat}{x:Value}(h:CW2 n w b o x):CW w b o x:=h.1
theorem CWS.cw2{w:World}(n:Nat){b o:Nat}{x:Value}(h:CWS w b o x):CW2 n w b o x:=⟨h.1,.inr h.2⟩
theorem CW2.set{n:Nat}{w:World}{b o t j:Nat}{x:Value}{cs:Array Value}{T:TypeId}{fr:Nat × Nat}(h:CW2 n w b o x)(ht:t<n)(hb:w.heap[t]?=some (.cells cs T fr))(hT:T≠9)(v:Value):CW2 n (w.setCell ⟨t,j,none⟩ v) b o x:=by
 have hne:b≠t:=λ e=>by
  subst e
  rcases h.2 with h2 | ⟨cs',h2⟩
  ·omega
  ·rw[hb]at h2;cases h2;exact hT rfl
 have hk:(w.setCell ⟨t,j,none⟩ v).heap[b]?=w.heap[b]?:=Below.heap_setCell _ _ _ _ hne
 exact⟨(World.cell?_of_block (a:=⟨b,o,none⟩) hk).trans h.1,h.2.imp id (fun ⟨cs',h2⟩=>⟨cs',hk.trans h2⟩)⟩
def Quo(a3:Option Addr)(k3:Nat)(root:ByteArray)(sg:Int)(rs:List RevD)(cs:List Int)(sp pp:List ByteArray)(w:World)(e:Ending)(w':World):Prop:=∃a2 k2 a4 k4 a5 k5,e=.returned (.agg #[.string root,.int .u64 sg,.slice a2 (len rs) k2,.slice a3 (len cs) k3,.slice a4 (len sp) k4,.slice a5 (len pp) k5])∧RvsC (CW2 w.heap.size w') a2 rs∧NmsC (CW w') a3 cs∧StrsC (CW2 w.heap.size w') a4 sp∧StrsC (CW2 w.heap.size w') a5 pp∧Below w.heap.size w w'
def KeepS(w w':World):Prop:=∀(b:Nat) (cs:Array Value),w.heap[b]?=some (.cells cs 9 (0,0))→w'.heap[b]?=w.heap[b]?
theorem KeepS.trans{a b c:World}(h:KeepS a b)(k:KeepS b c):KeepS a c:=λ i cs hi=>(k i cs ((h i cs hi).trans hi)).trans (h i cs hi)
theorem KeepS.low{w w':World}(hb:Below w.heap.size w w'):KeepS w w':=λ b cs h=>hb.block b (lt_of_block h)
theorem KeepS.set{w:World}{t j:Nat}{cs:Array Value}{T:TypeId}{fr:Nat × Nat}(h:w.heap[t]?=some (.cells cs T fr))(hT:T≠9)(v:Value):KeepS w (w.setCell ⟨t,j,none⟩ v):=λ b cs' hb=>Below.heap_setCell _ _ _ _ (show b≠t from λ e=>by subst e;rw[h]at hb;cases hb;exact hT rfl)
theorem KeepS.row{w w':World}{v:Value}{base n k:Nat}{T:TypeId}{xs:List Value}(ho:w.ownsRow base T k v n xs)(hT:T≠9)(hE:Jg v.ownBlock w w'):KeepS w w':=λ b cs hb=>hE.block b (lt_of_block hb) (λ e=>by
 obtain⟨cs',h⟩:=Qc1 ho b e.symm
 rw[h]at hb;cases hb;exact hT rfl)
theorem Qzk{w w':World}{base e size n:Nat}{v:Value}{xs:List Value}(h:w.ownsRow base e size v n xs)(hb:∀g,v.ownBlock=some g→w'.heap[g]?=w.heap[g]?):w'.ownsRow base e size v n xs:=by
 refine⟨h.1,?_⟩
 rcases h.2 with h2 | ⟨g,cap,cur,hv,hg,hh,hr2⟩
 ·exact .inl h2
 ·exact .inr ⟨g,cap,cur,hv,hg,(hb g (by rw[hv];rfl)).trans hh,hr2⟩
theorem Qup(root:ByteArray)(sg:Int)(rs:List RevD)(cs:List Int)(sp pp:List ByteArray)(a2 a3 a4 a5:Option Addr)(k2 k3 k4 k5:Nat)(w:World)
  (h2:RvsC (CW w) a2 rs) (h3:NmsC (CW w) a3 cs) (h4:StrsC (CW w) a4 sp) (h5:StrsC (CW w) a5 pp) (n2:len rs≤9223372036854775807) (n3:len cs≤9223372036854775807) (m3:len cs≤k3) (n4:len sp≤9223372036854775807) (n5:len pp≤9223372036854775807)
  (hr:∀i,i<len rs→len (lth rs i).ws≤9223372036854775807∧len (lth rs i).ps≤9223372036854775807):
  Calls Tryz.prog 47 #[.agg #[.string root,.int .u64 sg,.slice a2 (len rs) k2,.slice a3 (len cs) k3,.slice a4 (len sp) k4,.slice a5 (len pp) k5]] w (Quo a3 k3 root sg (Qb3 rs) (cs.take 650) (Zv sp 20) (Zv pp 20) w):=by
 have HR:=QLh h2;have HC:=QLh h3;have HRL:=QLh hr;have H4:=QLh (fun (w':World) (hb:Below w.heap.size w w')=>Qga a4 k4 sp 20 w' (h4.low hb) n4 (by decide));have H5:=QLh (fun (w':World) (hb:Below w.heap.size w w')=>Qga a5 k5 pp 20 w' (h5.low hb) n5 (by decide))
 obtain⟨nc,hnc⟩:∃n,min (len cs) 650=n:=⟨_,rfl⟩
 have hcn:len (cs.take 650)=nc:=by rw[←hnc];simp only[len,List.length_take];omega
 have HCN:=QLh hcn;have mn:min (len cs:Int) 650=(nc:Int):=by rw[←hnc];omega
 have hs1:∀W,(Instr.slice 25 (.slice a3 (len cs) k3) none (some (.int .i64 (nc:Int))) none).run Tryz.prog W=.ok (.slice a3 nc k3) W:=λ W=>Qun a3 (by omega) W;clear h2 h3 h4 h5 hr hcn
 generalize Zv sp 20=sp' at H4
 generalize Zv pp 20=pp' at H5
 generalize len sp=n4' at H4 ⊢
 generalize len pp=n5' at H5 ⊢
 clear hnc
 go_enter Tryz.func47,Tryz.ntmps47
 go_upto_region 1 with fail
 obtain⟨cb,hcb⟩:∃cb,w.heap.size=cb:=⟨_,rfl⟩
 obtain⟨V,hV⟩:∃V,(w.alloc (.cells #[.string root,.int .u64 sg,.slice a2 (len rs) k2,.slice a3 (len cs) k3,.slice a4 n4' k4,.slice a5 n5' k5] 28)).alloc (.cells #[.string ⟨#[]⟩,.int .u64 0,.slice none 0 0,.slice none 0 0,.slice none 0 0,.slice none 0 0] 28)=V:=⟨_,rfl⟩
 have HB:Hid (Below w.heap.size w V):=QLh (by rw[←hV];exact Qh (Qh (Below.refl _ _) _) _);have HS:Hid (V.heap[cb]?=some (.cells #[.string root,.int .u64 sg,.slice a2 (len rs) k2,.slice a3 (len cs) k3,.slice a4 n4' k4,.slice a5 n5' k5] 28 (0,0))):=QLh (by rw[←hV,←hcb];exact Qf (heap_alloc_new _ _) _);have HZ:Hid (V.heap[cb+1]?=some (.cells #[.string ⟨#[]⟩,.int .u64 0,.slice none 0 0,.slice none 0 0,.slice none 0 0,.slice none 0 0] 28 (0,0))):=QLh (by rw[←hV];exact Qi _ (by simp[hcb]));have HCB:Hid (w.heap.size≤cb):=QLh (Nat.le_of_eq hcb)
 try rw[hV]
 try simp only[hcb]
 clear hV hcb;have cS:∀o,V.cell? ⟨cb,o,none⟩=_:=Qa HS.out
 go_wp2_with fail
 refine(H4.out V HB.out).mono ?_
 rintro e w1 ⟨b4,c4,rfl,hs,_,hb⟩
 have T4:=QLh hs;have HBa:=QLh (Qk HB.out hb);have HSa:=QLh ((hb.block _ (lt_of_block HS.out)).trans HS.out);have HZa:=QLh ((hb.block _ (lt_of_block HZ.out)).trans HZ.out);clear hs hb cS HS HZ HB;have cS:∀o,w1.cell? ⟨cb,o,none⟩=_:=Qa HSa.out;have fS:∀o,w1.frozen? ⟨cb,o,none⟩=false:=Qj HSa.out;have lS:cb<w1.heap.size:=lt_of_block HSa.out
 go_upto_region 2 with fail
 obtain⟨W1,hW1⟩:∃W1,w1.setCell ⟨cb,4,none⟩ (.slice b4 (len sp') c4)=W1:=⟨_,rfl⟩
 have HSb:Hid (W1.heap[cb]?=some (.cells #[.string root,.int .u64 sg,.slice a2 (len rs) k2,.slice a3 (len cs) k3,.slice b4 (len sp') c4,.slice a5 n5' k5] 28 (0,0))):=QLh (by rw[←hW1];exact Qb HSa.out _);have HZb:Hid (W1.heap[cb+1]?=some (.cells #[.string ⟨#[]⟩,.int .u64 0,.slice none 0 0,.slice none 0 0,.slice none 0 0,.slice none 0 0] 28 (0,0))):=QLh (by rw[←hW1];exact Qg HZa.out (by omega:cb+1≠cb) _);have HBb:Hid (Below w.heap.size w W1):=QLh (by rw[←hW1];exact Zs HBa.out HCB.out _);have T4b:Hid (StrsC (CWS W1) b4 sp'):=QLh (by rw[←hW1];exact T4.out.wset HSa.out (by decide) _)
 rw[hW1]
 clear hW1 cS fS lS HSa HZa HBa T4;have cS:∀o,W1.cell? ⟨cb,o,none⟩=_:=Qa HSb.out
 go_wp2_with fail
 refine(H5.out W1 HBb.out).mono ?_
 rintro e w2 ⟨b5,c5,rfl,hs,_,hb⟩
 have T5:=QLh hs;have T4c:=QLh (T4b.out.wlow hb);have HBc:=QLh (Qk HBb.out hb);have HSc:=QLh ((hb.block _ (lt_of_block HSb.out)).trans HSb.out);have HZc:=QLh ((hb.block _ (lt_of_block HZb.out)).trans HZb.out);clear hs hb cS HSb HZb HBb T4b;have cS:∀o,w2.cell? ⟨cb,o,none⟩=_:=Qa HSc.out;have fS:∀o,w2.frozen? ⟨cb,o,none⟩=false:=Qj HSc.out;have lS:cb<w2.heap.size:=lt_of_block HSc.out
 go_upto_region 3 with fail
 obtain⟨W2,hW2⟩:∃W2,w2.setCell ⟨cb,5,none⟩ (.slice b5 (len pp') c5)=W2:=⟨_,rfl⟩
 have HSd:Hid (W2.heap[cb]?=some (.cells #[.string root,.int .u64 sg,.slice a2 (len rs) k2,.slice a3 (len cs) k3,.slice b4 (len sp') c4,.slice b5 (len pp') c5] 28 (0,0))):=QLh (by rw[←hW2];exact Qb HSc.out _);have HZd:Hid (W2.heap[cb+1]?=some (.cells #[.string ⟨#[]⟩,.int .u64 0,.slice none 0 0,.slice none 0 0,.slice none 0 0,.slice none 0 0] 28 (0,0))):=QLh (by rw[←hW2];exact Qg HZc.out (by omega:cb+1≠cb) _);have HBd:Hid (Below w.heap.size w W2):=QLh (by rw[←hW2];exact Zs HBc.out HCB.out _);have T4d:Hid (StrsC (CWS W2) b4 sp'):=QLh (by rw[←hW2];exact T4c.out.wset HSc.out (by decide) _);have T5d:Hid (StrsC (CWS W2) b5 pp'):=QLh (by rw[←hW2];exact T5.out.wset HSc.out (by decide) _)
 rw[hW2]
 clear hW2 cS fS lS HSc HZc HBc T4c T5;have cS:∀o,W2.cell? ⟨cb,o,none⟩=_:=Qa HSd.out;have fS:∀o,W2.frozen? ⟨cb,o,none⟩=false:=Qj HSd.out;have lS:cb<W2.heap.size:=lt_of_block HSd.out
 go_upto_region 4 with fail
 obtain⟨W3,hW3⟩:∃W3,W2.setCell ⟨cb,3,none⟩ (.slice a3 nc k3)=W3:=⟨_,rfl⟩
 have HSe:Hid (W3.heap[cb]?=some (.cells #[.string root,.int .u64 sg,.slice a2 (len rs) k2,.slice a3 nc k3,.slice b4 (len sp') c4,.slice b5 (len pp') c5] 28 (0,0))):=QLh (by rw[←hW3];exact Qb HSd.out _);have HZe:Hid (W3.heap[cb+1]?=some (.cells #[.string ⟨#[]⟩,.int .u64 0,.slice none 0 0,.slice none 0 0,.slice none 0 0,.slice none 0 0] 28 (0,0))):=QLh (by rw[←hW3];exact Qg HZd.out (by omega:cb+1≠cb) _);have HBe:Hid (Below w.heap.size w W3):=QLh (by rw[←hW3];exact Zs HBd.out HCB.out _);have T4e:Hid (StrsC (CWS W3) b4 sp'):=QLh (by rw[←hW3];exact T4d.out.wset HSd.out (by decide) _);have T5e:Hid (StrsC (CWS W3) b5 pp'):=QLh (by rw[←hW3];exact T5d.out.wset HSd.out (by decide) _)
 rw[hW3]
 clear hW3 cS fS lS HSd HZd HBd T4d T5d hs1 mn
 obtain⟨N,hN⟩:∃N,min (len rs) 8=N:=⟨_,rfl⟩
 have hN1:N≤len rs∧N≤8∧(N=len rs ∨ N=8):=by omega
 obtain⟨i0,hi,hz0,hz1,hz2⟩:=info_parts Qkx
 go_wp2
 go_loopg [3,4,5] N (λ g lv i x5 wr=>∃(m:Nat) (acc:List RvX),g+m=N∧i=.int .i64 m∧Hid (acc.map (λ x=>x.d)=(rs.take m).map Qbi)∧Hid (Below W3.heap.size W3 wr)∧Hid (wr.ownsRow W3.heap.size 48 11 lv m (acc.flatMap RvX.cells))∧Hid (∀x ∈ acc,StrsC (CWS wr) x.wa x.d.ws∧StrsC (CWS wr) x.pa x.d.ps))
 case atStart=>exact⟨0,[],rfl,rfl,rfl,Below.refl _ _,World.ownsRow_nil _ _ _ _,λ x hx=>by cases hx⟩
 case round=>
  obtain⟨m,acc,hm,rfl,HA,HW,HO,HT⟩:=hrel
  by_cases hlt:m<N
  ·have i1:(m:Int)<len rs:=by omega
   have i2:(m:Int)<8:=by omega
   have hbw:Below w.heap.size w wr:=Qk HBe.out HW.out;have hcl:cb<wr.heap.size:=Nat.lt_of_lt_of_le (lt_of_block HSe.out) HW.out.size
   obtain⟨gb,go,ha2,hc⟩:=HR.out m (by omega)
   have hrl:=HRL.out m (by omega);have hml:m<rs.length:=by have:=Zm rs;omega
   have HTK:Hid ((rs.take (m+1)).map Qbi=acc.map (λ x=>x.d)++[Qbi (lth rs m)]):=QLh (by
    rw[HA.out,List.take_succ_eq_append_getElem hml,List.map_append,Jw rs m hml];rfl)
   generalize lth rs m=d at hc hrl HTK
   have HSw:=QLh ((HW.out.block _ (lt_of_block HSe.out)).trans HSe.out);have cS:∀o,wr.cell? ⟨cb,o,none⟩=_:=Qa HSw.out
   obtain⟨wa,wk,q4,s4⟩:=hc.c4
   obtain⟨pa,pk,q5,s5⟩:=hc.c5
   have e0:wr.cell? ⟨gb,go+m * 11,none⟩=some _:=Qu hbw _ _ _ hc.c0;have e1:wr.cell? ⟨gb,go+m * 11+1,none⟩=some _:=Qu hbw _ _ _ hc.c1;have e2:wr.cell? ⟨gb,go+m * 11+2,none⟩=some _:=Qu hbw _ _ _ hc.c2;have e3:wr.cell? ⟨gb,go+m * 11+3,none⟩=some _:=Qu hbw _ _ _ hc.c3;have e4:wr.cell? ⟨gb,go+m * 11+4,none⟩=some _:=Qu hbw _ _ _ q4;have e5:wr.cell? ⟨gb,go+m * 11+5,none⟩=some _:=Qu hbw _ _ _ q5;have e6:wr.cell? ⟨gb,go+m * 11+6,none⟩=some _:=Qu hbw _ _ _ hc.c6;have e7:wr.cell? ⟨gb,go+m * 11+7,none⟩=some _:=Qu hbw _ _ _ hc.c7;have e8:wr.cell? ⟨gb,go+m * 11+8,none⟩=some _:=Qu hbw _ _ _ hc.c8;have e9:wr.cell? ⟨gb,go+m * 11+9,none⟩=some _:=Qu hbw _ _ _ hc.c9;have e10:wr.cell? ⟨gb,go+m * 11+10,none⟩=some _:=Qu hbw _ _ _ hc.c10;have HSL:=QLh (fun (w':World) (hb:Below w.heap.size w w')=>Qwy d.L d.signed d.idx wa pa wk pk d.ws d.ps w' (s4.imp (Qu hb)) (s5.imp (Qu hb)) hrl.1 hrl.2)
   subst ha2
   clear hc q4 q5 s4 s5 hrl
   go_upto_region 9 with fail
   obtain⟨xb,hxb⟩:∃xb,wr.heap.size=xb:=⟨_,rfl⟩
   obtain⟨W4,hW4⟩:∃W4,wr.alloc (.cells #[.int .u64 d.pos,.int .u64 d.L,.bool d.signed,.int .u64 d.idx,.slice wa (len d.ws) wk,.slice pa (len d.ps) pk,.string d.root,.int .u64 d.wt,.int .u64 d.first,.int .u64 d.life,.int .u64 d.keys] 48)=W4:=⟨_,rfl⟩
   have hb4:Below wr.heap.size wr W4:=by rw[←hW4];exact Qh (Below.refl _ _) _
   have HX4:Hid (W4.heap[xb]?=some (.cells #[.int .u64 d.pos,.int .u64 d.L,.bool d.signed,.int .u64 d.idx,.slice wa (len d.ws) wk,.slice pa (len d.ps) pk,.string d.root,.int .u64 d.wt,.int .u64 d.first,.int .u64 d.life,.int .u64 d.keys] 48 (0,0))):=QLh (by rw[←hW4,←hxb];exact heap_alloc_new _ _);have HO4:=QLh (Zi HO.out hb4);have HT4:Hid (KeepS wr W4):=QLh (KeepS.low hb4);have HW4:=QLh (Qk HW.out hb4);have HXB:Hid (W3.heap.size≤xb∧∀g,u3.ownBlock=some g→g≠xb):=QLh ⟨by rw[←hxb];exact HW.out.size,λ g hg=>by have:=(HO.out.lt g hg).2;omega⟩
   simp only[hW4,hxb]
   clear hW4 hxb hb4 cS e0 e1 e2 e3 e4 e5 e6 e7 e8 e9 e10;have cX:∀o,W4.cell? ⟨xb,o,none⟩=_:=Qa HX4.out
   go_wp2_with fail
   refine(HSL.out W4 (Qk HBe.out HW4.out)).mono ?_
   rintro e w5 ⟨x1,y1,x2,y2,rfl,hx1,hx2,hb⟩
   have HX1:=QLh hx1;have HX2:=QLh hx2;have HX5:=QLh ((hb.block _ (lt_of_block HX4.out)).trans HX4.out);have HO5:=QLh (Zi HO4.out hb);have HT5:Hid (KeepS wr w5):=QLh (HT4.out.trans (KeepS.low hb));have HW5:=QLh (Qk HW4.out hb);clear hx1 hx2 hb cX HX4 HO4 HT4 HW4 HSL;have cX:∀o,w5.cell? ⟨xb,o,none⟩=_:=Qa HX5.out;have fX:∀o,w5.frozen? ⟨xb,o,none⟩=false:=Qj HX5.out;have lX:xb<w5.heap.size:=lt_of_block HX5.out
   go_upto_region 10 with fail
   obtain⟨W6,hW6⟩:∃W6,((((w5.setCell ⟨xb,1,none⟩ (.int .u64 d.L)).setCell ⟨xb,2,none⟩ (.bool d.signed)).setCell ⟨xb,3,none⟩ (.int .u64 d.idx)).setCell ⟨xb,4,none⟩ (.slice x1 (len (Zv d.ws 70)) y1)).setCell ⟨xb,5,none⟩ (.slice x2 (len (Zv d.ps 20)) y2)=W6:=⟨_,rfl⟩
   have HX6:Hid (W6.heap[xb]?=some (.cells #[.int .u64 d.pos,.int .u64 d.L,.bool d.signed,.int .u64 d.idx,.slice x1 (len (Zv d.ws 70)) y1,.slice x2 (len (Zv d.ps 20)) y2,.string d.root,.int .u64 d.wt,.int .u64 d.first,.int .u64 d.life,.int .u64 d.keys] 48 (0,0))):=QLh (by rw[←hW6];exact Qb (Qb (Qb (Qb (Qb HX5.out _) _) _) _) _);have HK6:Hid (KeepS w5 W6):=QLh (by
    rw[←hW6]
    exact((((KeepS.set HX5.out (by decide) _).trans (KeepS.set (Qb HX5.out _) (by decide) _)).trans (KeepS.set (Qb (Qb HX5.out _) _) (by decide) _)).trans (KeepS.set (Qb (Qb (Qb HX5.out _) _) _) (by decide) _)).trans (KeepS.set (Qb (Qb (Qb (Qb HX5.out _) _) _) _) (by decide) _))
   have HO6:Hid (W6.ownsRow W3.heap.size 48 11 u3 m (acc.flatMap RvX.cells)):=QLh (Qzk HO5.out λ g hg=>by
    have hne:=HXB.out.2 g hg
    rw[←hW6,Below.heap_setCell _ _ _ _ hne,Below.heap_setCell _ _ _ _ hne,Below.heap_setCell _ _ _ _ hne,Below.heap_setCell _ _ _ _ hne,Below.heap_setCell _ _ _ _ hne])
   have HW6:Hid (Below W3.heap.size W3 W6):=QLh (by
    rw[←hW6]
    have h:=HXB.out.1
    exact Zs (Zs (Zs (Zs (Zs HW5.out h _) h _) h _) h _) h _)
   have HX1:Hid (StrsC (CWS W6) x1 (Zv d.ws 70)):=QLh (HX1.out.wkeep HK6.out);have HX2:Hid (StrsC (CWS W6) x2 (Zv d.ps 20)):=QLh (HX2.out.wkeep HK6.out);have HT6:Hid (KeepS wr W6):=QLh (HT5.out.trans HK6.out)
   rw[hW6]
   clear hW6 cX fX lX HX5 HO5 HT5 HW5 HK6;have cX:∀o,W6.cell? ⟨xb,o,none⟩=_:=Qa HX6.out;have hws:W3.heap.size≤W6.heap.size:=HW6.out.size
   go_wp2_with (at_builtin;refine wpList_append_own _ rfl _ _ 24 rfl W3.heap.size 48 i0 (.agg Rev.zero.cells.toArray) 11 128 Tryz.underlying24 hi hz0 hz1 hz2 rfl (by decide) _ _ _ rfl (HO6.out.alloc _) ⟨W6.heap.size,0,none⟩ 1 1 [.int .u64 d.pos,.int .u64 d.L,.bool d.signed,.int .u64 d.idx,.slice x1 (len (Zv d.ws 70)) y1,.slice x2 (len (Zv d.ps 20)) y2,.string d.root,.int .u64 d.wt,.int .u64 d.first,.int .u64 d.life,.int .u64 d.keys] rfl rfl ?c1 ?c2 ?c3 ?c4 ?c5 ?_)
   case c1=>exact World.news_of_block (heap_alloc_new _ _)
   case c2=>intro u hu;simp at hu;rcases hu with rfl | rfl | rfl | rfl | rfl | rfl | rfl | rfl | rfl | rfl | rfl <;> rfl
   case c3=>unfold maxLen;omega
   case c4=>omega
   case c5=>simp;omega
   intro v' w7 hown' hgrow hnil
   have HO7:Hid (w7.ownsRow W3.heap.size 48 11 v' (m+1) ((acc++[(⟨Qbi d,x1,y1,x2,y2⟩:RvX)]).flatMap RvX.cells)):=QLh (by rw[List.flatMap_append];exact hown');have HK7:Hid (KeepS wr w7):=QLh (HT6.out.trans ((KeepS.low (Qh (Below.refl _ _) _)).trans (KeepS.row (HO6.out.alloc _) (by decide) hgrow)));have HX1:Hid (StrsC (CWS w7) x1 (Zv d.ws 70)):=QLh (HX1.out.wkeep ((KeepS.low (Qh (Below.refl _ _) _)).trans (KeepS.row (HO6.out.alloc _) (by decide) hgrow)));have HX2:Hid (StrsC (CWS w7) x2 (Zv d.ps 20)):=QLh (HX2.out.wkeep ((KeepS.low (Qh (Below.refl _ _) _)).trans (KeepS.row (HO6.out.alloc _) (by decide) hgrow)));have HT7:Hid (∀x ∈ acc++[(⟨Qbi d,x1,y1,x2,y2⟩:RvX)],StrsC (CWS w7) x.wa x.d.ws∧StrsC (CWS w7) x.pa x.d.ps):=QLh (λ x hx=>by
    rcases List.mem_append.1 hx with h | h
    ·exact⟨(HT.out x h).1.wkeep HK7.out,(HT.out x h).2.wkeep HK7.out⟩
    ·rw[List.mem_singleton]at h;subst h;exact⟨HX1.out,HX2.out⟩)
   have HW7:Hid (Below W3.heap.size W3 w7):=QLh (by
    have h9:=HO6.out.lt;have hb:Below W3.heap.size W6 w7:=by
     refine⟨hgrow.os,hgrow.tape,hgrow.output,by have:=hgrow.size;simp at this;omega,λ i hi=>?_⟩
     rw[hgrow.block i (by simp;omega) (λ e=>by have:=(h9 i e.symm).1;omega)]
     exact Below.heap_alloc _ _ _ (by omega)
    exact HW6.out.trans hb)
   have HA7:Hid ((acc++[(⟨Qbi d,x1,y1,x2,y2⟩:RvX)]).map (λ x=>x.d)=(rs.take (m+1)).map Qbi):=QLh (by rw[HTK.out,List.map_append];rfl);clear hown' hgrow hnil cX hws
   go_wp2
   go_roundg (N - (m+1))
   case rel=>exact⟨m+1,_,by omega,by go_num,HA7.out,HW7.out,HO7.out,HT7.out⟩
   case measure=>omega
  ·obtain rfl:m=N:=by omega
   have HF:Hid (acc.map (λ x=>x.d)=Qb3 rs):=QLh (by
    rw[HA.out];unfold Qb3
    rcases hN1.2.2 with h | h
    ·rw[h,List.take_of_length_le (by rw[Zm];exact Nat.le_refl _),List.take_of_length_le (by rw[←Zm];omega)]
    ·rw[h])
   obtain⟨la,lc,hlv,hcell⟩:=Qzj HO.out
   have HOL:=QLh HO.out.lt;have HCE:=QLh hcell;have HSw:=QLh ((HW.out.block _ (lt_of_block HSe.out)).trans HSe.out);have HZw:=QLh ((HW.out.block _ (lt_of_block HZe.out)).trans HZe.out);have T4w:=QLh (T4e.out.wlow HW.out);have T5w:=QLh (T5e.out.wlow HW.out);have cS:∀o,wr.cell? ⟨cb,o,none⟩=_:=Qa HSw.out;have fS:∀o,wr.frozen? ⟨cb,o,none⟩=false:=Qj HSw.out;have lS:cb<wr.heap.size:=lt_of_block HSw.out;have HAL:Hid (len acc=len (Qb3 rs)):=QLh (by rw[←HF.out];simp only[len,List.length_map])
   subst hlv
   clear hcell;have hcases:((m:Int)<len rs∧¬(m:Int)<8) ∨ ¬(m:Int)<len rs:=by omega
   rcases hcases with⟨i1,i2⟩ | i1
   all_goals
    go_upto_region 12 with fail
    obtain⟨W8,hW8⟩:∃W8,wr.setCell ⟨cb,2,none⟩ (.slice la (len acc) lc)=W8:=⟨_,rfl⟩
    have HS8:Hid (W8.heap[cb]?=some (.cells #[.string root,.int .u64 sg,.slice la (len acc) lc,.slice a3 nc k3,.slice b4 (len sp') c4,.slice b5 (len pp') c5] 28 (0,0))):=QLh (by rw[←hW8];exact Qb HSw.out _);have HZ8:Hid (W8.heap[cb+1]?=some (.cells #[.string ⟨#[]⟩,.int .u64 0,.slice none 0 0,.slice none 0 0,.slice none 0 0,.slice none 0 0] 28 (0,0))):=QLh (by rw[←hW8];exact Qg HZw.out (by omega:cb+1≠cb) _);have HB8:Hid (Below w.heap.size w W8):=QLh (by rw[←hW8];exact Zs (Qk HBe.out HW.out) HCB.out _);have hbut8:Hid (∀k:Nat,k≠cb→W8.heap[k]?=wr.heap[k]?):=QLh (λ k hk=>by rw[←hW8,Below.heap_setCell _ _ _ _ hk])
    rw[hW8]
    clear hW8 cS fS lS;have cS:∀o,W8.cell? ⟨cb,o,none⟩=_:=Qa HS8.out;have g0:∀o,W8.cell? ⟨cb+1,o,none⟩=_:=Qa HZ8.out;have g1:∀o,W8.frozen? ⟨cb+1,o,none⟩=false:=Qj HZ8.out;have g2:cb+1<W8.heap.size:=lt_of_block HZ8.out
    go_wp2
    have hb9:=Qb (Qb (Qb (Qb (Qb (Qb HZ8.out (o:=0) (.string root)) (o:=1) (.int .u64 sg)) (o:=2) (.slice la (len acc) lc)) (o:=3) (.slice a3 nc k3)) (o:=4) (.slice b4 (len sp') c4)) (o:=5) (.slice b5 (len pp') c5);have dd:∀o,_=_:=Qa hb9;have hle:w.heap.size≤cb+1:=Nat.le_trans HCB.out (Nat.le_succ _)
    obtain⟨F,hF⟩:∃F,(((((W8.setCell ⟨cb+1,0,none⟩ (.string root)).setCell ⟨cb+1,1,none⟩ (.int .u64 sg)).setCell ⟨cb+1,2,none⟩ (.slice la (len acc) lc)).setCell ⟨cb+1,3,none⟩ (.slice a3 nc k3)).setCell ⟨cb+1,4,none⟩ (.slice b4 (len sp') c4)).setCell ⟨cb+1,5,none⟩ (.slice b5 (len pp') c5)=F:=⟨_,rfl⟩
    have hbut:∀k:Nat,k≠cb→k≠cb+1→F.heap[k]?=wr.heap[k]?:=λ k h1 h2=>by
     rw[←hF,Below.heap_setCell _ _ _ _ h2,Below.heap_setCell _ _ _ _ h2,Below.heap_setCell _ _ _ _ h2,Below.heap_setCell _ _ _ _ h2,Below.heap_setCell _ _ _ _ h2,Below.heap_setCell _ _ _ _ h2]
     exact hbut8.out k h1
    have hFB:Below w.heap.size w F:=by
     rw[←hF]
     exact Zs (Zs (Zs (Zs (Zs (Zs HB8.out hle _) hle _) hle _) hle _) hle _) hle _
    have hKS:KeepS wr F:=λ b cs hb=>hbut b (λ e=>by subst e;rw[HSw.out]at hb;cases hb) (λ e=>by subst e;rw[HZw.out]at hb;cases hb)
    rw[hF]at dd ⊢
    refine bodyPost_ret (v:=.agg #[.string root,.int .u64 sg,.slice la (len acc) lc,.slice a3 nc k3,.slice b4 (len sp') c4,.slice b5 (len pp') c5]) ?_ rfl ⟨la,lc,b4,c4,b5,c5,by rw[HAL.out,HCN.out],λ i hi=>?_,λ i hi=>?_,(T4w.out.wkeep hKS).imp λ _ _ _ h=>h.cw2 _,(T5w.out.wkeep hKS).imp λ _ _ _ h=>h.cw2 _,hFB⟩
    ·simp[results,Tryz.results47,go_sem,dd]
    ·have hia:i<acc.length:=by rw[←HAL.out,Zm]at hi;exact hi
     obtain⟨b,off,hla,hce⟩:=HCE.out i hia
     have hbl:=HOL.out b (by rw[hla];rfl);have hz:=lt_of_block HZe.out;have hFc:∀j,j<11→F.cell? ⟨b,off+i * 11+j,none⟩=(acc[i].cells)[j]?:=λ j hj=>by
      rw[World.cell?_of_block (w:=wr) (hbut b (by omega) (by omega))];exact hce j hj
     have hd:lth (Qb3 rs) i=acc[i].d:=by
      rw[←HF.out,Jw _ i (by simpa using hia),List.getElem_map]
     have ht:=HT.out acc[i] (List.getElem_mem _);have e0:=hFc 0 (by decide)
     rw[Nat.add_zero]at e0
     rw[hd]
     have hFc:∀j,j<11→∀x,(acc[i].cells)[j]?=some x→CW2 w.heap.size F b (off+i * 11+j) x:=λ j hj x hx=>⟨(hFc j hj).trans hx,.inl (by omega)⟩
     exact⟨b,off,hla,hFc 0 (by decide) _ rfl,hFc 1 (by decide) _ rfl,hFc 2 (by decide) _ rfl,hFc 3 (by decide) _ rfl,⟨_,_,hFc 4 (by decide) _ rfl,(ht.1.wkeep hKS).imp λ _ _ _ h=>h.cw2 _⟩,⟨_,_,hFc 5 (by decide) _ rfl,(ht.2.wkeep hKS).imp λ _ _ _ h=>h.cw2 _⟩,hFc 6 (by decide) _ rfl,hFc 7 (by decide) _ rfl,hFc 8 (by decide) _ rfl,hFc 9 (by decide) _ rfl,hFc 10 (by decide) _ rfl⟩
    ·have hil:i<cs.length:=by rw[HCN.out]at hi;have:=HCN.out;simp only[len,List.length_take]at this;omega
     obtain⟨b,off,e,hc⟩:=HC.out i (by rw[Zm];exact hil)
     have hn:nth (cs.take 650) i=nth cs i:=by
      have hi':i<(cs.take 650).length:=hi
      rw[Qce _ i hi',Qce cs i hil,List.getElem_take]
     rw[hn]
     exact⟨b,off,e,Qu hFB _ _ _ hc⟩
structure CertArg(w:World)(root:ByteArray)(sg:Int)(a2:Option Addr)(rs:List RevD)(a3:Option Addr)(k3:Nat)(cs:List Int)(a4:Option Addr)(sp:List ByteArray)(a5:Option Addr)(pp:List ByteArray):Prop where
 root:root.size≤maxLen
 sg:X8 sg
 r:RvsC (CW w) a2 rs
 rn:len rs≤maxLen
 ro:∀i,i<len rs→RvOp (lth rs i)
 c:NmsC (CW w) a3 cs
 cn:len cs≤k3
 ck:k3≤maxLen
 cu:∀i,i<len cs→X8 (nth cs i)
 s:StrsC (CW w) a4 sp
 sn:len sp≤maxLen
 p:StrsC (CW w) a5 pp
 pn:len pp≤maxLen
theorem Qbe{n:Nat}(h:n≤maxLen):n≤9223372036854775807:=by unfold maxLen at h;omega
theorem CertArg.low{w w':World}{root:ByteArray}{sg:Int}{a2:Option Addr}{rs:List RevD}{a3:Option Addr}{k3:Nat}{cs:List Int}{a4:Option Addr}{sp:List ByteArray}{a5:Option Addr}{pp:List ByteArray}(h:CertArg w root sg a2 rs a3 k3 cs a4 sp a5 pp)(hb:Below w.heap.size w w'):CertArg w' root sg a2 rs a3 k3 cs a4 sp a5 pp:=
 ⟨h.root,h.sg,h.r.imp (Qu hb),h.rn,h.ro,h.c.imp (Qu hb),h.cn,h.ck,h.cu,h.s.imp (Qu hb),h.sn,h.p.imp (Qu hb),h.pn⟩
structure CertFit(root:ByteArray)(sg:Int)(rs:List RevD)(cs:List Int)(sp pp:List ByteArray):Prop where
 bd:CtBd root sg rs cs sp pp
 ok:CertOkD sg rs cs
theorem Qgc(l:List ByteArray)(n:Nat)(hn:n≤100000):len (Zv l n)≤100000:=by rw[Qg4];omega
theorem Qw1{d:RevD}(h:RvOp d):RvBd (Qbi d):=⟨h.pos,h.L,h.idx,h.wt,h.first,h.life,h.keys,Qgc _ _ (by decide),Qgc _ _ (by decide),Qbe h.root⟩
theorem Qzl{d:RevD}(h:RvBd d):RvOk d:=λ o=>by
 unfold revC
 split <;> first | exact h.pos | exact h.L | trivial | exact h.idx | exact h.wt | exact h.first | exact h.life | exact h.keys
theorem Q1f{root:ByteArray}{sg:Int}{rs:List RevD}{cs:List Int}{sp pp:List ByteArray}(h:CtBd root sg rs cs sp pp):CertFit root sg rs cs sp pp:=by
 refine⟨h,h.sg,λ n hn=>?_,λ r hr=>?_⟩
 ·obtain⟨i,hi,rfl⟩:=List.getElem_of_mem hn
  rw[←Qce cs i hi];exact h.cs i hi
 ·obtain⟨i,hi,rfl⟩:=List.getElem_of_mem hr
  rw[←Jw rs i hi];exact Qzl (h.rs i hi)
theorem CertArg.fit{w:World}{root:ByteArray}{sg:Int}{a2:Option Addr}{rs:List RevD}{a3:Option Addr}{k3:Nat}{cs:List Int}{a4:Option Addr}{sp:List ByteArray}{a5:Option Addr}{pp:List ByteArray}(h:CertArg w root sg a2 rs a3 k3 cs a4 sp a5 pp):CertFit root sg (Qb3 rs) (cs.take 650) (Zv sp 20) (Zv pp 20):=by
 refine Q1f ⟨Qbe h.root,h.sg,by rw[Qee];omega,λ i hi=>?_,?_,λ i hi=>?_,Qgc _ _ (by decide),Qgc _ _ (by decide)⟩
 ·rw[Qje rs hi]
  exact Qw1 (h.ro i (by rw[Qee]at hi;omega))
 ·simp only[len,List.length_take];omega
 ·have hi':i<(cs.take 650).length:=hi
  have hil:i<cs.length:=by rw[List.length_take]at hi';omega
  rw[Qce _ i hi',List.getElem_take,←Qce cs i hil]
  exact h.cu i (by rw[Zm];exact hil)
theorem Quq(B:Nat){root:ByteArray}{sg:Int}{rs:List RevD}{cs:List Int}{sp pp:List ByteArray}(hf:CertFit root sg rs cs sp pp)(a2 a3 a4 a5:Option Addr)(k2 k3 k4 k5:Nat)(w:World)(h:TE7 B w)(s2:RvsC (CW w) a2 rs)(s3:NmsC (CW w) a3 cs)(s4:StrsC (CW w) a4 sp)(s5:StrsC (CW w) a5 pp):
  Calls Tryz.prog 48 #[.agg #[.string root,.int .u64 sg,.slice a2 (len rs) k2,.slice a3 (len cs) k3,.slice a4 (len sp) k4,.slice a5 (len pp) k5]] w (LaidIs (Za root sg rs cs sp pp) w):=
 Qrf w.heap.size root sg rs cs sp pp a2 a3 a4 a5 k2 k3 k4 k5 w h.up (s2.imp λ _ _ _ h=>CW.at h) (s3.imp λ _ _ _ h=>CW.at h) s4.at s5.at hf.bd (λ h=>Nat.le_trans (Q0w h) (by decide))
def Qbf(d:RevD):Bool:=decide (d.root.size=32) && (Qab d.ps 16 && Qab d.ws 67)
def okV(root:ByteArray)(nr nc:Nat)(sp pp:List ByteArray):Bool:=decide (root.size=32) && Qab pp 10240 && Qab sp 10240 && decide (nc≤640) && decide (nr≤640)
theorem Qur(d:RevD):Q8 (Zh d)=Qbf d:=by
 show(true && ((Q8 (Q5 d.root d.wt d.first d.life d.keys)) && ((Q8 (Q3 d.L d.signed d.idx d.ws d.ps)) && true)))=_
 rw[Qwh,Qwg]
 unfold Qbf
 simp
theorem Qw2(root:ByteArray)(sg:Int)(rs:List RevD)(cs:List Int)(sp pp:List ByteArray):Q8 (Za root sg rs cs sp pp)=(okV root (len rs) (len cs) sp pp && rs.all Qbf):=by
 show(Qab pp 10240 && (Qab sp 10240 && (decide (root.size=32) && (decide (len cs≤640) && (Qps rs 640 && (true && true))))))=_
 unfold okV Qps
 rw[show(rs.all λ r=>Q8 (Zh r))=rs.all Qbf from by congr 1;funext r;exact Qur r]
 cases Qab pp 10240 <;> cases Qab sp 10240 <;> cases decide (root.size=32) <;> cases decide (len cs≤640) <;> cases decide (len rs≤640) <;> cases rs.all Qbf <;> rfl
def Qbg(cs:List Int):ByteArray:=if len cs=0 then⟨#[]⟩else Z0 (len cs)++Xo (cs.map Xr)
def Qfd(rs:List RevD):ByteArray:=if len rs=0 then⟨#[]⟩else Z0 (len rs)++Xo (rs.map λ d=>Zw (Qg3 d))
def Q1g(root:ByteArray)(sg:Int)(rs:List RevD)(cs:List Int)(sp pp:List ByteArray):BPs:=[(⟨#[80]⟩,Qds pp),(⟨#[83]⟩,Qds sp),(⟨#[99]⟩,Jv root),(⟨#[112]⟩,Qbg cs),(⟨#[114]⟩,Qfd rs),(⟨#[119]⟩,Qbb sg)]
theorem Qp5{α:Type}(f:α→ByteArray)(l:List α)(m:Nat)(h:m<l.length):Xo ((l.take (m+1)).map f)=Xo ((l.take m).map f)++f l[m]:=by
 rw[List.take_succ_eq_append_getElem h,List.map_append,Qd2]
 simp[Xo]
theorem Qp6{w:World}{b:Nat}{ps:BPs}(k:ByteArray){v:ByteArray}(hv:v.size=0)(h:LyB w b ps):LyB w b (ps++[(k,v)]):=by
 unfold LyB Qfa at *
 rw[Qea _ _ _ hv]
 exact h
theorem Qnl{n:Nat}{b:ByteArray}(hn:n<65536)(h:n≠0):0<(Z0 n++b).size:=by
 rw[ByteArray.size_append]
 have:0<(Z0 n).size:=Qb8 3 _ ByteArray.empty (by decide) (λ _=>by omega)
 omega
theorem Qw3(cs:List Int)(hn:len cs<65536):(decide (len cs=0)=true ↔ (Qbg cs).size=0)∧(decide (len cs=0)=false→Z0 (len cs)++Xo (cs.map Xr)=Qbg cs):=by
 unfold Qbg
 by_cases h:len cs=0
 ·rw[if_pos h,decide_eq_true h]
  exact⟨⟨λ _=>rfl,λ _=>rfl⟩,λ h=>absurd h (by decide)⟩
 ·rw[if_neg h,decide_eq_false h]
  have:=Qnl (b:=Xo (cs.map Xr)) hn h
  exact⟨⟨λ h=>absurd h (by decide),λ h=>by omega⟩,λ _=>rfl⟩
theorem Qzm(rs:List RevD)(hn:len rs<65536)(hr:∀d ∈ rs,Qe7 d=Zw (Qg3 d)):(decide (len rs=0)=true ↔ (Qfd rs).size=0)∧(decide (len rs=0)=false→Z0 (len rs)++Xo (rs.map Qe7)=Qfd rs):=by
 unfold Qfd
 by_cases h:len rs=0
 ·rw[if_pos h,decide_eq_true h]
  exact⟨⟨λ _=>rfl,λ _=>rfl⟩,λ h=>absurd h (by decide)⟩
 ·rw[if_neg h,decide_eq_false h]
  have:=Qnl (b:=Xo (rs.map λ d=>Zw (Qg3 d))) hn h
  exact⟨⟨λ h=>absurd h (by decide),λ h=>by omega⟩,λ _=>by rw[List.map_congr_left hr]⟩
theorem Qnm{d:RevD}(h:Qbf d=true):Qe7 d=Zw (Qg3 d):=by
 unfold Qbf at h
 simp only[Bool.and_eq_true,decide_eq_true_eq]at h
 exact Qww d (by rw[h.1];decide) (Nat.lt_of_le_of_lt (Qbv h.2.2).1 (by decide)) (Nat.lt_of_le_of_lt (Qbv h.2.1).1 (by decide))
theorem Qus(root:ByteArray)(sg:Int)(rs:List RevD)(cs:List Int)(sp pp:List ByteArray)(h0:okV root (len rs) (len cs) sp pp=true)(h1:∀i,i<len rs→Qbf (lth rs i)=true):Qbj (Za root sg rs cs sp pp)=Zw (Q1g root sg rs cs sp pp):=by
 unfold okV at h0
 simp only[Bool.and_eq_true,decide_eq_true_eq]at h0
 obtain⟨⟨⟨⟨g1,g2⟩,g3⟩,g4⟩,g5⟩:=h0
 refine Qlj ⟨⟨rfl,Qpy pp (Nat.lt_of_le_of_lt (Qbv g2).1 (by decide))⟩,⟨rfl,Qpy sp (Nat.lt_of_le_of_lt (Qbv g3).1 (by decide))⟩,⟨rfl,Qxz root (by rw[g1];decide)⟩,⟨rfl,Qw3 cs (Nat.lt_of_le_of_lt g4 (by decide))⟩,⟨rfl,Qzm rs (Nat.lt_of_le_of_lt g5 (by decide)) (λ d hd=>?_)⟩,⟨rfl,Qf2 ⟨#[]⟩ sg⟩,trivial⟩
 obtain⟨i,hi,rfl⟩:=List.getElem_of_mem hd
 have:=h1 i hi
 rw[Jw _ i hi]at this
 exact Qnm this
structure RcBd(rs:List RevD)(sp pp:List ByteArray):Prop where
 sp:∀i,i<len sp→(sth sp i).size≤9223372036854775807
 pp:∀i,i<len pp→(sth pp i).size≤9223372036854775807
 ws:∀i,i<len rs→∀j,j<len (lth rs i).ws→(sth (lth rs i).ws j).size≤9223372036854775807
 ps:∀i,i<len rs→∀j,j<len (lth rs i).ps→(sth (lth rs i).ps j).size≤9223372036854775807
theorem Qut(root:ByteArray)(sg:Int)(rs:List RevD)(cs:List Int)(sp pp:List ByteArray)(a2 a3 a4 a5:Option Addr)(k2 k3 k4 k5:Nat)(w:World)(s2:RvsC (CW w) a2 rs)(s3:NmsC (CW w) a3 cs)(s4:StrsC (CW w) a4 sp)(s5:StrsC (CW w) a5 pp)(bd:CtBd root sg rs cs sp pp)(hz:RcBd rs sp pp):
  Calls Tryz.prog 49 #[.agg #[.string root,.int .u64 sg,.slice a2 (len rs) k2,.slice a3 (len cs) k3,.slice a4 (len sp) k4,.slice a5 (len pp) k5]] w (LaidIs (Za root sg rs cs sp pp) w):=by
 have S2:=QLh s2;have S3:=QLh s3;have S4:=QLh s4;have S5:=QLh s5;have HBD:=QLh bd;have HZ:=QLh hz;clear s2 s3 s4 s5 bd hz
 go_enter Tryz.func49,Tryz.ntmps49
 go_upto_region 1 with fail
 obtain⟨pb,hpb⟩:∃x,w.heap.size=x:=⟨_,rfl⟩
 obtain⟨V,hV⟩:∃V,w.alloc (.cells #[.string root,.int .u64 sg,.slice a2 (len rs) k2,.slice a3 (len cs) k3,.slice a4 (len sp) k4,.slice a5 (len pp) k5] 28)=V:=⟨_,rfl⟩
 have HB:Hid (Below w.heap.size w V):=QLh (by rw[←hV];exact Qh (Below.refl _ _) _);have HP:Hid (V.heap[pb]?=some (.cells #[.string root,.int .u64 sg,.slice a2 (len rs) k2,.slice a3 (len cs) k3,.slice a4 (len sp) k4,.slice a5 (len pp) k5] 28 (0,0))):=QLh (by rw[←hV,←hpb];exact heap_alloc_new _ _)
 simp only[hV,hpb]
 clear hV hpb;have cP:∀o,V.cell? ⟨pb,o,none⟩=_:=Qa HP.out;have HOK:=QLh (show okV root (len rs) (len cs) sp pp=(decide (root.size=32) && Qab pp 10240 && Qab sp 10240 && decide (len cs≤640) && decide (len rs≤640))from rfl)
 go_cut [4] (λ v wx=>v=.bool (okV root (len rs) (len cs) sp pp)∧Hid (Below V.heap.size V wx))
 case first=>
  have HM1:=QLh (fun (w':World) (hb:Below V.heap.size V w')=>Qhw w'.heap.size a5 k5 10240 pp w' (StrsC.at (S5.out.low (Qk HB.out hb))) HBD.out.pp (by decide) HZ.out.pp);have HM2:=QLh (fun (w':World) (hb:Below V.heap.size V w')=>Qhw w'.heap.size a4 k4 10240 sp w' (StrsC.at (S4.out.low (Qk HB.out hb))) HBD.out.sp (by decide) HZ.out.sp);have HR:=QLh HBD.out.root;clear S2 S3 S4 S5 HBD HZ
  go_wp2_with fail
  refine(Qdc root V HR.out).mono ?_
  rintro e w1 ⟨rfl,hb⟩
  have HBX:=QLh hb;clear hb
  cases h1:decide (root.size=32)with
  | false=>
   have HV:Hid (okV root (len rs) (len cs) sp pp=false):=QLh (by rw[HOK.out,h1];rfl);clear h1 cP
   go_wp2
   go_meet
   exact⟨by rw[HV.out],HBX⟩
  | true=>
   have H1:=QLh h1;clear h1 cP;have cP:∀o,w1.cell? ⟨pb,o,none⟩=_:=Qa ((HBX.out.block _ (lt_of_block HP.out)).trans HP.out)
   go_wp2_with fail
   refine(HM1.out w1 HBX.out).mono ?_
   rintro e w2 ⟨rfl,hb⟩
   have HBX:=QLh (Qk HBX.out hb);clear hb
   cases h2:Qab pp 10240 with
   | false=>
    have HV:Hid (okV root (len rs) (len cs) sp pp=false):=QLh (by rw[HOK.out,H1.out,h2];rfl);clear h2 cP
    go_wp2
    go_meet
    exact⟨by rw[HV.out],HBX⟩
   | true=>
    have H2:=QLh h2;clear h2 cP;have cP:∀o,w2.cell? ⟨pb,o,none⟩=_:=Qa ((HBX.out.block _ (lt_of_block HP.out)).trans HP.out)
    go_wp2_with fail
    refine(HM2.out w2 HBX.out).mono ?_
    rintro e w3 ⟨rfl,hb⟩
    have HBX:=QLh (Qk HBX.out hb);clear hb
    cases h3:Qab sp 10240 with
    | false=>
     have HV:Hid (okV root (len rs) (len cs) sp pp=false):=QLh (by rw[HOK.out,H1.out,H2.out,h3];rfl);clear h3 cP
     go_wp2
     go_meet
     exact⟨by rw[HV.out],HBX⟩
    | true=>
     have H3:=QLh h3;clear h3 cP;have cP:∀o,w3.cell? ⟨pb,o,none⟩=_:=Qa ((HBX.out.block _ (lt_of_block HP.out)).trans HP.out)
     by_cases h4:len cs≤640
     ·have i4:((len cs:Nat):Int)≤640:=by omega
      by_cases h5:len rs≤640
      ·have i5:((len rs:Nat):Int)≤640:=by omega
       have HV:Hid (okV root (len rs) (len cs) sp pp=true):=QLh (by rw[HOK.out,H1.out,H2.out,H3.out,decide_eq_true h4,decide_eq_true h5];rfl);clear h4 h5
       go_wp2
       go_meet
       exact⟨by rw[HV.out],HBX⟩
      ·have i5:¬((len rs:Nat):Int)≤640:=by omega
       have HV:Hid (okV root (len rs) (len cs) sp pp=false):=QLh (by rw[HOK.out,H1.out,H2.out,H3.out,decide_eq_true h4,decide_eq_false h5];rfl);clear h4 h5
       go_wp2
       go_meet
       exact⟨by rw[HV.out];simp[i5],HBX⟩
     ·have i4:¬((len cs:Nat):Int)≤640:=by omega
      have HV:Hid (okV root (len rs) (len cs) sp pp=false):=QLh (by rw[HOK.out,H1.out,H2.out,H3.out,decide_eq_false h4];rfl);clear h4
      go_wp2
      go_meet
      exact⟨by rw[HV.out],HBX⟩
 case rest=>
  obtain⟨rfl,hwc⟩:=hcut
  have HB:=QLh (Qk HB.out hwc.out);have HP:=QLh ((hwc.out.block _ (lt_of_block HP.out)).trans HP.out);clear hwc cP HOK
  obtain⟨OK,hOK⟩:∃b,okV root (len rs) (len cs) sp pp=b:=⟨_,rfl⟩
  rw[hOK]
  have HOK:=QLh hOK;have HRL:=QLh HBD.out.rl;clear hOK
  go_upto_region 3 with fail
  go_loopg [4,5] (len rs) (λ g okv i wr=>∃m:Nat,g+m=len rs∧okv=.bool (OK && (rs.take m).all Qbf)∧i=.int .i64 m∧Hid (Below w.heap.size w wr)∧Hid (wr.heap[pb]?=some (.cells #[.string root,.int .u64 sg,.slice a2 (len rs) k2,.slice a3 (len cs) k3,.slice a4 (len sp) k4,.slice a5 (len pp) k5] 28 (0,0))))
  case atStart=>exact⟨0,rfl,by simp,rfl,HB.out,HP.out⟩
  case round=>
   clear HB HP
   obtain⟨m,hm,rfl,rfl,HW,HP⟩:=hrel
   have cP:∀o,wr.cell? ⟨pb,o,none⟩=_:=Qa HP.out;have hrl:=HRL.out
   by_cases hlt:m<len rs
   ·have i1:(m:Int)<len rs:=by omega
    obtain⟨g2,rfl⟩:∃g2,gk=g2+1:=⟨gk - 1,by omega⟩
    have hall:((rs.take (m+1)).all Qbf)=((rs.take m).all Qbf && Qbf (lth rs m)):=by
     have hlt':m<rs.length:=hlt
     rw[List.take_succ_eq_append_getElem hlt',List.all_append,Jw _ _ hlt']
     simp
    have HALL:=QLh hall;clear hall
    cases hbb:(OK && (rs.take m).all Qbf)with
    | false=>
     have HF:Hid ((OK && (rs.take (m+1)).all Qbf)=false):=QLh (by rw[HALL.out,←Bool.and_assoc,hbb];rfl);clear hbb HALL
     go_wp2
     go_roundg g2
     case rel=>exact⟨m+1,by omega,by rw[HF.out],by go_num,HW.out,HP.out⟩
     case measure=>omega
    | true=>
     obtain⟨ga,oa,ha2,hca⟩:=S2.out m hlt
     have HRB:=QLh (HBD.out.rs m hlt);have hz1:=HZ.out.ws m hlt;have hz2:=HZ.out.ps m hlt;have HF:Hid ((OK && (rs.take (m+1)).all Qbf)=Qbf (lth rs m)):=QLh (by rw[HALL.out,←Bool.and_assoc,hbb];rfl)
     generalize lth rs m=d at hca HRB hz1 hz2 HF
     obtain⟨xw,xwk,q4e,s4⟩:=hca.c4
     obtain⟨xp,xpk,q5e,s5⟩:=hca.c5
     have e3:wr.cell? ⟨ga,oa+m * 11+3,none⟩=some _:=Qu HW.out _ _ _ hca.c3;have e4:wr.cell? ⟨ga,oa+m * 11+4,none⟩=some _:=Qu HW.out _ _ _ q4e;have e5:wr.cell? ⟨ga,oa+m * 11+5,none⟩=some _:=Qu HW.out _ _ _ q5e;have e6:wr.cell? ⟨ga,oa+m * 11+6,none⟩=some _:=Qu HW.out _ _ _ hca.c6;have HMS:=QLh (fun (w':World) (hb:Below w.heap.size w w')=>Qot w'.heap.size d.idx xw xp xwk xpk d.ws d.ps w' (StrsC.at (s4.imp (Qu hb))) (StrsC.at (s5.imp (Qu hb))) HRB.out.ws HRB.out.ps hz1 hz2);have HGD:Hid (Qbf d=(decide (d.root.size=32) && (Qab d.ps 16 && Qab d.ws 67))):=QLh rfl;have HRS:=QLh HRB.out.root
     generalize len d.ws=lw at HMS e4
     generalize len d.ps=lp at HMS e5
     generalize d.idx=di at HMS e3
     generalize d.root=dr at HGD e6 HRS
     generalize Qab d.ps 16=my1 at HGD HMS
     generalize Qab d.ws 67=my2 at HGD HMS
     generalize Qbf d=gd at HGD HF
     subst ha2
     clear hca HRB hz1 hz2 q4e q5e s4 s5 hbb HALL;have y2:wr.cell? ⟨pb,2,none⟩=some (.slice (some ⟨ga,oa,none⟩) (len rs) k2):=cP 2;clear cP;have lga:=Qw e3;have hpg:=Qw y2
     go_wp2_with fail
     refine(Qdc dr wr HRS.out).mono ?_
     rintro e w5 ⟨rfl,hb⟩
     have HW5:=QLh (Qk HW.out hb);have HP5:=QLh ((hb.block _ hpg).trans HP.out);have e3:w5.cell? ⟨ga,oa+m * 11+3,none⟩=some _:=(World.cell?_of_block (w:=wr) (hb.block _ lga)).trans e3;have e4:w5.cell? ⟨ga,oa+m * 11+4,none⟩=some _:=(World.cell?_of_block (w:=wr) (hb.block _ lga)).trans e4;have e5:w5.cell? ⟨ga,oa+m * 11+5,none⟩=some _:=(World.cell?_of_block (w:=wr) (hb.block _ lga)).trans e5;have y2:w5.cell? ⟨pb,2,none⟩=some (.slice (some ⟨ga,oa,none⟩) (len rs) k2):=(World.cell?_of_block (w:=wr) (hb.block _ hpg)).trans y2;clear hb e6
     cases hd:decide (dr.size=32)with
     | false=>
      have HF:Hid (gd=false):=QLh (by rw[HGD.out,hd];rfl);have HFF:Hid ((OK && (rs.take (m+1)).all Qbf)=false):=QLh (by rw[‹Hid ((OK && (rs.take (m+1)).all Qbf)=gd)›.out,HF.out]);clear hd
      go_wp2
      go_roundg g2
      case rel=>exact⟨m+1,by omega,by rw[HFF.out],by go_num,HW5.out,HP5.out⟩
      case measure=>omega
     | true=>
      have HD2:=QLh hd;clear hd
      go_wp2_with fail
      refine(HMS.out w5 HW5.out).mono ?_
      rintro e w6 ⟨rfl,hb⟩
      have HW6:=QLh (Qk HW5.out hb);have HP6:=QLh ((hb.block _ (lt_of_block HP5.out)).trans HP5.out);have HFF:Hid ((OK && (rs.take (m+1)).all Qbf)=(my1 && my2)):=QLh (by rw[HF.out,HGD.out,HD2.out];rfl);clear hb e3 e4 e5 y2
      go_wp2
      go_roundg g2
      case rel=>exact⟨m+1,by omega,by rw[HFF.out],by go_num,HW6.out,HP6.out⟩
      case measure=>omega
   ·obtain rfl:m=len rs:=by omega
    have i1:¬((len rs:Nat):Int)<(len rs:Nat):=by omega
    have HAM:Hid (Q8 (Za root sg rs cs sp pp)=(OK && (rs.take (len rs)).all Qbf)):=QLh (by rw[Qw2,HOK.out,show rs.take (len rs)=rs from List.take_length])
    cases hbb:(OK && (rs.take (len rs)).all Qbf)with
    | false=>
     have HAM:Hid (Q8 (Za root sg rs cs sp pp)=false):=QLh (by rw[HAM.out,hbb]);clear hbb
     go_wp2
     go_ret2
     exact⟨by rw[HAM.out];rfl,HW.out⟩
    | true=>
     have HAM:Hid (Q8 (Za root sg rs cs sp pp)=true):=QLh (by rw[HAM.out,hbb]);have hb2:=(Bool.and_eq_true _ _ ▸ hbb:OK=true∧(rs.take (len rs)).all Qbf=true)
     rw[show rs.take (len rs)=rs from List.take_length]at hb2
     have HGD:Hid (∀i,i<len rs→Qbf (lth rs i)=true):=QLh (λ i hi=>by
      have hi':i<rs.length:=hi
      rw[Jw _ i hi']
      exact List.all_eq_true.1 hb2.2 _ (List.getElem_mem hi'))
     have h0:okV root (len rs) (len cs) sp pp=true:=HOK.out.trans hb2.1;have HCS:=QLh (Qus root sg rs cs sp pp h0 HGD.out)
     unfold okV at h0
     simp only[Bool.and_eq_true,decide_eq_true_eq]at h0
     obtain⟨⟨⟨⟨g1,g2⟩,g3⟩,g4⟩,g5⟩:=h0
     have hn5:=(Qbv g2).1;have hn4:=(Qbv g3).1;have HZ5:=QLh (λ i hi=>(by rw[(Qbv g2).2 i hi];decide:(sth pp i).size<65536));have HZ4:=QLh (λ i hi=>(by rw[(Qbv g3).2 i hi];decide:(sth sp i).size<65536));have HRS:Hid (root.size=32):=QLh g1;have hd5:(Qds pp).size≤4000000000:=Qeb pp HZ5.out (by omega);have hd4:(Qds sp).size≤4000000000:=Qeb sp HZ4.out (by omega);have HD1:Hid ((Jv root).size≤41):=QLh (by have:=Qdd root;omega);have hd1:=HD1.out;have HQ5:Hid (Strs w.heap.size w a5 pp):=QLh (StrsC.at S5.out);have HQ4:Hid (Strs w.heap.size w a4 sp):=QLh (StrsC.at S4.out);have HN3:Hid (len cs≤640):=QLh g4;have HN2:Hid (len rs≤640):=QLh g5;have hdc:(Qbg cs).size≤60000:=by
      unfold Qbg
      split
      ·exact Nat.zero_le _
      ·rw[ByteArray.size_append]
       have q1:(Z0 (len cs)).size≤9:=Zu 3 _ ByteArray.empty;have q2:=X7 Xr 9 cs (λ x _=>Xb x)
       rw[Zm]at g4
       omega
     have hsz:∀i,i<len rs→(Zw (Qg3 (lth rs i))).size≤4000:=λ i hi=>by
      rw[←Qnm (HGD.out i hi)]
      exact Qx2 (by rw[Qur];exact HGD.out i hi)
     have HSZ:=QLh hsz;have hdr:(Qfd rs).size≤3000000:=by
      unfold Qfd
      split
      ·exact Nat.zero_le _
      ·rw[ByteArray.size_append]
       have q1:(Z0 (len rs)).size≤9:=Zu 3 _ ByteArray.empty;have q2:=X7 (λ d=>Zw (Qg3 d)) 4000 rs (λ x hx=>by
        obtain⟨i,hi,rfl⟩:=List.getElem_of_mem hx
        have:=hsz i hi
        rw[Jw _ i hi]at this
        exact this)
       rw[Zm]at g5
       omega
     clear hbb hb2 g1 g2 g3 g4 g5 i1 hsz hlt
     go_upto_region 9 with fail
     obtain⟨yb,hyb⟩:∃x,wr.heap.size=x:=⟨_,rfl⟩
     obtain⟨V2,hV2⟩:∃V2,wr.alloc (.cells #[.int .u64 0,.string ⟨#[]⟩] 141)=V2:=⟨_,rfl⟩
     have HYB:Hid (w.heap.size≤yb):=QLh (by rw[←hyb];exact HW.out.size);have HNE:Hid (pb≠yb):=QLh (by have:=lt_of_block HP.out;omega);have hbv:Below wr.heap.size wr V2:=by rw[←hV2];exact Qh (Below.refl _ _) _
     have HY:Hid (LyB V2 yb []):=QLh (by rw[←hV2,←hyb];exact heap_alloc_new _ _);have HP:=QLh ((hbv.block _ (lt_of_block HP.out)).trans HP.out);have HB:=QLh (Qk HW.out hbv);have HZ:Hid ((Qfa []).size≤0 * 25000000000):=QLh (by decide)
     simp only[hV2,hyb]
     clear hV2 hyb hbv cP HW;have cP:∀o,V2.cell? ⟨pb,o,none⟩=_:=Qa HP.out
     go_wp2_with fail
     refine(Qb7 w.heap.size a5 k5 pp V2 (HQ5.out.below HB.out) (by omega) HZ5.out).mono ?_
     rintro e x1 ⟨rfl,hb⟩
     have HP:=QLh ((hb.block _ (lt_of_block HP.out)).trans HP.out);have HY:=QLh (HY.out.below hb);have HB:=QLh (Qk HB.out hb);clear hb
     try clear cP
     go_wp2_with fail
     refine(Jc _ _ ⟨#[80]⟩ (Qds pp) x1 HY.out (by decide) (by simp) (by have:=HZ.out;omega) (by have:=hd5;omega)).mono ?_
     rintro e x2 ⟨rfl,hx,hl⟩
     have HZ:=Qjp (k:=⟨#[80]⟩) (v:=Qds pp) HZ rfl (by have:=hd5;omega);have HP:=QLh (Qn hx (by have:=HNE.out;simp;omega) HP.out);have HY:=QLh hl;have HB:=QLh (HB.out.trans (Jb hx (by have:=HYB.out;omega) HB.out.size));have cP:∀o,World.cell? x2 ⟨pb,o,none⟩=_:=Qa HP.out;clear hx hl
     go_wp2_with fail
     refine(Qb7 w.heap.size a4 k4 sp x2 (HQ4.out.below HB.out) (by omega) HZ4.out).mono ?_
     rintro e x3 ⟨rfl,hb⟩
     have HP:=QLh ((hb.block _ (lt_of_block HP.out)).trans HP.out);have HY:=QLh (HY.out.below hb);have HB:=QLh (Qk HB.out hb);clear hb
     try clear cP
     go_wp2_with fail
     refine(Jc _ _ ⟨#[83]⟩ (Qds sp) x3 HY.out (by decide) (by simp) (by have:=HZ.out;omega) (by have:=hd4;omega)).mono ?_
     rintro e x4 ⟨rfl,hx,hl⟩
     have HZ:=Qjp (k:=⟨#[83]⟩) (v:=Qds sp) HZ rfl (by have:=hd4;omega);have HP:=QLh (Qn hx (by have:=HNE.out;simp;omega) HP.out);have HY:=QLh hl;have HB:=QLh (HB.out.trans (Jb hx (by have:=HYB.out;omega) HB.out.size));have cP:∀o,World.cell? x4 ⟨pb,o,none⟩=_:=Qa HP.out;clear hx hl
     go_wp2_with fail
     refine(Qli root x4 (by rw[HRS.out];decide)).mono ?_
     rintro e x5 ⟨rfl,hb⟩
     have HP:=QLh ((hb.block _ (lt_of_block HP.out)).trans HP.out);have HY:=QLh (HY.out.below hb);have HB:=QLh (Qk HB.out hb);clear hb
     try clear cP
     go_wp2_with fail
     refine(Jc _ _ ⟨#[99]⟩ (Jv root) x5 HY.out (by decide) (by simp) (by have:=HZ.out;omega) (by have:=hd1;omega)).mono ?_
     rintro e x6 ⟨rfl,hx,hl⟩
     have HZ:=Qjp (k:=⟨#[99]⟩) (v:=Jv root) HZ rfl (by have:=hd1;omega);have HP:=QLh (Qn hx (by have:=HNE.out;simp;omega) HP.out);have HY:=QLh hl;have HB:=QLh (HB.out.trans (Jb hx (by have:=HYB.out;omega) HB.out.size));have cP:∀o,World.cell? x6 ⟨pb,o,none⟩=_:=Qa HP.out;clear hx hl
     go_upto_if 88 with fail
     go_cut [7,8,9,10] (λ _ _ _ _ wx=>Hid (Below w.heap.size w wx)∧Hid (wx.heap[pb]?=some (.cells #[.string root,.int .u64 sg,.slice a2 (len rs) k2,.slice a3 (len cs) k3,.slice a4 (len sp) k4,.slice a5 (len pp) k5] 28 (0,0)))∧Hid (LyB wx yb ([]++[(⟨#[80]⟩,Qds pp)]++[(⟨#[83]⟩,Qds sp)]++[(⟨#[99]⟩,Jv root)]++[(⟨#[112]⟩,Qbg cs)])))
     case first=>
      have hn3:=HN3.out
      by_cases hc0:len cs=0
      ·have HE0:Hid ((Qbg cs).size=0):=QLh (by unfold Qbg;rw[if_pos hc0];rfl)
       rw[decide_eq_false (by omega:¬0<len cs)]
       clear hc0
       go_wp2
       go_meet
       exact⟨HB.out,HP.out,Qp6 _ HE0.out HY.out⟩
      ·have HE0:Hid (Qbg cs=Z0 (len cs)++Xo (cs.map Xr)):=QLh (by unfold Qbg;rw[if_neg hc0])
       obtain⟨K,hK⟩:∃K,Z0 (len cs)=K:=⟨_,rfl⟩
       have HKS:Hid (K.size≤9):=QLh (by rw[←hK];exact Zu 3 _ ByteArray.empty);have HLP:=QLh (fun (w':World)=>Qi4 (len cs) w' (by omega))
       rw[hK]at HLP HE0
       rw[decide_eq_true (by omega:0<len cs)]
       clear hc0 hK
       go_wp2_with fail
       refine(HLP.out x6).mono ?_
       rintro e x7 ⟨rfl,hb⟩
       have HP:=QLh ((hb.block _ (lt_of_block HP.out)).trans HP.out);have HY:=QLh (HY.out.below hb);have HB:=QLh (Qk HB.out hb);clear hb
       try clear cP
       have cP:∀o,x7.cell? ⟨pb,o,none⟩=_:=Qa HP.out
       go_wp2
       go_loopg [7,8,9,10] (len cs) (λ g s i _ _ wr=>∃m:Nat,∃t:ByteArray,g+m=len cs∧s=.string t∧i=.int .i64 m∧Hid (t=K++Xo ((cs.take m).map Xr)∧t.size≤9+m * 9)∧Hid (Below w.heap.size w wr)∧Hid (wr.heap[pb]?=some (.cells #[.string root,.int .u64 sg,.slice a2 (len rs) k2,.slice a3 (len cs) k3,.slice a4 (len sp) k4,.slice a5 (len pp) k5] 28 (0,0)))∧Hid (LyB wr yb ([]++[(⟨#[80]⟩,Qds pp)]++[(⟨#[83]⟩,Qds sp)]++[(⟨#[99]⟩,Jv root)])))
       case atStart=>exact⟨0,K,rfl,rfl,rfl,⟨by simp[Xo],by have:=HKS.out;omega⟩,HB.out,HP.out,HY.out⟩
       case round=>
        clear cP HB HP HY
        obtain⟨m,t,hm,rfl,rfl,HT,HB,HP,HY⟩:=hrel
        have cP:∀o,wr.cell? ⟨pb,o,none⟩=_:=Qa HP.out
        by_cases hlt:m<len cs
        ·have i4:(m:Int)<((len cs:Nat):Int):=by omega
         obtain⟨ga,oa,ha3,hca⟩:=S3.out m hlt
         have hbd:=HBD.out.cs m hlt;have hlt':m<cs.length:=hlt;have HT2:Hid (t++Xr (nth cs m)=K++Xo ((cs.take (m+1)).map Xr)):=QLh (by
          rw[Qp5 _ _ _ hlt',←ByteArray.append_assoc,←HT.out.1,Qce _ _ hlt'])
         have e0:wr.cell? ⟨ga,oa+m,none⟩=some _:=Qu HB.out _ _ _ hca
         generalize nth cs m=n at e0 hbd HT2
         have hts:=HT.out.2;have hns:=Xb n;have HLN:=QLh (fun (w':World)=>Qhc n ⟨#[]⟩ w' hbd.1 hbd.2)
         obtain⟨z,hzz⟩:∃z,Xr n=z:=⟨_,rfl⟩
         rw[hzz]at HLN HT2 hns
         have hti:(t.size:Int)≤10000:=by omega
         have hzi:(z.size:Int)≤9:=by omega
         subst ha3
         clear hca hzz hlt'
         go_wp2_with fail
         refine(HLN.out wr).mono ?_
         rintro e w2 ⟨rfl,hb⟩
         have HP:=QLh ((hb.block _ (lt_of_block HP.out)).trans HP.out);have HY:=QLh (HY.out.below hb);have HB:=QLh (Qk HB.out hb);clear hb e0 cP
         go_wp2
         go_roundg (len cs - (m+1))
         case rel=>exact⟨m+1,t++z,by omega,rfl,by go_num,⟨HT2.out,by rw[ByteArray.size_append];omega⟩,HB.out,HP.out,HY.out⟩
         case measure=>omega
        ·obtain rfl:m=len cs:=by omega
         have i4:¬((len cs:Nat):Int)<((len cs:Nat):Int):=by omega
         obtain rfl:t=Qbg cs:=by rw[HT.out.1,HE0.out,show cs.take (len cs)=cs from List.take_length]
         clear HT
         go_wp2_with fail
         refine(Jc _ _ ⟨#[112]⟩ (Qbg cs) wr HY.out (by decide) (by simp) (by have:=HZ.out;omega) (by have:=hdc;omega)).mono ?_
         rintro e x9 ⟨rfl,hx,hl⟩
         have HZ:=Qjp (k:=⟨#[112]⟩) (v:=Qbg cs) HZ rfl (by have:=hdc;omega);have HP:=QLh (Qn hx (by have:=HNE.out;simp;omega) HP.out);have HY:=QLh hl;have HB:=QLh (HB.out.trans (Jb hx (by have:=HYB.out;omega) HB.out.size));have cP:∀o,World.cell? x9 ⟨pb,o,none⟩=_:=Qa HP.out;clear hx hl
         go_wp2
         go_meet
         exact⟨HB.out,HP.out,HY.out⟩
     case rest=>
      clear HB HP HY cP
      obtain⟨HB,HP,HY⟩:=hcut
      have HZ:=Qjp (k:=⟨#[112]⟩) (v:=Qbg cs) HZ rfl (by omega);have cP:∀o,wc.cell? ⟨pb,o,none⟩=_:=Qa HP.out
      go_upto_if 118 with fail
      go_cut [11,12] (λ _ _ wx=>Hid (Below w.heap.size w wx)∧Hid (wx.heap[pb]?=some (.cells #[.string root,.int .u64 sg,.slice a2 (len rs) k2,.slice a3 (len cs) k3,.slice a4 (len sp) k4,.slice a5 (len pp) k5] 28 (0,0)))∧Hid (LyB wx yb ([]++[(⟨#[80]⟩,Qds pp)]++[(⟨#[83]⟩,Qds sp)]++[(⟨#[99]⟩,Jv root)]++[(⟨#[112]⟩,Qbg cs)]++[(⟨#[114]⟩,Qfd rs)])))
      case first=>
       have hn2:=HN2.out
       by_cases hc0:len rs=0
       ·have HE0:Hid ((Qfd rs).size=0):=QLh (by unfold Qfd;rw[if_pos hc0];rfl)
        rw[decide_eq_false (by omega:¬0<len rs)]
        clear hc0
        go_wp2
        go_meet
        exact⟨HB.out,HP.out,Qp6 _ HE0.out HY.out⟩
       ·have HE0:Hid (Qfd rs=Z0 (len rs)++Xo (rs.map λ d=>Zw (Qg3 d))):=QLh (by unfold Qfd;rw[if_neg hc0])
        obtain⟨K,hK⟩:∃K,Z0 (len rs)=K:=⟨_,rfl⟩
        have HKS:Hid (K.size≤9):=QLh (by rw[←hK];exact Zu 3 _ ByteArray.empty);have HLP:=QLh (fun (w':World)=>Qi4 (len rs) w' (by omega))
        rw[hK]at HLP HE0
        rw[decide_eq_true (by omega:0<len rs)]
        clear hc0 hK
        go_wp2_with fail
        refine(HLP.out wc).mono ?_
        rintro e x7 ⟨rfl,hb⟩
        have HP:=QLh ((hb.block _ (lt_of_block HP.out)).trans HP.out);have HY:=QLh (HY.out.below hb);have HB:=QLh (Qk HB.out hb);clear hb
        try clear cP
        have cP:∀o,x7.cell? ⟨pb,o,none⟩=_:=Qa HP.out
        go_wp2
        go_loopg [11,12] (len rs) (λ g s i wr=>∃m:Nat,∃t:ByteArray,g+m=len rs∧s=.string t∧i=.int .i64 m∧Hid (t=K++Xo ((rs.take m).map λ d=>Zw (Qg3 d))∧t.size≤9+m * 4000)∧Hid (Below w.heap.size w wr)∧Hid (wr.heap[pb]?=some (.cells #[.string root,.int .u64 sg,.slice a2 (len rs) k2,.slice a3 (len cs) k3,.slice a4 (len sp) k4,.slice a5 (len pp) k5] 28 (0,0)))∧Hid (LyB wr yb ([]++[(⟨#[80]⟩,Qds pp)]++[(⟨#[83]⟩,Qds sp)]++[(⟨#[99]⟩,Jv root)]++[(⟨#[112]⟩,Qbg cs)])))
        case atStart=>exact⟨0,K,rfl,rfl,rfl,⟨by simp[Xo],by have:=HKS.out;omega⟩,HB.out,HP.out,HY.out⟩
        case round=>
         clear cP HB HP HY
         obtain⟨m,t,hm,rfl,rfl,HT,HB,HP,HY⟩:=hrel
         have cP:∀o,wr.cell? ⟨pb,o,none⟩=_:=Qa HP.out
         by_cases hlt:m<len rs
         ·have i4:(m:Int)<((len rs:Nat):Int):=by omega
          obtain⟨ga,oa,ha2,hca⟩:=S2.out m hlt
          have HRB:=QLh (HBD.out.rs m hlt);have HGM:=QLh (HGD.out m hlt);have hlt':m<rs.length:=hlt;have HT2:Hid (t++Zw (Qg3 (lth rs m))=K++Xo ((rs.take (m+1)).map λ d=>Zw (Qg3 d))):=QLh (by
           rw[Qp5 _ _ _ hlt',←ByteArray.append_assoc,←HT.out.1,Jw _ _ hlt'])
          have hns:=HSZ.out m hlt
          generalize lth rs m=d at hca HRB HGM HT2 hns
          obtain⟨xw,xwk,q4e,s4⟩:=hca.c4
          obtain⟨xp,xpk,q5e,s5⟩:=hca.c5
          have e0:wr.cell? ⟨ga,oa+m * 11,none⟩=some _:=Qu HB.out _ _ _ hca.c0;have e1:wr.cell? ⟨ga,oa+m * 11+1,none⟩=some _:=Qu HB.out _ _ _ hca.c1;have e2:wr.cell? ⟨ga,oa+m * 11+2,none⟩=some _:=Qu HB.out _ _ _ hca.c2;have e3:wr.cell? ⟨ga,oa+m * 11+3,none⟩=some _:=Qu HB.out _ _ _ hca.c3;have e4:wr.cell? ⟨ga,oa+m * 11+4,none⟩=some _:=Qu HB.out _ _ _ q4e;have e5:wr.cell? ⟨ga,oa+m * 11+5,none⟩=some _:=Qu HB.out _ _ _ q5e;have e6:wr.cell? ⟨ga,oa+m * 11+6,none⟩=some _:=Qu HB.out _ _ _ hca.c6;have e7:wr.cell? ⟨ga,oa+m * 11+7,none⟩=some _:=Qu HB.out _ _ _ hca.c7;have e8:wr.cell? ⟨ga,oa+m * 11+8,none⟩=some _:=Qu HB.out _ _ _ hca.c8;have e9:wr.cell? ⟨ga,oa+m * 11+9,none⟩=some _:=Qu HB.out _ _ _ hca.c9;have e10:wr.cell? ⟨ga,oa+m * 11+10,none⟩=some _:=Qu HB.out _ _ _ hca.c10;have hgm:=HGM.out
          unfold Qbf at hgm
          simp only[Bool.and_eq_true,decide_eq_true_eq]at hgm
          have HLN:=QLh (fun (w':World) (hb:Below w.heap.size w w')=>Qow w'.heap.size d xw xp xwk xpk w' HRB.out (by rw[hgm.1];decide) (StrsC.at (s4.imp (Qu hb))) (StrsC.at (s5.imp (Qu hb))) (Qpz hgm.2.2 (by decide)) (Qpz hgm.2.1 (by decide)));have hts:=HT.out.2
          obtain⟨z,hzz⟩:∃z,Zw (Qg3 d)=z:=⟨_,rfl⟩
          rw[hzz]at HLN HT2 hns
          have hti:(t.size:Int)≤10000000:=by omega
          have hzi:(z.size:Int)≤4000:=by omega
          subst ha2
          clear hca hzz hlt' HGM hgm s4 s5 q4e q5e
          go_wp2_with fail
          refine(HLN.out wr HB.out).mono ?_
          rintro e w2 ⟨rfl,hb⟩
          have HP:=QLh ((hb.block _ (lt_of_block HP.out)).trans HP.out);have HY:=QLh (HY.out.below hb);have HB:=QLh (Qk HB.out hb);clear hb cP e0 e1 e2 e3 e4 e5 e6 e7 e8 e9 e10
          go_wp2
          go_roundg (len rs - (m+1))
          case rel=>exact⟨m+1,t++z,by omega,rfl,by go_num,⟨HT2.out,by rw[ByteArray.size_append];omega⟩,HB.out,HP.out,HY.out⟩
          case measure=>omega
         ·obtain rfl:m=len rs:=by omega
          have i4:¬((len rs:Nat):Int)<((len rs:Nat):Int):=by omega
          obtain rfl:t=Qfd rs:=by rw[HT.out.1,HE0.out,show rs.take (len rs)=rs from List.take_length]
          clear HT
          go_wp2_with fail
          refine(Jc _ _ ⟨#[114]⟩ (Qfd rs) wr HY.out (by decide) (by simp) (by have:=HZ.out;omega) (by have:=hdr;omega)).mono ?_
          rintro e x9 ⟨rfl,hx,hl⟩
          have HZ:=Qjp (k:=⟨#[114]⟩) (v:=Qfd rs) HZ rfl (by have:=hdr;omega);have HP:=QLh (Qn hx (by have:=HNE.out;simp;omega) HP.out);have HY:=QLh hl;have HB:=QLh (HB.out.trans (Jb hx (by have:=HYB.out;omega) HB.out.size));have cP:∀o,World.cell? x9 ⟨pb,o,none⟩=_:=Qa HP.out;clear hx hl
          go_wp2
          go_meet
          exact⟨HB.out,HP.out,HY.out⟩
      case rest=>
       clear HB HP HY cP
       obtain⟨HB,HP,HY⟩:=hcut
       have HZ:=Qjp (k:=⟨#[114]⟩) (v:=Qfd rs) HZ rfl (by omega)
       obtain⟨x9,hx9⟩:∃W,W=wc:=⟨_,rfl⟩
       subst hx9
       have cP:∀o,x9.cell? ⟨pb,o,none⟩=_:=Qa HP.out
       go_wp2_with fail
       refine(Qbq sg x9 HBD.out.sg.1 HBD.out.sg.2).mono ?_
       rintro e y1 ⟨rfl,hb⟩
       have HP:=QLh ((hb.block _ (lt_of_block HP.out)).trans HP.out);have HY:=QLh (HY.out.below hb);have HB:=QLh (Qk HB.out hb);clear hb
       try clear cP
       go_wp2_with fail
       refine(Jc _ _ ⟨#[119]⟩ (Qbb sg) y1 HY.out (by decide) (by simp) (by have:=HZ.out;omega) (by have:=Z6 sg;omega)).mono ?_
       rintro e y2 ⟨rfl,hx,hl⟩
       have HZ:=Qjp (k:=⟨#[119]⟩) (v:=Qbb sg) HZ rfl (by have:=Z6 sg;omega);have HP:=QLh (Qn hx (by have:=HNE.out;simp;omega) HP.out);have HY:=QLh hl;have HB:=QLh (HB.out.trans (Jb hx (by have:=HYB.out;omega) HB.out.size));have cP:∀o,World.cell? y2 ⟨pb,o,none⟩=_:=Qa HP.out;clear hx hl
       go_wp2_with fail
       refine(Qbs _ _ y2 HY.out (by simp) (by have:=HZ.out;omega)).mono ?_
       rintro e w11 ⟨rfl,hb⟩
       have HB:=QLh (Qk HB.out hb);clear hb cP
       go_wp2
       go_ret2
       exact⟨by rw[HAM.out,HCS.out];rfl,HB.out⟩
def Win(o k:Nat)(x y:Rcd):Prop:=∀i,i<k→x (i+o)=y i
structure Sh(o k:Nat)(g g0:GSpec):Prop where
 key:g.key=g0.key
 must:g.must=g0.must
 empty:∀x y,Win o k x y→g.empty x=g0.empty y
 read:∀x y a,Win o k x y→(∀e,g.read x a=.error e→g0.read y a=.error e)∧(∀z,g.read x a=.ok z→∃z0,g0.read y a=.ok (z0,z.2)∧Win o k z.1 z0)
theorem Win.upd{o k:Nat}{x y:Rcd}(h:Win o k x y)(i:Nat)(d:DV):Win o k (upd x (i+o) d) (Go.Proofs.YtihiaopilnjonaaGreatDoor.upd y i d):=λ j hj=>by
 by_cases e:j=i
 ·subst e;rw[Xc,Xc]
 ·rw[Zg (by omega:j+o≠i+o),Zg e];exact h j hj
theorem Qjf{o k:Nat}(s key:ByteArray){i:Nat}(hi:i<k):Sh o k (Qbl s key (i+o)) (Qbl s key i):=by
 refine⟨rfl,rfl,λ x y h=>?_,λ x y a h=>?_⟩
 ·show Qae (x (i+o))=Qae (y i);rw[h i hi]
 ·cases hr:Qib s a with
  | error f=>simp only[Qbl,hr];exact⟨λ e he=>he,λ z hz=>by cases hz⟩
  | ok w=>simp only[Qbl,hr];exact⟨λ e he=>(by cases he),λ z hz=>by cases hz;exact⟨_,rfl,h.upd i _⟩⟩
theorem Qzn{o k:Nat}(s key:ByteArray){i:Nat}(hi:i<k):Sh o k (Qam s key (i+o)) (Qam s key i):=by
 refine⟨rfl,rfl,λ x y h=>?_,λ x y a h=>?_⟩
 ·show Qae (x (i+o))=Qae (y i);rw[h i hi]
 ·cases hr:Qib s a with
  | error f=>simp only[Qam,hr];exact⟨λ e he=>he,λ z hz=>by cases hz⟩
  | ok w=>simp only[Qam,hr];exact⟨λ e he=>(by cases he),λ z hz=>by cases hz;exact⟨_,rfl,h.upd i _⟩⟩
theorem Q1h{o k:Nat}(s key:ByteArray){i:Nat}(hi:i<k):Sh o k (Qb4 s key (i+o)) (Qb4 s key i):=by
 refine⟨rfl,rfl,λ x y h=>rfl,λ x y a h=>?_⟩
 cases hr:Qfp s a with
 | error f=>simp only[Qb4,hr];exact⟨λ e he=>he,λ z hz=>by cases hz⟩
 | ok w=>simp only[Qb4,hr];exact⟨λ e he=>(by cases he),λ z hz=>by cases hz;exact⟨_,rfl,h.upd i _⟩⟩
theorem Qlr{α:Type}{o k:Nat}(s key:ByteArray){i:Nat}(most:Nat)(toD:List α→DV)(rd:Nat→Except Flt (α × Nat))(hi:i<k):Sh o k (Xh s key (i+o) most toD rd) (Xh s key i most toD rd):=by
 refine⟨rfl,rfl,λ x y h=>?_,λ x y a h=>?_⟩
 ·show Qae (x (i+o))=Qae (y i);rw[h i hi]
 ·cases hr:Qci s most a with
  | error f=>simp only[Xh,hr];exact⟨λ e he=>he,λ z hz=>by cases hz⟩
  | ok w=>
   cases hr2:rmany rd w.1 w.2 []with
   | error f=>simp only[Xh,hr,hr2];exact⟨λ e he=>he,λ z hz=>by cases hz⟩
   | ok v=>simp only[Xh,hr,hr2];exact⟨λ e he=>(by cases he),λ z hz=>by cases hz;exact⟨_,rfl,h.upd i _⟩⟩
inductive ShL (o k:Nat):List GSpec→List GSpec→Prop
 | nil:ShL o k [] []
 | cons {g g0:GSpec} {r r0:List GSpec}:Sh o k g g0→ShL o k r r0→ShL o k (g :: r) (g0 :: r0)
section
variable {o k:Nat} {gs gs0:List GSpec}
theorem ShL.len(h:ShL o k gs gs0):gs.length=gs0.length:=by
 induction h with
 | nil=>rfl
 | cons _ _ ih=>simp[ih]
theorem Qzo:Sh o k GSpec.zero GSpec.zero:=⟨rfl,rfl,λ _ _ _=>rfl,λ x y a h=>⟨λ e he=>(by cases he),λ z hz=>by cases hz;exact⟨_,rfl,h⟩⟩⟩
theorem ShL.at(h:ShL o k gs gs0):∀i,Sh o k (gth gs i) (gth gs0 i):=by
 induction h with
 | nil=>intro i;exact Qzo
 | cons hg _ ih=>
  intro i
  match i with
  | 0=>exact hg
  | i+1=>exact ih i
theorem ShL.any(h:ShL o k gs gs0):(gs.any λ g=>g.must)=gs0.any λ g=>g.must:=by
 induction h with
 | nil=>rfl
 | cons hg _ ih=>simp only[List.any_cons,ih,hg.must]
theorem ShL.all(h:ShL o k gs gs0){x y:Rcd}(hw:Win o k x y):(gs.all λ g=>g.empty x)=gs0.all λ g=>g.empty y:=by
 induction h with
 | nil=>rfl
 | cons hg _ ih=>simp only[List.all_cons,ih,hg.empty x y hw]
theorem Qgd(h:ShL o k gs gs0)(fr:Nat)(t:ByteArray):Jt gs fr t=Jt gs0 fr t:=by
 unfold Jt
 rw[h.len]
 congr 1
 funext i
 rw[(h.at (fr+i)).key]
theorem Qrw(h:ShL o k gs gs0)(seen:List Nat):Xw gs seen=Xw gs0 seen:=by
 unfold Xw
 rw[h.len]
 congr 1
 funext i
 rw[(h.at i).must]
theorem Quu{s:ByteArray}(h:ShL o k gs gs0):∀(n fr:Nat) (x y:Rcd) (seen:List Nat) (a:Nat),Win o k x y→
  (∀e,Qy s gs n fr x seen a=.error e→Qy s gs0 n fr y seen a=.error e)∧(∀z,Qy s gs n fr x seen a=.ok z→∃z0,Qy s gs0 n fr y seen a=.ok (z0,z.2)∧Win o k z.1 z0)
 | 0,fr,x,y,seen,a,hw=>⟨λ e he=>(by cases he),λ z hz=>by simp only[Qy]at hz;cases hz;exact⟨y,rfl,hw⟩⟩
 | n+1,fr,x,y,seen,a,hw=>by
  cases ht:tkR 2 s a with
  | error f=>simp only[Qy,ht];exact⟨λ e he=>he,λ z hz=>by cases hz⟩
  | ok t=>
   cases hk:Jt gs0 fr t.2.1 with
   | none=>simp only[Qy,ht,Qgd h,hk];exact⟨λ e he=>he,λ z hz=>by cases hz⟩
   | some j=>
    have hr:=(h.at (fr+j)).read x y t.2.2 hw
    cases hg:(gth gs (fr+j)).read x t.2.2 with
    | error f=>
     have:=hr.1 f hg
     simp only[Qy,ht,Qgd h,hk,hg,this]
     exact⟨λ e he=>he,λ z hz=>by cases hz⟩
    | ok u=>
     obtain⟨u0,h0,hw2⟩:=hr.2 u hg
     have he:=(h.at (fr+j)).empty u.1 u0 hw2
     cases hem:(gth gs0 (fr+j)).empty u0 with
     | true=>
      rw[hem]at he
      simp only[Qy,ht,Qgd h,hk,hg,h0,he,hem,if_true]
      exact⟨λ e he=>he,λ z hz=>by cases hz⟩
     | false=>
      rw[hem]at he
      simp only[Qy,ht,Qgd h,hk,hg,h0,he,hem,Bool.false_eq_true,if_false]
      exact Quu h n (fr+j+1) u.1 u0 _ u.2 hw2
theorem Quv{s:ByteArray}(h:ShL o k gs gs0){x y:Rcd}(a:Nat)(hw:Win o k x y):
  (∀e,Qbr s gs x a=.error e→Qbr s gs0 y a=.error e)∧(∀z,Qbr s gs x a=.ok z→∃z0,Qbr s gs0 y a=.ok (z0,z.2)∧Win o k z.1 z0):=by
 cases ht:tkR 4 s a with
 | error f=>simp only[Qbr,ht];exact⟨λ e he=>he,λ z hz=>by cases hz⟩
 | ok t=>
  have hl:=Quu (s:=s) h t.1.toNat 0 x y [] t.2.2 hw
  cases hg:Qy s gs t.1.toNat 0 x [] t.2.2 with
  | error f=>
   simp only[Qbr,ht,hg,hl.1 f hg]
   exact⟨λ e he=>he,λ z hz=>by cases hz⟩
  | ok u=>
   obtain⟨u0,h0,hw2⟩:=hl.2 u hg
   have hm:=Qrw h u.2.1
   cases hmi:Xw gs0 u.2.1 with
   | true=>
    rw[hmi]at hm
    simp only[Qbr,ht,hg,h0,hm,hmi,if_true]
    exact⟨λ e he=>he,λ z hz=>by cases hz⟩
   | false=>
    rw[hmi]at hm
    simp only[Qbr,ht,hg,h0,hm,hmi,Bool.false_eq_true,if_false]
    exact⟨λ e he=>(by cases he),λ z hz=>by cases hz;exact⟨u0,rfl,hw2⟩⟩
theorem Q1i{s:ByteArray}(key:ByteArray)(h:ShL o k gs gs0):Sh o k (Qgt s key gs) (Qgt s key gs0):=
 ⟨rfl,h.any,λ x y hw=>h.all hw,λ x y a hw=>Quv h a hw⟩
end
theorem Q1j(s:ByteArray)(o:Nat):ShL o 3 (Qa4 s o) (Qa4 s 0):=by
 unfold Qa4 Qa3
 refine .cons ?_ (.cons ?_ (.cons ?_ .nil))
 ·have:=Qjf (o:=o) (k:=3) s ⟨#[105]⟩ (i:=0) (by decide);rw[Nat.zero_add]at this;exact this
 ·have:=Qlr (o:=o) (k:=3) s ⟨#[112]⟩ (i:=2) 16 .strs (Qfp s) (by decide);rw[Nat.add_comm 2 o]at this;exact this
 ·have:=Qlr (o:=o) (k:=3) s ⟨#[118]⟩ (i:=1) 67 .strs (Qfp s) (by decide);rw[Nat.add_comm 1 o]at this;exact this
theorem Qzp(s:ByteArray)(o:Nat):ShL o 5 (Zo s o) (Zo s 0):=by
 unfold Zo
 refine .cons ?_ (.cons ?_ (.cons ?_ (.cons ?_ (.cons ?_ .nil))))
 ·have:=Qjf (o:=o) (k:=5) s ⟨#[102]⟩ (i:=2) (by decide);rw[Nat.add_comm 2 o]at this;exact this
 ·have:=Qjf (o:=o) (k:=5) s ⟨#[107]⟩ (i:=4) (by decide);rw[Nat.add_comm 4 o]at this;exact this
 ·have:=Qjf (o:=o) (k:=5) s ⟨#[108]⟩ (i:=3) (by decide);rw[Nat.add_comm 3 o]at this;exact this
 ·have:=Q1h (o:=o) (k:=5) s ⟨#[114]⟩ (i:=0) (by decide);rw[Nat.zero_add]at this;exact this
 ·have:=Qjf (o:=o) (k:=5) s ⟨#[119]⟩ (i:=1) (by decide);rw[Nat.add_comm 1 o]at this;exact this
def Qhh:Rcd:=λ i=>match i with | 1=>.strs [] | 2=>.strs [] | _=>.num 0
def Qge(s:ByteArray)(o:Nat)(most:Int):Jk:=λ x σ=>(upd x o (.strs (Qbh s most σ).1),(Qbh s most σ).2)
def Qh0(s:ByteArray)(o:Nat):Jk:=λ x σ=>(upd x o (.flag true),Xy ((tkS 0 s σ).1.1 != 1) 5 (tkS 0 s σ).2)
def Ql0(o k:Nat)(x y:Rcd):Rcd:=λ i=>if o≤i∧i<o+k then y (i - o)else x i
def Qfe(sub:Cst→Rcd × Cst)(z:Rcd→Bool)(o k:Nat):Jk:=λ x σ=>(Ql0 o k x (sub σ).1,Xy (z (sub σ).1) 5 (sub σ).2)
def Qag(s:ByteArray):List (UInt8 × Jk):=[(105,Qdv s 0),(112,Qge s 2 16),(118,Qge s 1 67)]
def Qp7(s:ByteArray)(σ:Cst):Rcd × Cst:=Qhf s ⟨#[105,112,118]⟩ (Qag s) Qhh σ
def Qz5(y:Rcd):Bool:=(Zw (Qav (y 0).n (y 1).l (y 2).l)).toList == [128]
def Xs(s:ByteArray):List (UInt8 × Jk):=[(103,Qfe (Qp7 s) Qz5 2 3),(108,Qdv s 0),(115,Qh0 s 1)]
def Qgf(s:ByteArray)(σ:Cst):Rcd × Cst:=Qhf s ⟨#[103,108,115]⟩ (Xs s) Xd σ
theorem Qx3{P:Rcd→Prop}:∀{l:List (UInt8 × Jk)} {k:ByteArray} {x:Rcd} {σ:Cst},(∀p ∈ l,∀x σ,P x→P (p.2 x σ).1)→P x→P (sw l k x σ).1
 | [],k,x,σ,h,hx=>hx
 | p :: r,k,x,σ,h,hx=>by
  rw[sw]
  split
  ·exact h p (List.mem_cons_self ..) x σ hx
  ·exact Qx3 (λ q hq=>h q (List.mem_cons_of_mem _ hq)) hx
theorem Qnn{P:Rcd→Prop}{s all:ByteArray}{specs:List (UInt8 × Jk)}(h:∀p ∈ specs,∀x σ,P x→P (p.2 x σ).1):∀(n:Nat) (last:ByteArray) (x:Rcd) (σ:Cst),P x→P (Q0 s all specs n last x σ).1
 | 0,last,x,σ,hx=>hx
 | n+1,last,x,.error f,hx=>hx
 | n+1,last,x,.ok a,hx=>by
  rw[Q0]
  exact Qnn h n _ _ _ (Qx3 h hx)
theorem Qgg{P:Rcd→Prop}{s all:ByteArray}{specs:List (UInt8 × Jk)}{x0:Rcd}(h:∀p ∈ specs,∀x σ,P x→P (p.2 x σ).1)(h0:P x0)(σ:Cst):P (Qhf s all specs x0 σ).1:=Qnn h _ _ _ _ h0
def DBd(s:ByteArray):DV→Prop
 | .num n=>X8 n
 | .str t=>t.size≤s.size
 | .strs l=>l.length≤10240∧∀t ∈ l,t.size≤s.size
 | .nums l=>∀n ∈ l,X8 n
 | .flag _=>True
 | .revs l=>∀r ∈ l,RvBd r
def RBd(s:ByteArray)(x:Rcd):Prop:=∀i,DBd s (x i)
theorem RBd.upd{s:ByteArray}{x:Rcd}(h:RBd s x){o:Nat}{d:DV}(hd:DBd s d):RBd s (upd x o d):=λ i=>by
 by_cases e:i=o
 ·subst e;rw[Xc];exact hd
 ·rw[Zg e];exact h i
theorem Qgh{sort:Nat}{s:ByteArray}{σ:Cst}(h5:sort<5):X8 (tkS sort s σ).1.1∧(tkS sort s σ).1.2.size≤s.size:=by
 cases σ with
 | error f=>exact⟨⟨Int.le_refl 0,show(0:Int)≤18446744073709551615 by decide⟩,Nat.zero_le _⟩
 | ok a=>
  cases h:tkR sort s a with
  | error f=>simp only[tkS,h];exact⟨⟨Int.le_refl 0,by decide⟩,Nat.zero_le _⟩
  | ok x=>
   simp only[tkS,h]
   have:=Qck h5 h
   exact⟨⟨this.2.1,this.2.2.2.1⟩,this.2.2.2.2⟩
theorem Quw(s:ByteArray):∀(n:Nat) (σ:Cst) (l:List ByteArray),(∀t ∈ l,t.size≤s.size)→(Qhx s n σ l).1.length≤n+l.length∧∀t ∈ (Qhx s n σ l).1,t.size≤s.size
 | 0,σ,l,h=>⟨by simp[Qhx],h⟩
 | n+1,.error f,l,h=>⟨by simp[Qhx],h⟩
 | n+1,.ok a,l,h=>by
  rw[Qhx]
  have h2:=Quw s n (Qep s (.ok a)).2 (l++[(Qep s (.ok a)).1]) (λ t ht=>by
   rcases List.mem_append.1 ht with h1 | h1
   ·exact h t h1
   ·rw[List.mem_singleton.1 h1];exact(Qgh (sort:=1) (by decide)).2)
  refine⟨Nat.le_trans h2.1 (by simp;omega),h2.2⟩
theorem Qh1(s:ByteArray)(most:Int)(σ:Cst):(Qbh s most σ).1.length≤10240∧∀t ∈ (Qbh s most σ).1,t.size≤s.size:=by
 have h:=Qf4 (s:=s) (most:=most) (σ:=σ);have h2:=Quw s (Xe s most σ).1.toNat (Xe s most σ).2 [] (λ t ht=>by cases ht)
 refine⟨Nat.le_trans h2.1 (by simp;omega),h2.2⟩
theorem Qls(s:ByteArray)(σ:Cst):RBd s (Qp7 s σ).1∧Kd Qhh (Qp7 s σ).1:=by
 refine Qgg (P:=λ x=>RBd s x∧Kd Qhh x) (λ p hp x σ hx=>?_) ⟨λ i=>?_,λ i=>rfl⟩ σ
 ·simp only[Qag,List.mem_cons,List.not_mem_nil,or_false]at hp
  rcases hp with rfl | rfl | rfl
  ·exact⟨hx.1.upd (Qgh (sort:=0) (by decide)).1,hx.2.upd rfl⟩
  ·exact⟨hx.1.upd (Qh1 s _ _),hx.2.upd rfl⟩
  ·exact⟨hx.1.upd (Qh1 s _ _),hx.2.upd rfl⟩
 ·match i with
  | 0=>exact⟨Int.le_refl 0,show(0:Int)≤18446744073709551615 by decide⟩
  | 1=>exact⟨Nat.zero_le _,λ t ht=>by cases ht⟩
  | 2=>exact⟨Nat.zero_le _,λ t ht=>by cases ht⟩
  | i+3=>exact⟨Int.le_refl 0,show(0:Int)≤18446744073709551615 by decide⟩
theorem Qah{o k:Nat}{x y:Rcd}{i:Nat}(h:i<k):Ql0 o k x y (i+o)=y i:=by
 unfold Ql0
 rw[if_pos (by omega),Nat.add_sub_cancel]
theorem Qgi{o k:Nat}{x y:Rcd}{i:Nat}(h:¬(o≤i∧i<o+k)):Ql0 o k x y i=x i:=by
 unfold Ql0
 rw[if_neg h]
theorem RBd.putW{s:ByteArray}{x y:Rcd}(h:RBd s x)(h2:RBd s y)(o k:Nat):RBd s (Ql0 o k x y):=λ i=>by
 unfold Ql0
 split
 ·exact h2 _
 ·exact h i
theorem Kd.putW{x0 y0 x y:Rcd}(h:Kd x0 x)(h2:Kd y0 y){o k:Nat}(hw:∀i,i<k→Zj (y0 i)=Zj (x0 (i+o))):Kd x0 (Ql0 o k x y):=λ i=>by
 by_cases e:o≤i∧i<o+k
 ·obtain⟨j,rfl⟩:∃j,i=j+o:=⟨i - o,by omega⟩
  rw[Qah (by omega),h2 j,hw j (by omega)]
 ·rw[Qgi e];exact h i
theorem Qh2(s:ByteArray)(σ:Cst):RBd s (Qgf s σ).1∧Kd Xd (Qgf s σ).1:=by
 refine Qgg (P:=λ x=>RBd s x∧Kd Xd x) (λ p hp x σ hx=>?_) ⟨λ i=>?_,λ i=>rfl⟩ σ
 ·simp only[Xs,List.mem_cons,List.not_mem_nil,or_false]at hp
  rcases hp with rfl | rfl | rfl
  ·exact⟨hx.1.putW (Qls s σ).1 2 3,hx.2.putW (Qls s σ).2 (λ i hi=>by match i,hi with | 0,_=>rfl | 1,_=>rfl | 2,_=>rfl)⟩
  ·exact⟨hx.1.upd (Qgh (sort:=0) (by decide)).1,hx.2.upd rfl⟩
  ·exact⟨hx.1.upd trivial,hx.2.upd rfl⟩
 ·match i with
  | 0=>exact⟨Int.le_refl 0,show(0:Int)≤18446744073709551615 by decide⟩
  | 1=>exact trivial
  | 2=>exact⟨Int.le_refl 0,show(0:Int)≤18446744073709551615 by decide⟩
  | 3=>exact⟨Nat.zero_le _,λ t ht=>by cases ht⟩
  | 4=>exact⟨Nat.zero_le _,λ t ht=>by cases ht⟩
  | i+5=>exact⟨Int.le_refl 0,show(0:Int)≤18446744073709551615 by decide⟩
theorem Qno(s:ByteArray):∀(n a:Nat) (l:List ByteArray),
  match rmany (Qfp s) n a l with
  | .error e=>(Qhx s n (.ok a) l).2=.error e
  | .ok y=>Qhx s n (.ok a) l=(y.1,.ok y.2)
 | 0,a,l=>rfl
 | n+1,a,l=>by
  rw[rmany,Qhx]
  cases h:tkR 1 s a with
  | error f=>
   have h1:Qfp s a=.error f:=by simp only[Qfp,h]
   have h2:(Qep s (.ok a)).2=.error f:=by simp only[Qep,tkS,h,Xy]
   rw[h1,h2,Qec]
  | ok x=>
   by_cases hz:x.2.1.size=32
   ·have h1:Qfp s a=.ok (x.2.1,x.2.2):=by simp only[Qfp,h,hz,if_true]
    have h2:Qep s (.ok a)=(x.2.1,.ok x.2.2):=by simp only[Qep,tkS,h,Xy,hz,decide_true,Bool.not_true,Bool.false_eq_true,if_false]
    rw[h1,h2]
    exact Qno s n x.2.2 (l++[x.2.1])
   ·have h1:Qfp s a=.error (5,0):=by simp only[Qfp,h,hz,if_false]
    have h2:(Qep s (.ok a)).2=.error (5,0):=by simp only[Qep,tkS,h,Xy,hz,decide_false,Bool.not_false,if_true]
    rw[h1,h2,Qec]
theorem Qjg{α:Type}{rd:Nat→Except Flt (α × Nat)}:∀{n a:Nat} {l:List α} {y:List α × Nat},rmany rd n a l=.ok y→y.1.length=n+l.length
 | 0,a,l,y,h=>by simp only[rmany]at h;cases h;simp
 | n+1,a,l,y,h=>by
  rw[rmany]at h
  split at h
  ·cases h
  ·rw[Qjg h];simp;omega
theorem Qp8{s:ByteArray}{most a:Nat}{f:Flt}(h:Qci s most a=.error f):(Xe s (most:Int) (.ok a)).2=.error f:=by
 unfold Qci at h
 unfold Xe
 cases ht:tkR 3 s a with
 | error g=>rw[ht]at h;cases h;simp only[tkS,ht,Xy]
 | ok x=>
  rw[ht]at h
  simp only at h
  split at h
  ·cases h
  ·next hn=>
   cases h
   have:decide ((most:Int)<x.1)=true:=decide_eq_true (by omega)
   simp only[tkS,ht,Xy,this,if_true]
theorem Qux{s:ByteArray}{most a:Nat}{x:Nat × Nat}(h:Qci s most a=.ok x):(Xe s (most:Int) (.ok a)).1=(x.1:Int)∧(Xe s (most:Int) (.ok a)).2=if x.1=0 then .error (5,0)else .ok x.2:=by
 unfold Qci at h
 unfold Xe
 cases ht:tkR 3 s a with
 | error g=>rw[ht]at h;cases h
 | ok y=>
  have hb:=Qck (by decide) ht
  rw[ht]at h
  simp only at h
  split at h
  ·next hn=>
   cases h
   have h1:decide ((most:Int)<y.1)=false:=decide_eq_false (by omega)
   simp only[tkS,ht,Xy,h1,Bool.false_eq_true,if_false]
   refine⟨by omega,?_⟩
   by_cases hz:y.1=0
   ·rw[hz];rfl
   ·have h2:(y.1 == 0)=false:=by simp[hz]
    rw[h2,if_neg (by decide),if_neg (by omega)]
  ·cases h
theorem Qgj{x0:Rcd}(s key:ByteArray)(o most:Nat):StepOk x0 (Qa3 s key o most) (Qge s o (most:Int)):=by
 refine⟨λ x a hf=>?_,λ x e=>?_⟩
 ·cases h:Qci s most a with
  | error e=>
   have h1:(Qa3 s key o most).read x a=.error e:=by simp only[Qa3,Xh,h]
   rw[h1]
   show(Qhx s (Xe s (most:Int) (.ok a)).1.toNat (Xe s (most:Int) (.ok a)).2 []).2=.error e
   rw[Qp8 h,Qec]
  | ok k=>
   obtain⟨l1,l2⟩:=Qux h
   have hm:=Qno s k.1 k.2 []
   cases hr:rmany (Qfp s) k.1 k.2 []with
   | error e=>
    have h1:(Qa3 s key o most).read x a=.error e:=by simp only[Qa3,Xh,h,hr]
    rw[h1]
    show(Qhx s (Xe s (most:Int) (.ok a)).1.toNat (Xe s (most:Int) (.ok a)).2 []).2=.error e
    have hk:k.1≠0:=λ e0=>by rw[e0]at hr;simp only[rmany]at hr;cases hr
    rw[l1,l2,if_neg hk,Int.toNat_natCast]
    rw[hr]at hm
    exact hm
   | ok y=>
    have h1:(Qa3 s key o most).read x a=.ok (upd x o (.strs y.1),y.2):=by simp only[Qa3,Xh,h,hr]
    have hl:=Qjg hr;have he:(Qa3 s key o most).empty (upd x o (.strs y.1))=(y.1.length == 0):=by show Qae (upd x o (.strs y.1) o)=_;rw[Xc];rfl
    rw[h1]
    show if(Qa3 s key o most).empty (upd x o (.strs y.1))=true then _ else _
    rw[he]
    by_cases hk:k.1=0
    ·rw[hk]at hl
     rw[show(y.1.length == 0)=true by rw[hl];rfl,if_pos rfl]
     show(Qhx s (Xe s (most:Int) (.ok a)).1.toNat (Xe s (most:Int) (.ok a)).2 []).2=.error (5,0)
     rw[l1,l2,if_pos hk,Qec]
    ·have hn:y.1.length≠0:=by rw[hl];simp;exact hk
     rw[show(y.1.length == 0)=false by simp only[beq_eq_false_iff_ne];exact hn,if_neg (by decide)]
     rw[hr]at hm
     have hm':Qhx s k.1 (.ok k.2) []=(y.1,.ok y.2):=hm
     show(upd x o (.strs (Qhx s (Xe s (most:Int) (.ok a)).1.toNat (Xe s (most:Int) (.ok a)).2 []).1),(Qhx s (Xe s (most:Int) (.ok a)).1.toNat (Xe s (most:Int) (.ok a)).2 []).2)=_
     rw[l1,l2,if_neg hk,Int.toNat_natCast,hm']
 ·show(Qhx s (Xe s (most:Int) (.error e)).1.toNat (Xe s (most:Int) (.error e)).2 []).2=.error e
  have:(Xe s (most:Int) (.error e)).2=.error e:=rfl
  rw[this,Qec]
theorem Quy{x0:Rcd}(s key:ByteArray)(o:Nat):StepOk x0 (Qam s key o) (Qh0 s o):=by
 refine⟨λ x a hf=>?_,λ x e=>rfl⟩
 cases h:tkR 0 s a with
 | error e=>
  have h1:(Qam s key o).read x a=.error e:=by simp only[Qam,Qib,h]
  rw[h1]
  simp only[Qh0,tkS,h,Xy]
 | ok y=>
  have h1:(Qam s key o).read x a=.ok (upd x o (.flag (y.1 == 1)),y.2.2):=by simp only[Qam,Qib,h]
  rw[h1]
  simp only[Qam,Xc,Qae,Qh0,tkS,h,Xy]
  by_cases hz:y.1=1
  ·rw[hz];rfl
  ·have h2:(y.1 == 1)=false:=by simp[hz]
   have h3:(y.1 != 1)=true:=by simp[hz]
   rw[h2,h3];rfl
structure SameR(s:ByteArray)(gs0:List GSpec)(y0:Rcd)(sub:Cst→Rcd × Cst):Prop where
 good:∀a,(∀e,Qbr s gs0 y0 a=.error e→(sub (.ok a)).2=.error e)∧(∀y,Qbr s gs0 y0 a=.ok y→sub (.ok a)=(y.1,.ok y.2))
 bad:∀e,(sub (.error e)).2=.error e
theorem Qlt{x0 y0:Rcd}{s key:ByteArray}{gs gs0:List GSpec}{o k:Nat}{sub:Cst→Rcd × Cst}{z:Rcd→Bool}(hsh:ShL o k gs gs0)(hs:SameR s gs0 y0 sub)(hfr:∀g ∈ gs,g.Frames)(hoffs:∀i,i ∈ gs.flatMap (λ g=>g.offs) ↔ o≤i∧i<o+k)(hw0:Win o k x0 y0)
  (hz:∀a y,Qbr s gs0 y0 a=.ok y→z y.1=gs0.all λ g=>g.empty y.1):StepOk x0 (Qgt s key gs) (Qfe sub z o k):=by
 refine⟨λ x a hf=>?_,λ x e=>?_⟩
 ·have hw:Win o k x y0:=λ i hi=>by
   have:=hf (i+o) ((hoffs (i+o)).2 ⟨by omega,by omega⟩)
   rw[this];exact hw0 i hi
  have h:=Quv (s:=s) hsh a hw
  show match Qbr s gs x a with | .error e=>_ | .ok y=>_
  cases hr:Qbr s gs x a with
  | error e=>
   show Xy _ 5 (sub (.ok a)).2=.error e
   rw[(hs.good a).1 e (h.1 e hr)];rfl
  | ok u=>
   obtain⟨u0,h0,hw2⟩:=h.2 u hr
   have hsub:=(hs.good a).2 (u0,u.2) h0;have hem:(Qgt s key gs).empty u.1=z u0:=by
    rw[hz a (u0,u.2) h0]
    exact hsh.all hw2
   show if(Qgt s key gs).empty u.1=true then(Qfe sub z o k x (.ok a)).2=.error (5,0)else Qfe sub z o k x (.ok a)=(u.1,.ok u.2)
   unfold Qfe
   rw[hsub,hem]
   cases hzz:z u0 with
   | true=>rw[if_pos rfl];rfl
   | false=>
    rw[if_neg (by decide)]
    show(Ql0 o k x u0,(.ok u.2:Cst))=(u.1,.ok u.2)
    have:Ql0 o k x u0=u.1:=funext λ i=>by
     by_cases e:o≤i∧i<o+k
     ·obtain⟨j,rfl⟩:∃j,i=j+o:=⟨i - o,by omega⟩
      rw[Qah (by omega)];exact(hw2 j (by omega)).symm
     ·rw[Qgi e]
      exact(Qcz (key:=key) hfr x a u hr i (λ hi=>e ((hoffs i).1 hi))).symm
    rw[this]
 ·show Xy _ 5 (sub (.error e)).2=.error e
  rw[hs.bad e];rfl
theorem Qzq{gs:List GSpec}(h:∀i,(gth gs i).must=false)(seen:List Nat):Xw gs seen=false:=by
 unfold Xw
 rw[List.any_eq_false]
 intro i _
 rw[h i];simp
theorem Qw4(s all:ByteArray)(specs:List (UInt8 × Jk))(x0:Rcd)(e:Flt):(Qhf s all specs x0 (.error e)).2=.error e:=by
 unfold Qhf Qay
 simp only[tkS]
 rw[Jd]
theorem Qp9(k:Int)(σ:Cst):Xy false k σ=σ:=by cases σ <;> rfl
theorem Qqa{x0:Rcd}{s all:ByteArray}{specs:List (UInt8 × Jk)}{gs:List GSpec}(h:SpecsOk x0 all specs gs)(hG:GOk x0 gs)(hm:∀i,(gth gs i).must=false):SameR s gs x0 (Qhf s all specs x0):=by
 refine⟨λ a=>?_,Qw4 s all specs x0⟩
 have ht:∀σ,Qhg s all specs (λ _=>false) x0 σ=Qhf s all specs x0 σ:=λ σ=>by unfold Qhg;rw[Qp9]
 have:=Qkk (s:=s) (miss:=λ _=>false) h hG (λ n a y _=>Qzq hm y.2.1) a
 rw[ht]at this
 refine⟨λ e he=>?_,λ y hy=>?_⟩
 ·rw[he]at this;exact this
 ·rw[hy]at this;exact this
theorem Quz{l:List GSpec}{i:Nat}(h:l.length≤i):gth l i=GSpec.zero:=by unfold gth;rw[List.getD_eq_getElem?_getD,List.getElem?_eq_none h];rfl
theorem Qu0(s:ByteArray):SpecsOk Qhh ⟨#[105,112,118]⟩ (Qag s) (Qa4 s 0):=by
 refine Qcw [105,112,118] rfl rfl rfl (by decide) λ i hi=>?_
 match i,hi with
 | 0,_=>exact Qca _ _ _
 | 1,_=>exact Qgj _ _ _ 16
 | 2,_=>exact Qgj _ _ _ 67
 | i+3,hi=>exact absurd hi (by simp[Qa4];try omega)
theorem Qnp(s:ByteArray):SameR s (Qa4 s 0) Qhh (Qp7 s):=
 Qqa (Qu0 s) (Qv9 (x0:=Qhh) s 0 ⟨rfl,rfl,rfl⟩) λ i=>by
  match i with
  | 0 | 1 | 2=>rfl
  | i+3=>rw[Quz (by simp[Qa4])];rfl
theorem Qzr{s:ByteArray}{y:Rcd}(h:RBd s y)(hk:Kd Qhh y):Qz5 y=(Qa4 s 0).all λ g=>g.empty y:=by
 obtain⟨n,e0⟩:=hk.num (o:=0) rfl
 obtain⟨l1,e1⟩:=hk.strs (o:=1) rfl
 obtain⟨l2,e2⟩:=hk.strs (o:=2) rfl
 have b1:l1.length≤10240:=by have:=h 1;rw[e1]at this;exact this.1
 have b2:l2.length≤10240:=by have:=h 2;rw[e2]at this;exact this.1
 unfold Qz5
 rw[e0,e1,e2]
 show((Zw (Qav n l1 l2)).toList == [128])=_
 have ha:((Qa4 s 0).all λ g=>g.empty y)=((Zk n l1 l2).all λ f=>f.empty):=by
  show(Qae (y 0) && (Qae (y 2) && (Qae (y 1) && true)))=_
  rw[e0,e1,e2]
  show(n == 0 && (l2.length == 0 && (l1.length == 0 && true)))=(n == 0 && (decide (len l2=0) && (decide (len l1=0) && true)))
  rfl
 rw[ha]
 have h2:=Qg1 (Qav n l1 l2) (by simp[Qav]) (λ p hp=>by
  simp only[Qav,List.mem_cons,List.not_mem_nil,or_false]at hp
  rcases hp with rfl | rfl | rfl <;> (show(1:Nat)<65536;decide))
 have h3:=Qi8 (Zk n l1 l2);have h4:=Qlk (Qll n l1 l2 (by rw[Zm];omega) (by rw[Zm];omega));have h5:((Zw (Qav n l1 l2)).toList == [128])=true ↔ Zw (Qav n l1 l2)=⟨#[128]⟩:=by
  rw[beq_iff_eq]
  constructor
  ·intro e;exact Qe3 (by rw[e,ByteArray.toList_eq];rfl)
  ·intro e;rw[e,ByteArray.toList_eq]
 rw[Bool.eq_iff_iff,h5,h2,←h4,h3]
theorem Qrx(s:ByteArray):SpecsOk Xd ⟨#[103,108,115]⟩ (Xs s) (Z3 s 0):=by
 refine Qcw [103,108,115] rfl rfl rfl (by decide) λ i hi=>?_
 match i,hi with
 | 0,_=>
  refine Qlt (key:=⟨#[103]⟩) (Q1j s 2) (Qnp s) (Qv9 (x0:=Xd) s 2 ⟨rfl,rfl,rfl⟩).frames (λ i=>?_) (λ i hi=>by match i,hi with | 0,_=>rfl | 1,_=>rfl | 2,_=>rfl) (λ a y hy=>?_)
  ·show i ∈ [2,4,3] ↔ _
   simp only[List.mem_cons,List.not_mem_nil,or_false]
   omega
  ·have h:=Qls s (.ok a)
   rw[((Qnp s).good a).2 y hy]at h
   exact Qzr h.1 h.2
 | 1,_=>exact Qca _ _ _
 | 2,_=>exact Quy _ _ _
 | i+3,hi=>exact absurd hi (by simp[Z3];try omega)
theorem Qkn(s:ByteArray):SameR s (Z3 s 0) Xd (Qgf s):=
 Qqa (Qrx s) (Qm3 (x0:=Xd) s 0 ⟨rfl,rfl,⟨rfl,rfl,rfl⟩⟩) λ i=>by
  match i with
  | 0 | 1 | 2=>rfl
  | i+3=>rw[Quz (by simp[Z3])];rfl
theorem HoldsD.any{rb tb r t:Nat}{w:World}{v:Value}{d:DV}(h:HoldsD rb tb w v d)(hr:r≤tb)(ht:t≤tb):HoldsD r t w v d:=by
 have ko:∀{a:Option Addr},Off rb tb a→Off r t a:=λ h b off e=>⟨by have:=(h b off e).2;omega,by have:=(h b off e).2;omega⟩
 cases d with
 | num n=>exact h
 | flag q=>exact h
 | str s=>exact h
 | strs l=>obtain⟨a,c,h1,h2,h3,h4⟩:=h;exact⟨a,c,h1,h2,ko h3,h4⟩
 | nums l=>obtain⟨a,c,h1,h2,h3,h4⟩:=h;exact⟨a,c,h1,h2,ko h3,h4⟩
 | revs l=>
  obtain⟨a,c,h1,h2,h3,rs,h4,h5,h6⟩:=h
  exact⟨a,c,h1,h2,ko h3,rs,h4,h5,λ i hi=>by
   have h:=h6 i hi
   exact⟨h.pos,h.L,h.signed,h.idx,h.wn,h.ws,ko h.wo,h.pn,h.ps,ko h.po,h.root,h.wt,h.first,h.life,h.keys⟩⟩
def Qeq(n:Nat)(w:World)(v:Value)(d:DV):Prop:=∀r t,r<n→t<n→HoldsD r t w v d
abbrev Qh3(x:Rcd)(a1:Option Addr)(c1:Nat)(a2:Option Addr)(c2:Nat):Array Value:=#[.int .u64 (x 0).n,.slice a1 (len (x 1).l) c1,.slice a2 (len (x 2).l) c2]
theorem Qko{rb tb:Nat}{w:World}{x:Rcd}(h:RecAt rb tb 42 3 w x)(hk:Kd Qhh x):∃(a1:Option Addr) (c1:Nat) (a2:Option Addr) (c2:Nat),w.heap[tb]?=some (.cells (Qh3 x a1 c1 a2 c2) 42 (0,0))∧HoldsD rb tb w (.slice a1 (len (x 1).l) c1) (x 1)∧HoldsD rb tb w (.slice a2 (len (x 2).l) c2) (x 2):=by
 obtain⟨cs,h1,h2,h3⟩:=h
 obtain⟨m0,e0⟩:=hk.num (show Zj (Qhh 0)=_ from rfl)
 obtain⟨u0,g0,d0⟩:=h3 0 (by decide)
 rw[e0]at d0
 simp only[HoldsD]at d0
 subst d0
 obtain⟨m1,e1⟩:=hk.strs (show Zj (Qhh 1)=_ from rfl)
 obtain⟨u1,g1,d1⟩:=h3 1 (by decide)
 have D1:=d1
 rw[e1]at d1
 obtain⟨a1,c1,q1,-⟩:=d1
 subst q1
 obtain⟨m2,e2⟩:=hk.strs (show Zj (Qhh 2)=_ from rfl)
 obtain⟨u2,g2,d2⟩:=h3 2 (by decide)
 have D2:=d2
 rw[e2]at d2
 obtain⟨a2,c2,q2,-⟩:=d2
 subst q2
 refine⟨a1,c1,a2,c2,?_,?_,?_⟩
 ·rw[h1];congr 2;apply Array.ext_getElem?;intro i
  match i with
  | 0=>rw[g0];simp[e0,DV.n]
  | 1=>rw[g1];simp[e1,DV.l]
  | 2=>rw[g2];simp[e2,DV.l]
  | i+3=>rw[Array.getElem?_eq_none (by omega)];simp
 ·have:=D1;rw[e1]at this ⊢;exact this
 ·have:=D2;rw[e2]at this ⊢;exact this
theorem bd_n{s:ByteArray}{d:DV}(h:DBd s d):X8 d.n:=by cases d <;> first | exact h | exact(show X8 0 from⟨by decide,by decide⟩)
theorem Qh4{s:ByteArray}{d:DV}(h:DBd s d)(hs:s.size<65536):Qhk d.l:=by
 cases d <;> first | exact⟨Nat.zero_le _,λ i hi=>absurd hi (by simp[len,DV.l])⟩ | skip
 next l=>
  refine⟨Nat.le_trans h.1 (by decide),λ i hi=>?_⟩
  have hi':i<l.length:=hi
  show(sth l i).size<65536
  rw[Qcl l i hi']
  have:=h.2 _ (List.getElem_mem hi')
  omega
theorem putW3(x y:Rcd):Ql0 2 3 x y=upd (upd (upd x 2 (y 0)) 3 (y 1)) 4 (y 2):=funext λ i=>by
 by_cases h4:i=4
 ·subst h4;rw[Xc];exact Qah (o:=2) (k:=3) (i:=2) (by decide)
 ·rw[Zg h4]
  by_cases h3:i=3
  ·subst h3;rw[Xc];exact Qah (o:=2) (k:=3) (i:=1) (by decide)
  ·rw[Zg h3]
   by_cases h2:i=2
   ·subst h2;rw[Xc];exact Qah (o:=2) (k:=3) (i:=0) (by decide)
   ·rw[Zg h2];exact Qgi (by omega)
theorem Xp{rb tb n:Nat}{T:TypeId}{w:World}{x:Rcd}(h:RecAt rb tb T n w x):tb<w.heap.size:=by obtain⟨cs,h1,_⟩:=h;exact lt_of_block h1
def sigR(y:Rcd)(σ:Cst)(cb rb:Nat)(s:ByteArray)(w:World)(e:Ending)(w':World):Prop:=∃a1 c1 a2 c2,e=.returned (.agg (Qh3 y a1 c1 a2 c2))∧Kd Qhh y∧Qeq w.heap.size w' (.slice a1 (len (y 1).l) c1) (y 1)∧Qeq w.heap.size w' (.slice a2 (len (y 2).l) c2) (y 2)∧CurIs w' cb rb s σ∧Chg rb cb w w'
def slotR(y:Rcd)(σ:Cst)(cb rb:Nat)(s:ByteArray)(w:World)(e:Ending)(w':World):Prop:=∃a1 c1 a2 c2,e=.returned (.agg (Xn y a1 c1 a2 c2))∧Kd Xd y∧Qeq w.heap.size w' (.slice a1 (len (y 3).l) c1) (y 3)∧Qeq w.heap.size w' (.slice a2 (len (y 4).l) c2) (y 4)∧CurIs w' cb rb s σ∧Chg rb cb w w'
theorem Qw5(cb rb:Nat)(s:ByteArray)(σ:Cst)(w:World)(h:CurIs w cb rb s σ):
  Calls Tryz.prog 141 #[pt cb 0] w (sigR (Qp7 s σ).1 (Qp7 s σ).2 cb rb s w):=by
 have hcs:=h.clt;have hrs:=h.rlt;have h1:=fun (w':World) (hb:Below w.heap.size w w')=>Qcu cb rb s σ w' (h.below hb);have hbd:=Qcv (s:=s) (σ:=σ)
 unfold Qp7 Qhf
 generalize Qay s σ=z at h1 hbd ⊢
 obtain⟨k0,σ1⟩:=z
 obtain⟨N,rfl⟩:∃k:Nat,k0=k:=⟨k0.toNat,by have:=hbd.1;simp only at this ⊢;omega⟩
 have hN:N≤10240:=by have:=hbd.2;simp only at this;omega
 have H:=QLh h1;clear h1 h hbd
 simp only[Int.toNat_natCast]
 go_enter Tryz.func141,Tryz.ntmps141
 go_upto_region 2 with fail
 obtain⟨b0,hb0⟩:∃b0,w.heap.size=b0:=⟨_,rfl⟩
 obtain⟨V,hV⟩:∃V,(w.alloc (.cells #[.int .u64 0,.slice none 0 0,.slice none 0 0] 42)).alloc (.cells #[.int .u64 0,.slice none 0 0,.slice none 0 0] 42)=V:=⟨_,rfl⟩
 have HV:Hid (Below w.heap.size w V):=QLh (by rw[←hV];exact Qh (Qh (Below.refl _ _) _) _);have V0:Hid (V.heap[b0]?=some (.cells #[.int .u64 0,.slice none 0 0,.slice none 0 0] 42 (0,0))):=QLh (by rw[←hV,←hb0];exact Qf (heap_alloc_new _ _) _);have V1:Hid (V.heap[b0+1]?=some (.cells #[.int .u64 0,.slice none 0 0,.slice none 0 0] 42 (0,0))):=QLh (by rw[←hV];exact Qi _ (by simp[hb0]));have REC:Hid (RecAt rb (b0+1) 42 3 V Qhh):=QLh (Qbo V1.out rfl (λ i hi=>by
  match i,hi with
  | 0,_=>exact⟨_,rfl,rfl⟩
  | 1,_=>exact⟨_,rfl,rfl,rfl⟩
  | 2,_=>exact⟨_,rfl,rfl,rfl⟩))
 have HB0:=QLh hb0;have hcb:cb<b0:=by omega
 have hrb:rb<b0:=by omega
 try rw[hV]
 try simp only[hb0]
 clear hV hb0
 go_wp2_with fail
 refine(H.out V HV.out).mono ?_
 rintro e w1 ⟨rfl,hc,hg⟩
 have HC1:=QLh hc;have HG1:Hid (Chg rb cb w w1):=QLh ((Chg.of_below HV.out).trans hg);have RES1:Hid (w1.heap[b0]?=some (.cells #[.int .u64 0,.slice none 0 0,.slice none 0 0] 42 (0,0))):=QLh ((hg.block _ (lt_of_block V0.out) (by omega) (by omega)).trans V0.out);have REC1:Hid (RecAt rb (b0+1) 42 3 w1 Qhh):=QLh (REC.out.cur hg (by omega) (by omega));clear hc hg H V0 V1 REC
 go_wp2
 go_loopg [5,6] N (λ gg lv i wr=>∃(m:Nat) (τ:Cst) (x:Rcd) (last:ByteArray),gg+m=N∧i=.int .u64 m∧lv=.string last∧Hid (Q0 s ⟨#[105,112,118]⟩ (Qag s) N ⟨#[]⟩ Qhh σ1=Q0 s ⟨#[105,112,118]⟩ (Qag s) gg last x τ)∧Hid (CurIs wr cb rb s τ)∧Hid (Chg rb cb w wr)∧Hid (RecAt rb (b0+1) 42 3 wr x)∧Hid (Kd Qhh x)∧Hid (wr.heap[b0]?=some (.cells #[.int .u64 0,.slice none 0 0,.slice none 0 0] 42 (0,0))))
 case atStart=>exact⟨0,σ1,Qhh,⟨#[]⟩,rfl,rfl,rfl,rfl,HC1.out,HG1.out,REC1.out,λ i=>rfl,RES1.out⟩
 case round=>
  clear HC1 HG1 RES1 REC1
  obtain⟨m,τ,x,last,hm,rfl,rfl,HD,HC,HG,REC,HK,RES⟩:=hrel
  by_cases hlt:m<N
  ·obtain⟨g',rfl⟩:∃g',gk=g'+1:=⟨gk - 1,by omega⟩
   have i1:(m:Int)<N:=by omega
   have HB:=QLh (Qb1 cb rb s τ _ HC.out)
   go_wp2_with fail
   refine HB.out.mono ?_
   rintro e w3 ⟨rfl,rfl⟩
   cases τ with
   | error f=>
    simp only[Qb0]
    have HE:Hid (Q0 s ⟨#[105,112,118]⟩ (Qag s) N ⟨#[]⟩ Qhh σ1=(x,.error f)):=QLh (by rw[HD.out,Jd]);clear HB HD
    obtain⟨a1,c1,a2,c2,hth,hl1,hl2⟩:=Qko REC.out HK.out
    have k0:w3.cell? ⟨b0+1,0,none⟩=some (.int .u64 (x 0).n):=Qa hth 0;have k1:w3.cell? ⟨b0+1,1,none⟩=some (.slice a1 (len (x 1).l) c1):=Qa hth 1;have k2:w3.cell? ⟨b0+1,2,none⟩=some (.slice a2 (len (x 2).l) c2):=Qa hth 2;have g0:∀o,w3.cell? ⟨b0,o,none⟩=_:=Qa RES.out;have g1:∀o,w3.frozen? ⟨b0,o,none⟩=false:=Qj RES.out;have g2:b0<w3.heap.size:=lt_of_block RES.out;clear hth;have HL1:=QLh hl1;have HL2:=QLh hl2;clear hl1 hl2
    go_wp2
    have hb:=(Qb (Qb (Qb RES.out (o:=0) (.int .u64 (x 0).n)) (o:=1) (.slice a1 (len (x 1).l) c1)) (o:=2) (.slice a2 (len (x 2).l) c2));have d:∀o,_=_:=Qa hb
    refine bodyPost_ret (v:=.agg (Qh3 x a1 c1 a2 c2)) ?_ rfl ?_
    ·simp[results,Tryz.results141,go_sem,d]
    ·rw[HE.out]
     have hk2:∀b,b0+1<b→((((w3.setCell ⟨b0,0,none⟩ (.int .u64 (x 0).n)).setCell ⟨b0,1,none⟩ (.slice a1 (len (x 1).l) c1)).setCell ⟨b0,2,none⟩ (.slice a2 (len (x 2).l) c2))).heap[b]?=w3.heap[b]?:=λ b hb=>by repeat rw[Below.heap_setCell _ _ _ _ (by omega:b≠b0)]
     exact⟨_,_,_,_,rfl,HK.out,λ r t hr ht=>((HL1.out).keep2 (λ b _ h9 _=>hk2 b h9)).any (by have:=HB0.out;omega) (by have:=HB0.out;omega),λ r t hr ht=>((HL2.out).keep2 (λ b _ h9 _=>hk2 b h9)).any (by have:=HB0.out;omega) (by have:=HB0.out;omega),(CurIs.setOff (CurIs.setOff (CurIs.setOff HC.out hcb hrb _) hcb hrb _) hcb hrb _),(Chg.setNew (Chg.setNew (Chg.setNew HG.out (show w.heap.size≤b0 by have:=HB0.out;omega) _) (show w.heap.size≤b0 by have:=HB0.out;omega) _) (show w.heap.size≤b0 by have:=HB0.out;omega) _)⟩
   | ok a=>
    simp only[Qb0]
    have HKY:=QLh (Qf3 cb rb s ⟨#[105,112,118]⟩ last (.ok a) w3 HC.out (by decide));have HE:Hid (Q0 s ⟨#[105,112,118]⟩ (Qag s) N ⟨#[]⟩ Qhh σ1=Q0 s ⟨#[105,112,118]⟩ (Qag s) g' (Qaz s ⟨#[105,112,118]⟩ last (.ok a)).1 (sw (Qag s) (Qaz s ⟨#[105,112,118]⟩ last (.ok a)).1 x (Qaz s ⟨#[105,112,118]⟩ last (.ok a)).2).1 (sw (Qag s) (Qaz s ⟨#[105,112,118]⟩ last (.ok a)).1 x (Qaz s ⟨#[105,112,118]⟩ last (.ok a)).2).2):=QLh HD.out;clear HB HD
    go_wp2_with fail
    refine HKY.out.mono ?_
    rintro e w4 ⟨rfl,hc,hg⟩
    have HC4:=QLh hc;have HG4:Hid (Chg rb cb w w4):=QLh (HG.out.trans hg);have REC4:=QLh (REC.out.cur hg (by omega) (by omega));have RES4:Hid (w4.heap[b0]?=some (.cells #[.int .u64 0,.slice none 0 0,.slice none 0 0] 42 (0,0))):=QLh ((hg.block _ (lt_of_block RES.out) (by omega) (by omega)).trans RES.out);clear hc hg HKY HC HG REC RES
    obtain⟨key,hkey⟩:∃key,(Qaz s ⟨#[105,112,118]⟩ last (.ok a)).1=key:=⟨_,rfl⟩
    obtain⟨τ1,hτ1⟩:∃τ1,(Qaz s ⟨#[105,112,118]⟩ last (.ok a)).2=τ1:=⟨_,rfl⟩
    have HE:Hid (Q0 s ⟨#[105,112,118]⟩ (Qag s) N ⟨#[]⟩ Qhh σ1=Q0 s ⟨#[105,112,118]⟩ (Qag s) g' key (sw (Qag s) key x τ1).1 (sw (Qag s) key x τ1).2):=QLh (by have:=HE.out;rw[hkey,hτ1]at this;exact this);have HC4:Hid (CurIs w4 cb rb s τ1):=QLh (by rw[←hτ1];exact HC4.out)
    rw[hkey]
    clear hkey hτ1
    cases hq0:(key.toList == [105])with
    | true=>
     have es:sw (Qag s) key x τ1=(upd x 0 (.num (Qcd s τ1).1),(Qcd s τ1).2):=by unfold Qag;simp only[sw,hq0,if_true,Bool.false_eq_true,if_false];rfl
     have HE2:Hid (Q0 s ⟨#[105,112,118]⟩ (Qag s) N ⟨#[]⟩ Qhh σ1=Q0 s ⟨#[105,112,118]⟩ (Qag s) g' key (upd x 0 (.num (Qcd s τ1).1)) (Qcd s τ1).2):=QLh (by rw[HE.out,es]);have HNM:=QLh (Qb9 cb rb s τ1 w4 HC4.out);clear es HE
     go_wp2_with fail
     refine HNM.out.mono ?_
     rintro e w5 ⟨rfl,hc,hg⟩
     have HC5:=QLh hc;have HG5:=QLh (HG4.out.trans hg);have hrec:=REC4.out.cur hg (by omega) (by omega);have REC5:=QLh hrec;have RES5:Hid (w5.heap[b0]?=some (.cells #[.int .u64 0,.slice none 0 0,.slice none 0 0] 42 (0,0))):=QLh ((hg.block _ (lt_of_block RES4.out) (by omega) (by omega)).trans RES4.out)
     obtain⟨u,hu,-⟩:=hrec.get (by decide:0<3)
     have hfz:=hrec.free 0;clear hc hg hrec
     go_wp2
     go_roundg g'
     case rel=>exact⟨m+1,_,_,key,by omega,by go_num,rfl,HE2.out,HC5.out.setOff (by omega) (by omega) _,HG5.out.setNew (show w.heap.size≤b0+1 by have:=HB0.out;omega) _,REC5.out.set (by decide:0<3) rfl,HK.out.upd rfl,QLh (Qg RES5.out (by omega:b0≠b0+1) _)⟩
     case measure=>omega
    | false=>
     cases hq1:(key.toList == [112])with
     | true=>
      have es:sw (Qag s) key x τ1=(upd x 2 (.strs (Qbh s 16 τ1).1),(Qbh s 16 τ1).2):=by unfold Qag;simp only[sw,hq0,hq1,if_true,Bool.false_eq_true,if_false];rfl
      have HE2:Hid (Q0 s ⟨#[105,112,118]⟩ (Qag s) N ⟨#[]⟩ Qhh σ1=Q0 s ⟨#[105,112,118]⟩ (Qag s) g' key (upd x 2 (.strs (Qbh s 16 τ1).1)) (Qbh s 16 τ1).2):=QLh (by rw[HE.out,es]);have HNM:=QLh (Qf5 cb rb s 16 τ1 w4 HC4.out);clear es HE
      go_wp2_with fail
      refine HNM.out.mono ?_
      rintro e w5 ⟨v,rfl,hh,hc,hg⟩
      have hv:=hh rb (b0+1) (Nat.lt_trans (Nat.lt_trans hrb (Nat.lt_succ_self b0)) (Xp REC4.out)) (Xp REC4.out);have HV:=QLh hv
      obtain⟨av,cv,rfl,-⟩:=hv
      have HC5:=QLh hc;have HG5:=QLh (HG4.out.trans hg);have hrec:=REC4.out.cur hg (by omega) (by omega);have REC5:=QLh hrec;have RES5:Hid (w5.heap[b0]?=some (.cells #[.int .u64 0,.slice none 0 0,.slice none 0 0] 42 (0,0))):=QLh ((hg.block _ (lt_of_block RES4.out) (by omega) (by omega)).trans RES4.out)
      obtain⟨u,hu,-⟩:=hrec.get (by decide:2<3)
      have hfz:=hrec.free 2;clear hc hg hrec hh
      go_wp2
      go_roundg g'
      case rel=>exact⟨m+1,_,_,key,by omega,by go_num,rfl,HE2.out,HC5.out.setOff (by omega) (by omega) _,HG5.out.setNew (show w.heap.size≤b0+1 by have:=HB0.out;omega) _,REC5.out.set (by decide:2<3) HV.out,HK.out.upd rfl,QLh (Qg RES5.out (by omega:b0≠b0+1) _)⟩
      case measure=>omega
     | false=>
      cases hq2:(key.toList == [118])with
      | true=>
       have es:sw (Qag s) key x τ1=(upd x 1 (.strs (Qbh s 67 τ1).1),(Qbh s 67 τ1).2):=by unfold Qag;simp only[sw,hq0,hq1,hq2,if_true,Bool.false_eq_true,if_false];rfl
       have HE2:Hid (Q0 s ⟨#[105,112,118]⟩ (Qag s) N ⟨#[]⟩ Qhh σ1=Q0 s ⟨#[105,112,118]⟩ (Qag s) g' key (upd x 1 (.strs (Qbh s 67 τ1).1)) (Qbh s 67 τ1).2):=QLh (by rw[HE.out,es]);have HNM:=QLh (Qf5 cb rb s 67 τ1 w4 HC4.out);clear es HE
       go_wp2_with fail
       refine HNM.out.mono ?_
       rintro e w5 ⟨v,rfl,hh,hc,hg⟩
       have hv:=hh rb (b0+1) (Nat.lt_trans (Nat.lt_trans hrb (Nat.lt_succ_self b0)) (Xp REC4.out)) (Xp REC4.out);have HV:=QLh hv
       obtain⟨av,cv,rfl,-⟩:=hv
       have HC5:=QLh hc;have HG5:=QLh (HG4.out.trans hg);have hrec:=REC4.out.cur hg (by omega) (by omega);have REC5:=QLh hrec;have RES5:Hid (w5.heap[b0]?=some (.cells #[.int .u64 0,.slice none 0 0,.slice none 0 0] 42 (0,0))):=QLh ((hg.block _ (lt_of_block RES4.out) (by omega) (by omega)).trans RES4.out)
       obtain⟨u,hu,-⟩:=hrec.get (by decide:1<3)
       have hfz:=hrec.free 1;clear hc hg hrec hh
       go_wp2
       go_roundg g'
       case rel=>exact⟨m+1,_,_,key,by omega,by go_num,rfl,HE2.out,HC5.out.setOff (by omega) (by omega) _,HG5.out.setNew (show w.heap.size≤b0+1 by have:=HB0.out;omega) _,REC5.out.set (by decide:1<3) HV.out,HK.out.upd rfl,QLh (Qg RES5.out (by omega:b0≠b0+1) _)⟩
       case measure=>omega
      | false=>
       have es:sw (Qag s) key x τ1=(x,τ1):=by unfold Qag;simp only[sw,hq0,hq1,hq2,Bool.false_eq_true,if_false]
       have HE2:Hid (Q0 s ⟨#[105,112,118]⟩ (Qag s) N ⟨#[]⟩ Qhh σ1=Q0 s ⟨#[105,112,118]⟩ (Qag s) g' key x τ1):=QLh (by rw[HE.out,es]);clear es HE
       go_wp2
       go_roundg g'
       case rel=>exact⟨m+1,_,_,key,by omega,by go_num,rfl,HE2.out,HC4.out,HG4.out,REC4.out,HK.out,RES4.out⟩
       case measure=>omega
  ·obtain rfl:m=N:=by omega
   have i1:¬((m:Nat):Int)<m:=by omega
   obtain rfl:gk=0:=by omega
   obtain⟨w3,hw3⟩:∃w3,w3=wr:=⟨_,rfl⟩
   subst hw3
   have HE:Hid (Q0 s ⟨#[105,112,118]⟩ (Qag s) m ⟨#[]⟩ Qhh σ1=(x,τ)):=QLh HD.out;clear HD
   obtain⟨a1,c1,a2,c2,hth,hl1,hl2⟩:=Qko REC.out HK.out
   have k0:w3.cell? ⟨b0+1,0,none⟩=some (.int .u64 (x 0).n):=Qa hth 0;have k1:w3.cell? ⟨b0+1,1,none⟩=some (.slice a1 (len (x 1).l) c1):=Qa hth 1;have k2:w3.cell? ⟨b0+1,2,none⟩=some (.slice a2 (len (x 2).l) c2):=Qa hth 2;have g0:∀o,w3.cell? ⟨b0,o,none⟩=_:=Qa RES.out;have g1:∀o,w3.frozen? ⟨b0,o,none⟩=false:=Qj RES.out;have g2:b0<w3.heap.size:=lt_of_block RES.out;clear hth;have HL1:=QLh hl1;have HL2:=QLh hl2;clear hl1 hl2
   go_wp2
   have hb:=(Qb (Qb (Qb RES.out (o:=0) (.int .u64 (x 0).n)) (o:=1) (.slice a1 (len (x 1).l) c1)) (o:=2) (.slice a2 (len (x 2).l) c2));have d:∀o,_=_:=Qa hb
   refine bodyPost_ret (v:=.agg (Qh3 x a1 c1 a2 c2)) ?_ rfl ?_
   ·simp[results,Tryz.results141,go_sem,d]
   ·rw[HE.out]
    have hk2:∀b,b0+1<b→((((w3.setCell ⟨b0,0,none⟩ (.int .u64 (x 0).n)).setCell ⟨b0,1,none⟩ (.slice a1 (len (x 1).l) c1)).setCell ⟨b0,2,none⟩ (.slice a2 (len (x 2).l) c2))).heap[b]?=w3.heap[b]?:=λ b hb=>by repeat rw[Below.heap_setCell _ _ _ _ (by omega:b≠b0)]
    exact⟨_,_,_,_,rfl,HK.out,λ r t hr ht=>((HL1.out).keep2 (λ b _ h9 _=>hk2 b h9)).any (by have:=HB0.out;omega) (by have:=HB0.out;omega),λ r t hr ht=>((HL2.out).keep2 (λ b _ h9 _=>hk2 b h9)).any (by have:=HB0.out;omega) (by have:=HB0.out;omega),(CurIs.setOff (CurIs.setOff (CurIs.setOff HC.out hcb hrb _) hcb hrb _) hcb hrb _),(Chg.setNew (Chg.setNew (Chg.setNew HG.out (show w.heap.size≤b0 by have:=HB0.out;omega) _) (show w.heap.size≤b0 by have:=HB0.out;omega) _) (show w.heap.size≤b0 by have:=HB0.out;omega) _)⟩
theorem Qu1(cb rb:Nat)(s:ByteArray)(σ:Cst)(w:World)(h:CurIs w cb rb s σ)(hs:s.size<65536):
  Calls Tryz.prog 78 #[pt cb 0] w (slotR (Qgf s σ).1 (Qgf s σ).2 cb rb s w):=by
 have hcs:=h.clt;have hrs:=h.rlt;have h1:=fun (w':World) (hb:Below w.heap.size w w')=>Qcu cb rb s σ w' (h.below hb);have hbd:=Qcv (s:=s) (σ:=σ)
 unfold Qgf Qhf
 generalize Qay s σ=z at h1 hbd ⊢
 obtain⟨k0,σ1⟩:=z
 obtain⟨N,rfl⟩:∃k:Nat,k0=k:=⟨k0.toNat,by have:=hbd.1;simp only at this ⊢;omega⟩
 have hN:N≤10240:=by have:=hbd.2;simp only at this;omega
 have H:=QLh h1;have HSZ:=QLh hs;clear h1 h hbd
 simp only[Int.toNat_natCast]
 go_enter Tryz.func78,Tryz.ntmps78
 go_upto_region 2 with fail
 obtain⟨b0,hb0⟩:∃b0,w.heap.size=b0:=⟨_,rfl⟩
 obtain⟨V,hV⟩:∃V,(w.alloc (.cells #[.int .u64 0,.bool false,.int .u64 0,.slice none 0 0,.slice none 0 0] 44)).alloc (.cells #[.int .u64 0,.bool false,.int .u64 0,.slice none 0 0,.slice none 0 0] 44)=V:=⟨_,rfl⟩
 have HV:Hid (Below w.heap.size w V):=QLh (by rw[←hV];exact Qh (Qh (Below.refl _ _) _) _);have V0:Hid (V.heap[b0]?=some (.cells #[.int .u64 0,.bool false,.int .u64 0,.slice none 0 0,.slice none 0 0] 44 (0,0))):=QLh (by rw[←hV,←hb0];exact Qf (heap_alloc_new _ _) _);have V1:Hid (V.heap[b0+1]?=some (.cells #[.int .u64 0,.bool false,.int .u64 0,.slice none 0 0,.slice none 0 0] 44 (0,0))):=QLh (by rw[←hV];exact Qi _ (by simp[hb0]));have REC:Hid (RecAt rb (b0+1) 44 5 V Xd):=QLh (Qbo V1.out rfl (λ i hi=>by
  match i,hi with
  | 0,_=>exact⟨_,rfl,rfl⟩
  | 1,_=>exact⟨_,rfl,rfl⟩
  | 2,_=>exact⟨_,rfl,rfl⟩
  | 3,_=>exact⟨_,rfl,rfl,rfl⟩
  | 4,_=>exact⟨_,rfl,rfl,rfl⟩))
 have HB0:=QLh hb0;have hcb:cb<b0:=by omega
 have hrb:rb<b0:=by omega
 try rw[hV]
 try simp only[hb0]
 clear hV hb0
 go_wp2_with fail
 refine(H.out V HV.out).mono ?_
 rintro e w1 ⟨rfl,hc,hg⟩
 have HC1:=QLh hc;have HG1:Hid (Chg rb cb w w1):=QLh ((Chg.of_below HV.out).trans hg);have RES1:Hid (w1.heap[b0]?=some (.cells #[.int .u64 0,.bool false,.int .u64 0,.slice none 0 0,.slice none 0 0] 44 (0,0))):=QLh ((hg.block _ (lt_of_block V0.out) (by omega) (by omega)).trans V0.out);have REC1:Hid (RecAt rb (b0+1) 44 5 w1 Xd):=QLh (REC.out.cur hg (by omega) (by omega));clear hc hg H V0 V1 REC
 go_wp2
 go_loopg [5,6] N (λ gg lv i wr=>∃(m:Nat) (τ:Cst) (x:Rcd) (last:ByteArray),gg+m=N∧i=.int .u64 m∧lv=.string last∧Hid (Q0 s ⟨#[103,108,115]⟩ (Xs s) N ⟨#[]⟩ Xd σ1=Q0 s ⟨#[103,108,115]⟩ (Xs s) gg last x τ)∧Hid (CurIs wr cb rb s τ)∧Hid (Chg rb cb w wr)∧Hid (RecAt rb (b0+1) 44 5 wr x)∧Hid (Kd Xd x)∧Hid (wr.heap[b0]?=some (.cells #[.int .u64 0,.bool false,.int .u64 0,.slice none 0 0,.slice none 0 0] 44 (0,0))))
 case atStart=>exact⟨0,σ1,Xd,⟨#[]⟩,rfl,rfl,rfl,rfl,HC1.out,HG1.out,REC1.out,λ i=>rfl,RES1.out⟩
 case round=>
  clear HC1 HG1 RES1 REC1
  obtain⟨m,τ,x,last,hm,rfl,rfl,HD,HC,HG,REC,HK,RES⟩:=hrel
  by_cases hlt:m<N
  ·obtain⟨g',rfl⟩:∃g',gk=g'+1:=⟨gk - 1,by omega⟩
   have i1:(m:Int)<N:=by omega
   have HB:=QLh (Qb1 cb rb s τ _ HC.out)
   go_wp2_with fail
   refine HB.out.mono ?_
   rintro e w3 ⟨rfl,rfl⟩
   cases τ with
   | error f=>
    simp only[Qb0]
    have HE:Hid (Q0 s ⟨#[103,108,115]⟩ (Xs s) N ⟨#[]⟩ Xd σ1=(x,.error f)):=QLh (by rw[HD.out,Jd]);clear HB HD
    obtain⟨a1,c1,a2,c2,hth,hl1,hl2⟩:=Qda REC.out HK.out
    have k0:w3.cell? ⟨b0+1,0,none⟩=some (.int .u64 (x 0).n):=Qa hth 0;have k1:w3.cell? ⟨b0+1,1,none⟩=some (.bool (x 1).q):=Qa hth 1;have k2:w3.cell? ⟨b0+1,2,none⟩=some (.int .u64 (x 2).n):=Qa hth 2;have k3:w3.cell? ⟨b0+1,3,none⟩=some (.slice a1 (len (x 3).l) c1):=Qa hth 3;have k4:w3.cell? ⟨b0+1,4,none⟩=some (.slice a2 (len (x 4).l) c2):=Qa hth 4;have g0:∀o,w3.cell? ⟨b0,o,none⟩=_:=Qa RES.out;have g1:∀o,w3.frozen? ⟨b0,o,none⟩=false:=Qj RES.out;have g2:b0<w3.heap.size:=lt_of_block RES.out;clear hth;have HL1:=QLh hl1;have HL2:=QLh hl2;clear hl1 hl2
    go_wp2
    have hb:=(Qb (Qb (Qb (Qb (Qb RES.out (o:=0) (.int .u64 (x 0).n)) (o:=1) (.bool (x 1).q)) (o:=2) (.int .u64 (x 2).n)) (o:=3) (.slice a1 (len (x 3).l) c1)) (o:=4) (.slice a2 (len (x 4).l) c2));have d:∀o,_=_:=Qa hb
    refine bodyPost_ret (v:=.agg (Xn x a1 c1 a2 c2)) ?_ rfl ?_
    ·simp[results,Tryz.results78,go_sem,d]
    ·rw[HE.out]
     have hk2:∀b,b0+1<b→((((((w3.setCell ⟨b0,0,none⟩ (.int .u64 (x 0).n)).setCell ⟨b0,1,none⟩ (.bool (x 1).q)).setCell ⟨b0,2,none⟩ (.int .u64 (x 2).n)).setCell ⟨b0,3,none⟩ (.slice a1 (len (x 3).l) c1)).setCell ⟨b0,4,none⟩ (.slice a2 (len (x 4).l) c2))).heap[b]?=w3.heap[b]?:=λ b hb=>by repeat rw[Below.heap_setCell _ _ _ _ (by omega:b≠b0)]
     exact⟨_,_,_,_,rfl,HK.out,λ r t hr ht=>((HL1.out).keep2 (λ b _ h9 _=>hk2 b h9)).any (by have:=HB0.out;omega) (by have:=HB0.out;omega),λ r t hr ht=>((HL2.out).keep2 (λ b _ h9 _=>hk2 b h9)).any (by have:=HB0.out;omega) (by have:=HB0.out;omega),(CurIs.setOff (CurIs.setOff (CurIs.setOff (CurIs.setOff (CurIs.setOff HC.out hcb hrb _) hcb hrb _) hcb hrb _) hcb hrb _) hcb hrb _),(Chg.setNew (Chg.setNew (Chg.setNew (Chg.setNew (Chg.setNew HG.out (show w.heap.size≤b0 by have:=HB0.out;omega) _) (show w.heap.size≤b0 by have:=HB0.out;omega) _) (show w.heap.size≤b0 by have:=HB0.out;omega) _) (show w.heap.size≤b0 by have:=HB0.out;omega) _) (show w.heap.size≤b0 by have:=HB0.out;omega) _)⟩
   | ok a=>
    simp only[Qb0]
    have HKY:=QLh (Qf3 cb rb s ⟨#[103,108,115]⟩ last (.ok a) w3 HC.out (by decide));have HE:Hid (Q0 s ⟨#[103,108,115]⟩ (Xs s) N ⟨#[]⟩ Xd σ1=Q0 s ⟨#[103,108,115]⟩ (Xs s) g' (Qaz s ⟨#[103,108,115]⟩ last (.ok a)).1 (sw (Xs s) (Qaz s ⟨#[103,108,115]⟩ last (.ok a)).1 x (Qaz s ⟨#[103,108,115]⟩ last (.ok a)).2).1 (sw (Xs s) (Qaz s ⟨#[103,108,115]⟩ last (.ok a)).1 x (Qaz s ⟨#[103,108,115]⟩ last (.ok a)).2).2):=QLh HD.out;clear HB HD
    go_wp2_with fail
    refine HKY.out.mono ?_
    rintro e w4 ⟨rfl,hc,hg⟩
    have HC4:=QLh hc;have HG4:Hid (Chg rb cb w w4):=QLh (HG.out.trans hg);have REC4:=QLh (REC.out.cur hg (by omega) (by omega));have RES4:Hid (w4.heap[b0]?=some (.cells #[.int .u64 0,.bool false,.int .u64 0,.slice none 0 0,.slice none 0 0] 44 (0,0))):=QLh ((hg.block _ (lt_of_block RES.out) (by omega) (by omega)).trans RES.out);clear hc hg HKY HC HG REC RES
    obtain⟨key,hkey⟩:∃key,(Qaz s ⟨#[103,108,115]⟩ last (.ok a)).1=key:=⟨_,rfl⟩
    obtain⟨τ1,hτ1⟩:∃τ1,(Qaz s ⟨#[103,108,115]⟩ last (.ok a)).2=τ1:=⟨_,rfl⟩
    have HE:Hid (Q0 s ⟨#[103,108,115]⟩ (Xs s) N ⟨#[]⟩ Xd σ1=Q0 s ⟨#[103,108,115]⟩ (Xs s) g' key (sw (Xs s) key x τ1).1 (sw (Xs s) key x τ1).2):=QLh (by have:=HE.out;rw[hkey,hτ1]at this;exact this);have HC4:Hid (CurIs w4 cb rb s τ1):=QLh (by rw[←hτ1];exact HC4.out)
    rw[hkey]
    clear hkey hτ1
    cases hq0:(key.toList == [103])with
    | true=>
     have es:sw (Xs s) key x τ1=(Ql0 2 3 x (Qp7 s τ1).1,Xy (Qz5 (Qp7 s τ1).1) 5 (Qp7 s τ1).2):=by unfold Xs;simp only[sw,hq0,if_true,Bool.false_eq_true,if_false];rfl
     have HE2:Hid (Q0 s ⟨#[103,108,115]⟩ (Xs s) N ⟨#[]⟩ Xd σ1=Q0 s ⟨#[103,108,115]⟩ (Xs s) g' key (Ql0 2 3 x (Qp7 s τ1).1) (Xy (Qz5 (Qp7 s τ1).1) 5 (Qp7 s τ1).2)):=QLh (by rw[HE.out,es]);have HNM:=QLh (Qw5 cb rb s τ1 w4 HC4.out);have HIV:=QLh (Qls s τ1);clear es HE
     go_wp2_with fail
     refine HNM.out.mono ?_
     rintro e w5 ⟨a1,c1,a2,c2,rfl,hkd,h1,h2,hc,hg⟩
     generalize Qp7 s τ1=z at HE2 HIV h1 h2 hc hkd ⊢
     obtain⟨y,τ2⟩:=z
     have KY:Kd Qhh y:=hkd;have H1:=QLh (h1 rb (b0+1) (Nat.lt_trans (Nat.lt_trans hrb (Nat.lt_succ_self b0)) (Xp REC4.out)) (Xp REC4.out));have H2:=QLh (h2 rb (b0+1) (Nat.lt_trans (Nat.lt_trans hrb (Nat.lt_succ_self b0)) (Xp REC4.out)) (Xp REC4.out));have HC5:=QLh hc;have HG5:=QLh (HG4.out.trans hg);have hrec:=REC4.out.cur hg (by omega) (by omega);have REC5:=QLh hrec;have RES5:Hid (w5.heap[b0]?=some (.cells #[.int .u64 0,.bool false,.int .u64 0,.slice none 0 0,.slice none 0 0] 44 (0,0))):=QLh ((hg.block _ (lt_of_block RES4.out) (by omega) (by omega)).trans RES4.out)
     obtain⟨_,hu2,-⟩:=hrec.get (by decide:2<5)
     obtain⟨_,hu3,-⟩:=hrec.get (by decide:3<5)
     obtain⟨_,hu4,-⟩:=hrec.get (by decide:4<5)
     have hfz:=hrec.free;clear hc hg hrec h1 h2 hkd HNM
     dsimp only at HE2 HIV HC5 H1 H2 ⊢
     go_upto_region 11 with fail
     obtain⟨U,hU⟩:∃U,((w5.setCell ⟨b0+1,2,none⟩ (.int .u64 (y 0).n)).setCell ⟨b0+1,3,none⟩ (.slice a1 (len (y 1).l) c1)).setCell ⟨b0+1,4,none⟩ (.slice a2 (len (y 2).l) c2)=U:=⟨_,rfl⟩
     have hl:w.heap.size≤b0+1:=by have:=HB0.out;omega
     have HC6:Hid (CurIs U cb rb s τ2):=QLh (by rw[←hU];exact((HC5.out.setOff (by omega) (by omega) _).setOff (by omega) (by omega) _).setOff (by omega) (by omega) _);have HG6:Hid (Chg rb cb w U):=QLh (by rw[←hU];exact((HG5.out.setNew hl _).setNew hl _).setNew hl _);have hy0:Hid (y 0=.num (y 0).n):=QLh (by obtain⟨n,e0⟩:=KY.num (o:=0) rfl;rw[e0];rfl);have k1:Chg rb (b0+1) w5 (w5.setCell ⟨b0+1,2,none⟩ (.int .u64 (y 0).n)):=(Chg.refl rb (b0+1) w5).set 2 _;have k2:Chg rb (b0+1) w5 ((w5.setCell ⟨b0+1,2,none⟩ (.int .u64 (y 0).n)).setCell ⟨b0+1,3,none⟩ (.slice a1 (len (y 1).l) c1)):=k1.set 3 _;have k3:Chg rb (b0+1) w5 U:=by rw[←hU];exact k2.set 4 _
     have REC6:Hid (RecAt rb (b0+1) 44 5 U (upd (upd (upd x 2 (y 0)) 3 (y 1)) 4 (y 2))):=QLh (by rw[←hU];exact((REC5.out.set (by decide:2<5) (by rw[hy0.out];rfl)).set (by decide:3<5) (H1.out.chg k1)).set (by decide:4<5) (H2.out.chg k2));have RES6:Hid (U.heap[b0]?=some (.cells #[.int .u64 0,.bool false,.int .u64 0,.slice none 0 0,.slice none 0 0] 44 (0,0))):=QLh (by rw[←hU];exact Qg (Qg (Qg RES5.out (by omega:b0≠b0+1) _) (by omega:b0≠b0+1) _) (by omega:b0≠b0+1) _);have HS1:Hid (StrsC (CW U) a1 (y 1).l):=QLh (Qal (KY 1) (H1.out.chg k3));have HS2:Hid (StrsC (CW U) a2 (y 2).l):=QLh (Qal (KY 2) (H2.out.chg k3))
     obtain⟨p3,q3,p4,q4,hth,-⟩:=Qda REC5.out HK.out
     have hbU:U.heap[b0+1]?=some (.cells #[.int .u64 (x 0).n,.bool (x 1).q,.int .u64 (y 0).n,.slice a1 (len (y 1).l) c1,.slice a2 (len (y 2).l) c2] 44 (0,0)):=by rw[←hU];exact Qb (Qb (Qb hth _) _) _
     have HHB:=QLh hbU;clear hth hbU k1 k2 k3
     rw[hU]
     clear hU;have cU:∀o,U.cell? ⟨b0+1,o,none⟩=_:=Qa HHB.out
     go_wp2_with fail
     refine(Qi5 U.heap.size (y 0).n a1 a2 c1 c2 (y 1).l (y 2).l U (bd_n (HIV.out.1 0)) HS1.out.at HS2.out.at (Qh4 (HIV.out.1 1) HSZ.out) (Qh4 (HIV.out.1 2) HSZ.out)).mono ?_
     rintro e w6 ⟨rfl,hb⟩
     obtain⟨S,hS⟩:∃S,Zw (Qav (y 0).n (y 1).l (y 2).l)=S:=⟨_,rfl⟩
     rw[hS]
     have HE3:Hid (Q0 s ⟨#[103,108,115]⟩ (Xs s) N ⟨#[]⟩ Xd σ1=Q0 s ⟨#[103,108,115]⟩ (Xs s) g' key (upd (upd (upd x 2 (y 0)) 3 (y 1)) 4 (y 2)) (Xy (S.toList == [128]) 5 τ2)):=QLh (by have:=HE2.out;rw[putW3]at this;unfold Qz5 at this;rw[hS]at this;exact this);have HC6:=QLh (HC6.out.below hb);have HG6:=QLh (HG6.out.trans (Chg.of_below hb));have REC6:=QLh (REC6.out.cur (Chg.of_below (rb:=rb) (tb:=cb) hb) (by omega) (by omega));have RES6:=QLh ((hb.block _ (lt_of_block RES6.out)).trans RES6.out);have HK6:Hid (Kd Xd (upd (upd (upd x 2 (y 0)) 3 (y 1)) 4 (y 2))):=QLh (((HK.out.upd (KY 0)).upd (KY 1)).upd (KY 2));clear hS hb cU HE2 HS1 HS2 H1 H2 HHB HIV hy0;have HF:=QLh (Jf cb rb s τ2 (S.toList == [128]) 5 w6 HC6.out (by decide))
     go_wp2_with fail
     refine HF.out.mono ?_
     rintro e w7 ⟨rfl,hc,hg⟩
     have HC7:=QLh hc;have HG7:=QLh (HG6.out.trans hg);have REC7:=QLh (REC6.out.cur hg (by omega) (by omega));have RES7:Hid (w7.heap[b0]?=some (.cells #[.int .u64 0,.bool false,.int .u64 0,.slice none 0 0,.slice none 0 0] 44 (0,0))):=QLh ((hg.block _ (lt_of_block RES6.out) (by omega) (by omega)).trans RES6.out);clear hc hg HF
     go_wp2
     go_roundg g'
     case rel=>exact⟨m+1,_,_,key,by omega,by go_num,rfl,HE3.out,HC7.out,HG7.out,REC7.out,HK6.out,RES7.out⟩
     case measure=>omega
    | false=>
     cases hq1:(key.toList == [108])with
     | true=>
      have es:sw (Xs s) key x τ1=(upd x 0 (.num (Qcd s τ1).1),(Qcd s τ1).2):=by unfold Xs;simp only[sw,hq0,hq1,if_true,Bool.false_eq_true,if_false];rfl
      have HE2:Hid (Q0 s ⟨#[103,108,115]⟩ (Xs s) N ⟨#[]⟩ Xd σ1=Q0 s ⟨#[103,108,115]⟩ (Xs s) g' key (upd x 0 (.num (Qcd s τ1).1)) (Qcd s τ1).2):=QLh (by rw[HE.out,es]);have HNM:=QLh (Qb9 cb rb s τ1 w4 HC4.out);clear es HE
      go_wp2_with fail
      refine HNM.out.mono ?_
      rintro e w5 ⟨rfl,hc,hg⟩
      have HC5:=QLh hc;have HG5:=QLh (HG4.out.trans hg);have hrec:=REC4.out.cur hg (by omega) (by omega);have REC5:=QLh hrec;have RES5:Hid (w5.heap[b0]?=some (.cells #[.int .u64 0,.bool false,.int .u64 0,.slice none 0 0,.slice none 0 0] 44 (0,0))):=QLh ((hg.block _ (lt_of_block RES4.out) (by omega) (by omega)).trans RES4.out)
      obtain⟨u,hu,-⟩:=hrec.get (by decide:0<5)
      have hfz:=hrec.free 0;clear hc hg hrec
      go_wp2
      go_roundg g'
      case rel=>exact⟨m+1,_,_,key,by omega,by go_num,rfl,HE2.out,HC5.out.setOff (by omega) (by omega) _,HG5.out.setNew (show w.heap.size≤b0+1 by have:=HB0.out;omega) _,REC5.out.set (by decide:0<5) rfl,HK.out.upd rfl,QLh (Qg RES5.out (by omega:b0≠b0+1) _)⟩
      case measure=>omega
     | false=>
      cases hq2:(key.toList == [115])with
      | true=>
       have es:sw (Xs s) key x τ1=(upd x 1 (.flag true),Xy ((tkS 0 s τ1).1.1 != 1) 5 (tkS 0 s τ1).2):=by unfold Xs;simp only[sw,hq0,hq1,hq2,if_true,Bool.false_eq_true,if_false];rfl
       have HE2:Hid (Q0 s ⟨#[103,108,115]⟩ (Xs s) N ⟨#[]⟩ Xd σ1=Q0 s ⟨#[103,108,115]⟩ (Xs s) g' key (upd x 1 (.flag true)) (Xy ((tkS 0 s τ1).1.1 != 1) 5 (tkS 0 s τ1).2)):=QLh (by rw[HE.out,es]);have HNM:=QLh (Qb2 cb rb s τ1 0 w4 HC4.out (by decide));clear es HE
       go_wp2_with fail
       refine HNM.out.mono ?_
       rintro e w5 ⟨rfl,hc,hg⟩
       have HC5:=QLh hc;have HG5:=QLh (HG4.out.trans hg);have REC5:=QLh (REC4.out.cur hg (by omega) (by omega));have RES5:Hid (w5.heap[b0]?=some (.cells #[.int .u64 0,.bool false,.int .u64 0,.slice none 0 0,.slice none 0 0] 44 (0,0))):=QLh ((hg.block _ (lt_of_block RES4.out) (by omega) (by omega)).trans RES4.out);clear hc hg HNM
       generalize tkS 0 s τ1=z at HE2 HC5 ⊢
       obtain⟨⟨n,t⟩,τ2⟩:=z
       have HF:=QLh (Jf cb rb s τ2 (n != 1) 5 w5 HC5.out (by decide))
       go_wp2_with fail
       refine HF.out.mono ?_
       rintro e w6 ⟨rfl,hc,hg⟩
       have HC6:=QLh hc;have HG6:=QLh (HG5.out.trans hg);have hrec:=REC5.out.cur hg (by omega) (by omega);have REC6:=QLh hrec;have RES6:Hid (w6.heap[b0]?=some (.cells #[.int .u64 0,.bool false,.int .u64 0,.slice none 0 0,.slice none 0 0] 44 (0,0))):=QLh ((hg.block _ (lt_of_block RES5.out) (by omega) (by omega)).trans RES5.out)
       obtain⟨u,hu,-⟩:=hrec.get (by decide:1<5)
       have hfz:=hrec.free 1;clear hc hg hrec HF
       go_wp2
       go_roundg g'
       case rel=>exact⟨m+1,_,_,key,by omega,by go_num,rfl,HE2.out,HC6.out.setOff (by omega) (by omega) _,HG6.out.setNew (show w.heap.size≤b0+1 by have:=HB0.out;omega) _,REC6.out.set (by decide:1<5) rfl,HK.out.upd rfl,QLh (Qg RES6.out (by omega:b0≠b0+1) _)⟩
       case measure=>omega
      | false=>
       have es:sw (Xs s) key x τ1=(x,τ1):=by unfold Xs;simp only[sw,hq0,hq1,hq2,Bool.false_eq_true,if_false]
       have HE2:Hid (Q0 s ⟨#[103,108,115]⟩ (Xs s) N ⟨#[]⟩ Xd σ1=Q0 s ⟨#[103,108,115]⟩ (Xs s) g' key x τ1):=QLh (by rw[HE.out,es]);clear es HE
       go_wp2
       go_roundg g'
       case rel=>exact⟨m+1,_,_,key,by omega,by go_num,rfl,HE2.out,HC4.out,HG4.out,REC4.out,HK.out,RES4.out⟩
       case measure=>omega
  ·obtain rfl:m=N:=by omega
   have i1:¬((m:Nat):Int)<m:=by omega
   obtain rfl:gk=0:=by omega
   obtain⟨w3,hw3⟩:∃w3,w3=wr:=⟨_,rfl⟩
   subst hw3
   have HE:Hid (Q0 s ⟨#[103,108,115]⟩ (Xs s) m ⟨#[]⟩ Xd σ1=(x,τ)):=QLh HD.out;clear HD
   obtain⟨a1,c1,a2,c2,hth,hl1,hl2⟩:=Qda REC.out HK.out
   have k0:w3.cell? ⟨b0+1,0,none⟩=some (.int .u64 (x 0).n):=Qa hth 0;have k1:w3.cell? ⟨b0+1,1,none⟩=some (.bool (x 1).q):=Qa hth 1;have k2:w3.cell? ⟨b0+1,2,none⟩=some (.int .u64 (x 2).n):=Qa hth 2;have k3:w3.cell? ⟨b0+1,3,none⟩=some (.slice a1 (len (x 3).l) c1):=Qa hth 3;have k4:w3.cell? ⟨b0+1,4,none⟩=some (.slice a2 (len (x 4).l) c2):=Qa hth 4;have g0:∀o,w3.cell? ⟨b0,o,none⟩=_:=Qa RES.out;have g1:∀o,w3.frozen? ⟨b0,o,none⟩=false:=Qj RES.out;have g2:b0<w3.heap.size:=lt_of_block RES.out;clear hth;have HL1:=QLh hl1;have HL2:=QLh hl2;clear hl1 hl2
   go_wp2
   have hb:=(Qb (Qb (Qb (Qb (Qb RES.out (o:=0) (.int .u64 (x 0).n)) (o:=1) (.bool (x 1).q)) (o:=2) (.int .u64 (x 2).n)) (o:=3) (.slice a1 (len (x 3).l) c1)) (o:=4) (.slice a2 (len (x 4).l) c2));have d:∀o,_=_:=Qa hb
   refine bodyPost_ret (v:=.agg (Xn x a1 c1 a2 c2)) ?_ rfl ?_
   ·simp[results,Tryz.results78,go_sem,d]
   ·rw[HE.out]
    have hk2:∀b,b0+1<b→((((((w3.setCell ⟨b0,0,none⟩ (.int .u64 (x 0).n)).setCell ⟨b0,1,none⟩ (.bool (x 1).q)).setCell ⟨b0,2,none⟩ (.int .u64 (x 2).n)).setCell ⟨b0,3,none⟩ (.slice a1 (len (x 3).l) c1)).setCell ⟨b0,4,none⟩ (.slice a2 (len (x 4).l) c2))).heap[b]?=w3.heap[b]?:=λ b hb=>by repeat rw[Below.heap_setCell _ _ _ _ (by omega:b≠b0)]
    exact⟨_,_,_,_,rfl,HK.out,λ r t hr ht=>((HL1.out).keep2 (λ b _ h9 _=>hk2 b h9)).any (by have:=HB0.out;omega) (by have:=HB0.out;omega),λ r t hr ht=>((HL2.out).keep2 (λ b _ h9 _=>hk2 b h9)).any (by have:=HB0.out;omega) (by have:=HB0.out;omega),(CurIs.setOff (CurIs.setOff (CurIs.setOff (CurIs.setOff (CurIs.setOff HC.out hcb hrb _) hcb hrb _) hcb hrb _) hcb hrb _) hcb hrb _),(Chg.setNew (Chg.setNew (Chg.setNew (Chg.setNew (Chg.setNew HG.out (show w.heap.size≤b0 by have:=HB0.out;omega) _) (show w.heap.size≤b0 by have:=HB0.out;omega) _) (show w.heap.size≤b0 by have:=HB0.out;omega) _) (show w.heap.size≤b0 by have:=HB0.out;omega) _) (show w.heap.size≤b0 by have:=HB0.out;omega) _)⟩
def Qry(y:Rcd):Bool:=(Zw (Jz (y 0).n (y 1).q (y 2).n (y 3).l (y 4).l)).toList == [128]
def noZ(y:Rcd):Bool:=false
def Jo(s:ByteArray):List (UInt8 × Jk):=[(112,Qdv s 0),(113,Qfe (Qfc s) noZ 6 5),(115,Qfe (Qgf s) Qry 1 5)]
abbrev Qjh(x:Rcd):Bool:=(x 6).s.toList.isEmpty
def Qu2(s:ByteArray)(σ:Cst):Rcd × Cst:=((Qhf s ⟨#[112,113,115]⟩ (Jo s) Jq σ).1,Xy (Qjh (Qhf s ⟨#[112,113,115]⟩ (Jo s) Jq σ).1) 5 (Qhf s ⟨#[112,113,115]⟩ (Jo s) Jq σ).2)
theorem Qlu:X8 0:=⟨by decide,by decide⟩
theorem Qlv(s:ByteArray)(σ:Cst):RBd s (Qfc s σ).1∧Kd Xl (Qfc s σ).1:=by
 refine Qgg (P:=λ x=>RBd s x∧Kd Xl x) (λ p hp x σ hx=>?_) ⟨λ i=>?_,λ i=>rfl⟩ σ
 ·simp only[Z5,List.mem_cons,List.not_mem_nil,or_false]at hp
  rcases hp with rfl | rfl | rfl | rfl | rfl
  ·exact⟨hx.1.upd (Qgh (sort:=0) (by decide)).1,hx.2.upd rfl⟩
  ·exact⟨hx.1.upd (Qgh (sort:=0) (by decide)).1,hx.2.upd rfl⟩
  ·exact⟨hx.1.upd (Qgh (sort:=0) (by decide)).1,hx.2.upd rfl⟩
  ·exact⟨hx.1.upd (Qgh (sort:=1) (by decide)).2,hx.2.upd rfl⟩
  ·exact⟨hx.1.upd (Qgh (sort:=0) (by decide)).1,hx.2.upd rfl⟩
 ·match i with
  | 0=>exact Nat.zero_le _
  | i+1=>exact Qlu
theorem Qu3(s:ByteArray)(σ:Cst):RBd s (Qu2 s σ).1∧Kd Jq (Qu2 s σ).1:=by
 refine Qgg (P:=λ x=>RBd s x∧Kd Jq x) (λ p hp x σ hx=>?_) ⟨λ i=>?_,λ i=>rfl⟩ σ
 ·simp only[Jo,List.mem_cons,List.not_mem_nil,or_false]at hp
  rcases hp with rfl | rfl | rfl
  ·exact⟨hx.1.upd (Qgh (sort:=0) (by decide)).1,hx.2.upd rfl⟩
  ·exact⟨hx.1.putW (Qlv s σ).1 6 5,hx.2.putW (Qlv s σ).2 (λ i hi=>by match i,hi with | 0,_ | 1,_ | 2,_ | 3,_ | 4,_=>rfl)⟩
  ·exact⟨hx.1.putW (Qh2 s σ).1 1 5,hx.2.putW (Qh2 s σ).2 (λ i hi=>by match i,hi with | 0,_ | 1,_ | 2,_ | 3,_ | 4,_=>rfl)⟩
 ·match i with
  | 0 | 1 | 3=>exact Qlu
  | 2=>exact trivial
  | 4 | 5=>exact⟨Nat.zero_le _,λ t ht=>by cases ht⟩
  | 6=>exact Nat.zero_le _
  | i+7=>exact Qlu
theorem Qzs(s:ByteArray)(o:Nat):ShL o 5 (Qa4 s (o+2)) (Qa4 s (0+2)):=by
 unfold Qa4 Qa3
 refine .cons ?_ (.cons ?_ (.cons ?_ .nil))
 ·have:=Qjf (o:=o) (k:=5) s ⟨#[105]⟩ (i:=2) (by decide);rw[Nat.add_comm 2 o]at this;exact this
 ·have:=Qlr (o:=o) (k:=5) s ⟨#[112]⟩ (i:=4) 16 .strs (Qfp s) (by decide);rw[show 4+o=o+2+2 by omega]at this;exact this
 ·have:=Qlr (o:=o) (k:=5) s ⟨#[118]⟩ (i:=3) 67 .strs (Qfp s) (by decide);rw[show 3+o=o+2+1 by omega]at this;exact this
theorem Qzt(s:ByteArray)(o:Nat):ShL o 5 (Z3 s o) (Z3 s 0):=by
 unfold Z3
 refine .cons (Q1i _ (Qzs s o)) (.cons ?_ (.cons ?_ .nil))
 ·have:=Qjf (o:=o) (k:=5) s ⟨#[108]⟩ (i:=0) (by decide);rw[Nat.zero_add]at this;exact this
 ·have:=Qzn (o:=o) (k:=5) s ⟨#[115]⟩ (i:=1) (by decide);rw[Nat.add_comm 1 o]at this;exact this
theorem Qg5{x0:Rcd}{s all:ByteArray}{specs:List (UInt8 × Jk)}{gs:List GSpec}{miss:Rcd→Bool}(h:SpecsOk x0 all specs gs)(hG:GOk x0 gs)(hm:∀n a y,Qy s gs n 0 x0 [] a=.ok y→Xw gs y.2.1=miss y.1):SameR s gs x0 (Qhg s all specs miss x0):=by
 refine⟨λ a=>?_,Quc s all specs miss x0⟩
 have:=Qkk (s:=s) (miss:=miss) h hG hm a
 refine⟨λ e he=>?_,λ y hy=>?_⟩
 ·rw[he]at this;exact this
 ·rw[hy]at this;exact this
theorem Qrz(s:ByteArray):SameR s (Zo s 0) Xl (Qfc s):=
 Qg5 (miss:=Qf6) (Qrk s) (Qiw (x0:=Xl) s 0 ⟨rfl,rfl,rfl,rfl,rfl⟩) (Qud s)
theorem eq128(t:ByteArray):(t.toList == [128])=true ↔ t=⟨#[128]⟩:=by
 rw[beq_iff_eq]
 constructor
 ·intro e;exact Qe3 (by rw[e,ByteArray.toList_eq];rfl)
 ·intro e;rw[e,ByteArray.toList_eq]
theorem Qw6{s:ByteArray}{y:Rcd}(h:RBd s y)(hk:Kd Xd y):Qry y=(Z3 s 0).all λ g=>g.empty y:=by
 obtain⟨n0,e0⟩:=hk.num (o:=0) rfl
 obtain⟨q,e1⟩:=hk.flag (o:=1) rfl
 obtain⟨n2,e2⟩:=hk.num (o:=2) rfl
 obtain⟨l1,e3⟩:=hk.strs (o:=3) rfl
 obtain⟨l2,e4⟩:=hk.strs (o:=4) rfl
 have b1:len l1<65536:=by have:=h 3;rw[e3]at this;have:=this.1;rw[Zm];omega
 have b2:len l2<65536:=by have:=h 4;rw[e4]at this;have:=this.1;rw[Zm];omega
 unfold Qry
 rw[e0,e1,e2,e3,e4]
 show((Zw (Jz n0 q n2 l1 l2)).toList == [128])=_
 have ha:((Z3 s 0).all λ g=>g.empty y)=((Q3 n0 q n2 l1 l2).all λ f=>f.empty):=by
  show((Qae (y 2) && (Qae (y 4) && (Qae (y 3) && true))) && (Qae (y 0) && (Qae (y 1) && true)))=_
  rw[e0,e1,e2,e3,e4]
  rfl
 rw[ha]
 have hk1:∀p ∈ Qav n2 l1 l2,p.1.size<65536:=λ p hp=>by
  simp only[Qav,List.mem_cons,List.not_mem_nil,or_false]at hp
  rcases hp with rfl | rfl | rfl <;> (show(1:Nat)<65536;decide)
 have hk2:∀p ∈ Jz n0 q n2 l1 l2,p.1.size<65536:=λ p hp=>by
  simp only[Jz,List.mem_cons,List.not_mem_nil,or_false]at hp
  rcases hp with rfl | rfl | rfl <;> (show(1:Nat)<65536;decide)
 have h2:=Qg1 (Jz n0 q n2 l1 l2) (by simp[Jz]) hk2;have h3:=Qi8 (Q3 n0 q n2 l1 l2);have h4:=Qlk (l:=Q3 n0 q n2 l1 l2) (r:=Jz n0 q n2 l1 l2) ⟨⟨rfl,Qtv (Qll n2 l1 l2 b1 b2) (by simp[Qav]) hk1⟩,⟨rfl,Qf2 ⟨#[]⟩ n0⟩,⟨rfl,Qx0 q⟩,trivial⟩
 rw[Bool.eq_iff_iff,eq128,h2,←h4,h3]
theorem Qu4(s:ByteArray):SpecsOk Jq ⟨#[112,113,115]⟩ (Jo s) (Qcj s):=by
 refine Qcw [112,113,115] rfl rfl rfl (by decide) λ i hi=>?_
 match i,hi with
 | 0,_=>exact Qca _ _ _
 | 1,_=>
  refine Qlt (key:=⟨#[113]⟩) (Qzp s 6) (Qrz s) (Qiw (x0:=Jq) s 6 ⟨rfl,rfl,rfl,rfl,rfl⟩).frames (λ i=>?_) (λ i hi=>by match i,hi with | 0,_ | 1,_ | 2,_ | 3,_ | 4,_=>rfl) (λ a y hy=>?_)
  ·show i ∈ [8,10,9,6,7] ↔ _
   simp only[List.mem_cons,List.not_mem_nil,or_false]
   omega
  ·show false=(Qae (y.1 2) && (Qae (y.1 4) && (Qae (y.1 3) && (false && (Qae (y.1 1) && true)))))
   simp
 | 2,_=>
  refine Qlt (key:=⟨#[115]⟩) (Qzt s 1) (Qkn s) (Qm3 (x0:=Jq) s 1 ⟨rfl,rfl,⟨rfl,rfl,rfl⟩⟩).frames (λ i=>?_) (λ i hi=>by match i,hi with | 0,_ | 1,_ | 2,_ | 3,_ | 4,_=>rfl) (λ a y hy=>?_)
  ·show i ∈ [3,5,4,1,2] ↔ _
   simp only[List.mem_cons,List.not_mem_nil,or_false]
   omega
  ·have h:=Qh2 s (.ok a)
   rw[((Qkn s).good a).2 y hy]at h
   exact Qw6 h.1 h.2
 | i+3,hi=>exact absurd hi (by simp[Qcj];try omega)
theorem Qoy{s:ByteArray}{gs:List GSpec}{P:Rcd→Prop}(hd:Qyq gs)(hf:∀g ∈ gs,g.Frames){i o:Nat}(hi:i<gs.length)(ho:o ∈ (gth gs i).offs)(hP:∀x x',x o=x' o→P x→P x')(hr:∀x a y,(gth gs i).read x a=.ok y→P y.1):∀(n fr:Nat) (x:Rcd) (seen:List Nat) (a:Nat) (y:Rcd × List Nat × Nat),Qy s gs n fr x seen a=.ok y→(i ∈ seen→P x)→i ∈ y.2.1→P y.1
 | 0,fr,x,seen,a,y,h,hm=>by simp only[Qy]at h;cases h;exact hm
 | n+1,fr,x,seen,a,y,h,hm=>by
  simp only[Qy]at h
  split at h
  ·cases h
  ·split at h
   ·cases h
   ·next j hj=>
    have hl:=Qdn hj
    split at h
    ·cases h
    ·next z hz=>
     split at h
     ·cases h
     ·refine Qoy hd hf hi ho hP hr n _ _ _ _ y h λ hin=>?_
      by_cases e:fr+j=i
      ·rw[e]at hz;exact hr _ _ _ hz
      ·have ho2:o ∉ (gth gs (fr+j)).offs:=λ h2=>hd i (fr+j) hi hl (λ e2=>e e2.symm) o ho h2
       have hx:=hf (gth gs (fr+j)) (by rw[Qax gs _ hl];exact List.getElem_mem _) x _ z hz o ho2
       exact hP x z.1 hx.symm (hm ((List.mem_cons.1 hin).resolve_left (λ e2=>e e2.symm)))
theorem Qqb{s:ByteArray}{gs:List GSpec}(hd:Qyq gs)(hf:∀g ∈ gs,g.Frames){i o:Nat}(hi:i<gs.length)(ho:o ∈ (gth gs i).offs):∀(n fr:Nat) (x:Rcd) (seen:List Nat) (a:Nat) (y:Rcd × List Nat × Nat),Qy s gs n fr x seen a=.ok y→i ∉ y.2.1→y.1 o=x o
 | 0,fr,x,seen,a,y,h,hn=>by simp only[Qy]at h;cases h;rfl
 | n+1,fr,x,seen,a,y,h,hn=>by
  simp only[Qy]at h
  split at h
  ·cases h
  ·split at h
   ·cases h
   ·next j hj=>
    have hl:=Qdn hj
    split at h
    ·cases h
    ·next z hz=>
     split at h
     ·cases h
     ·have hmono:∀(n fr:Nat) (x:Rcd) (seen:List Nat) (a:Nat) (y:Rcd × List Nat × Nat),Qy s gs n fr x seen a=.ok y→∀k,k ∈ seen→k ∈ y.2.1:=seen_mono
      have e:fr+j≠i:=λ e=>hn (hmono _ _ _ _ _ y h i (by rw[e];exact List.mem_cons_self ..));have ho2:o ∉ (gth gs (fr+j)).offs:=λ h2=>hd i (fr+j) hi hl (λ e2=>e e2.symm) o ho h2
      rw[Qqb hd hf hi ho n _ _ _ _ y h hn]
      exact hf (gth gs (fr+j)) (by rw[Qax gs _ hl];exact List.getElem_mem _) x _ z hz o ho2
 where
 seen_mono {s:ByteArray} {gs:List GSpec}:∀(n fr:Nat) (x:Rcd) (seen:List Nat) (a:Nat) (y:Rcd × List Nat × Nat),Qy s gs n fr x seen a=.ok y→∀k,k ∈ seen→k ∈ y.2.1
  | 0,fr,x,seen,a,y,h,k,hk=>by simp only[Qy]at h;cases h;exact hk
  | n+1,fr,x,seen,a,y,h,k,hk=>by
   simp only[Qy]at h
   split at h
   ·cases h
   ·split at h
    ·cases h
    ·split at h
     ·cases h
     ·split at h
      ·cases h
      ·exact seen_mono n _ _ _ _ y h k (List.mem_cons_of_mem _ hk)
theorem Qu5{s:ByteArray}{o:Nat}{x0 x:Rcd}{a:Nat}{y:Rcd × Nat}(hG:GOk x0 (Zo s o))(h:Qbr s (Zo s o) x a=.ok y):(y.1 o).s.size=32:=by
 unfold Qbr at h
 split at h
 ·cases h
 ·split at h
  ·cases h
  ·next z hz=>
   split at h
   ·cases h
   ·next hm=>
    cases h
    refine Qoy (P:=λ x=>(x o).s.size=32) hG.disj hG.frames (i:=3) (o:=o) (by decide:3<5) (by simp[gth,Zo,Qb4]) (λ x x' e h=>by rw[←e];exact h) (λ x a y h=>Qnf (key:=⟨#[114]⟩) h) _ _ _ _ _ z hz (λ h=>by cases h) ?_
    have hm':Xw (Zo s o) z.2.1=false:=by simpa using hm
    unfold Xw at hm'
    rw[List.any_eq_false]at hm'
    have:=hm' 3 (by simp[Zo])
    simpa [gth,Zo,Qb4] using this
theorem Qw7(s:ByteArray)(n a:Nat)(y:Rcd × List Nat × Nat)(h:Qy s (Qcj s) n 0 Jq [] a=.ok y):Xw (Qcj s) y.2.1=Qjh y.1:=by
 have G:=Qc5 s;have ho:(6:Nat) ∈ (gth (Qcj s) 1).offs:=by show 6 ∈ [8,10,9,6,7];decide
 have h1:1 ∈ y.2.1→(y.1 6).s.size=32:=λ hin=>Qoy (P:=λ x=>(x 6).s.size=32) G.disj G.frames (i:=1) (o:=6) (by decide:1<3) ho (λ x x' e h=>by rw[←e];exact h) (λ x a y h=>Qu5 (x0:=Jq) (Qiw (x0:=Jq) s 6 ⟨rfl,rfl,rfl,rfl,rfl⟩) h) n 0 Jq [] a y h (λ h=>by cases h) hin;have h2:1 ∉ y.2.1→(y.1 6).s.size=0:=λ hout=>by rw[Qqb G.disj G.frames (i:=1) (o:=6) (by decide:1<3) ho n 0 Jq [] a y h hout];rfl
 unfold Xw
 show((List.range 3).any λ i=>(gth (Qcj s) i).must && !y.2.1.contains i)=_
 rw[show List.range 3=[0,1,2]from rfl]
 simp only[List.any_cons,List.any_nil,Bool.or_false]
 rw[show(gth (Qcj s) 0).must=false from rfl,show(gth (Qcj s) 1).must=true from rfl,show(gth (Qcj s) 2).must=false from rfl]
 simp only[Bool.false_and,Bool.true_and,Bool.false_or,Bool.or_false]
 show _=((y.1 6).s.toList.isEmpty)
 rw[Qng]
 by_cases hm:1 ∈ y.2.1
 ·simp[hm,h1 hm]
 ·simp[hm,h2 hm]
theorem Qu6(s:ByteArray):SameR s (Qcj s) Jq (Qu2 s):=Qg5 (miss:=Qjh) (Qu4 s) (Qc5 s) (Qw7 s)
end Go.Proofs.YtihiaopilnjonaaGreatDoor

/- Parts of the proof, one behind the other. -/
import Derived.Test.YtpobhbdomldecaaGreatDoorPprP4
import Derived.Deep.QuietTactic
import Derived.BigQuiet
import Derived.StillTailTactics
import Derived.Defers
import Derived.Recover
import Derived.Maps.AppendAt
import Derived.ArgAppend
import Derived.Laws.AppendOwnNone
import Derived.ProofKit
import Derived.OpenShut
import Derived.ShutString
import Derived.ChangeOld
import Derived.Deep.Slices
import Derived.Deep.Fields
import Derived.ChangeMaps5
import Derived.WideShapes
import Derived.LaidMore
import Derived.LaidHandle
import Derived.Stop.Joined
import Derived.ChangeVars
import Derived.JoinedOf
import Derived.RowKitTokens
import Derived.Test.YtpobhbdomldecaaGreatDoorCards
import Derived.Test.YtpobhbdomldecaaGreatDoorTie
import Derived.SevenTiedAt
namespace Go.Proofs.YtpobhbdomldecaaGreatDoor
open Go.RowKit
set_option linter.unusedSimpArgs false
set_option linter.unusedVariables false
theorem extB_setIn{w w1:World}{b:Nat}(h:ExtB (some b) w w1)(o:Nat)(v:Value):ExtB (some b) w (w1.setCell ⟨b,o,none⟩ v):=
 ⟨h.os,h.tape,h.output,by simpa using h.size,λ i hi hn=>by rw[Below.heap_setCell _ _ _ _ (λ e=>hn (by rw[e]))];exact h.block i hi hn⟩
def Up(rb:Nat)(w w':World):Prop:=∀b,rb<b→b<w.heap.size→w'.heap[b]?=w.heap[b]?
theorem arr5{cs:Array Value}(h:cs.size=5):∃u0 u1 u2 u3 u4:Value,cs=#[u0,u1,u2,u3,u4]:=by
 obtain⟨l⟩:=cs
 match l,h with
 | [a,b,c,d,e],_=>exact⟨a,b,c,d,e,rfl⟩
theorem assert_stop(f:Nat)(w:World):(Instr.typeAssert (.iface 211 (.agg #[.iface 290 (.pointer (some ⟨f,0,none⟩))])) 20 211 true).run Tryz.prog w=.ok (.tuple #[.agg #[.iface 290 (.pointer (some ⟨f,0,none⟩))],.bool true]) w:=by kernel_rfl
set_option maxRecDepth 100000 in
theorem read1_frame(p q x:Value):#[p,q]++((Array.replicate 18 undef).setIfInBounds 4 x).setIfInBounds 0 x=#[p,q,x,undef,undef,undef,x,undef,undef,undef,undef,undef,undef,undef,undef,undef,undef,undef,undef,undef]:=by
 simp[Array.replicate,List.replicate]
abbrev cellsPart(x:Rcd):Array Value:=#[.string (x 0).s,.int .u64 (x 1).n,.int .u64 (x 2).n,.int .u64 (x 3).n,.int .u64 (x 4).n]
abbrev zeroPart:Value:=.agg #[.string ⟨#[]⟩,.int .u64 0,.int .u64 0,.int .u64 0,.int .u64 0]
def LiesPart(rb tb:Nat)(w:World)(x:Rcd):Prop:=True
theorem LiesPart.below{rb tb:Nat}{w w':World}{x:Rcd}(h:LiesPart rb tb w x)(hb:Below w.heap.size w w'):LiesPart rb tb w' x:=trivial
theorem LiesPart.up{rb tb:Nat}{w w':World}{x:Rcd}(h:LiesPart rb tb w x)(hb:Up rb w w'):LiesPart rb tb w' x:=trivial
theorem part_of_rec{rb tb:Nat}{w:World}{x:Rcd}(h:RecAt rb tb 53 5 w x)(hk:Kd part0 x):∃(_:Unit),w.heap[tb]?=some (.cells (cellsPart x) 53 (0,0))∧LiesPart rb tb w x:=by
 obtain⟨cs,h1,h2,h3⟩:=h
 obtain⟨m0,e0⟩:=hk.str (show kindD (part0 0)=_ from rfl)
 obtain⟨u0,g0,d0⟩:=h3 0 (by decide)
 rw[e0]at d0
 simp only[HoldsD]at d0
 subst d0
 obtain⟨m1,e1⟩:=hk.num (show kindD (part0 1)=_ from rfl)
 obtain⟨u1,g1,d1⟩:=h3 1 (by decide)
 rw[e1]at d1
 simp only[HoldsD]at d1
 subst d1
 obtain⟨m2,e2⟩:=hk.num (show kindD (part0 2)=_ from rfl)
 obtain⟨u2,g2,d2⟩:=h3 2 (by decide)
 rw[e2]at d2
 simp only[HoldsD]at d2
 subst d2
 obtain⟨m3,e3⟩:=hk.num (show kindD (part0 3)=_ from rfl)
 obtain⟨u3,g3,d3⟩:=h3 3 (by decide)
 rw[e3]at d3
 simp only[HoldsD]at d3
 subst d3
 obtain⟨m4,e4⟩:=hk.num (show kindD (part0 4)=_ from rfl)
 obtain⟨u4,g4,d4⟩:=h3 4 (by decide)
 rw[e4]at d4
 simp only[HoldsD]at d4
 subst d4
 refine⟨(),?_,?_⟩
 ·rw[h1];congr 2;apply Array.ext_getElem?;intro i
  match i with
  | 0=>rw[g0];simp[e0,DV.n,DV.q,DV.s,DV.l,DV.ns,DV.rs]
  | 1=>rw[g1];simp[e1,DV.n,DV.q,DV.s,DV.l,DV.ns,DV.rs]
  | 2=>rw[g2];simp[e2,DV.n,DV.q,DV.s,DV.l,DV.ns,DV.rs]
  | 3=>rw[g3];simp[e3,DV.n,DV.q,DV.s,DV.l,DV.ns,DV.rs]
  | 4=>rw[g4];simp[e4,DV.n,DV.q,DV.s,DV.l,DV.ns,DV.rs]
  | i+5=>rw[Array.getElem?_eq_none (by omega),Array.getElem?_eq_none (by simp)]
 ·trivial
set_option maxRecDepth 100000 in
theorem read1Part_idle(p q:Value)(w:World):CallsD Tryz.prog 181 #[p,q] .returning w λ e u' w'=>e=.returned (.tuple #[])∧u'=.returning∧w'=w:=by
 refine callsD_of_wpS Tryz.func181 rfl λ c₀ cs hu=>?_
 apply wpS_seq
 apply wpS_region
 simp[wpOpsS,go_sem,recoverD,hu,Tryz.ntmps181,Exit.thenS]
 refine wpS_of_wp ?_
 obtain⟨Q,hQ⟩:∃Q:Exit→Act→World→Prop,(λ e a' w'=>bodyPostS Tryz.prog Tryz.f181 c₀ cs (λ e u' w'=>e=Ending.returned (.tuple #[])∧u'=.returning∧w'=w) e a' (c₀ :: cs) w')=Q:=⟨_,rfl⟩
 rw[hQ,read1_frame]
 have HQ:=Lib.hid hQ;clear hQ
 go_wp2
 rw[←HQ.out]
 simp[bodyPostS,results,Tryz.results181]
 cases c₀;simp_all
structure AfterPart(tb eb fb:Nat)(w w':World):Prop where
 os:w'.os=w.os
 tape:w'.tape=w.tape
 output:w'.output=w.output
 size:w.heap.size≤w'.heap.size
 block:∀i,i<w.heap.size→i≠tb→i≠eb→w'.heap[i]?=w.heap[i]?
 th:w'.heap[tb]?=some (.cells #[.string ⟨#[]⟩,.int .u64 0,.int .u64 0,.int .u64 0,.int .u64 0] 53 (0,0))
 er:w'.heap[eb]?=some (.cells #[.iface 290 (.pointer (some ⟨fb,0,none⟩))] 89 (0,0))
set_option maxRecDepth 100000 in
set_option maxHeartbeats 4000000 in
theorem read1Part_some(tb eb fb:Nat)(cs:Array Value)(w:World)(ht:w.heap[tb]?=some (.cells cs 53 (0,0)))(hcs:∃u0 u1 u2 u3 u4:Value,cs=#[u0,u1,u2,u3,u4] )(he:w.heap[eb]?=some (.cells #[.nilIface] 89 (0,0)))(hne:tb≠eb):
  CallsD Tryz.prog 181 #[.pointer (some ⟨tb,0,none⟩),.pointer (some ⟨eb,0,none⟩)] (.panicking (stopC fb)) w λ e u' w'=>
   e=.returned (.tuple #[])∧u'=.panicking [{ v:=.iface 211 (.agg #[.iface 290 (.pointer (some ⟨fb,0,none⟩))]),recovered:=true }]∧AfterPart tb eb fb w w':=by
 obtain⟨u0,u1,u2,u3,u4,rfl⟩:=hcs
 refine callsD_of_wpS Tryz.func181 rfl λ c₀ cs hu=>?_
 apply wpS_seq
 apply wpS_region
 simp[wpOpsS,go_sem,recoverD,hu,stopC,Tryz.ntmps181,Exit.thenS]
 refine wpS_of_wp ?_
 obtain⟨Q,hQ⟩:∃Q:Exit→Act→World→Prop,(λ e a' w'=>bodyPostS Tryz.prog Tryz.f181 c₀ cs (λ e u' w'=>e=Ending.returned (.tuple #[])∧u'=.panicking [{ v:=.iface 211 (.agg #[.iface 290 (.pointer (some ⟨fb,0,none⟩))]),recovered:=true }]∧AfterPart tb eb fb w w') e a' ({ c₀ with mode:=.panicking [{ v:=.iface 211 (.agg #[.iface 290 (.pointer (some ⟨fb,0,none⟩))]),recovered:=true }] } :: cs) w')=Q:=⟨_,rfl⟩
 rw[hQ,read1_frame]
 have HQ:=Lib.hid hQ;have HT:=Lib.hid ht;have HE:=Lib.hid he;clear hQ hu ht he;have ha:=assert_stop fb
 go_wp2_with fail
 obtain⟨V,hV⟩:∃V,(w.alloc (.cells #[.iface 290 (.pointer (some ⟨fb,0,none⟩))] 211)).alloc (.cells #[.string ⟨#[]⟩,.int .u64 0,.int .u64 0,.int .u64 0,.int .u64 0] 53)=V:=⟨_,rfl⟩
 obtain⟨sb,hsb⟩:∃sb,w.heap.size=sb:=⟨_,rfl⟩
 have HV:Hid (Below w.heap.size w V):=Lib.hid (by rw[←hV];exact balloc (balloc (Below.refl _ _) _) _);have hbs:V.heap[sb]?=some (.cells #[.iface 290 (.pointer (some ⟨fb,0,none⟩))] 211 (0,0)):=by rw[←hV,←hsb];exact block_alloc (heap_alloc_new _ _) _
 have hbn:V.heap[sb+1]?=some (.cells #[.string ⟨#[]⟩,.int .u64 0,.int .u64 0,.int .u64 0,.int .u64 0] 53 (0,0)):=by rw[←hV];exact alloc_new_at _ (by simp[hsb])
 have hbt:V.heap[tb]?=some (.cells #[u0,u1,u2,u3,u4] 53 (0,0)):=(HV.out.block _ (lt_of_block HT.out)).trans HT.out;have hbe:V.heap[eb]?=some (.cells #[.nilIface] 89 (0,0)):=(HV.out.block _ (lt_of_block HE.out)).trans HE.out;have k0:V.cell? ⟨sb,0,none⟩=some (.iface 290 (.pointer (some ⟨fb,0,none⟩))):=block_cell hbs 0;have m0:V.cell? ⟨sb+1,0,none⟩=some (.string ⟨#[]⟩):=block_cell hbn 0;have m1:V.cell? ⟨sb+1,1,none⟩=some (.int .u64 0):=block_cell hbn 1;have m2:V.cell? ⟨sb+1,2,none⟩=some (.int .u64 0):=block_cell hbn 2;have m3:V.cell? ⟨sb+1,3,none⟩=some (.int .u64 0):=block_cell hbn 3;have m4:V.cell? ⟨sb+1,4,none⟩=some (.int .u64 0):=block_cell hbn 4;have hts:tb<sb:=by have:=lt_of_block HT.out;omega
 have hnt:some (sb+1)≠some tb:=by simp;omega
 have hst:some sb≠some tb:=by simp;omega
 have HBT:=Lib.hid hbt;have HBE:=Lib.hid hbe
 try rw[hV]
 try simp only[hsb]
 clear hV hbs hbn hbt hbe ha
 refine wp_region_tail 4 3 ((some tb)) (phis [λ u _=>u=(.agg #[.string ⟨#[]⟩,.int .u64 0,.int .u64 0,.int .u64 0,.int .u64 0]),λ u _=>u=(.pointer (some ⟨sb,0,none⟩)),λ u _=>u=(.iface 290 (.pointer (some ⟨fb,0,none⟩))),λ _ w'=>w'.heap[tb]?=some (.cells #[.string ⟨#[]⟩,.int .u64 0,.int .u64 0,.int .u64 0,.int .u64 0] 53 (0,0))]) rfl (by kernel_rfl) (by kernel_rfl) (mono_of ⟨mono_eq,mono_eq,mono_eq,?m3,trivial⟩) (steps_of 4 ⟨?s0,?s1,?s2,?s3,trivial⟩) ?_
 case m3=>
  exact⟨λ u w1 w2 h hb=>ext_block h hb,λ hn=>absurd rfl hn⟩
 case s0=>
  refine qV (λ _=>rfl) rfl λ av wv hE hO hD=>?_
  simp[go_sem,qF av 5 (.pointer (some ⟨sb+1,0,none⟩)) (hO.2.2 5 rfl),extB_cell hE hst k0,extB_cell hE hnt m0,extB_cell hE hnt m1,extB_cell hE hnt m2,extB_cell hE hnt m3,extB_cell hE hnt m4]
 case s1=>
  refine qV (λ _=>rfl) rfl λ av wv hE hO hD=>?_
  simp[go_sem,qF av 3 (.pointer (some ⟨sb,0,none⟩)) (hO.2.2 3 rfl)]
 case s2=>
  refine qV (λ _=>rfl) rfl λ av wv hE hO hD=>?_
  simp[go_sem,qE (hD.1 rfl _ rfl),extB_cell hE hst k0,extB_cell hE hnt m0,extB_cell hE hnt m1,extB_cell hE hnt m2,extB_cell hE hnt m3,extB_cell hE hnt m4]
 case s3=>
  refine step_wp (λ av wv hE hS hO hD=>⟨rfl,?_⟩)
  have h0:av.eval (.tmp 0)=(.pointer (some ⟨tb,0,none⟩)):=hO.2.2 0 rfl;have f0:=qF av 0 (.pointer (some ⟨tb,0,none⟩)) (h0);have f17:=qE (hD.1 rfl _ rfl);have hq:wv.heap[tb]?=some (.cells #[u0,u1,u2,u3,u4] 53 (0,0)):=ext_block (w:=V.drew) (hS rfl) HBT.out;have q0:wv.cell? ⟨tb,0,none⟩=some u0:=block_cell hq 0;have q1:wv.cell? ⟨tb,1,none⟩=some u1:=block_cell hq 1;have q2:wv.cell? ⟨tb,2,none⟩=some u2:=block_cell hq 2;have q3:wv.cell? ⟨tb,3,none⟩=some u3:=block_cell hq 3;have q4:wv.cell? ⟨tb,4,none⟩=some u4:=block_cell hq 4;have hz:∀o,wv.frozen? ⟨tb,o,none⟩=false:=block_free hq
  unfold Oper.wp
  have l0:tb<wv.heap.size:=lt_of_block hq;have f0:=QEf av 0 (.pointer (some ⟨tb,0,none⟩)) (hO.2.2 0 rfl)
  simp[go_sem,f0,f17,hz,l0,q0,q1,q2,q3,q4]
  exact⟨es_sp (extB_setIn (extB_setIn (extB_setIn (extB_setIn (extB_setIn (ExtB_refl _ _) 0 _) 1 _) 2 _) 3 _) 4 _),undef,(block_setCell (block_setCell (block_setCell (block_setCell (block_setCell hq (o:=0) _) (o:=1) _) (o:=2) _) (o:=3) _) (o:=4) _)⟩
 intro a' w' hE hO hall
 have hA:=act_of_outer (ds:=[17,18,19]) rfl hO (by kernel_rfl)
 obtain⟨j0,j1,j2,j3,-⟩:=hall
 have z3:(λ _ w'=>w'.heap[tb]?=some (.cells #[.string ⟨#[]⟩,.int .u64 0,.int .u64 0,.int .u64 0,.int .u64 0] 53 (0,0))) undef w':=j3 _ rfl
 simp only[List.foldl_cons,List.foldl_nil,Act.put,List.setIfInBounds_toArray,List.set_cons_succ,List.set_cons_zero,qJ 17 (j0 _ rfl),qJ 18 (j1 _ rfl),qJ 19 (j2 _ rfl)]at hA
 clear hO j3 j0 j1 j2
 subst hA
 have HE:=Lib.hid (of_drewE hE);have HZ:=Lib.hid z3;have hbe:w'.heap[eb]?=some (.cells #[.nilIface] 89 (0,0)):=extB_block HE.out (by simp;exact λ e=>hne e.symm) HBE.out;have HBE:=Lib.hid hbe;have q0:w'.cell? ⟨eb,0,none⟩=some .nilIface:=block_cell hbe 0;have q1:w'.frozen? ⟨eb,0,none⟩=false:=block_free hbe 0;clear hE z3 hbe
 go_wp2
 rw[←HQ.out]
 have hs1:(w'.setCell ⟨eb,0,none⟩ (.iface 290 (.pointer (some ⟨fb,0,none⟩)))).heap.size=w'.heap.size:=by simp
 refine⟨rfl,_,rfl,.tuple #[],by simp[results,Tryz.results181],rfl,rfl,?_⟩
 exact⟨HE.out.os.trans HV.out.os,HE.out.tape.trans HV.out.tape,HE.out.output.trans HV.out.output,by rw[hs1];exact Nat.le_trans HV.out.size HE.out.size,λ i hi h1 h2=>by
  rw[Below.heap_setCell _ _ _ _ h2]
  exact(HE.out.block i (Nat.lt_of_lt_of_le hi HV.out.size) (by simpa using h1)).trans (HV.out.block i hi),block_setCell_ne HZ.out hne _,block_setCell HBE.out _⟩
def RdPart(s:ByteArray)(w:World)(e:Ending)(w':World):Prop:=
 Below w.heap.size w w'∧match objR s (partGs s 0) part0 0 with
  | .error f=>∃fb,e=.returned (.tuple #[zeroPart,.iface 290 (.pointer (some ⟨fb,0,none⟩))])∧FltB w' fb f.1 f.2
  | .ok y=>Kd part0 y.1∧y.2≤s.size∧(∃rb tb,w.heap.size≤rb∧LiesPart rb tb w' y.1)∧(if y.2<s.size then ∃fb,e=.returned (.tuple #[.agg (cellsPart y.1),.iface 290 (.pointer (some ⟨fb,0,none⟩))])∧FltB w' fb 5 y.2 else e=.returned (.tuple #[.agg (cellsPart y.1),.nilIface]))
set_option maxRecDepth 100000 in
set_option maxHeartbeats 8000000 in
theorem readPart_any(B:Nat)(s:ByteArray)(w:World)(hT:Tabs B w)(hET:ErrType w)(hB:B≤w.heap.size)(hg:3<B)(hs:s.size≤9223372036854775807):
  Calls Tryz.prog 125 #[.string s,.func (.func 89) #[] #[]] w (RdPart s w):=by
 have HT:=Lib.hid hT;have HET:=Lib.hid hET;have ef:=enters_of Tryz.func89 (by kernel_rfl) rfl;clear hT hET
 go_enter_defers Tryz.func125,Tryz.ntmps125
 go_wp2_with fail
 obtain⟨tb,htb⟩:∃tb,w.heap.size=tb:=⟨_,rfl⟩
 obtain⟨W,hW⟩:∃W,(w.alloc (.cells #[.string ⟨#[]⟩,.int .u64 0,.int .u64 0,.int .u64 0,.int .u64 0] 53)).alloc (.cells #[.nilIface] 89)=W:=⟨_,rfl⟩
 have WB:Hid (Below w.heap.size w W):=Lib.hid (by rw[←hW];exact balloc (balloc (Below.refl _ _) _) _);have W0:Hid (W.heap[tb]?=some (.cells #[.string ⟨#[]⟩,.int .u64 0,.int .u64 0,.int .u64 0,.int .u64 0] 53 (0,0))):=Lib.hid (by rw[←hW,←htb];exact block_alloc (heap_alloc_new _ _) _);have W1:Hid (W.heap[tb+1]?=some (.cells #[.nilIface] 89 (0,0))):=Lib.hid (by rw[←hW];exact alloc_new_at _ (by simp[htb]));have hWs:W.heap.size=tb+1+1:=by rw[←hW];simp[htb]
 have HTW:Hid (w.heap.size=tb):=Lib.hid htb
 try rw[hW]
 try simp only[htb]
 clear hW htb
 refine(New_any W s 10240).mono ?_
 rintro e w1 ⟨rfl,hw1⟩
 have hm:max (10240:Int) 0=10240:=by decide
 rw[hm]at hw1
 obtain⟨rb,hrb⟩:∃rb,W.heap.size=rb:=⟨_,rfl⟩
 have R1:Hid (RdB w1 rb s 0 10240):=Lib.hid (by rw[hw1,←hrb];exact heap_alloc_new _ _);have WB1:Hid (Below W.heap.size W w1):=Lib.hid (by rw[hw1];exact balloc (Below.refl _ _) _);have hs1:w1.heap.size=rb+1:=by rw[hw1,←hrb];simp
 try rw[hrb]
 clear hw1
 go_upto_region 3 with fail
 obtain⟨V,hV⟩:∃V,w1.alloc (.cells #[.pointer (some ⟨rb,0,none⟩)] 217)=V:=⟨_,rfl⟩
 have VB:Hid (Below w1.heap.size w1 V):=Lib.hid (by rw[←hV];exact balloc (Below.refl _ _) _);have VQ:Hid (V.heap[rb+1]?=some (.cells #[.pointer (some ⟨rb,0,none⟩)] 217 (0,0))):=Lib.hid (by rw[←hV];exact alloc_new_at _ hs1)
 try rw[hV]
 try simp only[hs1]
 have hrbt:rb=tb+1+1:=hrb.symm.trans hWs;have hTW:=HTW.out;have BV:Hid (Below w.heap.size w V):=Lib.hid (bnext (bnext WB.out WB1.out) VB.out);have WV:Hid (Below W.heap.size W V):=Lib.hid (bnext WB1.out VB.out);have VT:Hid (V.heap[tb]?=some (.cells #[.string ⟨#[]⟩,.int .u64 0,.int .u64 0,.int .u64 0,.int .u64 0] 53 (0,0))):=Lib.hid ((WV.out.block _ (lt_of_block W0.out)).trans W0.out);have VE:Hid (V.heap[tb+1]?=some (.cells #[.nilIface] 89 (0,0))):=Lib.hid ((WV.out.block _ (lt_of_block W1.out)).trans W1.out);have VR:Hid (RdB V rb s 0 10240):=Lib.hid (R1.out.below VB.out);have ENV:Hid (RdEnv B V (rb+1) rb s 0):=Lib.hid ⟨VQ.out,VR.out,HT.out.below BV.out,by omega,by omega,by omega,Nat.zero_le _,hs⟩;have E:TEnv B (rb+1) rb tb 5 53 V:=⟨⟨_,VR.out⟩,⟨_,VT.out⟩,by omega,by omega,by omega,by decide,by decide⟩;have REC:Hid (RecAt rb tb 53 5 V part0):=Lib.hid (rec_zero VT.out rfl (λ i hi=>by
  match i,hi with
  | 0,_=>exact⟨_,rfl,rfl⟩
  | 1,_=>exact⟨_,rfl,rfl⟩
  | 2,_=>exact⟨_,rfl,rfl⟩
  | 3,_=>exact⟨_,rfl,rfl⟩
  | 4,_=>exact⟨_,rfl,rfl⟩))
 have HOF:=Lib.hid (rofPart_any (x0:=part0) (s:=s) E 0 (by omega) ⟨rfl,rfl,rfl,rfl,rfl⟩);have HE:=Lib.hid E;have G:Hid (GOk part0 (partGs s 0)):=Lib.hid (PartOk s 0 ⟨rfl,rfl,rfl,rfl,rfl⟩);have HRBT:=Lib.hid hrbt;clear hV E hrb hs1 hWs hrbt hTW
 go_wp2_with fail
 refine HOF.out.mono ?_
 rintro e w2 ⟨u,rfl,⟨g,c,l,rfl,hc,hF,hS⟩,hb⟩
 have hl:(partGs s 0).length=l.length:=hS.1;have hg:=(HE.out.below hb).apart hF.ex;have H2:=Lib.hid (robject_any B (rb+1) rb tb g 0 c part0 53 5 s w2 w2 l (partGs s 0) 0 part0 hF.flds hc (show l.length≤1000 by rw[←hl];exact Nat.le_of_ble_eq_true rfl) hS (Chg.refl _ _ _) hg HE.out.nq HE.out.le HE.out.ne G.out.keys G.out.disj G.out.frames G.out.kinds (λ i=>rfl) (REC.out.below hb) (ENV.out.below hb) (λ i hi o ho=>rfl));have HB:=Lib.hid hb;clear hF hS hb hl hc hg HOF ef
 go_wp2_with fail
 refine H2.out.mono ?_
 intro e w3 hh
 cases hr:objR s (partGs s 0) part0 0 with
 | error f=>
  rw[hr]at hh
  have HTH:=Lib.hid (getIs_th hh)
  obtain⟨fb,rfl,hf,hc3⟩:=getIs_err hh
  have HF:=Lib.hid hf;have HC:=Lib.hid hc3;have HR:=Lib.hid hr;clear hh hf hc3 hr H2
  go_wp2
  obtain⟨cs,hcs,hcn⟩:=HTH.out
  have hce:w3.heap[tb+1]?=some (.cells #[.nilIface] 89 (0,0)):=(HC.out.block _ (Nat.lt_of_lt_of_le (lt_of_block VE.out) HB.out.size) (by have:=HRBT.out;omega) (by omega)).trans ((HB.out.block _ (lt_of_block VE.out)).trans VE.out)
  refine leaves_cons (f:=181) (args:=#[.pointer (some ⟨tb,0,none⟩),.pointer (some ⟨tb+1,0,none⟩)]) (by simp) (by simp[go_sem]) ?_
  refine(read1Part_some tb (tb+1) fb cs w3 hcs (arr5 hcn) hce (by omega)).mono ?_
  rintro e u' w4 ⟨rfl,rfl,HA⟩
  have y0:∀o,w4.cell? ⟨tb,o,none⟩=_:=block_cell HA.th;have y1:w4.cell? ⟨tb+1,0,none⟩=some (.iface 290 (.pointer (some ⟨fb,0,none⟩))):=block_cell HA.er 0
  refine⟨_,by simp[results,Tryz.results125,go_sem,y0,y1];rfl,?_⟩
  refine⟨?_,by
   rw[HR.out]
   refine⟨fb,rfl,(HA.block fb (lt_of_block HF.out) (λ e=>?_) (λ e=>?_)).trans HF.out⟩
   ·subst e;have h9:=hcs.symm.trans HF.out;cases h9
   ·subst e;have h9:=hce.symm.trans HF.out;cases h9⟩
  have hsz:=HTW.out;have hb9:=HRBT.out
  refine⟨HA.os.trans (HC.out.os.trans (HB.out.os.trans BV.out.os)),HA.tape.trans (HC.out.tape.trans (HB.out.tape.trans BV.out.tape)),HA.output.trans (HC.out.output.trans (HB.out.output.trans BV.out.output)),Nat.le_trans BV.out.size (Nat.le_trans HB.out.size (Nat.le_trans HC.out.size HA.size)),λ i hi=>?_⟩
  have l1:=Nat.lt_of_lt_of_le hi BV.out.size;have l2:=Nat.lt_of_lt_of_le l1 HB.out.size
  exact(HA.block i (Nat.lt_of_lt_of_le l2 HC.out.size) (by omega) (by omega)).trans ((HC.out.block i l2 (by omega) (by omega)).trans ((HB.out.block i l1).trans (BV.out.block i hi)))
 | ok q=>
  rw[hr]at hh
  obtain⟨rfl,hrd,hle,hx3,hc3⟩:=getIs_ok hh
  have HRD:=Lib.hid hrd;have HC:=Lib.hid hc3;have HR:=Lib.hid hr;have HKD:Hid (Kd part0 q.1):=Lib.hid (objR_kinds G.out.kinds hr (λ i=>rfl))
  obtain⟨_,hth,hlies⟩:=part_of_rec hx3 HKD.out
  have HTH:=Lib.hid hth;have HLI:=Lib.hid hlies;clear hh hrd hx3 hc3 hr H2 hth hlies
  obtain⟨x,a⟩:=q
  have hts:tb<w3.heap.size:=lt_of_block HTH.out;have HQ3:Hid (w3.heap[rb+1]?=some (.cells #[.pointer (some ⟨rb,0,none⟩)] 217 (0,0))):=Lib.hid ((HC.out.block _ (Nat.lt_of_lt_of_le (lt_of_block VQ.out) HB.out.size) (by omega) (by have:=HRBT.out;omega)).trans ((HB.out.block _ (lt_of_block VQ.out)).trans VQ.out));have HE3:Hid (w3.heap[tb+1]?=some (.cells #[.nilIface] 89 (0,0))):=Lib.hid ((HC.out.block _ (Nat.lt_of_lt_of_le (lt_of_block VE.out) HB.out.size) (by have:=HRBT.out;omega) (by omega)).trans ((HB.out.block _ (lt_of_block VE.out)).trans VE.out));have HET3:Hid (ErrType w3):=Lib.hid (by
   have h1:=HET.out.below BV.out;have h2:=h1.below HB.out
   unfold ErrType at h2 ⊢
   rw[World.cell?_of_block (w:=w2) (HC.out.block _ (lt_of_cell h2) (show 3≠rb by have:=HRBT.out;have:=HTW.out;omega) (show 3≠tb by have:=HTW.out;omega))]
   exact h2)
  go_upto_region 4 with fail
  obtain⟨VO,hVO⟩:∃VO:Nat→Option Nat,VO=λ j=>if j=6 then some tb else none:=⟨_,rfl⟩
  have vo6:VO 6=some tb:=by rw[hVO];rfl
  have von:∀j,j≠6→VO j=none:=λ j h1=>by rw[hVO];simp[h1]
  have vob:∀j b,b≠tb→VO j≠some b:=λ j b hb=>by
   by_cases h:j=6
   ·subst h;rw[vo6];simp;exact λ e=>hb e.symm
   ·rw[von j h];simp
  clear hVO
  refine wp_region_tailV 7 VO (λ i j b h1 h2=>by
    by_cases e1:i=6
    ·by_cases e2:j=6
     ·rw[e1,e2]
     ·rw[von j e2]at h2;cases h2
    ·rw[von i e1]at h1;cases h1) (λ _ _ _=>True) (λ _=>True) (λ _ _ _ _ _=>True) (λ _ _=>trivial) trivial
   (phis [λ u _=>u=.agg (cellsPart x),λ u _=>u=.pointer (some ⟨rb+1,0,none⟩),λ u _=>u=.pointer (some ⟨rb+1,0,none⟩),λ u _=>u=.pointer (some ⟨rb+1,0,none⟩),λ u _=>u=.pointer (some ⟨rb,0,none⟩),λ u w'=>if a<s.size then ∃fb,u=.iface 290 (.pointer (some ⟨fb,0,none⟩))∧FltB w' fb 5 a∧fb≠tb else u=.nilIface,λ _ w'=>w'.heap[tb]?=some (.cells (cellsPart x) 53 (0,0))]) rfl (by kernel_rfl) (by kernel_rfl)
   (monoV_of ⟨monoV_eq,monoV_eq,monoV_eq,monoV_eq,monoV_eq,?m5,?m6,trivial⟩) (λ _ _ _ _ _=>trivial) (λ _ _ _ _ _ _ _ _ _ _ _=>trivial) (stepsV_of 7 ⟨?s0,?s1,?s2,?s3,?s4,?s5,?s6,trivial⟩) ?_
  case m5=>
   intro j hj u w1 w2 he hp
   by_cases hlt:a<s.size
   ·simp only[hlt,if_true]at hp ⊢
    obtain⟨fb,h1,h2,h3⟩:=hp
    refine⟨fb,h1,(he.1.block fb (lt_of_block h2) ?_).trans h2,h3⟩
    exact λ e=>vob j fb h3 e.symm
   ·simp only[hlt,if_false]at hp ⊢;exact hp
  case m6=>
   intro j hj u w1 w2 he hp
   refine(he.1.block tb (lt_of_block hp) ?_).trans hp
   rw[von j hj];simp
  case s0=>
   refine stepV_val (v:=.agg (cellsPart x)) (λ _ _=>trivial) (λ _ _ _ _=>⟨trivial,trivial⟩) (λ D av wv hE hO hD=>?_) (λ _=>rfl)
   have h6:¬D 6:=hE.notyet 6 _ rfl { on:=0,ground:=.data } (by simp) rfl hE.me;have hb0:wv.heap[tb]?=some (.cells (cellsPart x) 53 (0,0)):=(hE.late 6 h6 tb vo6 hts).trans HTH.out;have k0:wv.cell? ⟨tb,0,none⟩=some (.string (x 0).s):=block_cell hb0 0;have k1:wv.cell? ⟨tb,1,none⟩=some (.int .u64 (x 1).n):=block_cell hb0 1;have k2:wv.cell? ⟨tb,2,none⟩=some (.int .u64 (x 2).n):=block_cell hb0 2;have k3:wv.cell? ⟨tb,3,none⟩=some (.int .u64 (x 3).n):=block_cell hb0 3;have k4:wv.cell? ⟨tb,4,none⟩=some (.int .u64 (x 4).n):=block_cell hb0 4;have f4:=QEf av 4 (.pointer (some ⟨tb,0,none⟩)) (hO.2.2 4 rfl)
   refine⟨rfl,?_⟩
   simp[go_sem,f4,k0,k1,k2,k3,k4]
  case s1=>
   refine stepV_val (v:=.pointer (some ⟨rb+1,0,none⟩)) (λ _ _=>trivial) (λ _ _ _ _=>⟨trivial,trivial⟩) (λ D av wv hE hO hD=>?_) (λ _=>rfl)
   have f6:=QEf av 6 (.pointer (some ⟨rb+1,0,none⟩)) (hO.2.2 6 rfl)
   refine⟨rfl,?_⟩
   simp[go_sem,f6]
  case s2=>
   refine stepV_val (v:=.pointer (some ⟨rb+1,0,none⟩)) (λ _ _=>trivial) (λ _ _ _ _=>⟨trivial,trivial⟩) (λ D av wv hE hO hD=>?_) (λ _=>rfl)
   have f17:=QEf av 17 (.pointer (some ⟨rb+1,0,none⟩)) (hD.1 rfl _ rfl)
   refine⟨rfl,?_⟩
   simp[go_sem,f17]
  case s3=>
   refine stepV_val (v:=.pointer (some ⟨rb+1,0,none⟩)) (λ _ _=>trivial) (λ _ _ _ _=>⟨trivial,trivial⟩) (λ D av wv hE hO hD=>?_) (λ _=>rfl)
   have f18:=QEf av 18 (.pointer (some ⟨rb+1,0,none⟩)) (hD.1 rfl _ rfl)
   refine⟨rfl,?_⟩
   simp[go_sem,f18]
  case s4=>
   refine stepV_val (v:=.pointer (some ⟨rb,0,none⟩)) (λ _ _=>trivial) (λ _ _ _ _=>⟨trivial,trivial⟩) (λ D av wv hE hO hD=>?_) (λ _=>rfl)
   have f19:=QEf av 19 (.pointer (some ⟨rb+1,0,none⟩)) (hD.1 rfl _ rfl);have k0:wv.cell? ⟨rb+1,0,none⟩=some (.pointer (some ⟨rb,0,none⟩)):=block_cell ((hE.ext.block (rb+1) (lt_of_block HQ3.out) (λ j=>vob j _ (by have:=HRBT.out;omega))).trans HQ3.out) 0
   refine⟨rfl,?_⟩
   simp[go_sem,f19,k0]
  case s5=>
   refine stepV_wp (λ D av wv hPP hE hO hD=>?_)
   have f20:=QEf av 20 (.pointer (some ⟨rb,0,none⟩)) (hD.1 rfl _ rfl);have hrd:RdB wv rb s a 10240:=(hE.ext.block rb (lt_of_block HRD.out) (λ j=>vob j _ (by have:=HRBT.out;omega))).trans HRD.out;have het:ErrType wv:=by
    have h2:ErrType w3.drew:=HET3.out
    unfold ErrType at h2 ⊢
    rw[World.cell?_of_block (w:=w3.drew) (hE.ext.block _ (lt_of_cell h2) (λ j=>vob j _ (show 3≠tb by have:=HTW.out;omega)))]
    exact h2
   have hvs:w3.heap.size≤wv.heap.size:=hE.ext.size
   refine⟨rfl,wp_of_callR (f:=184) (args:=#[.pointer (some ⟨rb,0,none⟩)]) (R:=λ u w2=>Below wv.heap.size wv w2∧(if a<s.size then ∃fb,u=.iface 290 (.pointer (some ⟨fb,0,none⟩))∧FltB w2 fb 5 a∧fb≠tb else u=.nilIface)) (by simp[go_sem,f20]) ((End_any wv rb s a 10240 het hrd hle hs).mono λ e w2 hh=>?_) (λ u w2 ⟨h1,h2⟩=>⟨u,rfl,esV_of_ext h1 trivial,h2,λ _ _ _ _ _=>⟨trivial,trivial⟩⟩)⟩
   obtain⟨h1,h2⟩:=hh
   unfold leftOf at h2
   by_cases hlt:a<s.size
   ·simp only[hlt,if_true]at h2 ⊢
    obtain⟨fb,h3,h4,h5⟩:=h2
    exact⟨_,h3,h1,fb,rfl,h5,by omega⟩
   ·simp only[hlt,if_false]at h2 ⊢
    exact⟨_,h2,h1,rfl⟩
  case s6=>
   refine stepV_wp (λ D av wv hPP hE hO hD=>?_)
   have f16:=QEf av 16 (.agg (cellsPart x)) (hD.1 rfl _ rfl);have f4:=QEf av 4 (.pointer (some ⟨tb,0,none⟩)) (hO.2.2 4 rfl);have hq:wv.heap[tb]?=some (.cells (cellsPart x) 53 (0,0)):=(hE.own tb vo6 hts).trans HTH.out;have k0:wv.cell? ⟨tb,0,none⟩=some (.string (x 0).s):=block_cell hq 0;have k1:wv.cell? ⟨tb,1,none⟩=some (.int .u64 (x 1).n):=block_cell hq 1;have k2:wv.cell? ⟨tb,2,none⟩=some (.int .u64 (x 2).n):=block_cell hq 2;have k3:wv.cell? ⟨tb,3,none⟩=some (.int .u64 (x 3).n):=block_cell hq 3;have k4:wv.cell? ⟨tb,4,none⟩=some (.int .u64 (x 4).n):=block_cell hq 4;have hz:∀o,wv.frozen? ⟨tb,o,none⟩=false:=block_free hq;have l0:tb<wv.heap.size:=lt_of_block hq
   refine⟨rfl,?_⟩
   unfold Oper.wp
   simp[go_sem,f4,f16,hz,l0,k0,k1,k2,k3,k4]
   exact⟨⟨by rw[vo6];exact(extB_setIn (extB_setIn (extB_setIn (extB_setIn (extB_setIn (ExtB_refl _ _) 0 _) 1 _) 2 _) 3 _) 4 _),trivial⟩,undef,(block_setCell (block_setCell (block_setCell (block_setCell (block_setCell hq (o:=0) _) (o:=1) _) (o:=2) _) (o:=3) _) (o:=4) _),λ _ _ _ _ _=>⟨trivial,trivial⟩⟩
  intro a' w' hE _ hO hall _
  have hA:=act_of_outer (ds:=[16,17,18,19,20,21]) rfl hO (by kernel_rfl);have e16:(λ u (_:World)=>u=.agg (cellsPart x)) (a'.eval (.tmp 16)) w':=hall.1 _ rfl;have e17:(λ u (_:World)=>u=.pointer (some ⟨rb+1,0,none⟩)) (a'.eval (.tmp 17)) w':=hall.2.1 _ rfl;have e18:(λ u (_:World)=>u=.pointer (some ⟨rb+1,0,none⟩)) (a'.eval (.tmp 18)) w':=hall.2.2.1 _ rfl;have e19:(λ u (_:World)=>u=.pointer (some ⟨rb+1,0,none⟩)) (a'.eval (.tmp 19)) w':=hall.2.2.2.1 _ rfl;have e20:(λ u (_:World)=>u=.pointer (some ⟨rb,0,none⟩)) (a'.eval (.tmp 20)) w':=hall.2.2.2.2.1 _ rfl;have e21:(λ u w'=>if a<s.size then ∃fb,u=.iface 290 (.pointer (some ⟨fb,0,none⟩))∧FltB w' fb 5 a∧fb≠tb else u=.nilIface) (a'.eval (.tmp 21)) w':=hall.2.2.2.2.2.1 _ rfl;have z6:w'.heap[tb]?=some (.cells (cellsPart x) 53 (0,0)):=hall.2.2.2.2.2.2.1 _ rfl
  obtain⟨v21,hv21⟩:∃v,a'.eval (.tmp 21)=v:=⟨_,rfl⟩
  rw[hv21]at e21
  simp only[List.foldl_cons,List.foldl_nil,Act.put,List.setIfInBounds_toArray,List.set_cons_succ,List.set_cons_zero,e16,e17,e18,e19,e20,hv21]at hA
  clear hO hall e16 e17 e18 e19 e20 hv21
  subst hA
  have HX4:Hid (ExtS VO w3 w'):=Lib.hid ⟨hE.os,hE.tape,hE.output,hE.size,hE.block⟩;have HZ6:=Lib.hid z6;have hbe:w'.heap[tb+1]?=some (.cells #[.nilIface] 89 (0,0)):=(HX4.out.block _ (lt_of_block HE3.out) (λ j=>vob j _ (by omega))).trans HE3.out;have HBE:=Lib.hid hbe;have g0:w'.cell? ⟨tb+1,0,none⟩=some .nilIface:=block_cell hbe 0;have g1:w'.frozen? ⟨tb+1,0,none⟩=false:=block_free hbe 0;have HVO:Hid (∀j b,b≠tb→VO j≠some b):=Lib.hid vob;have HFIN:∀v,Hid (Below w.heap.size w (w'.setCell ⟨tb+1,0,none⟩ v)):=λ v=>Lib.hid (by
   have hsz:=HTW.out;have hb9:=HRBT.out
   refine⟨HX4.out.os.trans (HC.out.os.trans (HB.out.os.trans BV.out.os)),HX4.out.tape.trans (HC.out.tape.trans (HB.out.tape.trans BV.out.tape)),HX4.out.output.trans (HC.out.output.trans (HB.out.output.trans BV.out.output)),by simpa using Nat.le_trans BV.out.size (Nat.le_trans HB.out.size (Nat.le_trans HC.out.size HX4.out.size)),λ i hi=>?_⟩
   have l1:=Nat.lt_of_lt_of_le hi BV.out.size;have l2:=Nat.lt_of_lt_of_le l1 HB.out.size
   rw[Below.heap_setCell _ _ _ _ (by omega:i≠tb+1)]
   exact(HX4.out.block i (Nat.lt_of_lt_of_le l2 HC.out.size) (λ j=>HVO.out j i (by omega))).trans ((HC.out.block i l2 (by omega) (by omega)).trans ((HB.out.block i l1).trans (BV.out.block i hi))))
  have HLF:∀v,Hid (LiesPart rb tb (w'.setCell ⟨tb+1,0,none⟩ v) x):=λ v=>Lib.hid (HLI.out.up (λ b h1 h2=>by
   have hb9:=HRBT.out
   rw[Below.heap_setCell _ _ _ _ (by omega:b≠tb+1)]
   exact HX4.out.block b h2 (λ j=>HVO.out j b (by omega))))
  have HTF:∀v o,(w'.setCell ⟨tb+1,0,none⟩ v).cell? ⟨tb,o,none⟩=(cellsPart x)[o]?:=λ v o=>block_cell (block_setCell_ne HZ6.out (by show tb≠tb+1;omega) v) o;have HEF:∀v,(w'.setCell ⟨tb+1,0,none⟩ v).cell? ⟨tb+1,0,none⟩=some v:=λ v=>block_cell (block_setCell HBE.out v) 0;have HTFH:=Lib.hid HTF;have HEFH:=Lib.hid HEF;clear hE z6 hbe vo6 von vob HTF HEF
  by_cases hlt:a<s.size
  ·simp only[hlt,if_true]at e21
   obtain⟨fb,rfl,hf,hft⟩:=e21
   have HF:=Lib.hid hf;have HLT:=Lib.hid hlt;clear hf hlt
   go_wp2
   refine leaves_cons (f:=181) (args:=#[.pointer (some ⟨tb,0,none⟩),.pointer (some ⟨tb+1,0,none⟩)]) (by simp) (by simp[go_sem]) ?_
   refine(read1Part_idle _ _ _).mono ?_
   rintro e u' w'' ⟨rfl,rfl,rfl⟩
   have y0:=HTFH.out (.iface 290 (.pointer (some ⟨fb,0,none⟩)));have y1:=HEFH.out (.iface 290 (.pointer (some ⟨fb,0,none⟩)))
   refine⟨_,by simp[results,Tryz.results125,go_sem,y0,y1];rfl,?_⟩
   refine⟨(HFIN _).out,?_⟩
   rw[HR.out]
   refine⟨HKD.out,hle,⟨rb,tb,by have:=HRBT.out;have:=HTW.out;omega,(HLF _).out⟩,?_⟩
   rw[if_pos HLT.out]
   exact⟨fb,rfl,block_setCell_ne HF.out (by intro e;subst e;have h9:=HBE.out.symm.trans HF.out;cases h9) _⟩
  ·simp only[hlt,if_false]at e21
   subst e21
   have HLT:=Lib.hid hlt;clear hlt
   go_wp2
   refine leaves_cons (f:=181) (args:=#[.pointer (some ⟨tb,0,none⟩),.pointer (some ⟨tb+1,0,none⟩)]) (by simp) (by simp[go_sem]) ?_
   refine(read1Part_idle _ _ _).mono ?_
   rintro e u' w'' ⟨rfl,rfl,rfl⟩
   have y0:=HTFH.out .nilIface;have y1:=HEFH.out .nilIface
   refine⟨_,by simp[results,Tryz.results125,go_sem,y0,y1];rfl,?_⟩
   refine⟨(HFIN _).out,?_⟩
   rw[HR.out]
   refine⟨HKD.out,hle,⟨rb,tb,by have:=HRBT.out;have:=HTW.out;omega,(HLF _).out⟩,?_⟩
   rw[if_neg HLT.out]
end Go.Proofs.YtpobhbdomldecaaGreatDoor
namespace Go.Proofs.YtpobhbdomldecaaGreatDoor
open Go.RowKit
set_option linter.unusedSimpArgs false
set_option linter.unusedVariables false
theorem bsn{w:World}{b c o:Nat}{x:Obj}{v:Value}(h:w.heap[b]?=some x)(hp:b≠c):(w.setCell ⟨c,o,none⟩ v).heap[b]?=some x:=block_setCell_ne h hp v
set_option maxRecDepth 100000 in
theorem overPart_ok(m0:ByteArray)(m1:Int)(m2:Int)(m3:Int)(m4:Int)(w:World):Calls Tryz.prog 124 #[.agg #[.string m0,.int .u64 m1,.int .u64 m2,.int .u64 m3,.int .u64 m4],.nilIface] w λ e w'=>e=.returned (.tuple #[.agg #[.string m0,.int .u64 m1,.int .u64 m2,.int .u64 m3,.int .u64 m4],.nilIface])∧Below w.heap.size w w':=by
 go_enter Tryz.func124,Tryz.ntmps124
 go_wp2
 have hb:=block_setCell (block_setCell (block_setCell (block_setCell (block_setCell (alloc_new_at (w:=w.alloc (.cells #[.string m0,.int .u64 m1,.int .u64 m2,.int .u64 m3,.int .u64 m4] 53)) (.cells #[.string ⟨#[]⟩,.int .u64 0,.int .u64 0,.int .u64 0,.int .u64 0] 53) (alloc_size _ rfl)) (o:=0) (.string m0)) (o:=1) (.int .u64 m1)) (o:=2) (.int .u64 m2)) (o:=3) (.int .u64 m3)) (o:=4) (.int .u64 m4);have d:∀o,_=_:=block_cell hb
 refine bodyPost_ret (v:=.tuple #[.agg #[.string m0,.int .u64 m1,.int .u64 m2,.int .u64 m3,.int .u64 m4],.nilIface]) ?_ rfl ⟨rfl,by(repeat (first | exact Below.refl _ _ | assumption | (refine bdrew ?_) | (refine bdrewN ?_ _) | (refine balloc ?_ _) | (refine bset ?_ (by first | omega | (simp;done) | (simp;omega)) _) | (refine bnext ?_ (by assumption))))⟩
 simp[results,Tryz.results124,go_sem,d]
set_option maxRecDepth 100000 in
theorem overPart_no(m0:ByteArray)(m1:Int)(m2:Int)(m3:Int)(m4:Int)(fb:Nat)(w:World):Calls Tryz.prog 124 #[.agg #[.string m0,.int .u64 m1,.int .u64 m2,.int .u64 m3,.int .u64 m4],.iface 290 (.pointer (some ⟨fb,0,none⟩))] w λ e w'=>e=.returned (.tuple #[zeroPart,.iface 290 (.pointer (some ⟨fb,0,none⟩))])∧Below w.heap.size w w':=by
 go_enter Tryz.func124,Tryz.ntmps124
 go_wp2
 have hb:=block_setCell (block_setCell (block_setCell (block_setCell (block_setCell (block_alloc (alloc_new_at (w:=w.alloc (.cells #[.string m0,.int .u64 m1,.int .u64 m2,.int .u64 m3,.int .u64 m4] 53)) (.cells #[.string ⟨#[]⟩,.int .u64 0,.int .u64 0,.int .u64 0,.int .u64 0] 53) (alloc_size _ rfl)) (.cells #[.string ⟨#[]⟩,.int .u64 0,.int .u64 0,.int .u64 0,.int .u64 0] 53)) (o:=0) (.string ⟨#[]⟩)) (o:=1) (.int .u64 0)) (o:=2) (.int .u64 0)) (o:=3) (.int .u64 0)) (o:=4) (.int .u64 0);have d:∀o,_=_:=block_cell hb
 refine bodyPost_ret (v:=.tuple #[zeroPart,.iface 290 (.pointer (some ⟨fb,0,none⟩))]) ?_ rfl ⟨rfl,by(repeat (first | exact Below.refl _ _ | assumption | (refine bdrew ?_) | (refine bdrewN ?_ _) | (refine balloc ?_ _) | (refine bset ?_ (by first | omega | (simp;done) | (simp;omega)) _) | (refine bnext ?_ (by assumption))))⟩
 simp[results,Tryz.results124,go_sem,d]
def RePart(s:ByteArray)(w:World)(e:Ending)(w':World):Prop:=
 Below w.heap.size w w'∧match readR s (partGs s 0) part0 with
  | .error f=>∃fb,e=.returned (.tuple #[zeroPart,.iface 290 (.pointer (some ⟨fb,0,none⟩))])∧FltB w' fb f.1 f.2
  | .ok x=>Kd part0 x∧(∃rb tb,LiesPart rb tb w' x)∧e=.returned (.tuple #[.agg (cellsPart x),.nilIface])
set_option maxRecDepth 100000 in
set_option maxHeartbeats 2000000 in
theorem reaPart_any(B:Nat)(s:ByteArray)(w:World)(hT:Tabs B w)(hET:ErrType w)(hB:B≤w.heap.size)(hg:3<B)(hs:s.size≤9223372036854775807):
  Calls Tryz.prog 65 #[.string s] w (RePart s w):=by
 have H:=Lib.hid (fun (w':World) (hb:Below w.heap.size w w')=>readPart_any B s w' (hT.below hb) (hET.below hb) (Nat.le_trans hB hb.size) hg hs);clear hT hET
 go_enter Tryz.func65,Tryz.ntmps65
 go_wp2_with fail
 refine(H.out _ (balloc (Below.refl _ _) _)).mono ?_
 rintro e w1 ⟨hb1,hh⟩
 have hblk:=(hb1.block w.heap.size (by simp)).trans (heap_alloc_new w _);have HBK:=Lib.hid hblk;have HB:=Lib.hid (bnext (balloc (Below.refl _ _) _) hb1);clear hb1 hblk
 cases hr:objR s (partGs s 0) part0 0 with
 | error f=>
  rw[hr]at hh
  obtain⟨fb,rfl,hf⟩:=hh
  have HF:=Lib.hid hf;have HR:Hid (readR s (partGs s 0) part0=.error f):=Lib.hid (by unfold readR;rw[hr]);clear hf hr
  go_wp2_with fail
  refine(overPart_no _ _ _ _ _ fb w1).mono ?_
  rintro e w2 ⟨rfl,hb2⟩
  have hb:=(hb2.block _ (lt_of_block HBK.out)).trans HBK.out;have HB2:=Lib.hid (bnext HB.out hb2);have HF2:=Lib.hid (HF.out.below hb2);have HBK2:=Lib.hid hb;have g0:∀o,w2.cell? ⟨w.heap.size,o,none⟩=_:=block_cell hb;have g1:∀o,w2.frozen? ⟨w.heap.size,o,none⟩=false:=block_free hb;have g2:w.heap.size<w2.heap.size:=lt_of_block hb;clear hb2 hb
  go_wp2
  have hb:=block_setCell (block_setCell (block_setCell (block_setCell (block_setCell (HBK2.out) (o:=0) (.string ⟨#[]⟩)) (o:=1) (.int .u64 0)) (o:=2) (.int .u64 0)) (o:=3) (.int .u64 0)) (o:=4) (.int .u64 0);have d:∀o,_=_:=block_cell hb;have hne:fb≠w.heap.size:=λ e=>by subst e;have h9:=HBK2.out.symm.trans HF2.out;cases h9
  refine bodyPost_ret (v:=.tuple #[zeroPart,.iface 290 (.pointer (some ⟨fb,0,none⟩))]) ?_ rfl ⟨(bset (bset (bset (bset (bset HB2.out (Nat.le_refl _) _) (Nat.le_refl _) _) (Nat.le_refl _) _) (Nat.le_refl _) _) (Nat.le_refl _) _),?_⟩
  ·simp[results,Tryz.results65,go_sem,d]
  ·rw[HR.out]
   exact⟨fb,rfl,(bsn (bsn (bsn (bsn (bsn HF2.out hne) hne) hne) hne) hne)⟩
 | ok y=>
  rw[hr]at hh
  obtain⟨hk,hle,⟨rb,tb,hrb,hl⟩,hh⟩:=hh
  have HL:=Lib.hid hl
  by_cases hlt:y.2<s.size
  ·rw[if_pos hlt]at hh
   obtain⟨fb,rfl,hf⟩:=hh
   have HF:=Lib.hid hf;have HR:Hid (readR s (partGs s 0) part0=.error (5,y.2)):=Lib.hid (by unfold readR;rw[hr];exact if_pos hlt);clear hf hr hlt
   go_wp2_with fail
   refine(overPart_no _ _ _ _ _ fb w1).mono ?_
   rintro e w2 ⟨rfl,hb2⟩
   have hb:=(hb2.block _ (lt_of_block HBK.out)).trans HBK.out;have HB2:=Lib.hid (bnext HB.out hb2);have HF2:=Lib.hid (HF.out.below hb2);have HBK2:=Lib.hid hb;have g0:∀o,w2.cell? ⟨w.heap.size,o,none⟩=_:=block_cell hb;have g1:∀o,w2.frozen? ⟨w.heap.size,o,none⟩=false:=block_free hb;have g2:w.heap.size<w2.heap.size:=lt_of_block hb;clear hb2 hb
   go_wp2
   have hb:=block_setCell (block_setCell (block_setCell (block_setCell (block_setCell (HBK2.out) (o:=0) (.string ⟨#[]⟩)) (o:=1) (.int .u64 0)) (o:=2) (.int .u64 0)) (o:=3) (.int .u64 0)) (o:=4) (.int .u64 0);have d:∀o,_=_:=block_cell hb;have hne:fb≠w.heap.size:=λ e=>by subst e;have h9:=HBK2.out.symm.trans HF2.out;cases h9
   refine bodyPost_ret (v:=.tuple #[zeroPart,.iface 290 (.pointer (some ⟨fb,0,none⟩))]) ?_ rfl ⟨(bset (bset (bset (bset (bset HB2.out (Nat.le_refl _) _) (Nat.le_refl _) _) (Nat.le_refl _) _) (Nat.le_refl _) _) (Nat.le_refl _) _),?_⟩
   ·simp[results,Tryz.results65,go_sem,d]
   ·rw[HR.out]
    exact⟨fb,rfl,(bsn (bsn (bsn (bsn (bsn HF2.out hne) hne) hne) hne) hne)⟩
  ·rw[if_neg hlt]at hh
   subst hh
   have HR:Hid (readR s (partGs s 0) part0=.ok y.1):=Lib.hid (by unfold readR;rw[hr];exact if_neg hlt);clear hr hlt
   go_wp2_with fail
   refine(overPart_ok _ _ _ _ _ w1).mono ?_
   rintro e w2 ⟨rfl,hb2⟩
   have hb:=(hb2.block _ (lt_of_block HBK.out)).trans HBK.out;have HB2:=Lib.hid (bnext HB.out hb2);have HL2:=Lib.hid (HL.out.below hb2);have HBK2:=Lib.hid hb;have g0:∀o,w2.cell? ⟨w.heap.size,o,none⟩=_:=block_cell hb;have g1:∀o,w2.frozen? ⟨w.heap.size,o,none⟩=false:=block_free hb;have g2:w.heap.size<w2.heap.size:=lt_of_block hb;clear hb2 hb
   go_wp2
   have hb:=block_setCell (block_setCell (block_setCell (block_setCell (block_setCell (HBK2.out) (o:=0) (.string (y.1 0).s)) (o:=1) (.int .u64 (y.1 1).n)) (o:=2) (.int .u64 (y.1 2).n)) (o:=3) (.int .u64 (y.1 3).n)) (o:=4) (.int .u64 (y.1 4).n);have d:∀o,_=_:=block_cell hb
   refine bodyPost_ret (v:=.tuple #[.agg (cellsPart y.1),.nilIface]) ?_ rfl ⟨(bset (bset (bset (bset (bset HB2.out (Nat.le_refl _) _) (Nat.le_refl _) _) (Nat.le_refl _) _) (Nat.le_refl _) _) (Nat.le_refl _) _),?_⟩
   ·simp[results,Tryz.results65,go_sem,d]
   ·rw[HR.out]
    exact⟨hk,⟨rb,tb,HL2.out.up (λ b h1 h2=>by
     have h3:b≠w.heap.size:=by simp at hrb;omega
     repeat rw[Below.heap_setCell _ _ _ _ h3])⟩,rfl⟩
end Go.Proofs.YtpobhbdomldecaaGreatDoor
namespace Go.Proofs.YtpobhbdomldecaaGreatDoor
open Go.RowKit
set_option linter.unusedSimpArgs false
set_option linter.unusedVariables false
structure TE7(B:Nat)(w:World):Prop where
 p:PTab B w
 t:Tabs B w
 e:ErrType w
 s:B≤w.heap.size
 g:3<B
theorem TE7.below{B:Nat}{w w':World}(h:TE7 B w)(hb:Below w.heap.size w w'):TE7 B w':=⟨h.p.keep hb h.s,h.t.below hb,h.e.below hb,Nat.le_trans h.s hb.size,h.g⟩
end Go.Proofs.YtpobhbdomldecaaGreatDoor
namespace Go.Proofs.YtpobhbdomldecaaGreatDoor
open Go.RowKit
set_option linter.unusedSimpArgs false
set_option linter.unusedVariables false
abbrev Cst:=Except Flt Nat
end Go.Proofs.YtpobhbdomldecaaGreatDoor
namespace Go.Proofs.YtpobhbdomldecaaGreatDoor
open Go.RowKit
set_option linter.unusedSimpArgs false
set_option linter.unusedVariables false
abbrev RStep:=Rcd→Cst→Rcd × Cst
end Go.Proofs.YtpobhbdomldecaaGreatDoor
namespace Go.Proofs.YtpobhbdomldecaaGreatDoor
open Go.RowKit
set_option linter.unusedSimpArgs false
set_option linter.unusedVariables false
def recV(r:Except Flt Rcd)(x0:Rcd):Rcd:=match r with | .ok x=>x | .error _=>x0
end Go.Proofs.YtpobhbdomldecaaGreatDoor
namespace Go.Proofs.YtpobhbdomldecaaGreatDoor
open Go.RowKit
set_option linter.unusedSimpArgs false
set_option linter.unusedVariables false
theorem toB_inj{a b:Int}(a0:0≤a)(a1:a<256)(b0:0≤b)(b1:b<256)(h:toB a=toB b):a=b:=by
 unfold toB at h
 have:=congrArg UInt8.toNat h
 rw[UInt8.toNat_ofNat',UInt8.toNat_ofNat']at this
 omega
theorem byte_get{s:ByteArray}{i:Nat}(h:i<s.size):∃x,s.data.toList[i]?=some x∧byte s i=x.toNat:=by
 have:i<s.data.toList.length:=by rw[ba_len];exact h
 exact⟨_,List.getElem?_eq_getElem this,by unfold byte;rw[List.getD_eq_getElem?_getD,List.getElem?_eq_getElem this];rfl⟩
theorem bytes0{s:ByteArray}(h:0<s.size):s.data.toList=toB (byte s 0) :: s.data.toList.drop 1:=by
 obtain⟨x,hx,hb⟩:=byte_get h
 rw[hb,toB_nat]
 cases hl:s.data.toList with
 | nil=>rw[hl]at hx;cases hx
 | cons y r=>rw[hl]at hx;cases hx;rfl
theorem be_hi{s:ByteArray}:∀k,1+k≤s.size→(s.data.toList.drop 1).take k=(hiL (be s k) k).map toB
 | 0,_=>by simp[hiL]
 | k+1,h=>by
  obtain⟨x,hx,hb⟩:=byte_get (s:=s) (i:=1+k) (by omega)
  have hlt:=UInt8.toNat_lt x
  rw[List.take_add_one,be_hi k (by omega),hiL_snoc,be,hb,List.getElem?_drop,hx]
  have e1:(be s k * 256+(x.toNat:Int)) / 256=be s k:=by omega
  have e2:(be s k * 256+(x.toNat:Int)) % 256=x.toNat:=by omega
  rw[e1,e2,List.map_append,List.map_cons,toB_nat]
  rfl
theorem hi_inj:∀(k:Nat) {a b:Int},0≤a→a<256 ^ k→0≤b→b<256 ^ k→(hiL a k).map toB=(hiL b k).map toB→a=b
 | 0,a,b,a0,a1,b0,b1,_=>by simp at a1 b1;omega
 | k+1,a,b,a0,a1,b0,b1,h=>by
  rw[hiL_snoc,hiL_snoc,List.map_append,List.map_append]at h
  obtain⟨h1,h2⟩:=List.append_inj' h rfl
  rw[Int.pow_succ]at a1 b1
  have e1:=hi_inj k (by omega) (by omega) (by omega) (by omega) h1
  simp only[List.map_cons,List.map_nil,List.cons.injEq,and_true]at h2
  have e2:=toB_inj (by omega) (by omega) (by omega) (by omega) h2
  omega
theorem be_of_hi{s:ByteArray}{k:Nat}{n:Int}{R:List UInt8}{c:UInt8}(n0:0≤n)(n1:n<256 ^ k)(h:s.data.toList=c :: ((hiL n k).map toB++R)):be s k=n:=by
 have hs:1+k≤s.size:=by rw[←ba_len,h,List.length_cons,List.length_append,List.length_map,hiL_len];omega
 have hb:=be_hi k hs
 rw[h,List.drop_one,List.tail_cons,List.take_left' (by rw[List.length_map,hiL_len])]at hb
 have:=be_bd s k
 exact(hi_inj k n0 n1 this.1 this.2 hb).symm
def rowFor(sort:Nat)(n:Int):URow:=
 match sort with
 | 1=>if n<256 then⟨196,196,1,0⟩else⟨197,197,2,256⟩
 | 2=>if n<32 then⟨160,191,0,0⟩else if n<256 then⟨217,217,1,32⟩else⟨218,218,2,256⟩
 | 3=>if n<16 then⟨144,159,0,0⟩else⟨220,220,2,16⟩
 | 4=>if n<16 then⟨128,143,0,0⟩else⟨222,222,2,16⟩
 | _=>if n<128 then⟨0,127,0,0⟩else if n<256 then⟨204,204,1,128⟩else if n<65536 then⟨205,205,2,256⟩else if n<4294967296 then⟨206,206,4,65536⟩else⟨207,207,8,4294967296⟩
def headB(r:URow)(n:Int):List UInt8:=if r.size=0 then [toB (r.lo+n)]else toB r.lo :: (hiL n r.size.toNat).map toB
theorem head_split{s:ByteArray}{l:List URow}{n:Int}{rest:ByteArray}(hok:∀r ∈ l,0≤r.size)(h:headOf s l=.ok (n,rest)):
  ∃r ∈ l,r.least≤n∧r.lo≤byte s 0∧byte s 0≤r.hi∧1+r.size.toNat≤s.size∧n=(if r.size=0 then byte s 0 - r.lo else be s r.size.toNat)∧rest=s.extract (1+r.size.toNat) s.size:=by
 unfold headOf at h
 split at h
 ·cases h
 ·split at h
  ·cases h
  ·next r hf=>
   have hm:=List.mem_of_find?_eq_some hf;have hp:=List.find?_some hf
   simp only[Bool.and_eq_true,decide_eq_true_eq]at hp
   have:=hok r hm
   by_cases h1:(s.size:Int)<1+r.size
   ·rw[if_pos h1]at h;cases h
   ·rw[if_neg h1]at h
    obtain⟨v,hv⟩:∃v,(if r.size=0 then byte s 0 - r.lo else be s r.size.toNat)=v:=⟨_,rfl⟩
    rw[hv]at h
    by_cases h2:v<r.least
    ·rw[if_pos h2]at h;cases h
    ·rw[if_neg h2]at h
     cases h
     exact⟨r,hm,by omega,hp.1,hp.2,by omega,hv.symm,rfl⟩
theorem head_bytes{s:ByteArray}{r:URow}{n:Int}{rest:ByteArray}(h1:r.lo≤byte s 0)(h2:byte s 0≤r.hi)(h3:1+r.size.toNat≤s.size)(hn:n=(if r.size=0 then byte s 0 - r.lo else be s r.size.toNat))(hr:rest=s.extract (1+r.size.toNat) s.size)(hx:r.size=0 ∨ r.lo=r.hi):
  s.data.toList=headB r n++rest.data.toList:=by
 rw[hr,Lib.extract_data,List.take_of_length_le (by rw[List.length_drop,ba_len];omega)]
 refine(bytes0 (s:=s) (by omega)).trans ?_
 unfold headB
 by_cases hz:r.size=0
 ·rw[if_pos hz,hz]
  rw[if_pos hz]at hn
  rw[hn,show r.lo+(byte s 0 - r.lo)=byte s 0 by omega]
  simp
 ·rw[if_neg hz]
  rw[if_neg hz]at hn
  have e:byte s 0=r.lo:=by rcases hx with h | h <;> omega
  rw[hn,←be_hi _ h3,e,List.cons_append]
  congr 1
  rw[show(s.data.toList.drop (1+r.size.toNat))=(s.data.toList.drop 1).drop r.size.toNat by rw[List.drop_drop]]
  exact(List.take_append_drop _ _).symm
end Go.Proofs.YtpobhbdomldecaaGreatDoor
namespace Go.Proofs.YtpobhbdomldecaaGreatDoor
open Go.RowKit
set_option linter.unusedSimpArgs false
set_option linter.unusedVariables false
def laidOf(sort:Nat)(n:Int)(t:ByteArray):ByteArray:=⟨(headB (rowFor sort n) n++(if sort=1 ∨ sort=2 then t.data.toList else [])).toArray⟩
theorem rowFor_eq{sort:Nat}(h5:sort<5){r:URow}{n:Int}{s:ByteArray}(hr:r ∈ urowsOf sort)(h1:r.least≤n)(h2:r.lo≤byte s 0)(h3:byte s 0≤r.hi)(hn:n=(if r.size=0 then byte s 0 - r.lo else be s r.size.toNat)):
  r=rowFor sort n∧(r.size=0 ∨ r.lo=r.hi):=by
 have b1:=be_bd s 1;have b2:=be_bd s 2;have b4:=be_bd s 4;have b8:=be_bd s 8
 simp only[Int.reducePow]at b1 b2 b4 b8
 match sort,h5 with
 | 0,_=>
  simp only[urowsOf,numsL,List.mem_cons,List.not_mem_nil,or_false]at hr
  rcases hr with rfl | rfl | rfl | rfl | rfl <;> simp at h1 h2 h3 hn ⊢ <;> unfold rowFor <;> simp only[] <;> (repeat (first | rw[if_pos (by omega)] | rw[if_neg (by omega)]))
 | 1,_=>
  simp only[urowsOf,binsL,List.mem_cons,List.not_mem_nil,or_false]at hr
  rcases hr with rfl | rfl <;> simp at h1 h2 h3 hn ⊢ <;> unfold rowFor <;> simp only[] <;> (repeat (first | rw[if_pos (by omega)] | rw[if_neg (by omega)]))
 | 2,_=>
  simp only[urowsOf,strsL,List.mem_cons,List.not_mem_nil,or_false]at hr
  rcases hr with rfl | rfl | rfl <;> simp at h1 h2 h3 hn ⊢ <;> unfold rowFor <;> simp only[] <;> (repeat (first | rw[if_pos (by omega)] | rw[if_neg (by omega)]))
 | 3,_=>
  simp only[urowsOf,listsL,List.mem_cons,List.not_mem_nil,or_false]at hr
  rcases hr with rfl | rfl <;> simp at h1 h2 h3 hn ⊢ <;> unfold rowFor <;> simp only[] <;> (repeat (first | rw[if_pos (by omega)] | rw[if_neg (by omega)]))
 | 4,_=>
  simp only[urowsOf,pairsL,List.mem_cons,List.not_mem_nil,or_false]at hr
  rcases hr with rfl | rfl <;> simp at h1 h2 h3 hn ⊢ <;> unfold rowFor <;> simp only[] <;> (repeat (first | rw[if_pos (by omega)] | rw[if_neg (by omega)]))
theorem rows_size{sort:Nat}:∀r ∈ urowsOf sort,0≤r.size:=by
 unfold urowsOf
 split <;> decide
theorem drop_tail{α:Type}{l p q:List α}(h:l=p++q){k:Nat}(hk:k=l.length - q.length):l.drop k=q:=by
 subst hk h
 rw[List.length_append,Nat.add_sub_cancel,List.drop_left]
theorem head_laid{sort:Nat}{s rest:ByteArray}{n:Int}(h5:sort<5)(h:headOf s (urowsOf sort)=.ok (n,rest)):s.data.toList=headB (rowFor sort n) n++rest.data.toList∧0≤n∧n≤18446744073709551615:=by
 have hok:∀i,(unth (urowsOf sort) i).Ok:=by
  match sort,h5 with
  | 0,_=>exact numsL_ok
  | 1,_=>exact binsL_ok
  | 2,_=>exact strsL_ok
  | 3,_=>exact listsL_ok
  | 4,_=>exact pairsL_ok
 have hb:=head_bd hok h
 obtain⟨r,hm,hl,h2,h3,h4,hn,hr⟩:=head_split rows_size h
 obtain⟨e,hx⟩:=rowFor_eq h5 hm hl h2 h3 hn
 rw[←e]
 exact⟨head_bytes h2 h3 h4 hn hr hx,hb.1,hb.2.1⟩
theorem take_laid{sort:Nat}{s t:ByteArray}{a a':Nat}{most n:Int}(h5:sort<5)(ha:a≤s.size)(h:takeOf sort s a most=.ok (n,t,a')):
  s.data.toList.drop a=(laidOf sort n t).data.toList++s.data.toList.drop a'∧a'=a+(laidOf sort n t).size∧a'≤s.size∧0≤n∧n≤18446744073709551615∧t.size≤s.size:=by
 unfold takeOf at h
 cases hh:headOf (s.extract a s.size) (urowsOf sort)with
 | error k=>rw[hh]at h;cases h
 | ok x=>
  obtain⟨m,rest⟩:=x
  rw[hh]at h
  simp only at h
  obtain⟨hb,n0,n1⟩:=head_laid h5 hh
  rw[Lib.extract_data,List.take_of_length_le (by rw[List.length_drop,ba_len];omega)]at hb
  have hs:s.data.toList=s.data.toList.take a++headB (rowFor sort m) m++rest.data.toList:=by
   rw[List.append_assoc,←hb,List.take_append_drop]
  split at h
  ·cases h
  ·split at h
   ·next h12=>
    split at h
    ·cases h
    ·cases h
     have hrs:rest.data.toList=(rest.extract 0 n.toNat).data.toList++rest.data.toList.drop n.toNat:=by
      rw[Lib.extract_data,List.drop_zero,Nat.sub_zero,List.take_append_drop]
     have hs2:s.data.toList=(s.data.toList.take a++headB (rowFor sort n) n++(rest.extract 0 n.toNat).data.toList)++rest.data.toList.drop n.toNat:=by
      rw[List.append_assoc,←hrs];exact hs
     have hd:=drop_tail hs2 (k:=s.size - (rest.size - n.toNat)) (by rw[ba_len,List.length_drop,ba_len]);have hl:=congrArg List.length hs2
     rw[List.length_append,List.length_append,List.length_append,List.length_take,List.length_drop,ba_len,ba_len,ba_len]at hl
     have hz:(laidOf sort n (rest.extract 0 n.toNat)).size=(headB (rowFor sort n) n).length+(rest.extract 0 n.toNat).size:=by
      rw[←ba_len];unfold laidOf;rw[if_pos h12];simp only[List.toList_toArray,List.length_append,ba_len]
     have he:(rest.extract 0 n.toNat).size=n.toNat:=by rw[ByteArray.size_extract];omega
     refine⟨?_,by omega,by omega,n0,n1,by omega⟩
     rw[hb,hd,hrs]
     unfold laidOf;rw[if_pos h12]
     simp
   ·next h12=>
    cases h
    have hd:=drop_tail hs (k:=s.size - rest.size) (by rw[ba_len,ba_len]);have hl:=congrArg List.length hs
    rw[List.length_append,List.length_append,List.length_take,ba_len,ba_len]at hl
    have hz:(laidOf sort n ⟨#[]⟩).size=(headB (rowFor sort n) n).length:=by
     rw[←ba_len];unfold laidOf;rw[if_neg h12];simp
    refine⟨?_,by omega,by omega,n0,n1,Nat.zero_le _⟩
    rw[hb,hd]
    unfold laidOf;rw[if_neg h12]
    simp
end Go.Proofs.YtpobhbdomldecaaGreatDoor
namespace Go.Proofs.YtpobhbdomldecaaGreatDoor
open Go.RowKit
set_option linter.unusedSimpArgs false
set_option linter.unusedVariables false
theorem byte_of{s:ByteArray}{x:Int}{R:List UInt8}(x0:0≤x)(x1:x≤255)(h:s.data.toList=toB x :: R):byte s 0=x:=by
 unfold byte toB at *
 rw[h]
 simp
 omega
theorem find_row{sort:Nat}(h5:sort<5){n:Int}{s:ByteArray}{R:List UInt8}(n0:0≤n)(h:s.data.toList=headB (rowFor sort n) n++R):
  (urowsOf sort).find? (λ r=>decide (r.lo≤byte s 0) && decide (byte s 0≤r.hi))=some (rowFor sort n):=by
 obtain⟨r,hr⟩:∃r,rowFor sort n=r:=⟨_,rfl⟩
 rw[hr]at h ⊢
 have hb:∀{x:Int},(if r.size=0 then r.lo+n else r.lo)=x→0≤x→x≤255→byte s 0=x:=λ {x} hx x0 x1=>by
  unfold headB at h
  by_cases hz:r.size=0
  ·rw[if_pos hz]at h hx;subst hx;exact byte_of x0 x1 h
  ·rw[if_neg hz]at h hx;subst hx;exact byte_of x0 x1 (by rw[h,List.cons_append])
 unfold rowFor at hr
 match sort,h5 with
 | 0,_ | 1,_ | 2,_ | 3,_ | 4,_=>
  simp only[]at hr
  (repeat' split at hr) <;> subst hr <;> simp only[Int.reduceEq,↓reduceIte]at hb <;> have hb:=hb rfl (by omega) (by omega) <;> simp only[urowsOf,numsL,binsL,strsL,listsL,pairsL,hb] <;>
   first | rfl | exact List.find?_cons_of_pos (by simp;omega)
theorem row_fits{sort:Nat}(h5:sort<5){n:Int}(n0:0≤n)(n1:n≤18446744073709551615)(n2:sort≠0→n≤65535):
  (rowFor sort n).least≤n∧0≤(rowFor sort n).size∧((rowFor sort n).size≠0→n<256 ^ (rowFor sort n).size.toNat):=by
 unfold rowFor
 match sort,h5 with
 | 0,_ | 1,_ | 2,_ | 3,_ | 4,_=>
  simp only[]
  have n2:=n2
  (repeat' split) <;> simp <;> omega
theorem rowFor_lo{sort:Nat}(h5:sort<5){n:Int}(n0:0≤n)(h:(rowFor sort n).size=0):0≤(rowFor sort n).lo+n∧(rowFor sort n).lo+n≤255:=by
 revert h
 unfold rowFor
 match sort,h5 with
 | 0,_ | 1,_ | 2,_ | 3,_ | 4,_=>
  simp only[]
  (repeat' split) <;> simp <;> omega
theorem headB_len(r:URow)(n:Int):(headB r n).length=1+r.size.toNat:=by
 unfold headB
 split
 ·next h=>rw[h];rfl
 ·rw[List.length_cons,List.length_map,hiL_len];omega
theorem head_of_laid{sort:Nat}(h5:sort<5){n:Int}{s:ByteArray}{R:List UInt8}(n0:0≤n)(n1:n≤18446744073709551615)(n2:sort≠0→n≤65535)(h:s.data.toList=headB (rowFor sort n) n++R):
  headOf s (urowsOf sort)=.ok (n,⟨R.toArray⟩):=by
 have hl:=congrArg List.length h
 rw[ba_len,List.length_append,headB_len]at hl
 have hf:=find_row h5 n0 h
 obtain⟨f1,f2,f3⟩:=row_fits h5 n0 n1 n2
 rw[head_row (by omega) hf,if_neg (by omega)]
 have hp:=List.find?_some hf
 simp only[Bool.and_eq_true,decide_eq_true_eq]at hp
 have hv:(if(rowFor sort n).size=0 then byte s 0 - (rowFor sort n).lo else be s (rowFor sort n).size.toNat)=n:=by
  by_cases hz:(rowFor sort n).size=0
  ·rw[if_pos hz]
   have hd:=rowFor_lo h5 n0 hz;have:=byte_of (s:=s) (x:=(rowFor sort n).lo+n) hd.1 hd.2 (by rw[h];unfold headB;rw[if_pos hz];rfl)
   omega
  ·rw[if_neg hz]
   refine be_of_hi n0 (f3 hz) ?_ (R:=R) (c:=toB (rowFor sort n).lo)
   rw[h];unfold headB;rw[if_neg hz,List.cons_append]
 rw[hv,if_neg (by omega)]
 congr 2
 refine ba_ext ?_
 rw[Lib.extract_data,List.take_of_length_le (by rw[List.length_drop,ba_len];omega),h,←headB_len (rowFor sort n) n,List.drop_left]
theorem laid_take{sort:Nat}{most:Int}(h5:sort<5){n:Int}{s t:ByteArray}{a:Nat}{R:List UInt8}(ha:a≤s.size)(n0:0≤n)(n1:n≤18446744073709551615)(n2:sort≠0→n≤65535)(nm:sort≠0→n≤most)
  (ht:if sort=1 ∨ sort=2 then(t.size:Int)=n else t=⟨#[]⟩) (h:s.data.toList.drop a=(laidOf sort n t).data.toList++R):
  takeOf sort s a most=.ok (n,t,a+(laidOf sort n t).size):=by
 have hd:(s.extract a s.size).data.toList=headB (rowFor sort n) n++((if sort=1 ∨ sort=2 then t.data.toList else [])++R):=by
  rw[Lib.extract_data,List.take_of_length_le (by rw[List.length_drop,ba_len];omega),h]
  unfold laidOf
  simp
 have hh:=head_of_laid h5 n0 n1 n2 hd;have hl:=congrArg List.length h
 rw[List.length_drop,List.length_append,ba_len,ba_len]at hl
 have hz:(laidOf sort n t).size=(headB (rowFor sort n) n).length+(if sort=1 ∨ sort=2 then t.data.toList else []).length:=by
  rw[←ba_len];unfold laidOf;simp
 unfold takeOf
 rw[hh]
 simp only
 rw[if_neg (by intro e;have:=nm e.1;omega)]
 by_cases h12:sort=1 ∨ sort=2
 ·rw[if_pos h12]at ht hz ⊢
  have e1:(⟨(t.data.toList++R).toArray⟩:ByteArray).size=t.size+R.length:=by rw[←ba_len,List.toList_toArray,List.length_append,ba_len]
  have e2:(⟨(t.data.toList++R).toArray⟩:ByteArray).extract 0 n.toNat=t:=ba_ext (by
   rw[Lib.extract_data,List.drop_zero,Nat.sub_zero,List.take_left' (by rw[ba_len];omega)])
  simp only[if_pos h12]at *
  rw[if_neg (by rw[e1];omega),e1,e2]
  rw[ba_len]at hz
  congr 3
  omega
 ·rw[if_neg h12]at ht hz ⊢
  subst ht
  have e1:(⟨R.toArray⟩:ByteArray).size=R.length:=by rw[←ba_len]
  simp only[if_neg h12,List.nil_append,List.length_nil]at *
  rw[e1]
  congr 3
  omega
theorem laidOf_eq{sort:Nat}(h5:sort<5){n:Int}(n0:0≤n)(n2:sort≠0→n≤65535)(t:ByteArray):laidOf sort n t=laidP sort n t:=by
 have hh:headB (rowFor sort n) n=headP sort n:=by
  match sort,h5 with
  | 0,_=>
   rw[headP0];unfold rowFor;simp only[]
   by_cases c1:n<128
   ·rw[if_pos c1,if_pos c1];unfold headB;rw[if_pos rfl,Int.zero_add]
   ·rw[if_neg c1,if_neg c1]
    by_cases c2:n<256
    ·rw[if_pos c2,if_pos c2];rfl
    ·rw[if_neg c2,if_neg c2]
     by_cases c3:n<65536
     ·rw[if_pos c3,if_pos c3];rfl
     ·rw[if_neg c3,if_neg c3]
      by_cases c4:n<4294967296
      ·rw[if_pos c4,if_pos c4];rfl
      ·rw[if_neg c4,if_neg c4];rfl
  | 1,_=>
   have n2:=n2 (by decide)
   rw[headP1 (by omega)];unfold rowFor;simp only[]
   by_cases c1:n<256
   ·rw[if_pos c1,if_pos c1];rfl
   ·rw[if_neg c1,if_neg c1];rfl
  | 2,_=>
   have n2:=n2 (by decide)
   rw[headP2 (by omega)];unfold rowFor;simp only[]
   by_cases c1:n<32
   ·rw[if_pos c1,if_pos c1];rfl
   ·rw[if_neg c1,if_neg c1]
    by_cases c2:n<256
    ·rw[if_pos c2,if_pos c2];rfl
    ·rw[if_neg c2,if_neg c2];rfl
  | 3,_=>
   have n2:=n2 (by decide)
   rw[headP3 (by omega)];unfold rowFor;simp only[]
   by_cases c1:n<16
   ·rw[if_pos c1,if_pos c1];rfl
   ·rw[if_neg c1,if_neg c1];rfl
  | 4,_=>
   have n2:=n2 (by decide)
   rw[headP4 (by omega)];unfold rowFor;simp only[]
   by_cases c1:n<16
   ·rw[if_pos c1,if_pos c1];rfl
   ·rw[if_neg c1,if_neg c1];rfl
 refine ba_ext ?_
 unfold laidOf laidP
 rw[hh,ByteArray.data_append,Array.toList_append,baL_list]
 by_cases h12:sort=1 ∨ sort=2
 ·rw[if_pos h12,if_pos h12]
 ·rw[if_neg h12,if_neg h12];rfl
end Go.Proofs.YtpobhbdomldecaaGreatDoor
namespace Go.Proofs.YtpobhbdomldecaaGreatDoor
open Go.RowKit
set_option linter.unusedSimpArgs false
set_option linter.unusedVariables false
def AtF(s:ByteArray)(a:Nat)(t:ByteArray):Prop:=a≤s.size∧∃R,s.data.toList.drop a=t.data.toList++R
theorem AtF.le{s t:ByteArray}{a:Nat}(h:AtF s a t):a+t.size≤s.size:=by
 obtain⟨h1,R,h2⟩:=h
 have:=congrArg List.length h2
 rw[List.length_drop,List.length_append,ba_len,ba_len]at this
 omega
theorem AtF.app{s t u:ByteArray}{a:Nat}(h:AtF s a (t++u)):AtF s a t∧AtF s (a+t.size) u:=by
 have hl:=h.le
 obtain⟨h1,R,h2⟩:=h
 rw[ByteArray.data_append,Array.toList_append,List.append_assoc]at h2
 rw[ByteArray.size_append]at hl
 refine⟨⟨h1,_,h2⟩,by omega,R,?_⟩
 rw[←List.drop_drop,h2,←ba_len t,List.drop_left]
theorem AtF.self(t:ByteArray):AtF t 0 t:=⟨Nat.zero_le _,[],by simp⟩
theorem tk_forth{sort:Nat}{s t:ByteArray}{a:Nat}{n:Int}(h5:sort<5)(h:AtF s a (laidP sort n t))(n0:0≤n)(n1:n≤18446744073709551615)(nm:sort≠0→n≤10240)
  (ht:if sort=1 ∨ sort=2 then(t.size:Int)=n else t=⟨#[]⟩):tkR sort s a=.ok (n,t,a+(laidP sort n t).size):=by
 have n2:sort≠0→n≤65535:=λ e=>by have:=nm e;omega
 obtain⟨h1,R,h2⟩:=h
 rw[←laidOf_eq h5 n0 n2]at h2 ⊢
 unfold tkR
 rw[laid_take h5 h1 n0 n1 n2 nm ht h2]
theorem tk_back{sort:Nat}{s:ByteArray}{a:Nat}{x:Int × ByteArray × Nat}(h5:sort<5)(ha:a≤s.size)(h:tkR sort s a=.ok x):
  AtF s a (laidP sort x.1 x.2.1)∧x.2.2=a+(laidP sort x.1 x.2.1).size∧0≤x.1∧x.1≤18446744073709551615∧(sort≠0→x.1≤10240)∧x.2.2≤s.size∧(sort=1 ∨ sort=2→(x.2.1.size:Int)=x.1):=by
 have hb:=tkR_bd h5 h
 obtain⟨n,t,a'⟩:=x
 simp only at hb ⊢
 unfold tkR at h
 split at h
 ·cases h
 ·next y hy=>
  cases h
  obtain⟨h1,h2,h3,h4,h6,h7⟩:=take_laid h5 ha hy
  have n2:sort≠0→n≤65535:=λ e=>by have:=hb.2.2.1 e;omega
  rw[laidOf_eq h5 h4 n2]at h1 h2
  refine⟨⟨ha,_,h1⟩,h2,h4,h6,hb.2.2.1,h3,λ h12=>?_⟩
  rcases textOf_is (s:=s) (a:=a) (most:=10240) h12 with⟨k,_,e⟩ | ⟨m,t2,a2,_,e,hz,_⟩
  ·rw[hy]at e;cases e
  ·rw[hy]at e;cases e;omega
theorem rnum_forth{s:ByteArray}{a:Nat}{n:Int}(h:AtF s a (numP n))(hn:U64i n):rnum s a=.ok (n,a+(numP n).size):=by
 have:=tk_forth (sort:=0) (t:=ByteArray.empty) (by decide) h hn.1 hn.2 (λ e=>absurd rfl e) (by rfl)
 unfold rnum;rw[this];rfl
theorem rnum_back{s:ByteArray}{a:Nat}{y:Int × Nat}(ha:a≤s.size)(h:rnum s a=.ok y):AtF s a (numP y.1)∧y.2=a+(numP y.1).size∧U64i y.1:=by
 unfold rnum at h
 split at h
 ·cases h
 ·next x hx=>
  cases h
  obtain⟨h1,h2,h3,h4,_,_,_⟩:=tk_back (by decide) ha hx
  have e:laidP 0 x.1 x.2.1=numP x.1:=rfl
  rw[e]at h1 h2
  exact⟨h1,h2,h3,h4⟩
theorem rdig_forth{s x:ByteArray}{a:Nat}(h:AtF s a (binP x))(hx:x.size=32):rdig s a=.ok (x,a+(binP x).size):=by
 have:=tk_forth (sort:=1) (t:=x) (by decide) h (by omega) (by omega) (λ _=>by omega) (by rfl)
 unfold rdig;rw[this]
 show(if x.size=32 then _ else _)=_
 rw[if_pos hx];rfl
theorem rdig_back{s:ByteArray}{a:Nat}{y:ByteArray × Nat}(ha:a≤s.size)(h:rdig s a=.ok y):AtF s a (binP y.1)∧y.2=a+(binP y.1).size∧y.1.size=32:=by
 unfold rdig at h
 split at h
 ·cases h
 ·next x hx=>
  split at h
  ·next h32=>
   cases h
   obtain⟨h1,h2,h3,h4,_,_,h7⟩:=tk_back (by decide) ha hx
   have h7:=h7 (.inl rfl);have e:laidP 1 x.1 x.2.1=binP x.2.1:=by unfold binP;rw[h7]
   rw[e]at h1 h2
   exact⟨h1,h2,h32⟩
  ·cases h
def POk:DV→Prop
 | .num n=>U64i n
 | .nums l=>∀n ∈ l,U64i n
 | _=>True
def DOk:DV→Prop
 | .revs l=>∀r ∈ l,∀o,POk (revC r o)
 | d=>POk d
structure FG(s:ByteArray)(x0:Rcd)(g:GSpec)(f:Rcd→FSpec):Prop where
 key:∀y,(f y).key=g.key
 ksz:g.key.size≤10240
 must:∀y,(f y).must=g.must
 loc:∀y z,(∀o,o ∈ g.offs→y o=z o)→f y=f z
 emp:∀y,Kd x0 y→(f y).empty=g.empty y
 full:g.must=true→∀y,(f y).empty=false
 un:g.must=false→(f x0).empty=true∧(f x0).may=true
 zero:∀v,Kd x0 v→(f v).empty=true→∀o,o ∈ g.offs→v o=x0 o
 back:∀x a y,a≤s.size→fresh x0 g x→Kd x0 x→g.read x a=.ok y→g.empty y.1=false→(f y.1).may=true∧AtF s a (f y.1).bytes∧y.2=a+(f y.1).bytes.size∧∀o,o ∈ g.offs→DOk (y.1 o)
 forth:∀v x a,Kd x0 v→(∀o,DOk (v o))→fresh x0 g x→Kd x0 x→(f v).may=true→(f v).empty=false→AtF s a (f v).bytes→∃y,g.read x a=.ok (y,a+(f v).bytes.size)∧∀o,o ∈ g.offs→y o=v o
def numF(key:ByteArray)(o:Nat):Rcd→FSpec:=λ y=>⟨key,false,(y o).n == 0,true,numP (y o).n⟩
def digF(key:ByteArray)(o:Nat):Rcd→FSpec:=λ y=>⟨key,true,false,decide ((y o).s.size=32),binP (y o).s⟩
variable {s : ByteArray} {x0 : Rcd}
theorem fg_num(key:ByteArray)(o:Nat)(hk:key.size≤10240)(h0:x0 o=.num 0):FG s x0 (gnum s key o) (numF key o):=by
 have hkd:kindD (x0 o)=0:=by rw[h0];rfl
 constructor
 ·exact λ y=>rfl
 ·exact hk
 ·exact λ y=>rfl
 ·intro y z h
  have e:y o=z o:=h o (List.mem_singleton.2 rfl)
  unfold numF;rw[e]
 ·intro y hy
  obtain⟨n,hn⟩:=hy.num hkd
  unfold numF gnum;simp only[hn];rfl
 ·intro h;cases h
 ·intro _
  unfold numF;rw[h0];exact⟨rfl,rfl⟩
 ·intro v hv h i hi
  obtain⟨n,hn⟩:=hv.num hkd
  obtain rfl:i=o:=List.mem_singleton.1 hi
  unfold numF at h;rw[hn]at h
  have:n=0:=by simpa [DV.n] using h
  rw[hn,h0,this]
 ·intro x a y ha hf hx h he
  simp only[gnum]at h
  split at h
  ·cases h
  ·next z hz=>
   cases h
   obtain⟨h1,h2,h3⟩:=rnum_back ha hz
   dsimp only[numF];rw[upd_at]
   exact⟨rfl,h1,h2,λ i hi=>by(obtain rfl:i=o:=List.mem_singleton.1 hi);(try dsimp only);rw[upd_at];exact h3⟩
 ·intro v x a hv hd hf hx hm he hA
  obtain⟨n,hn⟩:=hv.num hkd
  have hdo:=hd o
  rw[hn]at hdo
  unfold numF at hA ⊢
  simp only[hn]at hA ⊢
  refine⟨upd x o (.num n),?_,λ i hi=>?_⟩
  ·simp only[gnum];rw[rnum_forth hA hdo]
   rfl
  ·obtain rfl:i=o:=List.mem_singleton.1 hi
   rw[upd_at,hn]
theorem fg_dig(key:ByteArray)(o:Nat)(hk:key.size≤10240)(h0:kindD (x0 o)=2):FG s x0 (gdig s key o) (digF key o):=by
 constructor
 ·exact λ y=>rfl
 ·exact hk
 ·exact λ y=>rfl
 ·intro y z h
  have e:y o=z o:=h o (List.mem_singleton.2 rfl)
  unfold digF;rw[e]
 ·exact λ y hy=>rfl
 ·exact λ _ y=>rfl
 ·intro h;cases h
 ·intro v hv h;cases h
 ·intro x a y ha hf hx h he
  simp only[gdig]at h
  split at h
  ·cases h
  ·next z hz=>
   cases h
   obtain⟨h1,h2,h3⟩:=rdig_back ha hz
   dsimp only[digF];rw[upd_at]
   exact⟨decide_eq_true h3,h1,h2,λ i hi=>by(obtain rfl:i=o:=List.mem_singleton.1 hi);(try dsimp only);rw[upd_at];trivial⟩
 ·intro v x a hv hd hf hx hm he hA
  obtain⟨n,hn⟩:=hv.str h0
  unfold digF at hA hm ⊢
  simp only[hn]at hA hm ⊢
  refine⟨upd x o (.str n),?_,λ i hi=>?_⟩
  ·simp only[gdig];rw[rdig_forth hA (of_decide_eq_true hm)]
   rfl
  ·obtain rfl:i=o:=List.mem_singleton.1 hi
   rw[upd_at,hn]
end Go.Proofs.YtpobhbdomldecaaGreatDoor
namespace Go.Proofs.YtpobhbdomldecaaGreatDoor
open Go.RowKit
set_option linter.unusedSimpArgs false
set_option linter.unusedVariables false
abbrev FPair:=GSpec × (Rcd→FSpec)
def gsOf(P:List FPair):List GSpec:=P.map λ p=>p.1
def fsOf(P:List FPair)(y:Rcd):List FSpec:=P.map λ p=>p.2 y
def pth(P:List FPair)(i:Nat):FPair:=P.getD i (GSpec.zero,λ _=>⟨ByteArray.empty,false,false,false,ByteArray.empty⟩)
theorem pth_eq(P:List FPair)(i:Nat)(h:i<P.length):pth P i=P[i]:=by unfold pth;rw[List.getD_eq_getElem?_getD,List.getElem?_eq_getElem h];rfl
theorem gsOf_len(P:List FPair):(gsOf P).length=P.length:=List.length_map _
theorem gth_of{P:List FPair}{i:Nat}(h:i<P.length):gth (gsOf P) i=(pth P i).1:=by
 rw[gth_eq _ _ (by rw[gsOf_len];exact h),pth_eq P i h];unfold gsOf;rw[List.getElem_map]
structure FGs(s:ByteArray)(x0:Rcd)(P:List FPair):Prop where
 fg:∀p ∈ P,FG s x0 p.1 p.2
 ok:GOk x0 (gsOf P)
 len:P.length≤1000
variable {s : ByteArray} {x0 : Rcd} {P : List FPair}
theorem FGs.at(h:FGs s x0 P){i:Nat}(hi:i<P.length):FG s x0 (gth (gsOf P) i) (pth P i).2:=by
 rw[gth_of hi];exact h.fg _ (by rw[pth_eq P i hi];exact List.getElem_mem _)
def fsFrom(P:List FPair)(y:Rcd)(m:Nat):List FSpec:=(fsOf P y).drop m
theorem fsFrom_end(y:Rcd){m:Nat}(h:P.length≤m):fsFrom P y m=[]:=List.drop_eq_nil_of_le (by unfold fsOf;rw[List.length_map];exact h)
theorem fsFrom_cons(y:Rcd){m:Nat}(h:m<P.length):fsFrom P y m=(pth P m).2 y :: fsFrom P y (m+1):=by
 have h':m<(P.map λ p=>p.2 y).length:=by rw[List.length_map];exact h
 show(P.map λ p=>p.2 y).drop m=(pth P m).2 y :: (P.map λ p=>p.2 y).drop (m+1)
 rw[List.drop_eq_getElem_cons h',pth_eq P m h,List.getElem_map]
theorem kept_cons(f:FSpec)(l:List FSpec):keptF (f :: l)=if f.empty then keptF l else f :: keptF l:=by
 unfold keptF;rw[List.filter_cons];cases f.empty <;> rfl
def catF(l:List FSpec):ByteArray:=catB ((keptF l).map fieldP)
theorem key_one(h:FGs s x0 P){i j:Nat}(hi:i<P.length)(hj:j<P.length)(hij:i≠j):((gth (gsOf P) i).key.toList == (gth (gsOf P) j).key.toList)=false:=by
 cases hb:((gth (gsOf P) i).key.toList == (gth (gsOf P) j).key.toList)with
 | false=>rfl
 | true=>exact absurd (h.ok.keys i j (by rw[gsOf_len];exact hi) (by rw[gsOf_len];exact hj) (toList_same hb)) hij
theorem loop_forth(h:FGs s x0 P){v:Rcd}(hv:Kd x0 v)(hd:∀o,DOk (v o))(hm:allMay (fsOf P v)=true):∀(k m fr:Nat),m+k=P.length→fr≤m→(∀i,fr≤i→i<m→((pth P i).2 v).empty=true)→∀(x:Rcd) (seen:List Nat) (a:Nat),Kd x0 x→(∀i,m≤i→i<P.length→fresh x0 (gth (gsOf P) i) x)→AtF s a (catF (fsFrom P v m))→
  ∃y seen',objLoop s (gsOf P) (keptF (fsFrom P v m)).length fr x seen a=.ok (y,seen',a+(catF (fsFrom P v m)).size)∧(∀i,m≤i→i<P.length→∀o,o ∈ (gth (gsOf P) i).offs→y o=v o)∧(∀o,(∀i,m≤i→i<P.length→o ∉ (gth (gsOf P) i).offs)→y o=x o)∧(∀i,i ∈ seen→i ∈ seen')∧∀i,m≤i→i<P.length→((pth P i).2 v).empty=false→i ∈ seen'
 | 0,m,fr,hk,hfr,he,x,seen,a,hx,hf,hA=>by
  have e:fsFrom P v m=[]:=fsFrom_end v (by omega)
  rw[e]
  exact⟨x,seen,rfl,λ i h1 h2=>by omega,λ o _=>rfl,λ i h=>h,λ i h1 h2=>by omega⟩
 | k+1,m,fr,hk,hfr,he,x,seen,a,hx,hf,hA=>by
  have hml:m<P.length:=by omega
  have hmg:m<(gsOf P).length:=by rw[gsOf_len];exact hml
  have F:=h.at hml
  rw[fsFrom_cons v hml]at hA ⊢
  unfold catF at hA ⊢
  rw[kept_cons]at hA ⊢
  cases hem:((pth P m).2 v).empty with
  | true=>
   rw[hem,if_pos rfl]at hA
   rw[if_pos rfl]
   obtain⟨y,seen',h1,h2,h3,h4,h5⟩:=loop_forth h hv hd hm k (m+1) fr (by omega) (by omega) (λ i a b=>by
    by_cases e:i=m
    ·subst e;exact hem
    ·exact he i a (by omega)) x seen a hx (λ i a b=>hf i (by omega) b) hA
   refine⟨y,seen',h1,λ i a b o ho=>?_,λ o ho=>h3 o λ i a b=>ho i (by omega) b,h4,λ i a b c=>?_⟩
   ·by_cases e:i=m
    ·subst e
     rw[h3 o (λ j j1 j2 hin=>h.ok.disj i j (by rw[gsOf_len];exact b) (by rw[gsOf_len];exact j2) (by omega) o ho hin)]
     rw[hf i (Nat.le_refl _) b o ho]
     exact(F.zero v hv hem o ho).symm
    ·exact h2 i (by omega) b o ho
   ·by_cases e:i=m
    ·subst e;rw[hem]at c;cases c
    ·exact h5 i (by omega) b c
  | false=>
   rw[hem,if_neg (by decide)]at hA
   rw[if_neg (by decide)]
   rw[List.map_cons,catB]at hA ⊢
   obtain⟨A1,A2⟩:=hA.app
   have hfp:fieldP ((pth P m).2 v)=strP (gth (gsOf P) m).key++((pth P m).2 v).bytes:=by unfold fieldP;rw[F.key]
   rw[hfp]at A1 A2 ⊢
   obtain⟨K1,K2⟩:=A1.app
   have hks:=F.ksz;have hk2:tkR 2 s a=.ok (((gth (gsOf P) m).key.size:Int),(gth (gsOf P) m).key,a+(strP (gth (gsOf P) m).key).size):=
    tk_forth (sort:=2) (t:=(gth (gsOf P) m).key) (by decide) K1 (by omega) (by omega) (λ _=>by omega) (by rfl)
   have hki:keyIdx (gsOf P) fr (gth (gsOf P) m).key=some (m - fr):=by
    refine keyIdx_some (by omega) (by rw[show fr+(m - fr)=m by omega];simp) λ i hi=>?_
    exact key_one h (by omega) hml (by omega)
   have hmy:((pth P m).2 v).may=true:=by
    refine List.all_eq_true.1 hm _ ?_
    unfold fsOf;rw[pth_eq P m hml]
    exact List.mem_map.2 ⟨_,List.getElem_mem _,rfl⟩
   obtain⟨y1,r1,r2⟩:=F.forth v x _ hv hd (hf m (Nat.le_refl _) hml) hx hmy hem K2
   have hfm:fr+(m - fr)=m:=by omega
   have hky:Kd x0 y1:=h.ok.kinds _ (by rw[gth_eq _ _ hmg];exact List.getElem_mem _) x _ _ r1 hx;have hey:(gth (gsOf P) m).empty y1=false:=by rw[←F.emp y1 hky,F.loc y1 v r2];exact hem
   have hfy:∀i,m+1≤i→i<P.length→fresh x0 (gth (gsOf P) i) y1:=λ i a b o ho=>by
    have e1:y1 o=x o:=h.ok.frames _ (by rw[gth_eq _ _ hmg];exact List.getElem_mem _) x _ _ r1 o (λ hin=>h.ok.disj i m (by rw[gsOf_len];exact b) hmg (by omega) o ho hin)
    rw[e1]
    exact hf i (by omega) b o ho
   rw[ByteArray.size_append,←Nat.add_assoc]at A2
   obtain⟨y,seen',h1,h2,h3,h4,h5⟩:=loop_forth h hv hd hm k (m+1) (m+1) (by omega) (Nat.le_refl _) (λ i a b=>by omega) y1 (m :: seen) _ hky hfy A2
   have hn:=objLoop_next (s:=s) (gs:=gsOf P) (g:=(keptF (fsFrom P v (m+1))).length) (fn:=fr) (seen:=seen) hk2 hki (by rw[hfm];exact r1) (by rw[hfm];exact hey)
   rw[hfm]at hn
   refine⟨y,seen',?_,λ i a b o ho=>?_,λ o ho=>?_,λ i hi=>h4 i (List.mem_cons_of_mem _ hi),λ i a b c=>?_⟩
   ·rw[List.length_cons,hn,h1]
    rw[ByteArray.size_append,ByteArray.size_append]
    unfold catF
    congr 3
    omega
   ·by_cases e:i=m
    ·subst e
     rw[h3 o (λ j j1 j2 hin=>h.ok.disj i j hmg (by rw[gsOf_len];exact j2) (by omega) o ho hin)]
     exact r2 o ho
    ·exact h2 i (by omega) b o ho
   ·rw[h3 o λ i a b=>ho i (by omega) b]
    exact h.ok.frames _ (by rw[gth_eq _ _ hmg];exact List.getElem_mem _) x _ _ r1 o (ho m (Nat.le_refl _) hml)
   ·by_cases e:i=m
    ·subst e;exact h4 i (List.mem_cons_self ..)
    ·exact h5 i (by omega) b c
theorem kept_le(l:List FSpec):(keptF l).length≤l.length:=List.length_filter_le _ _
theorem fsOf_len(y:Rcd):(fsOf P y).length=P.length:=List.length_map _
theorem objR_forth(h:FGs s x0 P){v x:Rcd}{a:Nat}(hv:Kd x0 v)(hd:∀o,DOk (v o))(hm:allMay (fsOf P v)=true)(hx:Kd x0 x)(hf:∀i,i<P.length→fresh x0 (gth (gsOf P) i) x)(hA:AtF s a (layP (fsOf P v))):
  ∃y,objR s (gsOf P) x a=.ok (y,a+(layP (fsOf P v)).size)∧∀i,i<P.length→∀o,o ∈ (gth (gsOf P) i).offs→y o=v o:=by
 unfold layP at hA ⊢
 obtain⟨A1,A2⟩:=hA.app
 have hl:=kept_le (fsOf P v)
 rw[fsOf_len]at hl
 have hp:=h.len;have h4:tkR 4 s a=.ok (((keptF (fsOf P v)).length:Int),ByteArray.empty,a+(mapP (keptF (fsOf P v)).length).size):=
  tk_forth (sort:=4) (t:=ByteArray.empty) (by decide) A1 (by omega) (by omega) (λ _=>by omega) (by rfl)
 obtain⟨y,seen',h1,h2,h3,_,h5⟩:=loop_forth h hv hd hm P.length 0 0 (by omega) (Nat.le_refl _) (λ i a b=>by omega) x [] _ hx (λ i _ b=>hf i b) A2
 refine⟨y,?_,λ i hi=>h2 i (Nat.zero_le _) hi⟩
 have h1':objLoop s (gsOf P) (((keptF (fsOf P v)).length:Int),ByteArray.empty,a+(mapP (keptF (fsOf P v)).length).size).1.toNat 0 x [] (a+(mapP (keptF (fsOf P v)).length).size)=.ok (y,seen',a+(mapP (keptF (fsOf P v)).length).size+(catB ((keptF (fsOf P v)).map fieldP)).size):=h1;have hmi:missing (gsOf P) seen'=false:=by
  cases hb:missing (gsOf P) seen' with
  | false=>rfl
  | true=>
   obtain⟨i,hi,hq⟩:=(missing_iff _ _).1 hb
   rw[gsOf_len]at hi
   simp only[Bool.and_eq_true,Bool.not_eq_true']at hq
   have:=h5 i (Nat.zero_le _) hi ((h.at hi).full hq.1 v)
   rw[List.contains_eq_mem]at hq
   simp[this]at hq
 have hk:=objR_ok h4 h1' hmi
 rw[hk,ByteArray.size_append,Nat.add_assoc]
theorem readR_forth(h:FGs s x0 P){v:Rcd}(hv:Kd x0 v)(hd:∀o,DOk (v o))(hm:allMay (fsOf P v)=true)(hs:s=layP (fsOf P v)):∃y,readR s (gsOf P) x0=.ok y∧∀i,i<P.length→∀o,o ∈ (gth (gsOf P) i).offs→y o=v o:=by
 obtain⟨y,h1,h2⟩:=objR_forth h hv hd hm (λ i=>rfl) (λ i _ o _=>rfl) (by rw[hs];exact AtF.self _:AtF s 0 (layP (fsOf P v)))
 refine⟨y,?_,h2⟩
 unfold readR
 rw[h1]
 simp only
 rw[←hs,if_neg (by omega)]
end Go.Proofs.YtpobhbdomldecaaGreatDoor
namespace Go.Proofs.YtpobhbdomldecaaGreatDoor
open Go.RowKit
set_option linter.unusedSimpArgs false
set_option linter.unusedVariables false
def partFP(s:ByteArray)(o:Nat):List FPair:=[(gnum s ⟨#[102]⟩ (o+2),numF ⟨#[102]⟩ (o+2)),(gnum s ⟨#[107]⟩ (o+4),numF ⟨#[107]⟩ (o+4)),(gnum s ⟨#[108]⟩ (o+3),numF ⟨#[108]⟩ (o+3)),(gdig s ⟨#[114]⟩ o,digF ⟨#[114]⟩ o),(gnum s ⟨#[119]⟩ (o+1),numF ⟨#[119]⟩ (o+1))]
theorem fgs_part{s:ByteArray}{x0:Rcd}(o:Nat)(hK:KPart x0 o)(h1:x0 (o+1)=.num 0)(h2:x0 (o+2)=.num 0)(h3:x0 (o+3)=.num 0)(h4:x0 (o+4)=.num 0):FGs s x0 (partFP s o):=
 ⟨by
  unfold partFP
  simp only[List.mem_cons,List.not_mem_nil,or_false]
  rintro p (rfl | rfl | rfl | rfl | rfl)
  ·exact fg_num _ _ (by decide) h2
  ·exact fg_num _ _ (by decide) h4
  ·exact fg_num _ _ (by decide) h3
  ·exact fg_dig _ _ (by decide) hK.c0
  ·exact fg_num _ _ (by decide) h1,PartOk s o hK,by show 5≤1000;decide⟩
def partC(root:ByteArray)(weight first life keys:Int):Rcd:=λ i=>match i with | 0=>.str root | 1=>.num weight | 2=>.num first | 3=>.num life | _=>.num keys
theorem part_forth{root:ByteArray}{weight first life keys:Int}(hw:U64i weight)(hf:U64i first)(hl:U64i life)(hk:U64i keys)(hm:allMay (partSpecs root weight first life keys)=true){s:ByteArray}(hs:s=layP (partSpecs root weight first life keys)):
  ∃y,readR s (partGs s 0) part0=.ok y∧(y 0).s=root∧(y 1).n=weight∧(y 2).n=first∧(y 3).n=life∧(y 4).n=keys:=by
 have hkd:Kd part0 (partC root weight first life keys):=λ i=>by
  match i with
  | 0 | 1 | 2 | 3=>rfl
  | i+4=>rfl
 have hdk:∀o,DOk (partC root weight first life keys o):=λ o=>by unfold partC;split <;> first | trivial | assumption
 obtain⟨y,h1,h2⟩:=readR_forth (fgs_part (s:=s) (x0:=part0) 0 ⟨rfl,rfl,rfl,rfl,rfl⟩ rfl rfl rfl rfl) hkd hdk hm hs
 refine⟨y,h1,?_,?_,?_,?_,?_⟩
 ·rw[h2 3 (by show 3<5;decide) 0 (List.mem_singleton.2 rfl)];rfl
 ·rw[h2 4 (by show 4<5;decide) 1 (List.mem_singleton.2 rfl)];rfl
 ·rw[h2 0 (by show 0<5;decide) 2 (List.mem_singleton.2 rfl)];rfl
 ·rw[h2 2 (by show 2<5;decide) 3 (List.mem_singleton.2 rfl)];rfl
 ·rw[h2 1 (by show 1<5;decide) 4 (List.mem_singleton.2 rfl)];rfl
end Go.Proofs.YtpobhbdomldecaaGreatDoor
namespace Go.Proofs.YtpobhbdomldecaaGreatDoor
open Go.RowKit
set_option linter.unusedSimpArgs false
set_option linter.unusedVariables false
theorem catB_size_le{α:Type}(f:α→ByteArray)(M:Nat):∀l:List α,(∀x ∈ l,(f x).size≤M)→(catB (l.map f)).size≤l.length * M
 | [],_=>by simp[catB]
 | x :: r,h=>by
  rw[List.map_cons,catB,ByteArray.size_append,List.length_cons,Nat.succ_mul]
  have h1:=h x (List.mem_cons_self ..);have h2:=catB_size_le f M r (λ y hy=>h y (List.mem_cons_of_mem _ hy))
  omega
theorem layP_size(fs:List FSpec)(M:Nat)(h:∀f ∈ fs,f.key.size≤1∧f.bytes.size≤M):(layP fs).size≤9+fs.length * (M+10):=by
 unfold layP
 rw[ByteArray.size_append]
 have h1:(mapP (keptF fs).length).size≤9:=laidP_len 4 _ ByteArray.empty;have h2:=catB_size_le fieldP (M+10) (keptF fs) (λ f hf=>by
  obtain⟨h3,h4⟩:=h f (List.mem_filter.1 hf).1
  unfold fieldP
  rw[ByteArray.size_append]
  have h5:(strP f.key).size≤9+f.key.size:=laidP_len 2 _ _
  omega)
 have h3:=Nat.mul_le_mul_right (M+10) (kept_le fs)
 omega
theorem numP_size(n:Int):(numP n).size≤9:=laidP_len 0 _ ByteArray.empty
theorem may_all{fs:List FSpec}(h:allMay fs=true):∀f ∈ fs,f.may=true:=List.all_eq_true.1 h
theorem partSz{root:ByteArray}{weight first life keys:Int}(h:allMay (partSpecs root weight first life keys)=true):(layP (partSpecs root weight first life keys)).size≤300:=by
 have hr:root.size=32:=of_decide_eq_true (may_all h ⟨⟨#[114]⟩,true,false,decide (root.size=32),binP root⟩ (by unfold partSpecs;simp));have hb:=binP_len root
 refine Nat.le_trans (layP_size _ 41 λ f hf=>?_) (by decide:9+5 * 51≤300)
 unfold partSpecs at hf
 simp only[List.mem_cons,List.not_mem_nil,or_false]at hf
 rcases hf with rfl | rfl | rfl | rfl | rfl
 ·exact⟨Nat.le_refl _,Nat.le_trans (numP_size _) (by decide)⟩
 ·exact⟨Nat.le_refl _,Nat.le_trans (numP_size _) (by decide)⟩
 ·exact⟨Nat.le_refl _,Nat.le_trans (numP_size _) (by decide)⟩
 ·exact⟨Nat.le_refl _,by show(binP root).size≤41;omega⟩
 ·exact⟨Nat.le_refl _,Nat.le_trans (numP_size _) (by decide)⟩
end Go.Proofs.YtpobhbdomldecaaGreatDoor
namespace Go.Proofs.YtpobhbdomldecaaGreatDoor
open Go.RowKit
set_option linter.unusedSimpArgs false
set_option linter.unusedVariables false
def psp(r:Prt):List FSpec:=partSpecs r.root r.wt r.first r.life r.keys
def pbs(r:Prt):ByteArray:=layP (psp r)
theorem pmay_eq(r:Prt):allMay (psp r)=decide (r.root.size=32):=may_part _ _ _ _ _
theorem pbs_size{r:Prt}(h:allMay (psp r)=true):(pbs r).size≤300:=partSz h
def elP15(l:List Prt):List ByteArray:=l.map pbs
theorem elP15_len(l:List Prt):len (elP15 l)=len l:=by unfold elP15;rw[len_eq,len_eq,List.length_map]
theorem elP15_at(l:List Prt)(i:Nat)(h:i<len l):tth (elP15 l) i=pbs (pnth l i):=by
 have h2:i<l.length:=h
 rw[pnth_eq l i h2]
 unfold tth elP15
 rw[List.getD_eq_getElem?_getD,List.getElem?_map,List.getElem?_eq_getElem h2]
 rfl
theorem elP15_snoc(l:List Prt)(m:Nat)(h:m<len l):elP15 (l.take (m+1))=elP15 (l.take m)++[pbs (pnth l m)]:=by
 unfold elP15
 have h2:m<l.length:=h
 rw[List.take_succ_eq_append_getElem h2,List.map_append,pnth_eq l m h2]
 rfl
theorem check_may{l:List Prt}(h:checkOf l=0){i:Nat}(hi:i<len l):allMay (psp (pnth l i))=true:=by
 have h1:=lackB_none (check_zero h).2.2.1 i hi
 unfold lacksB at h1
 rw[pmay_eq]
 simp at h1
 simp[h1.1]
theorem elP15_size{l:List Prt}(h:checkOf l=0):∀i,i<len (elP15 l)→(tth (elP15 l) i).size≤300:=λ i hi=>by
 rw[elP15_len]at hi
 rw[elP15_at l i hi]
 exact pbs_size (check_may h hi)
def elemsP(l:List Prt):List ByteArray:=if checkOf l=0 then elP15 l else []
def rootP(l:List Prt):ByteArray:=if checkOf l=0 then treeR (elP15 l)else⟨#[]⟩
def ElemsIs(l:List Prt)(w:World)(e:Ending)(w':World):Prop:=∃v,e=.returned (.tuple #[v,.int .i64 (checkOf l)])∧TextsAre (elemsP l) v w'∧Below w.heap.size w w'
end Go.Proofs.YtpobhbdomldecaaGreatDoor
namespace Go.Proofs.YtpobhbdomldecaaGreatDoor
open Go.RowKit
set_option linter.unusedSimpArgs false
set_option linter.unusedVariables false
structure PT(B:Nat)(w:World):Prop where
 p:PTab B w
 s:B≤w.heap.size
theorem PT.below{B:Nat}{w w':World}(h:PT B w)(hb:Below w.heap.size w w'):PT B w':=⟨h.p.keep hb h.s,Nat.le_trans h.s hb.size⟩
end Go.Proofs.YtpobhbdomldecaaGreatDoor
namespace Go.Proofs.YtpobhbdomldecaaGreatDoor
open Go.RowKit
set_option linter.unusedSimpArgs false
set_option linter.unusedVariables false
theorem own_at{base n c:Nat}{w:World}{a:Option Addr}{l:List ByteArray}(h:w.ownsRow base 9 1 (.slice a n c) n (l.map Value.string))(m:Nat)(hm:m<n):∃g,a=some ⟨g,0,none⟩∧base≤g∧w.cell? ⟨g,m,none⟩=some (.string (tth l m))∧w.frozen? ⟨g,m,none⟩=false∧g<w.heap.size:=by
 have hn:l.length=n:=by have:=h.1;simpa using this
 rcases h.2 with⟨hz,h9⟩ | ⟨g9,cap,cur,hv,hg,hh,h1,h2,h3,h4⟩
 ·omega
 ·cases hv
  refine⟨g9,rfl,hg,?_,block_free hh m,lt_of_block hh⟩
  have h5:=h.cellAt m (by omega);have hi2:m<l.length:=by omega
  rw[h5,List.getElem?_map,List.getElem?_eq_getElem hi2,tth_eq l m hi2];rfl
end Go.Proofs.YtpobhbdomldecaaGreatDoor
namespace Go.Proofs.YtpobhbdomldecaaGreatDoor
open Go.RowKit
set_option linter.unusedSimpArgs false
set_option linter.unusedVariables false
theorem own_setk{base n c g m k:Nat}{w:World}{e:TypeId}{xs:List Value}{u:Value}(h:w.ownsRow base e k (.slice (some ⟨g,0,none⟩) n c) n xs):(w.setCell ⟨g,m,none⟩ u).ownsRow base e k (.slice (some ⟨g,0,none⟩) n c) n (xs.set m u):=by
 refine⟨by rw[List.length_set];exact h.1,?_⟩
 rcases h.2 with⟨hz,_⟩ | ⟨g9,cap,cur,hv,hg,hh,h1,h2,h3,h4⟩
 ·cases hz
 ·cases hv
  refine Or.inr ⟨g,c,cur.setIfInBounds m u,rfl,hg,block_setCell hh u,h1,h2,by rw[Array.size_setIfInBounds];exact h3,?_⟩
  rw[Array.toList_setIfInBounds,←h4,List.take_set]
end Go.Proofs.YtpobhbdomldecaaGreatDoor
namespace Go.Proofs.YtpobhbdomldecaaGreatDoor
open Go.RowKit
set_option linter.unusedSimpArgs false
set_option linter.unusedVariables false
set_option maxRecDepth 100000 in
theorem make_szn(k:Nat)(hk:k≤100000):∃cs:Array Value,(∀W:World,(Instr.makeSlice 36 (.int .i64 (k:Nat)) (.int .i64 (k:Nat))).run Tryz.prog W=.ok (.slice (some ⟨W.heap.size,0,none⟩) k k) (W.alloc (.cells cs 9)))∧cs.toList=List.replicate k (.string ⟨#[]⟩):=by
 obtain⟨i0,hi,hz0,hz1,hz2⟩:=info_parts info_str
 have hr:=λ W=>run_make (P:=Tryz.prog) W 36 9 i0 (.string ⟨#[]⟩) Tryz.underlying36 hi hz0 .i64 .i64 k k (by omega) (Int.le_refl _) (by rw[hz2];omega) (by omega)
 refine⟨_,hr,?_⟩
 rw[hz1]
 show(madeCells #[.string ⟨#[]⟩] (k * 1)).toList=_
 rw[toList_madeCells_one,Nat.mul_one]
theorem take_lenP(l:List Prt):l.take (len l)=l:=by rw[len_eq];exact List.take_length
structure PePr(l:List Prt)(w wr:World)(g m:Nat):Prop where
 b:Below w.heap.size w wr
 o:wr.ownsRow w.heap.size 9 1 (.slice (some ⟨g,0,none⟩) (len l) (len l)) (len l) ((elP15 (l.take m)++List.replicate (len l - m) (⟨#[]⟩:ByteArray)).map Value.string)
theorem PePr.start{l:List Prt}{w wr:World}{cs:Array Value}(hn:len l≤100000)(hb:Below w.heap.size w wr)(h:cs.toList=List.replicate (len l) (.string ⟨#[]⟩)):PePr l w (wr.alloc (.cells cs 9)) wr.heap.size 0:=
 have hs:cs.size=len l:=by rw[←Array.length_toList,h,List.length_replicate]
 ⟨balloc hb _,⟨by simp[elP15],.inr ⟨wr.heap.size,len l,cs,rfl,hb.size,heap_alloc_new _ _,Nat.le_refl _,by unfold maxLen;omega,by rw[hs,Nat.mul_one],by rw[h];simp[elP15]⟩⟩⟩
theorem PePr.put{l:List Prt}{w wr:World}{g m:Nat}(h:PePr l w wr g m)(hm:m<len l):(wr.setCell ⟨g,m,none⟩ (.string (pbs (pnth l m)))).ownsRow w.heap.size 9 1 (.slice (some ⟨g,0,none⟩) (len l) (len l)) (len l) ((elP15 (l.take (m+1))++List.replicate (len l - (m+1)) (⟨#[]⟩:ByteArray)).map Value.string):=by
 have h1:=own_setk (m:=m) (u:=.string (pbs (pnth l m))) h.o;have e:((elP15 (l.take m)).map Value.string).length=m:=by
  rw[List.length_map];show len (elP15 (l.take m))=m;rw[elP15_len,len_eq,List.length_take];rw[len_eq]at hm;omega
 rw[List.map_append,List.map_replicate,List.set_append_right _ _ (by omega),e,Nat.sub_self,show len l - m=(len l - (m+1))+1 by omega,List.replicate_succ,List.set_cons_zero]at h1
 rw[elP15_snoc l m hm,List.append_assoc,List.map_append,List.map_append,List.map_replicate]
 exact h1
set_option maxRecDepth 100000 in
set_option maxHeartbeats 4000000 in
theorem pelements_any(B:Nat)(l:List Prt)(a:Option Addr)(cap:Nat)(w:World)(ht:PT B w)(hc:Prts w a l)(ho:∀i,(pnth l i).Ok)(hn:len l≤100000):
  Calls Tryz.prog 30 #[.slice a (len l) cap] w (ElemsIs l w):=by
 have HT:=Lib.hid ht;have HC:=Lib.hid hc;have HO:=Lib.hid ho;have HN:=Lib.hid hn;clear ht hc ho hn
 rcases checkOf_two l with hk | hk
 ·have HK:=Lib.hid hk
  have HE:Hid (elemsP l=elP15 l):=Lib.hid (if_pos hk)
  obtain⟨cs,hmk,hcs⟩:=make_szn (len l) HN.out
  have HCS:=Lib.hid hcs;have HMK:=Lib.hid hmk;clear hcs hmk hk
  go_enter Tryz.func30,Tryz.ntmps30
  go_wp2_with fail
  refine(check_any a cap l w (by have:=HN.out;omega) HC.out HO.out).mono ?_
  rintro e w1 ⟨rfl,hb⟩
  have HB:=Lib.hid hb
  rw[HK.out]
  clear hb;have mk:=HMK.out
  go_wp2_with fail
  go_loopg [20] (len l) (λ gg i wr=>∃m:Nat,gg+m=len l∧i=.int .i64 (m:Nat)∧Hid (PePr l w wr w1.heap.size m))
  case atStart=>exact⟨0,rfl,rfl,Lib.hid (PePr.start HN.out HB.out HCS.out)⟩
  case round=>
   obtain⟨m,hm,rfl,HS⟩:=hrel
   by_cases hlt:m<len l
   ·obtain⟨b,off,rfl,⟨e0,e1,e2,e3,e4⟩⟩:=(HC.out.below HS.out.b) m hlt
    have HRO:=Lib.hid (HO.out m);have HRM:=Lib.hid (check_may HK.out hlt);have HRS:Hid ((pnth l m).root.size=32):=Lib.hid (by have:=HRM.out;rw[pmay_eq]at this;exact of_decide_eq_true this)
    obtain⟨r,hr⟩:∃r,pnth l m=r:=⟨_,rfl⟩
    rw[hr]at e0 e1 e2 e3 e4 HRO HRM HRS
    have HRE:=Lib.hid hr;have b0:(m:Int)<len l:=by omega
    have HLT:=Lib.hid hlt;have HSB:=Lib.hid (HS.out.b);have HTR:=Lib.hid (HT.out.below HS.out.b);clear hr hlt
    go_wp2_with fail
    refine(wpart2_any B r.root r.wt r.first r.life r.keys _ (HTR.out.below (balloc (Below.refl _ _) _)).p (by rw[HRS.out];decide) ⟨HRO.out.wt0,by have:=HRO.out.wt1;omega⟩ ⟨HRO.out.fi0,by have:=HRO.out.fi1;omega⟩ ⟨HRO.out.li0,by have:=HRO.out.li1;omega⟩ ⟨HRO.out.ke0,by have:=HRO.out.ke1;omega⟩ (λ h=>Nat.le_trans (partSz h) (by decide))).mono ?_
    rintro e w2 ⟨rfl,hb⟩
    rw[show allMay (partSpecs r.root r.wt r.first r.life r.keys)=true from HRM.out,if_pos rfl]
    have HB2:Hid (Below w.heap.size w w2):=Lib.hid (bnext (balloc HSB.out _) hb);have HP2:Hid (PePr l w w2 w1.heap.size m):=Lib.hid ⟨HB2.out,own_below (HS.out.o.alloc _) hb⟩;clear hb e0 e1 e2 e3 e4
    obtain⟨g',hg',_,c0,fz⟩:=own_at HP2.out.o m HLT.out
    cases hg'
    have HNN:=HN.out
    go_wp2
    have HP3:=Lib.hid (HP2.out.put HLT.out);have HB3:Hid (Below w.heap.size w (w2.setCell ⟨w1.heap.size,m,none⟩ (.string (pbs (pnth l m))))):=Lib.hid (bset HB2.out HB.out.size _)
    rw[HRE.out]at HP3 HB3
    go_roundg (gk - 1)
    case rel=>exact⟨m+1,by omega,by go_num,Lib.hid ⟨HB3.out,HP3.out⟩⟩
    case measure=>omega
   ·obtain rfl:m=len l:=by omega
    have b0:¬((len l:Nat):Int)<(len l:Nat):=by omega
    have HSO:=Lib.hid HS.out.o
    rw[take_lenP,Nat.sub_self,List.replicate_zero,List.append_nil]at HSO
    have HSB:=Lib.hid HS.out.b
    go_wp2
    go_ret2
    exact⟨.slice (some ⟨w1.heap.size,0,none⟩) (len l) (len l),by rw[HK.out];rfl,by rw[HE.out];exact TextsAre.own HSO.out,HSB.out⟩
 ·have HK:=Lib.hid hk
  have HE:Hid (elemsP l=[]):=Lib.hid (if_neg (by rw[hk];decide));clear hk
  go_enter Tryz.func30,Tryz.ntmps30
  go_wp2_with fail
  refine(check_any a cap l w (by have:=HN.out;omega) HC.out HO.out).mono ?_
  rintro e w1 ⟨rfl,hb⟩
  have HB:=Lib.hid hb
  rw[HK.out]
  clear hb
  go_wp2
  go_ret2
  exact⟨.slice none 0 0,by rw[HK.out];rfl,by rw[HE.out];exact TextsAre.nil _,HB.out⟩
set_option maxRecDepth 100000 in
theorem ptroot_any(B:Nat)(l:List Prt)(a:Option Addr)(cap:Nat)(w:World)(ht:PT B w)(hc:Prts w a l)(ho:∀i,(pnth l i).Ok)(hn:len l≤65536):
  Calls Tryz.prog 32 #[.slice a (len l) cap] w λ e w'=>e=.returned (.tuple #[.string (rootP l),.int .i64 (checkOf l)])∧Below w.heap.size w w':=by
 have HN:=Lib.hid hn;have HW:=Lib.hid (pelements_any B l a cap w ht hc ho (by omega));clear ht hc ho hn
 rcases checkOf_two l with hk | hk
 ·have HK:=Lib.hid hk
  have HE:Hid (elemsP l=elP15 l):=Lib.hid (if_pos hk);have HR:Hid (rootP l=treeR (elP15 l)):=Lib.hid (if_pos hk);clear hk
  go_enter Tryz.func32,Tryz.ntmps32
  go_wp2_with fail
  refine HW.out.mono ?_
  rintro e w1 ⟨v,rfl,hv,hb⟩
  rw[HE.out]at hv
  obtain⟨a9,c9,rfl,hv1,hv2,hv3⟩:=hv
  rw[HK.out]
  have HB:=Lib.hid hb;have HV:=Lib.hid hv1;clear hb hv1 hv2 hv3
  go_wp2_with fail
  refine(build_any (elP15 l) a9 c9 w1 HV.out (by rw[elP15_len];exact HN.out) (λ i hi=>Nat.le_trans (elP15_size HK.out i hi) (by decide))).mono ?_
  rintro e w2 ⟨b,rfl,hs,ht,hb⟩
  have HB2:=Lib.hid (bnext HB.out hb);have HT:=Lib.hid ht;clear hs ht hb
  go_wp2_with fail
  refine(root_any (elP15 l) b w2 HT.out).mono ?_
  rintro e w3 ⟨rfl,rfl⟩
  go_wp2
  go_ret2
  exact⟨by rw[HK.out,HR.out];rfl,HB2.out⟩
 ·have HK:=Lib.hid hk
  have HR:Hid (rootP l=⟨#[]⟩):=Lib.hid (if_neg (by rw[hk];decide));clear hk
  go_enter Tryz.func32,Tryz.ntmps32
  go_wp2_with fail
  refine HW.out.mono ?_
  rintro e w1 ⟨v,rfl,hv,hb⟩
  rw[HK.out]
  have HB:=Lib.hid hb;clear hb hv
  go_wp2
  go_ret2
  exact⟨by rw[HK.out,HR.out];rfl,HB.out⟩
end Go.Proofs.YtpobhbdomldecaaGreatDoor
namespace Go.Proofs.YtpobhbdomldecaaGreatDoor
open Go.RowKit
set_option linter.unusedSimpArgs false
set_option linter.unusedVariables false
theorem nilB:(⟨#[]⟩:ByteArray).toList=[]:=by kernel_rfl
end Go.Proofs.YtpobhbdomldecaaGreatDoor
namespace Go.Proofs.YtpobhbdomldecaaGreatDoor
set_option linter.unusedSimpArgs false
set_option linter.unusedVariables false
open Go.RowKit Go.ChangeShapes Go.WideShapes Go.ChangeAt Go.Deep
section
variable {H : Type} {enc : TypeId × Value → H} {P : Program} {w : World}
theorem below_trodAll(hl:laidOutB P=true){W W':World}(hb:Below W.heap.size W W'):∀{ts:List TypeId} {vs:List Value} {ds:List (DataW H)} {ps:List MemPlace},
  (∀t ∈ ts,P.readableRec t=true∧t<P.types.size)→DataW.TrodAll enc P W 0 (λ _=>true) true ts vs ds ps→DataW.TrodAll enc P W' 0 (λ b=>decide (b<W.heap.size)) true ts vs ds ps
 | [],vs,ds,ps,_,h=>by
  obtain⟨rfl,rfl,rfl⟩:=trodAll_nil h
  exact trodAll_mk0
 | t :: ts,vs,ds,ps,ht,h=>by
  obtain⟨v,vs',d,ds',p,q,rfl,rfl,rfl,h0,r0⟩:=trodAll_cons h
  have lt0:∀x ∈ p,x.block<W.heap.size:=by obtain⟨m,hm⟩:=h0;exact DataW.trod_lt m _ _ _ hm
  exact trodAll_cons_mk (Below.trod hl (ht t (List.mem_cons_self ..)).1 (ht t (List.mem_cons_self ..)).2 h0 hb lt0) (below_trodAll hl hb (λ t' h'=>ht t' (List.mem_cons_of_mem _ h')) r0)
theorem list_of{α:Type}{n:Nat}{p:Nat→α→Prop}(h:∀i,i<n→∃x,p i x):∃l:List α,l.length=n∧∀i (hi:i<l.length),p i l[i]:=by
 induction n with
 | zero=>exact⟨[],rfl,λ i hi=>by simp at hi⟩
 | succ n ih=>
  obtain⟨l,hl,hp⟩:=ih (λ i hi=>h i (by omega))
  obtain⟨x,hx⟩:=h n (by omega)
  refine⟨l++[x],by simp[hl],λ i hi=>?_⟩
  rcases Nat.lt_or_ge i l.length with h' | h'
  ·rw[List.getElem_append_left h'];exact hp i h'
  ·have e:i=l.length:=by simp at hi;omega
   subst e
   simp only[List.getElem_append_right (Nat.le_refl _),Nat.sub_self,List.getElem_cons_zero]
   rw[hl];exact hx
theorem open_elems{α:Type}{t e:TypeId}(k:Nat)(cells:α→List Value)(ok:α→Prop)(ht:P.underlying t=some (.slice e))(hC:P.cellsOf e=k)(hk:0<k)
  (hel:∀n cs' y,cs'.length=k→DataW.trod enc P w 0 (λ _=>true) true n e cs'=some y→∃x,cs'=cells x∧ok x)
  {v:Value} {d:DataW H} {p:List MemPlace} {r:Reach} {base:Nat} (hv:Value.okWide P w r base t v) (h:DataW.Trod enc P w 0 (λ _=>true) true t v d p):
  ∃a c,∃l:List α,v=.slice a (len l) c∧len l≤c∧c≤maxLen∧∀i (hi:i<l.length),ok l[i]∧∃b off,a=some ⟨b,off,none⟩∧∀j,j<k→w.cell? ⟨b,off+i * k+j,none⟩=(cells l[i])[j]?:=by
 obtain⟨a0,n0,c0,rfl⟩:=okWide_slice ht hv
 obtain⟨fuel,hf⟩:=h
 rcases open_slice ht hf with⟨hcs,_⟩ | ⟨a,n,c,m,q,D,Pl,hcs,_,hl,hm,hmm,_,hi⟩
 ·simp[Value.cells]at hcs
  obtain⟨rfl,rfl,rfl⟩:=hcs
  exact⟨none,0,[],rfl,Nat.le_refl _,Nat.zero_le _,λ i hi=>by simp at hi⟩
 ·simp[Value.cells]at hcs
  obtain⟨rfl,rfl,rfl⟩:=hcs
  have hnm:n0≤m:=by rw[hmm];simp;exact hl
  have each:∀i,i<n0→∃x,ok x∧∃b off,some a=some ⟨b,off,none⟩∧∀j,j<k→w.cell? ⟨b,off+i * k+j,none⟩=(cells x)[j]?:=by
   intro i hin
   obtain⟨cs',hc,htr⟩:=hi i (by omega)
   rw[hC]at hc
   obtain⟨_,hcl,hat⟩:=World.cells?_some hc
   obtain⟨x,rfl,hx⟩:=hel q cs' _ hcl htr
   obtain⟨b,off,spot⟩:=a
   have hspot:spot=none:=by
    obtain⟨cs0,hc0,htr0⟩:=hi 0 (by omega)
    rw[hC]at hc0
    obtain⟨_,hcl0,hat0⟩:=World.cells?_some hc0
    have h1:=hat0 0 hk;have h2:cs0[0]?=some (cs0[0]'(by omega)):=List.getElem?_eq_getElem (by omega)
    rw[h2]at h1
    simpa [Addr.add] using World.cell?_spot h1
   subst hspot
   refine⟨x,hx,b,off,rfl,λ j hj=>?_⟩
   have h1:=hat j hj
   rw[Go.Deep.add_add]at h1
   have e:(⟨b,off,none⟩:Addr).add (i * k+j)=⟨b,off+i * k+j,none⟩:=by
    unfold Addr.add;split
    ·rename_i h0;simp <;> omega
    ·simp[Nat.add_assoc]
   rw[e]at h1;exact h1
  obtain⟨l,hll,hp⟩:=list_of each
  subst hll
  exact⟨some a,c0,l,rfl,hl,hm,hp⟩
theorem cell_read{n:Nat}{e:TypeId}{k:IntKind}{v:Value}{y:DataW H × List MemPlace}(he:P.underlying e=some (.int k))(h:DataW.trod enc P w 0 (λ _=>true) true n e [v]=some y):∃x,v=.int k x∧(Lit.int k x).wf=true:=by
 obtain⟨x,hx,_,hw⟩:=DataW.trod_int he h
 exact⟨x,by simpa using hx,hw⟩
theorem wf_u64{x:Int}(h:(Lit.int .u64 x).wf=true):0≤x∧x<18446744073709551616:=by
 simp[Lit.wf,IntKind.min,IntKind.max,IntKind.bits,IntKind.signed]at h;omega
theorem wf_u8{x:Int}(h:(Lit.int .u8 x).wf=true):0≤x∧x≤255:=by
 simp[Lit.wf,IntKind.min,IntKind.max,IntKind.bits,IntKind.signed]at h;omega
end
end Go.Proofs.YtpobhbdomldecaaGreatDoor
namespace Go.Proofs.YtpobhbdomldecaaGreatDoor
set_option linter.unusedSimpArgs false
set_option linter.unusedVariables false
open Go.RowKit Go.ChangeShapes Go.WideShapes Go.ChangeAt
theorem own:ownKnob Tryz.prog.godebug=none:=by kernel_rfl
theorem laidOut:laidOutB Tryz.prog=true:=by kernel_rfl
end Go.Proofs.YtpobhbdomldecaaGreatDoor
namespace Go.Proofs.YtpobhbdomldecaaGreatDoor
open Go.RowKit
set_option linter.unusedSimpArgs false
set_option linter.unusedVariables false
def isOkR(r:Except Flt Rcd):Bool:=match r with | .ok _=>true | .error _=>false
def EvOf(r:Except Flt Rcd)(ev:Value):Prop:=match r with
 | .ok _=>ev=.nilIface
 | .error _=>∃fb,ev=.iface 290 (.pointer (some ⟨fb,0,none⟩))
theorem rqPart_any(B:Nat)(s:ByteArray)(w:World)(h:TE7 B w)(hs:s.size≤9223372036854775807):Calls Tryz.prog 65 #[.string s] w λ e w'=>∃ev,e=.returned (.tuple #[.agg (cellsPart (recV (readR s (partGs s 0) part0) part0)),ev])∧EvOf (readR s (partGs s 0) part0) ev∧Below w.heap.size w w':=by
 refine(reaPart_any B s w h.t h.e h.s h.g hs).mono ?_
 rintro e w' ⟨hb,hh⟩
 cases hr:readR s (partGs s 0) part0 with
 | error f=>
  rw[hr]at hh
  obtain⟨fb,he,hf⟩:=hh
  exact⟨_,he,⟨fb,rfl⟩,hb⟩
 | ok y=>
  rw[hr]at hh
  exact⟨_,hh.2.2,rfl,hb⟩
end Go.Proofs.YtpobhbdomldecaaGreatDoor
namespace Go.Proofs.YtpobhbdomldecaaGreatDoor
open Go.RowKit
set_option linter.unusedSimpArgs false
set_option linter.unusedVariables false
set_option linter.constructorNameAsVariable false
theorem TE7.pt{B:Nat}{w:World}(h:TE7 B w):PT B w:=⟨h.p,h.s⟩
set_option maxHeartbeats 2000000 in
theorem pread_any(B:Nat)(r:Prt)(w:World)(h:TE7 B w)(ho:r.Ok)(hm:allMay (psp r)=true):
  Calls Tryz.prog 65 #[.string (pbs r)] w λ e w'=>e=.returned (.tuple #[.agg #[.string r.root,.int .u64 r.wt,.int .u64 r.first,.int .u64 r.life,.int .u64 r.keys],.nilIface])∧Below w.heap.size w w':=by
 obtain⟨y,hy,e0,e1,e2,e3,e4⟩:=part_forth (root:=r.root) (weight:=r.wt) (first:=r.first) (life:=r.life) (keys:=r.keys) ⟨ho.wt0,by have:=ho.wt1;omega⟩ ⟨ho.fi0,by have:=ho.fi1;omega⟩ ⟨ho.li0,by have:=ho.li1;omega⟩ ⟨ho.ke0,by have:=ho.ke1;omega⟩ hm (s:=pbs r) rfl
 refine(rqPart_any B _ w h (Nat.le_trans (pbs_size hm) (by decide))).mono ?_
 rintro e w' ⟨ev,he,hev,hb⟩
 rw[hy]at he hev
 have hev:ev=.nilIface:=hev;have he:e=.returned (.tuple #[.agg (cellsPart y),ev]):=he
 unfold cellsPart at he
 rw[e0,e1,e2,e3,e4,hev]at he
 exact⟨he,hb⟩
theorem run_oneO(b o n c k:Nat)(h:k<n)(hc:n≤c)(w:World):(Instr.slice 36 (.slice (some ⟨b,o,none⟩) n c) (some (.int .u64 (k:Nat))) (some (.int .u64 ((k:Nat)+1))) none).run Tryz.prog w=.ok (.slice (some ⟨b,o+k,none⟩) 1 (c - k)) w:=by
 have h1:k+1≤c:=by omega
 have h2:¬c=k:=by omega
 have h3:((k:Nat):Int)+1=((k+1:Nat):Int):=by omega
 rw[h3]
 simp[go_sem,h1,h2]
 try omega
theorem txts_oneO{w:World}{b o:Nat}{L:List ByteArray}(h:Txts w (some ⟨b,o,none⟩) L){k:Nat}(hk:k<len L):Txts w (some ⟨b,o+k,none⟩) [tth L k]:=λ i hi=>by
 have hi:i<1:=hi
 obtain rfl:i=0:=by omega
 obtain⟨b9,o9,e,hc⟩:=h k hk
 cases e
 exact⟨b,o+k,rfl,hc⟩
theorem plays_any(B:Nat)(r:Prt)(w:World)(h:TE7 B w)(ho:r.Ok)(hm:allMay (psp r)=true):
  Calls Tryz.prog 41 #[.agg #[.string r.root,.int .u64 r.wt,.int .u64 r.first,.int .u64 r.life,.int .u64 r.keys]] w λ e w'=>e=.returned (.tuple #[.string (pbs r),.int .i64 0])∧Below w.heap.size w w':=by
 have hs:r.root.size=32:=by rw[pmay_eq]at hm;exact of_decide_eq_true hm
 refine(wpart2_any B r.root r.wt r.first r.life r.keys w h.p (by rw[hs];decide) ⟨ho.wt0,by have:=ho.wt1;omega⟩ ⟨ho.fi0,by have:=ho.fi1;omega⟩ ⟨ho.li0,by have:=ho.li1;omega⟩ ⟨ho.ke0,by have:=ho.ke1;omega⟩ (λ h=>Nat.le_trans (partSz h) (by decide))).mono ?_
 rintro e w' ⟨rfl,hb⟩
 rw[show allMay (partSpecs r.root r.wt r.first r.life r.keys)=true from hm,if_pos rfl]
 exact⟨rfl,hb⟩
set_option maxRecDepth 100000 in
set_option maxHeartbeats 8000000 in
theorem pproves_law(B:Nat)(l:List Prt)(a:Option Addr)(cap A:Nat)(w:World)(ht:TE7 B w)(hlen:len l≤9223372036854775807)(hc:Prts w a l)(hok:∀i,(pnth l i).Ok)(hA:A≤255):
  Calls Tryz.prog 14 #[.slice a (len l) cap,.int .u8 (A:Nat)] w λ e w'=>e=.returned (.bool true)∧Below w.heap.size w w':=by
 have HC:=Lib.hid hc;have HO0:=Lib.hid hok;have HT:=Lib.hid ht;have HA:=Lib.hid hA;have HLL:=Lib.hid hlen;clear hc hok ht hA hlen
 go_enter Tryz.func14,Tryz.ntmps14
 go_wp2_with fail
 refine(works15_any w).mono ?_
 rintro e w1 ⟨rfl,hb⟩
 have B1:=Lib.hid hb;clear hb
 go_wp2_with fail
 refine(short_any a cap l w1 HLL.out (HC.out.below B1.out)).mono ?_
 rintro e w2 ⟨v,rfl,hown,hb2⟩
 obtain⟨L,hLd⟩:∃L,L=shortOf l:=⟨_,rfl⟩
 have HO:=Lib.hid (shortOf_ok HO0.out);have hl30:=shortOf_len l
 rw[←hLd]at hown HO hl30
 have B2:=Lib.hid (bnext B1.out hb2)
 obtain⟨la,lc,rfl,hP,hlc⟩:=Prts.own hown
 have HP:=Lib.hid hP;have HL:=Lib.hid hl30;clear hown hb2 hLd hP HO0 HC hlc hl30 HLL;have HCK:=Lib.hid (λ w9 hp=>check_any la lc L w9 (by have:=HL.out;omega) hp HO.out)
 go_wp2_with fail
 refine(ptroot_any B L la lc w2 (HT.out.pt.below B2.out) HP.out HO.out (by have:=HL.out;omega)).mono ?_
 rintro e w3 ⟨rfl,hb⟩
 have B3:=Lib.hid (bnext B2.out hb);have HP3:=Lib.hid (HP.out.below hb);clear hb
 rcases checkOf_two L with hk | hk
 ·have HK:=Lib.hid hk
  have HE:Hid (elemsP L=elP15 L):=Lib.hid (if_pos hk);have HR:Hid (rootP L=treeR (elP15 L)):=Lib.hid (if_pos hk);have HS:=Lib.hid (elP15_size hk);have HPOS:Hid (0<len L):=Lib.hid (check_zero hk).1
  rw[hk]at HCK ⊢
  clear hk
  rw[HR.out]
  obtain⟨R,hR⟩:∃R,treeR (elP15 L)=R:=⟨_,rfl⟩
  have HRD:=Lib.hid hR
  rw[hR]
  clear hR
  go_wp2_with fail
  refine(pelements_any B L la lc w3 (HT.out.pt.below B3.out) HP3.out HO.out (by have:=HL.out;omega)).mono ?_
  rintro e w4 ⟨v1,rfl,hv1,hb⟩
  rw[HE.out]at hv1
  have B4:=Lib.hid (bnext B3.out hb);have HP4:=Lib.hid (HP3.out.below hb)
  obtain⟨a1,c1,rfl,hv1,hc1,hn1⟩:=hv1
  rw[elP15_len]at hc1 ⊢
  have HV4:=Lib.hid hv1;have HC1:=Lib.hid (And.intro hc1 hn1)
  rw[HK.out]
  clear hb hv1 hc1 hn1;have z0:¬len L=0:=by have:=HPOS.out;omega
  have z1:(((len L:Nat):Int) == 0)=false:=by simp;exact z0
  go_wp2_with fail
  refine(HCK.out w4 HP4.out).mono ?_
  rintro e w5 ⟨rfl,hb⟩
  have B5:=Lib.hid (bnext B4.out hb);have HP5:=Lib.hid (HP4.out.below hb);have HV5:=Lib.hid (HV4.out.below hb);clear hb z0 z1
  obtain⟨els,hels⟩:∃els,elP15 L=els:=⟨_,rfl⟩
  have HEL:Hid (len els=len L):=Lib.hid (by rw[←hels,elP15_len]);have HEA:Hid (∀i,i<len L→tth els i=pbs (pnth L i)):=Lib.hid (λ i hi=>by rw[←hels,elP15_at L i hi])
  rw[hels]at HRD HS HV5
  clear hels HV4 HE HR;have HMY:=Lib.hid (λ i (hi:i<len L)=>check_may HK.out hi);have HT5:Hid (TE7 B w5):=Lib.hid (HT.out.below B5.out)
  go_wp2_with fail
  go_loopg [9] (len L) (λ gg i wr=>∃m:Nat,gg+m=len L∧i=.int .i64 (m:Nat)∧Hid (Below w5.heap.size w5 wr))
  case atStart=>exact⟨0,rfl,rfl,Lib.hid (Below.refl _ _)⟩
  case round=>
   obtain⟨m,hm,rfl,HW⟩:=hrel
   by_cases hlt:m<len L
   ·have b0:(m:Int)<len L:=by omega
    have HLT:=Lib.hid hlt;have HM:=Lib.hid hm;have HPr:=Lib.hid (HP5.out.below HW.out);have HVr:=Lib.hid (HV5.out.below HW.out);have HTr:=Lib.hid (HT5.out.below HW.out)
    obtain⟨pb,po,rfl,⟨e0,e1,e2,e3,e4⟩⟩:=HPr.out m hlt
    obtain⟨eb,eo,rfl,d0⟩:=HVr.out m (by rw[HEL.out];exact hlt)
    have HRO:=Lib.hid (HO.out m);have HRM:=Lib.hid (HMY.out m hlt);have HRA:=Lib.hid (HEA.out m hlt)
    rw[HRA.out]at d0
    obtain⟨r,hr⟩:∃r,pnth L m=r:=⟨_,rfl⟩
    rw[hr]at e0 e1 e2 e3 e4 d0 HRO HRM HRA
    have HRE:=Lib.hid hr;clear hr hlt hm;have HLI:len L≤30:=HL.out
    go_wp2_with fail
    refine(plays_any B r wr HTr.out HRO.out HRM.out).mono ?_
    rintro e x1 ⟨rfl,hb⟩
    have HX1:=Lib.hid hb
    obtain⟨_,_,he,d1⟩:=(HVr.out.below HX1.out) m (by rw[HEL.out];exact HLT.out)
    cases he
    rw[HRA.out]at d1
    clear hb d0 e0 e1 e2 e3 e4
    go_wp2_with fail
    refine(pread_any B r x1 (HTr.out.below HX1.out) HRO.out HRM.out).mono ?_
    rintro e x2 ⟨rfl,hb⟩
    have HX2:=Lib.hid (bnext HX1.out hb);clear hb d1
    go_upto_region 15 with fail
    obtain⟨V,hV⟩:∃V,x2.alloc (.cells #[.string r.root,.int .u64 r.wt,.int .u64 r.first,.int .u64 r.life,.int .u64 r.keys] 53)=V:=⟨_,rfl⟩
    obtain⟨xb,hxb⟩:∃xb,x2.heap.size=xb:=⟨_,rfl⟩
    have HVB:Hid (Below wr.heap.size wr V):=Lib.hid (by rw[←hV];exact balloc HX2.out _);have HVX:Hid (V.heap[xb]?=some (.cells #[.string r.root,.int .u64 r.wt,.int .u64 r.first,.int .u64 r.life,.int .u64 r.keys] 53 (0,0))):=Lib.hid (by rw[←hV,←hxb];exact heap_alloc_new _ _)
    rw[hV,hxb]
    clear hV hxb
    obtain⟨_,_,he,⟨e0,e1,e2,e3,e4⟩⟩:=(HPr.out.below HVB.out) m HLT.out
    cases he
    obtain⟨_,_,he,d1⟩:=(HVr.out.below HVB.out) m (by rw[HEL.out];exact HLT.out)
    cases he
    rw[HRE.out]at e0 e1 e2 e3 e4
    rw[HRA.out]at d1
    have x0:V.cell? ⟨xb,0,none⟩=some (.string r.root):=block_cell HVX.out 0;have x1:V.cell? ⟨xb,1,none⟩=some (.int .u64 r.wt):=block_cell HVX.out 1;have x2:V.cell? ⟨xb,2,none⟩=some (.int .u64 r.first):=block_cell HVX.out 2;have x3:V.cell? ⟨xb,3,none⟩=some (.int .u64 r.life):=block_cell HVX.out 3;have x4:V.cell? ⟨xb,4,none⟩=some (.int .u64 r.keys):=block_cell HVX.out 4
    obtain⟨s,hs⟩:∃s,pbs r=s:=⟨_,rfl⟩
    rw[hs]at d1 ⊢
    clear hs;have rr:(s.toList != s.toList)=false:=by unfold bne;rw[str_beq,decide_eq_true rfl];rfl
    have rq:(r.root.toList == r.root.toList)=true:=by rw[str_beq,decide_eq_true rfl]
    go_quiet (fail)
    go_wp2
    go_roundg (gk - 1)
    case rel=>exact⟨m+1,by have:=HM.out;have:=HLT.out;omega,by go_num,Lib.hid (bnext HW.out (bdrewN HVB.out _))⟩
    case measure=>have:=HM.out;have:=HLT.out;omega
   ·obtain rfl:m=len L:=by omega
    have b0:¬((len L:Nat):Int)<(len L:Nat):=by omega
    have HBL:=Lib.hid (build_any els a1 c1 wr (HV5.out.below HW.out) (by rw[HEL.out];have:=HL.out;omega) (λ i hi=>Nat.le_trans (HS.out i hi) (by decide)))
    rw[HEL.out]at HBL
    go_wp2_with fail
    refine HBL.out.mono ?_
    rintro e x1 ⟨tp,rfl,htp,htr,hb⟩
    have HX1:=Lib.hid hb;have HTR:=Lib.hid htr;clear htp htr hb HBL;have rr:(R.toList != R.toList)=false:=by unfold bne;rw[str_beq,decide_eq_true rfl];rfl
    go_wp2_with fail
    refine(root_any els tp x1 HTR.out).mono ?_
    rintro e x2 ⟨rfl,rfl⟩
    rw[show plD els (depN els) (depN els) 0=R from HRD.out]
    obtain⟨k,hk⟩:∃k:Nat,A % len L=k:=⟨_,rfl⟩
    have HKL:Hid (k<len L):=Lib.hid (by rw[←hk];exact Nat.mod_lt _ HPOS.out);have HKE:Hid (k<len els):=Lib.hid (by rw[HEL.out];exact HKL.out);have w1:IntKind.u64.wrap ((A:Nat):Int)=((A:Nat):Int):=by have:=HA.out;exact IntWalk.u64_in _ (by omega)
    have w2:IntKind.u64.wrap ((len L:Nat):Int)=((len L:Nat):Int):=by have:=HL.out;exact IntWalk.u64_in _ (by omega)
    have z3:¬len L=0:=by have:=HPOS.out;omega
    have kk:((A:Nat):Int) % ((len L:Nat):Int)=((k:Nat):Int):=by rw[←hk];simp
    clear hk
    go_upto_region 21 with fail
    rw[kk]
    clear z3 kk w1 w2 rr;have HLE:Hid (len els≤65536):=Lib.hid (by rw[HEL.out];have:=HL.out;omega)
    go_wp2_with fail
    refine(prove_ok els tp [((k:Nat):Int)] (some ⟨x1.heap.size,0,none⟩) 1 _ (HTR.out.below (balloc (Below.refl _ _) _)) HLE.out (λ i hi=>⟨_,0,rfl,by
     have hi:i<1:=hi
     obtain rfl:i=0:=by omega
     rw[block_cell (heap_alloc_new _ _)];rfl⟩) (by show 1≤100;decide) (one_u64 HLE.out HKE.out) (one_may HKE.out)).mono ?_
    rintro e x3 ⟨v7,rfl,ho7,hb⟩
    have HX3:Hid (Below wr.heap.size wr x3):=Lib.hid (bnext (balloc HX1.out _) hb);have HTR3:=Lib.hid (HTR.out.below (bnext (balloc (Below.refl _ _) _) hb))
    obtain⟨D,hD⟩:∃D,dgsL els (plcL (len els:Nat) [((k:Nat):Int)])=D:=⟨_,rfl⟩
    have HD:Hid (oneD els k=D):=Lib.hid hD
    rw[hD]at ho7
    obtain⟨a7,c7,rfl,ht7,hc7,_⟩:=TextsAre.own ho7
    have HT7:=Lib.hid ht7;have HC7:=Lib.hid hc7;have HDL:Hid (len D=depN els):=Lib.hid (by rw[←HD.out];exact oneD_len HLE.out);clear hb ho7 ht7 hc7 hD
    rw[HDL.out]
    have HV3:=Lib.hid ((HV5.out.below HW.out).below HX3.out)
    go_wp2_with fail
    refine(tdepth_any els tp x3 HTR3.out).mono ?_
    rintro e x4 ⟨rfl,rfl⟩
    obtain⟨g9,o9,rfl,-⟩:=HV3.out k HKE.out
    have HB3:Hid (Below w.heap.size w x3):=Lib.hid (bnext (bnext B5.out HW.out) HX3.out);have kw:IntKind.u64.wrap (((k:Nat):Int)+1)=((k:Nat):Int)+1:=by have:=HL.out;have:=HKL.out;exact IntWalk.u64_in _ (by omega)
    have sl:=run_oneO g9 o9 (len L) c1 k HKL.out HC1.out.1
    go_wp2_with fail
    clear kw sl;have HPR:Hid (PrIn [((k:Nat):Int)] [tth els k] D (some ⟨x3.heap.size,0,none⟩) (some ⟨g9,o9+k,none⟩) a7 c7 (x3.alloc (.cells #[.int .u64 (k:Nat)] 23))):=Lib.hid
     { p:=λ i hi=>⟨_,0,rfl,by
        have hi:i<1:=hi
        obtain rfl:i=0:=by omega
        rw[block_cell (heap_alloc_new _ _)];rfl⟩
       e:=txts_oneO (HV3.out.below (balloc (Below.refl _ _) _)) HKE.out
       d:=HT7.out.below (balloc (Below.refl _ _) _)
       pl:=by show 1≤100;decide
       pu:=one_u64 HLE.out HKE.out
       el:=by show 1≤1000000;decide
       dl:=by rw[HDL.out];have:=depN_le HLE.out;omega
       dc_:=HC7.out
       ez:=λ i hi=>by
        have hi:i<1:=hi
        obtain rfl:i=0:=by omega
        exact Nat.le_trans (HS.out k HKE.out) (by decide) }
    have HPC:=Lib.hid (pcheck_any R (len els:Nat) [((k:Nat):Int)] [tth els k] D _ _ a7 1 (c1 - k) c7 _ HPR.out (by have:=HLE.out;omega) (by have:=HLE.out;omega))
    rw[show checkE R (len els:Nat) [((k:Nat):Int)] [tth els k] D=0 by rw[←HRD.out,←HD.out];exact one_check HLE.out HKE.out]at HPC
    rw[HEL.out,HDL.out]at HPC
    refine HPC.out.mono ?_
    rintro e x5 ⟨rfl,hb⟩
    have HBE:Hid (Below w.heap.size w x5):=Lib.hid (bnext HB3.out (bnext (balloc (Below.refl _ _) _) hb));clear hb HPC HPR
    go_wp2
    go_ret
    exact⟨rfl,HBE.out⟩
 ·have HK:=Lib.hid hk
  have HE:Hid (elemsP L=[]):=Lib.hid (if_neg (by rw[hk];decide));have HR:Hid (rootP L=⟨#[]⟩):=Lib.hid (if_neg (by rw[hk];decide))
  rw[hk]at HCK ⊢
  rw[HR.out]
  clear hk
  go_wp2_with fail
  refine(pelements_any B L la lc w3 (HT.out.pt.below B3.out) HP3.out HO.out (by have:=HL.out;omega)).mono ?_
  rintro e w4 ⟨v1,rfl,hv1,hb⟩
  rw[HE.out]at hv1
  obtain⟨a1,c1,rfl,-,-,-⟩:=hv1
  rw[HK.out,show len ([]:List ByteArray)=0 from rfl]
  have B4:=Lib.hid (bnext B3.out hb);have HP4:=Lib.hid (HP3.out.below hb);clear hb;have nb:=nilB
  go_wp2_with fail
  refine(HCK.out w4 HP4.out).mono ?_
  rintro e w5 ⟨rfl,hb⟩
  have B5:=Lib.hid (bnext B4.out hb);clear hb
  go_wp2
  go_ret
  exact⟨rfl,B5.out⟩
end Go.Proofs.YtpobhbdomldecaaGreatDoor
namespace Go.Proofs.YtpobhbdomldecaaGreatDoor
set_option linter.unusedSimpArgs false
set_option linter.unusedVariables false
open Go.RowKit Go.ChangeShapes Go.WideShapes Go.ChangeAt
section
variable {P : Program} {H : Type} {enc : TypeId × Value → H} {w : World}
theorem str_read{n:Nat}{e:TypeId}{v:Value}{y:DataW H × List MemPlace}(he:P.underlying e=some .string)(h:DataW.trod enc P w 0 (λ _=>true) true n e [v]=some y):∃s:ByteArray,v=.string s∧s.size≤maxLen:=by
 obtain⟨s,hx,_,hw⟩:=DataW.trod_string he h
 exact⟨s,by simpa using hx,hw⟩
end
set_option maxRecDepth 100000 in
theorem open_prts{H:Type}{enc:TypeId × Value→H}{w:World}{v:Value}{d:DataW H}{p:List MemPlace}{r:Reach}{base:Nat}(hv:Value.okWide Tryz.prog w r base 43 v)(h:DataW.Trod enc Tryz.prog w 0 (λ _=>true) true 43 v d p):
  ∃a c,∃l:List Prt,v=.slice a (len l) c∧len l≤c∧c≤maxLen∧Prts w a l∧∀i,(pnth l i).Ok:=by
 obtain⟨a,c,l,rfl,h1,h2,h3⟩:=open_elems 5 Prt.cells Prt.Ok Tryz.underlying43 (by kernel_rfl) (by decide) (λ n cs' y hl hy=>by
  match cs',hl with
  | [v0,v1,v2,v3,v4],_=>
   obtain⟨xs,m,_,_,_,hxl,hx⟩:=DataW.trod_struct Tryz.underlying53 hy
   have cu:Tryz.prog.cellsOf 23=1:=by kernel_rfl
   have cs:Tryz.prog.cellsOf 9=1:=by kernel_rfl
   have hxl':xs.length=5:=hxl;have h0:DataW.trod enc Tryz.prog w 0 (λ _=>true) true m 9 (([v0,v1,v2,v3,v4].drop 0).take (Tryz.prog.cellsOf 9))=xs[0]?:=hx 0 _ rfl;have h1:DataW.trod enc Tryz.prog w 0 (λ _=>true) true m 23 (([v0,v1,v2,v3,v4].drop 1).take (Tryz.prog.cellsOf 23))=xs[1]?:=hx 1 _ rfl;have h2:DataW.trod enc Tryz.prog w 0 (λ _=>true) true m 23 (([v0,v1,v2,v3,v4].drop 2).take (Tryz.prog.cellsOf 23))=xs[2]?:=hx 2 _ rfl;have h3:DataW.trod enc Tryz.prog w 0 (λ _=>true) true m 23 (([v0,v1,v2,v3,v4].drop 3).take (Tryz.prog.cellsOf 23))=xs[3]?:=hx 3 _ rfl;have h4:DataW.trod enc Tryz.prog w 0 (λ _=>true) true m 23 (([v0,v1,v2,v3,v4].drop 4).take (Tryz.prog.cellsOf 23))=xs[4]?:=hx 4 _ rfl
   rw[cs]at h0
   rw[cu]at h1 h2 h3 h4
   obtain⟨x0,rfl,w0⟩:=str_read Tryz.underlying9 (h0.trans (List.getElem?_eq_getElem (by omega:0<xs.length)))
   obtain⟨x1,rfl,w1⟩:=cell_read Tryz.underlying23 (h1.trans (List.getElem?_eq_getElem (by omega:1<xs.length)))
   obtain⟨x2,rfl,w2⟩:=cell_read Tryz.underlying23 (h2.trans (List.getElem?_eq_getElem (by omega:2<xs.length)))
   obtain⟨x3,rfl,w3⟩:=cell_read Tryz.underlying23 (h3.trans (List.getElem?_eq_getElem (by omega:3<xs.length)))
   obtain⟨x4,rfl,w4⟩:=cell_read Tryz.underlying23 (h4.trans (List.getElem?_eq_getElem (by omega:4<xs.length)))
   exact⟨⟨x0,x1,x2,x3,x4⟩,rfl,Prt.Ok.mk (wf_u64 w1).1 (wf_u64 w1).2 (wf_u64 w2).1 (wf_u64 w2).2 (wf_u64 w3).1 (wf_u64 w3).2 (wf_u64 w4).1 (wf_u64 w4).2⟩) hv h
 refine⟨a,c,l,rfl,h1,h2,λ i hi=>?_,λ i=>?_⟩
 ·obtain⟨_,b,off,e1,e2⟩:=h3 i hi
  rw[pnth_eq l i hi]
  exact⟨b,off,e1,by have:=e2 0 (by decide);rwa [Nat.add_zero]at this,e2 1 (by decide),e2 2 (by decide),e2 3 (by decide),e2 4 (by decide)⟩
 ·rcases Nat.lt_or_ge i l.length with hi | hi
  ·rw[pnth_eq l i hi];exact(h3 i hi).1
  ·have:pnth l i=Prt.zero:=by unfold pnth;rw[List.getD_eq_getElem?_getD,List.getElem?_eq_none hi];rfl
   rw[this];exact Prt.zero_ok
end Go.Proofs.YtpobhbdomldecaaGreatDoor
namespace Go.Proofs.YtpobhbdomldecaaGreatDoor
set_option linter.unusedSimpArgs false
set_option linter.unusedVariables false
open Go.RowKit Go.ChangeShapes Go.WideShapes Go.ChangeAt
def rowD(r:URow):DataW Unit:=.agg [.lit (.int .u8 r.lo),.lit (.int .u8 r.hi),.lit (.int .i64 r.size),.lit (.int .u64 r.least)]
set_option maxRecDepth 100000 in
theorem laid_row{w:World}{fuel:Nat}{cs':List Value}{r:URow}{q:List MemPlace}(hl:cs'.length=4)(h:DataW.trod (λ _=>()) Tryz.prog w 0 (λ _=>true) false fuel 342 cs'=some (rowD r,q)):cs'=r.cells:=by
 match cs',hl with
 | [v0,v1,v2,v3],_=>
  obtain⟨xs,m,_,e,_,hxl,hx⟩:=DataW.trod_struct Tryz.underlying342 h
  have cu:Tryz.prog.cellsOf 5=1:=by kernel_rfl
  have ci:Tryz.prog.cellsOf 3=1:=by kernel_rfl
  have cq:Tryz.prog.cellsOf 23=1:=by kernel_rfl
  have hxl':xs.length=4:=hxl;have h0:DataW.trod (λ _=>()) Tryz.prog w 0 (λ _=>true) false m 5 (([v0,v1,v2,v3].drop 0).take (Tryz.prog.cellsOf 5))=xs[0]?:=hx 0 _ rfl;have h1:DataW.trod (λ _=>()) Tryz.prog w 0 (λ _=>true) false m 5 (([v0,v1,v2,v3].drop 1).take (Tryz.prog.cellsOf 5))=xs[1]?:=hx 1 _ rfl;have h2:DataW.trod (λ _=>()) Tryz.prog w 0 (λ _=>true) false m 3 (([v0,v1,v2,v3].drop 2).take (Tryz.prog.cellsOf 3))=xs[2]?:=hx 2 _ rfl;have h3:DataW.trod (λ _=>()) Tryz.prog w 0 (λ _=>true) false m 23 (([v0,v1,v2,v3].drop 3).take (Tryz.prog.cellsOf 23))=xs[3]?:=hx 3 _ rfl
  rw[cu]at h0 h1
  rw[ci]at h2
  rw[cq]at h3
  match xs,hxl' with
  | [x0,x1,x2,x3],_=>
   obtain⟨n0,e0,y0,_⟩:=DataW.trod_int Tryz.underlying5 (show DataW.trod (λ _=>()) Tryz.prog w 0 (λ _=>true) false m 5 [v0]=some x0 from h0)
   obtain⟨n1,e1,y1,_⟩:=DataW.trod_int Tryz.underlying5 (show DataW.trod (λ _=>()) Tryz.prog w 0 (λ _=>true) false m 5 [v1]=some x1 from h1)
   obtain⟨n2,e2,y2,_⟩:=DataW.trod_int Tryz.underlying3 (show DataW.trod (λ _=>()) Tryz.prog w 0 (λ _=>true) false m 3 [v2]=some x2 from h2)
   obtain⟨n3,e3,y3,_⟩:=DataW.trod_int Tryz.underlying23 (show DataW.trod (λ _=>()) Tryz.prog w 0 (λ _=>true) false m 23 [v3]=some x3 from h3)
   subst y0 y1 y2 y3
   simp[rowD]at e e0 e1 e2 e3
   obtain⟨⟨a0,a1,a2,a3⟩,_⟩:=e
   subst e0 e1 e2 e3
   unfold URow.cells
   rw[a0,a1,a2,a3]
set_option maxRecDepth 100000 in
theorem laid_rows{w:World}{fuel:Nat}{cs:List Value}{l:List URow}{p:List MemPlace}(h:DataW.trod (λ _=>()) Tryz.prog w 0 (λ _=>true) false fuel 308 cs=some (.slice (l.map rowD) [],p))(hl:0<len l):
  ∃tb tq rc,cs=[.slice (some ⟨tb,tq,none⟩) (len l) rc]∧URows w (some ⟨tb,tq,none⟩) l:=by
 have hC:Tryz.prog.cellsOf 342=4:=by kernel_rfl
 rcases Go.Deep.open_slice Tryz.underlying308 h with⟨_,hx⟩ | ⟨a,n,c,m,q,D,Pl,hcs,_,hln,hm,hmm,hx,hi⟩
 ·simp at hx
 ·simp only[Prod.mk.injEq,DataW.slice.injEq]at hx
  obtain⟨⟨hD,_⟩,_⟩:=hx
  have hn:len l=n:=by have:=congrArg List.length hD;simpa [len] using this
  have hnm:n≤m:=by rw[hmm];simp;exact hln
  have each:∀i,i<len l→∃b off,a=⟨b,off,none⟩∧URowAt w b (off+i * 4) (unth l i):=λ i hil=>by
   obtain⟨cs',hc,htr⟩:=hi i (by omega)
   rw[hC]at hc
   obtain⟨_,hcl,hat⟩:=World.cells?_some hc
   have hDi:D i=rowD (unth l i):=by
    have h1:(l.map rowD)[i]?=((List.range n).map D)[i]?:=by rw[hD]
    have hil':i<l.length:=hil
    rw[List.getElem?_map,List.getElem?_map,List.getElem?_eq_getElem hil',List.getElem?_range (by omega)]at h1
    rw[unth_eq l i hil]
    exact(Option.some.inj h1).symm
   rw[hDi]at htr
   have hcs':=laid_row hcl htr
   obtain⟨b,off,spot⟩:=a
   have hat0:=hat 0 (by decide)
   rw[hcs']at hat
   have hspot:spot=none:=by
    obtain⟨cs0,hc0,htr0⟩:=hi 0 (by omega)
    rw[hC]at hc0
    obtain⟨_,hcl0,hat0⟩:=World.cells?_some hc0
    have h1:=hat0 0 (by decide);have h2:cs0[0]?=some (cs0[0]'(by omega)):=List.getElem?_eq_getElem (by omega)
    rw[h2]at h1
    simpa [Addr.add] using World.cell?_spot h1
   subst hspot
   have key:∀j,j<4→w.cell? ⟨b,off+i * 4+j,none⟩=(unth l i).cells[j]?:=λ j hj=>by
    have h1:=hat j hj
    rw[Go.Deep.add_add]at h1
    have e:(⟨b,off,none⟩:Addr).add (i * 4+j)=⟨b,off+i * 4+j,none⟩:=by
     unfold Addr.add;split
     ·rename_i h0;simp <;> omega
     ·simp[Nat.add_assoc]
    rw[e]at h1;exact h1
   exact⟨b,off,rfl,key 0 (by decide),key 1 (by decide),key 2 (by decide),key 3 (by decide)⟩
  obtain⟨b,off,rfl,_⟩:=each 0 hl
  refine⟨b,off,c,by rw[hn];exact hcs,λ i hil=>?_⟩
  obtain⟨b',off',e,hR⟩:=each i hil
  cases e
  exact⟨b,off,rfl,hR⟩
theorem tab_of{W:World}{nm:String}{g:Nat}{l:List URow}{cs:Array Value}{fuel:Nat}{p:List MemPlace}(hl:0<len l)(hg:Tryz.prog.globalNamed nm=some g)(hv:W.var? Tryz.prog nm=some cs)
  (h:DataW.trod (λ _=>()) Tryz.prog W 0 (λ _=>true) false fuel 308 cs.toList=some (.slice (l.map rowD) [],p)):TabAt W.heap.size W g l:=by
 obtain⟨tb,tq,rc,hcs,hr⟩:=laid_rows h hl
 have hc:W.cell? ⟨g,0,none⟩=some (.slice (some ⟨tb,tq,none⟩) (len l) rc):=by
  have:=World.var?_cell hg hv 0
  rw[Array.eq_one_of_toList hcs]at this
  simpa using this
 obtain⟨b',off',e,hR⟩:=hr 0 hl
 cases e
 exact⟨tb,tq,rc,lt_of_cell hc,lt_of_cell hR.c0,Nat.le_refl _,hc,hr⟩
theorem oneRow:((List.range Tryz.prog.types.size).filter λ t=>Tryz.prog.rowNamed t [101,114,114,111,114])=[89]:=by kernel_rfl
end Go.Proofs.YtpobhbdomldecaaGreatDoor
namespace Go.Proofs.YtpobhbdomldecaaGreatDoor
set_option linter.unusedSimpArgs false
set_option linter.unusedVariables false
open Go.RowKit Go.ChangeShapes Go.WideShapes Go.ChangeAt
def rowD5(r:PRow):DataW Unit:=.agg [.lit (.int .u64 r.below),.lit (.int .u8 r.first),.lit (.int .i64 r.size)]
set_option maxRecDepth 100000 in
theorem laid_prow{w:World}{fuel:Nat}{cs':List Value}{r:PRow}{q:List MemPlace}(hl:cs'.length=3)(h:DataW.trod (λ _=>()) Tryz.prog w 0 (λ _=>true) false fuel 336 cs'=some (rowD5 r,q)):cs'=r.cells:=by
 match cs',hl with
 | [v0,v1,v2],_=>
  obtain⟨xs,m,_,e,_,hxl,hx⟩:=DataW.trod_struct Tryz.underlying336 h
  have cu:Tryz.prog.cellsOf 5=1:=by kernel_rfl
  have ci:Tryz.prog.cellsOf 3=1:=by kernel_rfl
  have cq:Tryz.prog.cellsOf 23=1:=by kernel_rfl
  have hxl':xs.length=3:=hxl;have h0:DataW.trod (λ _=>()) Tryz.prog w 0 (λ _=>true) false m 23 (([v0,v1,v2].drop 0).take (Tryz.prog.cellsOf 23))=xs[0]?:=hx 0 _ rfl;have h1:DataW.trod (λ _=>()) Tryz.prog w 0 (λ _=>true) false m 5 (([v0,v1,v2].drop 1).take (Tryz.prog.cellsOf 5))=xs[1]?:=hx 1 _ rfl;have h2:DataW.trod (λ _=>()) Tryz.prog w 0 (λ _=>true) false m 3 (([v0,v1,v2].drop 2).take (Tryz.prog.cellsOf 3))=xs[2]?:=hx 2 _ rfl
  rw[cq]at h0
  rw[cu]at h1
  rw[ci]at h2
  match xs,hxl' with
  | [x0,x1,x2],_=>
   obtain⟨n0,e0,y0,_⟩:=DataW.trod_int Tryz.underlying23 (show DataW.trod (λ _=>()) Tryz.prog w 0 (λ _=>true) false m 23 [v0]=some x0 from h0)
   obtain⟨n1,e1,y1,_⟩:=DataW.trod_int Tryz.underlying5 (show DataW.trod (λ _=>()) Tryz.prog w 0 (λ _=>true) false m 5 [v1]=some x1 from h1)
   obtain⟨n2,e2,y2,_⟩:=DataW.trod_int Tryz.underlying3 (show DataW.trod (λ _=>()) Tryz.prog w 0 (λ _=>true) false m 3 [v2]=some x2 from h2)
   subst y0 y1 y2
   simp[rowD5]at e e0 e1 e2
   obtain⟨⟨a0,a1,a2⟩,_⟩:=e
   subst e0 e1 e2
   unfold PRow.cells
   rw[a0,a1,a2]
set_option maxRecDepth 100000 in
theorem laid_prows{w:World}{fuel:Nat}{cs:List Value}{l:List PRow}{p:List MemPlace}(h:DataW.trod (λ _=>()) Tryz.prog w 0 (λ _=>true) false fuel 338 cs=some (.slice (l.map rowD5) [],p))(hl:0<len l):
  ∃tb tq rc,cs=[.slice (some ⟨tb,tq,none⟩) (len l) rc]∧PRows w (some ⟨tb,tq,none⟩) l:=by
 have hC:Tryz.prog.cellsOf 336=3:=by kernel_rfl
 rcases Go.Deep.open_slice Tryz.underlying338 h with⟨_,hx⟩ | ⟨a,n,c,m,q,D,Pl,hcs,_,hln,hm,hmm,hx,hi⟩
 ·simp at hx
 ·simp only[Prod.mk.injEq,DataW.slice.injEq]at hx
  obtain⟨⟨hD,_⟩,_⟩:=hx
  have hn:len l=n:=by have:=congrArg List.length hD;simpa [len] using this
  have hnm:n≤m:=by rw[hmm];simp;exact hln
  have each:∀i,i<len l→∃b off,a=⟨b,off,none⟩∧PRowAt w b (off+i * 3) (prth l i):=λ i hil=>by
   obtain⟨cs',hc,htr⟩:=hi i (by omega)
   rw[hC]at hc
   obtain⟨_,hcl,hat⟩:=World.cells?_some hc
   have hDi:D i=rowD5 (prth l i):=by
    have h1:(l.map rowD5)[i]?=((List.range n).map D)[i]?:=by rw[hD]
    have hil':i<l.length:=hil
    rw[List.getElem?_map,List.getElem?_map,List.getElem?_eq_getElem hil',List.getElem?_range (by omega)]at h1
    rw[prth_eq l i hil]
    exact(Option.some.inj h1).symm
   rw[hDi]at htr
   have hcs':=laid_prow hcl htr
   obtain⟨b,off,spot⟩:=a
   have hat0:=hat 0 (by decide)
   rw[hcs']at hat
   have hspot:spot=none:=by
    obtain⟨cs0,hc0,htr0⟩:=hi 0 (by omega)
    rw[hC]at hc0
    obtain⟨_,hcl0,hat0⟩:=World.cells?_some hc0
    have h1:=hat0 0 (by decide);have h2:cs0[0]?=some (cs0[0]'(by omega)):=List.getElem?_eq_getElem (by omega)
    rw[h2]at h1
    simpa [Addr.add] using World.cell?_spot h1
   subst hspot
   have key:∀j,j<3→w.cell? ⟨b,off+i * 3+j,none⟩=(prth l i).cells[j]?:=λ j hj=>by
    have h1:=hat j hj
    rw[Go.Deep.add_add]at h1
    have e:(⟨b,off,none⟩:Addr).add (i * 3+j)=⟨b,off+i * 3+j,none⟩:=by
     unfold Addr.add;split
     ·rename_i h0;simp <;> omega
     ·simp[Nat.add_assoc]
    rw[e]at h1;exact h1
   exact⟨b,off,rfl,key 0 (by decide),key 1 (by decide),key 2 (by decide)⟩
  obtain⟨b,off,rfl,_⟩:=each 0 hl
  refine⟨b,off,c,by rw[hn];exact hcs,λ i hil=>?_⟩
  obtain⟨b',off',e,hR⟩:=each i hil
  cases e
  exact⟨b,off,rfl,hR⟩
def tabD5:DataW Unit:=.agg ([0,1,2,3,4].map λ k=>.slice ((hrowsP k).map rowD5) [])
set_option maxRecDepth 100000 in
theorem ptab_of{W:World}{g:Nat}{cs:Array Value}{fuel:Nat}{p:List MemPlace}(hgg:g=5)(hg:Tryz.prog.globalNamed "sextant/pack.rows"=some g)(hv:W.var? Tryz.prog "sextant/pack.rows"=some cs)
  (h:DataW.trod (λ _=>()) Tryz.prog W 0 (λ _=>true) false fuel 339 cs.toList=some (tabD5,p)):PTab W.heap.size W:=by
 obtain⟨xs,m,_,e,hcl,hxl,hx⟩:=DataW.trod_array Tryz.underlying339 h
 have hC:Tryz.prog.cellsOf 338=1:=by kernel_rfl
 have hC5:Tryz.prog.cellsOf 339=5:=by kernel_rfl
 rw[hC5]at hcl
 rw[hC]at hx
 have hd:tabD5=.agg (xs.map (·.1)):=congrArg Prod.fst e
 unfold tabD5 at hd
 have hd2:([0,1,2,3,4].map λ k=>(DataW.slice ((hrowsP k).map rowD5) []:DataW Unit))=xs.map (·.1):=by injection hd
 subst hgg
 have key:∀k,k<5→∃tb tq rc,cs[k]?=some (.slice (some ⟨tb,tq,none⟩) (len (hrowsP k)) rc)∧PRows W (some ⟨tb,tq,none⟩) (hrowsP k):=λ k hk=>by
  have hxk:k<xs.length:=by omega
  have h1:=hx k hk
  rw[List.getElem?_eq_getElem hxk]at h1
  have h2:(xs[k]'hxk).1=.slice ((hrowsP k).map rowD5) []:=by
   have h3:(xs.map (·.1))[k]?=some (xs[k]'hxk).1:=by rw[List.getElem?_map,List.getElem?_eq_getElem hxk];rfl
   rw[←hd2,List.getElem?_map]at h3
   have h4:[0,1,2,3,4][k]?=some k:=by
    have:k=0 ∨ k=1 ∨ k=2 ∨ k=3 ∨ k=4:=by omega
    rcases this with rfl | rfl | rfl | rfl | rfl <;> rfl
   rw[h4]at h3
   exact(Option.some.inj h3).symm
  have h5:DataW.trod (λ _=>()) Tryz.prog W 0 (λ _=>true) false m 338 ((cs.toList.drop (k * 1)).take 1)=some (.slice ((hrowsP k).map rowD5) [],(xs[k]'hxk).2):=by rw[h1,←h2]
  obtain⟨tb,tq,rc,hcs,hr⟩:=laid_prows h5 (rowsP_pos k)
  refine⟨tb,tq,rc,?_,hr⟩
  have h6:((cs.toList.drop (k * 1)).take 1)[0]?=some (.slice (some ⟨tb,tq,none⟩) (len (hrowsP k)) rc):=by rw[hcs];rfl
  rw[List.getElem?_take,if_pos (by decide),List.getElem?_drop]at h6
  simpa using h6
 have hlt:5<W.heap.size:=by
  obtain⟨tb,tq,rc,h1,h2⟩:=key 0 (by decide)
  have:=World.var?_cell hg hv 0
  exact lt_of_cell (this.trans h1)
 refine⟨hlt,Nat.le_refl _,λ k hk=>?_⟩
 obtain⟨tb,tq,rc,h1,h2⟩:=key k hk
 refine⟨tb,tq,rc,?_,(World.var?_cell hg hv k).trans h1,h2⟩
 obtain⟨b,off,e,hR⟩:=h2 0 (rowsP_pos k)
 cases e
 exact lt_of_cell hR.c0
end Go.Proofs.YtpobhbdomldecaaGreatDoor
namespace Go.Proofs.YtpobhbdomldecaaGreatDoor
set_option linter.unusedSimpArgs false
set_option linter.unusedVariables false
open Go.RowKit Go.ChangeShapes Go.WideShapes Go.ChangeAt
set_option maxRecDepth 100000 in
theorem of_laidI{W:World}(h:laidMetH Tryz.prog Rows.partProvesRow.laid W):TE7 W.heap.size W:=by
 have h':laidMet Tryz.prog (Rows.partProvesRow.laid.filter λ x=>x.2.handleName?.isNone) W∧handlesMet Tryz.prog (Rows.partProvesRow.laid.filter λ x=>x.2.handleName?.isSome) W:=h
 obtain⟨⟨ps,⟨gp,tp,csp,fp,pp,qp,hgp,htp,hvp,hdp,⟨g0,t0,cs0,f0,p0,q0,hg0,ht0,hv0,hd0,⟨g1,t1,cs1,f1,p1,q1,hg1,ht1,hv1,hd1,⟨g2,t2,cs2,f2,p2,q2,hg2,ht2,hv2,hd2,⟨g4,t4,cs4,f4,p4,q4,hg4,ht4,hv4,hd4,_⟩,_⟩,_⟩,_⟩,_⟩,_,_⟩,hH⟩:=h'
 obtain rfl:5=gp:=Option.some.inj ((show _=some 5 by kernel_rfl).symm.trans hgp)
 obtain rfl:339=tp:=Option.some.inj ((show _=some 339 by kernel_rfl).symm.trans htp)
 obtain rfl:0=g0:=Option.some.inj ((show _=some 0 by kernel_rfl).symm.trans hg0)
 obtain rfl:308=t0:=Option.some.inj ((show _=some 308 by kernel_rfl).symm.trans ht0)
 obtain rfl:6=g1:=Option.some.inj ((show _=some 6 by kernel_rfl).symm.trans hg1)
 obtain rfl:308=t1:=Option.some.inj ((show _=some 308 by kernel_rfl).symm.trans ht1)
 obtain rfl:2=g2:=Option.some.inj ((show _=some 2 by kernel_rfl).symm.trans hg2)
 obtain rfl:308=t2:=Option.some.inj ((show _=some 308 by kernel_rfl).symm.trans ht2)
 obtain rfl:1=g4:=Option.some.inj ((show _=some 1 by kernel_rfl).symm.trans hg4)
 obtain rfl:308=t4:=Option.some.inj ((show _=some 308 by kernel_rfl).symm.trans ht4)
 have hET:ErrType W:=by
  obtain⟨name,u,ty,e1,e2,e3,e4,e5⟩:=hH Rows.partProvesRow.laid[1] (List.mem_singleton.2 rfl)
  have en:name=[101,114,114,111,114]:=(Option.some.inj e1).symm
  subst en
  obtain rfl:349=u:=Option.some.inj ((show _=some 349 by kernel_rfl).symm.trans e2)
  have hm:ty ∈ (List.range Tryz.prog.types.size).filter λ t=>Tryz.prog.rowNamed t [101,114,114,111,114]:=List.mem_filter.2 ⟨List.mem_range.2 e3,e4⟩
  rw[oneRow]at hm
  obtain rfl:=List.mem_singleton.1 hm
  have hg:Tryz.prog.globalNamed Rows.partProvesRow.laid[1].1=some 3:=(by kernel_rfl)
  exact World.var?_cell hg e5 0
 exact⟨ptab_of rfl hgp hvp hdp,⟨tab_of (by decide) hg0 hv0 hd0,trivial,tab_of (by decide) hg1 hv1 hd1,tab_of (by decide) hg2 hv2 hd2,tab_of (by decide) hg4 hv4 hd4⟩,hET,Nat.le_refl _,lt_of_cell hET⟩
end Go.Proofs.YtpobhbdomldecaaGreatDoor
namespace Go.Proofs.YtpobhbdomldecaaGreatDoor.pproves
set_option linter.unusedSimpArgs false
set_option linter.unusedVariables false
open Go.RowKit Go.ChangeShapes Go.WideShapes Go.ChangeAt
theorem door_met(os:Os)(args:Array Value):laidMetH Tryz.prog Rows.partProvesRow.laid ((World.doorLaid Tryz.prog 79 os).forCall (λ _ _=>0) ⟨#[],args,[]⟩).memory:=
 laidMetH_of_parts3 (fuel:=8) (laidMet_of_run' 8 (by kernel_rfl) (by kernel_rfl)) (by kernel_rfl) (by kernel_rfl)
set_option maxRecDepth 100000 in
theorem lifted(os:Os)(started:os.Started)(H:Type)(enc:TypeId × Value→H):
  ReturnsInHanded {} Tryz.checked os 14 .any (λ w args=>(Rows.partProvesSpec.pre enc Tryz.prog Tryz.f14 [] false w args∧laidMetH Tryz.prog Rows.partProvesRow.laid w)∧sizedMet enc Tryz.prog Tryz.f14 (OpenSpec.ofChange Rows.partProvesSpec) false w args)
   (Rows.partProvesSpec.post enc Tryz.prog Tryz.f14 false true false false):=by
 refine returnsInHanded_of_change_and (C:=Tryz.checked) (X:=λ w _=>laidMetH Tryz.prog Rows.partProvesRow.laid w) (λ _ _ _ hh h=>h.of_heap hh) own started (by kernel_rfl) Tryz.func14
  (ChangeSpec.witness_shaped (enc:=enc) (C:=Tryz.checked) (os:=os) (X:=λ w _=>laidMetH Tryz.prog Rows.partProvesRow.laid w) false (World.doorLaid Tryz.prog 79 os) #[.slice none 0 0,.int .u8 0] 8 rfl (World.shaped_of_RefB (by kernel_rfl) (by kernel_rfl)) (by kernel_rfl) (by kernel_rfl) (by kernel_rfl) (door_met os _)) ?_
 intro W base args ds gs before hval0 hW _ _ hL _
 have hval:∀(j:Nat) t v,Tryz.f14.params[j]?=some t→args[j]?=some v→Value.okWide Tryz.prog W .any base t v:=hval0;have hW':=hW
 obtain⟨p,q,hA0,hV,rfl,hfz,hnd⟩:=hW
 have hA:DataW.TrodAll enc Tryz.prog W 0 (λ _=>true) true Tryz.f14.params.toList args.toList ds p:=hA0
 rw[Tryz.params14]at hA hval
 have hAA:=hA
 obtain⟨v0,vs0,d0,ds0,p0,q0,hargs,rfl,rfl,h0,r0⟩:=trodAll_cons hA
 obtain⟨v1,vs1,d1,ds1,p1,q1,rfl,rfl,rfl,h1,r1⟩:=trodAll_cons r0
 obtain⟨rfl,rfl,rfl⟩:=trodAll_nil r1
 obtain rfl:args=#[v0,v1]:=by cases args;simp_all
 obtain⟨rfl,rfl⟩:=trodVars_none hV
 obtain⟨a0,c0,l0,rfl,lc0,cm0,o0,k0⟩:=open_prts (hval 0 _ _ rfl rfl) h0
 obtain⟨x1,rfl,_,_,w1⟩:=open_int Tryz.underlying5 (hval 1 _ _ rfl rfl) h1
 have u1:=wf_u8 w1
 obtain⟨A,rfl⟩:=Int.eq_ofNat_of_zero_le u1.1
 have hT:=of_laidI hL
 unfold maxLen at cm0
 clear hA0 hval0
 refine(pproves_law W.heap.size l0 a0 c0 A W hT (by omega) o0 k0 (by omega)).mono λ e W' ⟨he,bel⟩=>?_
 subst he
 have hback:=below_trodAll laidOut bel (λ t ht=>⟨by revert t;exact of_decide_eq_true (by kernel_rfl),by revert t;exact of_decide_eq_true (by kernel_rfl)⟩) hAA
 exact⟨_,rfl,_,_,_,[],_,[],hW',trodAll_mk1 (shut_bool Tryz.underlying4 _),hback,rfl,bel.frame _,λ h=>by cases h⟩
end Go.Proofs.YtpobhbdomldecaaGreatDoor.pproves

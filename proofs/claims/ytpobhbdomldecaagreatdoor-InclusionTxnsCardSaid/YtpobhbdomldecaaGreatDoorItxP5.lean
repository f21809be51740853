/- Parts of the proof, one behind the other. -/
import Derived.Test.YtpobhbdomldecaaGreatDoorItxP4
import Derived.Great.Walk
import Derived.Laws.AppendOwn
import Derived.Laws.MakeOwn
import Derived.BigQuiet
import Derived.Maps.AppendAt
import Derived.ArgAppend
import Derived.Laws.AppendOwnNone
import Derived.ProofKit
import Derived.OpenShut
import Derived.ShutString
import Derived.ChangeOld
import Derived.Deep.Slices
import Derived.Deep.Fields
import Derived.ChangeMaps5
import Derived.WideShapes
import Derived.StillTailTactics
import Derived.Defers
import Derived.Recover
set_option linter.unusedSimpArgs false
set_option linter.unusedVariables false
set_option maxRecDepth 100000
set_option maxHeartbeats 40000000
namespace Go.Proofs.YtpobhbdomldecaaGreatDoor
open Go.RowKit
section
open Go.RowKit Go.Great
theorem idx_str(s:ByteArray)(i:Nat)(x:Int)(hx:x=(i:Int))(h:i<s.size)(w:World):(Instr.index 9 (.string s) (.int .i64 x)).run Tryz.prog w=.ok (.int .u8 (wI (bW (bth s.data.toList i)))) w:=by
 subst hx
 have h2:i<s.data.toList.length:=by rw[data_size];exact h
 have e:(s[i]).toNat=(bth s.data.toList i).toNat:=by
  unfold bth
  rw[List.getD_eq_getElem?_getD,List.getElem?_eq_getElem h2]
  rfl
 have e3:((s[i]).toNat:Int)=wI (bW (bth s.data.toList i)):=by rw[e,wI_bW]
 rw[run_index_string (P:=Tryz.prog) (w:=w) 9 s .i64 ((i:Nat):Int) Tryz.underlying9,dif_pos ⟨by omega,by omega⟩]
 have e4:∀(k:Nat) (hk:k<s.size),k=i->((s[k]'hk).toNat:Int)=wI (bW (bth s.data.toList i)):=λ k hk he=>by subst he;exact e3
 rw[e4 _ _ (Int.toNat_natCast i)]
theorem bv_not2(x:W32):bits .xor .u32 (if IntKind.u32.signed=true then -1 else IntKind.u32.max) (wI x)=wI (~~~ x):=bv_not x
theorem wpList_build_ofR{P:Program}{ops:Array Oper}{rest:List Oper}{o:Oper}{a:Act}{w:World}{Q:Exit->Act->World->Prop}(hg:o.guard=none)(t:TypeId)(parts:Array (Nat × Operand))(ho:o.op=.build t parts)(cs:Array Value)
  (hf:P.built t (parts.map fun (i,x)=>(i,a.eval x)).toList=some cs) (h:wpList P ops Q rest (a.put o.dst (.agg cs)) w):wpList P ops Q (o :: rest) a w:=
 wpList_build hg t parts ho (by rw[hf];rfl) (by rw[hf];exact h)
def Ev(a:Act)(n:Nat)(l:List (Nat × Value)):Prop:=a.tmps.size=n/\a.defers=[]/\∀p ∈ l,a.eval (.tmp p.1)=p.2
theorem Ev.put{a:Act}{n:Nat}{l:List (Nat × Value)}(h:Ev a n l)(d:Nat)(v:Value)(hd:d<n)(hf:l.all (λ p=>p.1 != d)=true):Ev (a.put (some d) v) n ((d,v) :: l):=by
 refine⟨by simp[Act.put,h.1],h.2.1,?_⟩
 intro p hp
 rcases List.mem_cons.1 hp with rfl | hp
 ·exact eval_put_same (by rw[h.1];exact hd)
 ·have h1:=List.all_eq_true.1 hf p hp
  rw[eval_put_ne (by simpa using h1)]
  exact h.2.2 p hp
theorem Ev.at{a:Act}{n:Nat}{l:List (Nat × Value)}(h:Ev a n l)(k d:Nat)(v:Value)(hk:l[k]?=some (d,v)):a.eval (.tmp d)=v:=h.2.2 (d,v) (List.mem_of_getElem? hk)
theorem Ev.atf{a:Act}{n:Nat}{l:List (Nat × Value)}(h:Ev a n l)(k d:Nat)(v:Value)(hk:l[k]?=some (d,v)):a.tmps[d]?.getD undef=v:=(ev_form a d).symm.trans (h.at k d v hk)
theorem wp_of_act{P:Program}{c:Code}{Q:Exit->Act->World->Prop}{a:Act}{w:World}(h:∀a0:Act,a0=a->Code.wp P c Q a0 w):Code.wp P c Q a w:=h a rfl
def zero8R:List W32:=List.replicate 8 0
structure BlkAt(pb rb:Nat)(A9:Array Value)(w wr:World):Prop where
 below:Below w.heap.size w wr
 p:wr.heap[pb]?=some (.cells A9 222 (0,0))
 r:wr.heap[rb]?=some (.cells (wsC zero8R) 222 (0,0))
theorem BlkAt.next{pb rb:Nat}{A9:Array Value}{w wr w':World}(h:BlkAt pb rb A9 w wr)(hb:Below wr.heap.size wr w'):BlkAt pb rb A9 w w':=
 ⟨bnext h.below hb,(hb.block _ (lt_of_block h.p)).trans h.p,(hb.block _ (lt_of_block h.r)).trans h.r⟩
theorem BlkAt.set{pb rb b o:Nat}{A9:Array Value}{w wr:World}{v:Value}(h:BlkAt pb rb A9 w wr)(h0:w.heap.size<=b)(h1:pb≠b)(h2:rb≠b):BlkAt pb rb A9 w (wr.setCell ⟨b,o,none⟩ v):=
 ⟨bset h.below h0 _,block_setCell_ne h.p h1 _,block_setCell_ne h.r h2 _⟩
theorem rconsts_any(w:World):Calls Tryz.prog 258 #[] w λ e w'=>e=.returned (.agg (wsC kW))/\Below w.heap.size w w':=by
 go_enter Tryz.func258,Tryz.ntmps258
 go_upto_region 1 with fail
 obtain⟨b,hb⟩:∃b,w.heap.size=b:=⟨_,rfl⟩
 show Code.wp _ _ _ _ (w.alloc (.cells (wsC zeroW) 294))
 obtain⟨V,hV⟩:∃V,w.alloc (.cells (wsC zeroW) 294)=V:=⟨_,rfl⟩
 have HV:Hid (V.heap[b]?=some (.cells (wsC zeroW) 294 (0,0))):=QLh (by rw[<-hV,<-hb];exact heap_alloc_new _ _);have HS:Hid (Below w.heap.size w V):=QLh (by rw[<-hV];exact balloc (Below.refl _ _) _);have HBW:Hid (w.heap.size<=b):=QLh (Nat.le_of_eq hb)
 rw[hV,hb]
 clear hV hb
 apply wp_region_lit
 refine wpList_build rfl 294 _ rfl (by as_aux_lemma=>kernel_rfl) ?_
 refine wpList_store_row rfl 294 _ _ rfl b (wsC kW) rfl (by as_aux_lemma=>kernel_rfl) 294 (wsC zeroW) HV.out (by as_aux_lemma=>kernel_rfl) (by as_aux_lemma=>kernel_rfl) (by as_aux_lemma=>kernel_rfl) ?_
 apply wpList_nil
 obtain⟨U,hU⟩:∃U,V.setRow b (wsC kW)=U:=⟨_,rfl⟩
 have HU:Hid (U.heap[b]?=some (.cells (wsC kW) 294 (0,0))):=QLh (by rw[<-hU];exact setRow_heap V b _ _ _ _ HV.out);have HUB:Hid (Below w.heap.size w U):=QLh (by
  rw[<-hU]
  exact⟨HS.out.os,HS.out.tape,HS.out.output,by rw[setRow_size];exact HS.out.size,λ i hi=>by rw[setRow_other _ _ _ _ (show i≠b by have:=HBW.out;omega)];exact HS.out.block i hi⟩)
 rw[hU]
 rename_i Q' K hK
 refine hK _ _ ?_
 apply wp_ret
 refine bodyPost_ret (v:=.agg (wsC kW)) ?_ rfl ?_
 ·exact results_cell_row rfl _ _ b 294 (wsC kW) (0,0) _ rfl HU.out rfl rfl (by as_aux_lemma=>kernel_rfl)
 ·exact⟨rfl,HUB.out⟩
attribute [local go_sem] bv_xor bv_and bv_or bv_add bv_addm
theorem rblock_any(v:St8)(s:ByteArray)(w:World)(hs:s.size=64):
  Calls Tryz.prog 188 #[.agg (wsC (stL v)),.string s] w λ e w'=>e=.returned (.agg (wsC (stL (pressW v s.data.toList))))/\Below w.heap.size w w':=by
 have HS:=QLh hs
 obtain⟨A9,hA9⟩:∃A9,wsC (stL v)=A9:=⟨_,rfl⟩
 have HA9:=QLh hA9
 rw[hA9]
 clear hs hA9
 go_enter Tryz.func188,Tryz.ntmps188
 go_upto_region 3 with fail
 obtain⟨pb,hpb⟩:∃pb,w.heap.size=pb:=⟨_,rfl⟩
 obtain⟨rb,hrb⟩:∃rb,pb+1=rb:=⟨_,rfl⟩
 obtain⟨wb,hwb⟩:∃wb,rb+1=wb:=⟨_,rfl⟩
 have e1:w.heap.size+1=rb:=by omega
 have e2:w.heap.size+1+1=wb:=by omega
 rw[e2,e1,hpb]
 obtain⟨L,hL⟩:∃L,s.data.toList=L:=⟨_,rfl⟩
 have HLL:=QLh hL;have HLN:Hid (L.length=64):=QLh (by rw[<-hL,data_size];exact HS.out);have HNE:Hid (w.heap.size<=pb/\w.heap.size<=rb/\w.heap.size<=wb/\pb≠wb/\rb≠wb/\pb<wb/\rb<wb):=QLh (by omega)
 change Code.wp _ _ _ _ (((w.alloc (.cells A9 222)).alloc (.cells (wsC zero8R) 222)).alloc (.cells (wsC zeroW) 294))
 obtain⟨U,hU⟩:∃U,(((w.alloc (.cells A9 222)).alloc (.cells (wsC zero8R) 222)).alloc (.cells (wsC zeroW) 294))=U:=⟨_,rfl⟩
 rw[hU]
 have HB0:Hid (BlkAt pb rb A9 w U):=QLh ⟨by rw[<-hU];exact balloc (balloc (balloc (Below.refl _ _) _) _) _,by rw[<-hU];exact block_alloc (block_alloc (alloc_new_at _ hpb) _) _,by rw[<-hU];exact block_alloc (alloc_new_at _ (by rw[alloc_size _ rfl];omega)) _⟩;have HW0:Hid (U.heap[wb]?=some (.cells (wsC (headZ L 0)) 294 (0,0))):=QLh (by rw[<-hU];exact alloc_new_at _ (by rw[alloc_size _ (alloc_size _ rfl)];omega));clear hU e1 e2 hwb hrb hpb
 go_loopg [6] 16 (λ g i wr=>∃m:Nat,g+m=16/\i=.int .i64 m/\Hid (wr.heap[wb]?=some (.cells (wsC (headZ L m)) 294 (0,0)))/\Hid (BlkAt pb rb A9 w wr))
 case atStart=>exact⟨0,rfl,rfl,HW0,HB0⟩
 case round=>
  clear HW0 HB0
  obtain⟨m,hm,rfl,HW,HB⟩:=hrel
  by_cases hlt:m<16
  ·have i1:(m:Int)<16:=by omega
   have i4:IntKind.i64.wrap (4 * ((m:Nat):Int))=4 * ((m:Nat):Int):=IntWalk.i64_in _ (by omega);have i5:IntKind.i64.wrap (4 * ((m:Nat):Int)+1)=4 * ((m:Nat):Int)+1:=IntWalk.i64_in _ (by omega);have i6:IntKind.i64.wrap (4 * ((m:Nat):Int)+2)=4 * ((m:Nat):Int)+2:=IntWalk.i64_in _ (by omega);have i7:IntKind.i64.wrap (4 * ((m:Nat):Int)+3)=4 * ((m:Nat):Int)+3:=IntWalk.i64_in _ (by omega);have m64:¬(64:Int)<=(m:Int):=by omega
   have m65:¬64<=m:=by omega
   obtain⟨B0,hB0⟩:∃B,bW (bth L (4 * m))=B:=⟨_,rfl⟩
   obtain⟨B1,hB1⟩:∃B,bW (bth L (4 * m+1))=B:=⟨_,rfl⟩
   obtain⟨B2,hB2⟩:∃B,bW (bth L (4 * m+2))=B:=⟨_,rfl⟩
   obtain⟨B3,hB3⟩:∃B,bW (bth L (4 * m+3))=B:=⟨_,rfl⟩
   have hs4:=HS.out;have x0:∀wv:World,(Instr.index 9 (.string s) (.int .i64 (4 * ((m:Nat):Int)))).run Tryz.prog wv=.ok (.int .u8 (wI B0)) wv:=λ wv=>by rw[idx_str s (4 * m) _ (by omega) (by omega),HLL.out,hB0]
   have x1:∀wv:World,(Instr.index 9 (.string s) (.int .i64 (4 * ((m:Nat):Int)+1))).run Tryz.prog wv=.ok (.int .u8 (wI B1)) wv:=λ wv=>by rw[idx_str s (4 * m+1) _ (by omega) (by omega),HLL.out,hB1]
   have x2:∀wv:World,(Instr.index 9 (.string s) (.int .i64 (4 * ((m:Nat):Int)+2))).run Tryz.prog wv=.ok (.int .u8 (wI B2)) wv:=λ wv=>by rw[idx_str s (4 * m+2) _ (by omega) (by omega),HLL.out,hB2]
   have x3:∀wv:World,(Instr.index 9 (.string s) (.int .i64 (4 * ((m:Nat):Int)+3))).run Tryz.prog wv=.ok (.int .u8 (wI B3)) wv:=λ wv=>by rw[idx_str s (4 * m+3) _ (by omega) (by omega),HLL.out,hB3]
   have HW4:Hid (B0 <<< 24 ||| B1 <<< 16 ||| B2 <<< 8 ||| B3=w4 (bth L (4 * m)) (bth L (4 * m+1)) (bth L (4 * m+2)) (bth L (4 * m+3))):=QLh (by rw[<-hB0,<-hB1,<-hB2,<-hB3];rfl)
   clear hB0 hB1 hB2 hB3 hs4
   go_upto_region 5 with fail
   refine wp_region_qt 31 rfl (by kernel_rfl) λ w' hE=>?_
   have y1:=@wI_wrap;have y2:=@wI_mod;have y3:=@bv_shl24;have y4:=@bv_shl16;have y5:=@bv_shl8;have y6:=@bv_or
   simp only[List.take_succ_cons,List.take_zero,List.drop_succ_cons,List.drop_zero]
   repeat go_big_quiet_step (fail)
   refine wpQuiet_nil ?_
   clear y1 y2 y3 y4 y5 y6;have hEw:=of_drew hE;have HW1:=QLh ((hEw.block _ (lt_of_block HW.out)).trans HW.out);have HB1:=QLh (HB.out.next hEw);have cw:w'.cell? ⟨wb,m,none⟩=some (.int .u32 (wI (wth (headZ L m) m))):=by rw[block_cell HW1.out,wsC_at _ _ (by rw[headZ_len _ _ (by omega)];omega)]
   have cf:w'.frozen? ⟨wb,m,none⟩=false:=block_free HW1.out m;have cl:wb<w'.heap.size:=lt_of_block HW1.out;have HW2:Hid ((w'.setCell ⟨wb,m,none⟩ (.int .u32 (wI (B0 <<< 24 ||| B1 <<< 16 ||| B2 <<< 8 ||| B3)))).heap[wb]?=some (.cells (wsC (headZ L (m+1))) 294 (0,0))):=QLh (by
    have:=block_setCell HW1.out (o:=m) (.int .u32 (wI (B0 <<< 24 ||| B1 <<< 16 ||| B2 <<< 8 ||| B3)))
    rw[HW4.out]at this ⊢
    rw[wsC_set,headZ_next _ _ (by omega)]at this
    exact this)
   have HB2:Hid (BlkAt pb rb A9 w (w'.setCell ⟨wb,m,none⟩ (.int .u32 (wI (B0 <<< 24 ||| B1 <<< 16 ||| B2 <<< 8 ||| B3))))):=QLh (HB1.out.set HNE.out.2.2.1 HNE.out.2.2.2.1 HNE.out.2.2.2.2.1)
   clear hE hEw x0 x1 x2 x3 i4 i5 i6 i7 m64 m65
   go_wp2
   go_roundg (16 - (m+1))
   case rel=>exact⟨m+1,by omega,by go_num,HW2,HB2⟩
   case measure=>omega
  ·obtain rfl:m=16:=by omega
   have i1:¬((16:Nat):Int)<16:=by decide
   rw[headZ_more]at HW
   go_upto_region 7 with fail
   go_loopg [7,8,9] 48 (λ g i _ _ wr=>∃j:Nat,g+j=48/\i=.int .i64 ((16+j:Nat):Int)/\Hid (wr.heap[wb]?=some (.cells (wsC (moreZ L j)) 294 (0,0)))/\Hid (BlkAt pb rb A9 w wr))
   case atStart=>exact⟨0,rfl,rfl,HW,HB⟩
   case round=>
    clear HW HB
    obtain⟨j,hj,rfl,HW,HB⟩:=hrel
    by_cases hlt:j<48
    ·obtain⟨t,ht⟩:∃t,16+j=t:=⟨_,rfl⟩
     rw[ht]
     have i1:(t:Int)<64:=by omega
     obtain⟨p15,hp15⟩:∃p,t=p+15:=⟨t - 15,by omega⟩
     obtain⟨p2,hp2⟩:∃p,t=p+2:=⟨t - 2,by omega⟩
     obtain⟨p16,hp16⟩:∃p,t=p+16:=⟨t - 16,by omega⟩
     obtain⟨p7,hp7⟩:∃p,t=p+7:=⟨t - 7,by omega⟩
     have k15:IntKind.i64.wrap (((t:Nat):Int) - 15)=((p15:Nat):Int):=by rw[IntWalk.i64_in _ (by omega)];omega
     have k2:IntKind.i64.wrap (((t:Nat):Int) - 2)=((p2:Nat):Int):=by rw[IntWalk.i64_in _ (by omega)];omega
     have k16:IntKind.i64.wrap (((t:Nat):Int) - 16)=((p16:Nat):Int):=by rw[IntWalk.i64_in _ (by omega)];omega
     have k7:IntKind.i64.wrap (((t:Nat):Int) - 7)=((p7:Nat):Int):=by rw[IntWalk.i64_in _ (by omega)];omega
     have b15:¬(64:Int)<=(p15:Int):=by omega
     have b15n:¬64<=p15:=by omega
     have b2:¬(64:Int)<=(p2:Int):=by omega
     have b2n:¬64<=p2:=by omega
     have b16:¬(64:Int)<=(p16:Int):=by omega
     have b16n:¬64<=p16:=by omega
     have b7:¬(64:Int)<=(p7:Int):=by omega
     have b7n:¬64<=p7:=by omega
     have bt:¬(64:Int)<=(t:Int):=by omega
     have btn:¬64<=t:=by omega
     have hml:=moreZ_len L j (by omega);have HNX:Hid (nextW (moreW (headW L 16) j) (16+j)=wth (moreZ L j) p16+s0W (wth (moreZ L j) p15)+wth (moreZ L j) p7+s1W (wth (moreZ L j) p2)):=QLh (by
      unfold nextW
      rw[moreZ_at _ _ p16 (by omega),moreZ_at _ _ p15 (by omega),moreZ_at _ _ p7 (by omega),moreZ_at _ _ p2 (by omega),ht,show t - 16=p16 by omega,show t - 15=p15 by omega,show t - 7=p7 by omega,show t - 2=p2 by omega])
     obtain⟨W,hW⟩:∃W,wr=W:=⟨_,rfl⟩
     rw[hW]at HW HB ⊢
     obtain⟨X15,hX15⟩:∃X,wth (moreZ L j) p15=X:=⟨_,rfl⟩
     obtain⟨X2,hX2⟩:∃X,wth (moreZ L j) p2=X:=⟨_,rfl⟩
     obtain⟨X16,hX16⟩:∃X,wth (moreZ L j) p16=X:=⟨_,rfl⟩
     obtain⟨X7,hX7⟩:∃X,wth (moreZ L j) p7=X:=⟨_,rfl⟩
     have HC:Hid (∀W9:World,W9.heap[wb]?=some (.cells (wsC (moreZ L j)) 294 (0,0))->W9.cell? ⟨wb,p15,none⟩=some (.int .u32 (wI X15))/\W9.cell? ⟨wb,p2,none⟩=some (.int .u32 (wI X2))/\W9.cell? ⟨wb,p16,none⟩=some (.int .u32 (wI X16))/\W9.cell? ⟨wb,p7,none⟩=some (.int .u32 (wI X7))/\W9.cell? ⟨wb,t,none⟩=some (.int .u32 (wI (wth (moreZ L j) t)))):=QLh (λ W9 h9=>by
      refine⟨?_,?_,?_,?_,?_⟩
      ·rw[block_cell h9,wsC_at _ _ (by rw[hml];omega),hX15]
      ·rw[block_cell h9,wsC_at _ _ (by rw[hml];omega),hX2]
      ·rw[block_cell h9,wsC_at _ _ (by rw[hml];omega),hX16]
      ·rw[block_cell h9,wsC_at _ _ (by rw[hml];omega),hX7]
      ·rw[block_cell h9,wsC_at _ _ (by rw[hml];omega)])
     rw[hX15,hX2,hX16,hX7]at HNX
     have HT:=QLh ht;have bs3:(wI X15).fdiv 8=wI (X15 >>> 3):=bv_shr X15 3;have bs3m:wI X15 / 8=wI (X15 >>> 3):=bv_shrm X15 3;have bs10:(wI X2).fdiv 1024=wI (X2 >>> 10):=bv_shr X2 10;have bs10m:wI X2 / 1024=wI (X2 >>> 10):=bv_shrm X2 10;have c15:=(HC.out W HW.out).1;clear hX15 hX2 hX16 hX7 hW hp15 hp2 hp16 hp7 hml ht
     go_upto_region 9 with fail
     refine wp_region_tail 17 1000 (none) (phis (List.map qv [.int .i64 (t:Nat),.int .i64 (p15:Nat),.pointer (some ⟨wb,p15,none⟩),.int .u32 (wI X15),.int .u32 (wI (rotr X15 7)),.int .i64 (t:Nat),.int .i64 (p15:Nat),.pointer (some ⟨wb,p15,none⟩),.int .u32 (wI X15),.int .u32 (wI (rotr X15 18)),.int .u32 (wI (rotr X15 7 ^^^ rotr X15 18)),.int .i64 (t:Nat),.int .i64 (p15:Nat),.pointer (some ⟨wb,p15,none⟩),.int .u32 (wI X15),.int .u32 (wI (X15 >>> 3)),.int .u32 (wI (rotr X15 7 ^^^ rotr X15 18 ^^^ X15 >>> 3))])) rfl (by kernel_rfl) (by kernel_rfl) (mono_of mono_qv) (steps_of 17 ⟨?s0,?s1,?s2,?s3,?s4,?s5,?s6,?s7,?s8,?s9,?s10,?s11,?s12,?s13,?s14,?s15,?s16,trivial⟩) ?_
     case s0=>
      refine qV (λ _=>rfl) rfl λ av wv hE hO hD=>?_
      simp[go_sem,qF av 7 (.int .i64 (t:Nat)) (hO.2.2 7 rfl),k15,b15,b15n,bv_xor,bv_shrm,bs3,bs3m]
     case s1=>
      refine qV (λ _=>rfl) rfl λ av wv hE hO hD=>?_
      simp[go_sem,qE (hD.1 rfl _ rfl),k15,b15,b15n,bv_xor,bv_shrm,bs3,bs3m]
     case s2=>
      refine qV (λ _=>rfl) rfl λ av wv hE hO hD=>?_
      simp[go_sem,qF av 5 (.pointer (some ⟨wb,0,none⟩)) (hO.2.2 5 rfl),qE (hD.1 rfl _ rfl),k15,b15,b15n,bv_xor,bv_shrm,bs3,bs3m]
     case s3=>
      refine qV (λ _=>rfl) rfl λ av wv hE hO hD=>?_
      simp[go_sem,qE (hD.1 rfl _ rfl),extB_cell hE (by simp) c15,k15,b15,b15n,bv_xor,bv_shrm,bs3,bs3m]
     case s4=>
      refine step_wp (λ av wv hE hS hO hD=>⟨rfl,?_⟩)
      have f64:=qE (hD.1 rfl _ rfl)
      refine wp_of_call (v:=.int .u32 (wI (rotr X15 7))) (by simp[go_sem,f64]) ((rturned_any X15 7 wv (by decide) (by decide)).mono (λ e w2 ⟨h1,h2⟩=>⟨h1,h2.below _⟩)) (λ w2 hb=>⟨_,rfl,es_of_ext hb,rfl⟩)
     case s5=>
      refine qV (λ _=>rfl) rfl λ av wv hE hO hD=>?_
      simp[go_sem,qF av 7 (.int .i64 (t:Nat)) (hO.2.2 7 rfl),k15,b15,b15n,bv_xor,bv_shrm,bs3,bs3m]
     case s6=>
      refine qV (λ _=>rfl) rfl λ av wv hE hO hD=>?_
      simp[go_sem,qE (hD.1 rfl _ rfl),k15,b15,b15n,bv_xor,bv_shrm,bs3,bs3m]
     case s7=>
      refine qV (λ _=>rfl) rfl λ av wv hE hO hD=>?_
      simp[go_sem,qF av 5 (.pointer (some ⟨wb,0,none⟩)) (hO.2.2 5 rfl),qE (hD.1 rfl _ rfl),k15,b15,b15n,bv_xor,bv_shrm,bs3,bs3m]
     case s8=>
      refine qV (λ _=>rfl) rfl λ av wv hE hO hD=>?_
      simp[go_sem,qE (hD.1 rfl _ rfl),extB_cell hE (by simp) c15,k15,b15,b15n,bv_xor,bv_shrm,bs3,bs3m]
     case s9=>
      refine step_wp (λ av wv hE hS hO hD=>⟨rfl,?_⟩)
      have f69:=qE (hD.1 rfl _ rfl)
      refine wp_of_call (v:=.int .u32 (wI (rotr X15 18))) (by simp[go_sem,f69]) ((rturned_any X15 18 wv (by decide) (by decide)).mono (λ e w2 ⟨h1,h2⟩=>⟨h1,h2.below _⟩)) (λ w2 hb=>⟨_,rfl,es_of_ext hb,rfl⟩)
     case s10=>
      refine qV (λ _=>rfl) rfl λ av wv hE hO hD=>?_
      simp[go_sem,qE (hD.1 rfl _ rfl),qE (hD.2.1 rfl _ rfl),k15,b15,b15n,bv_xor,bv_shrm,bs3,bs3m]
     case s11=>
      refine qV (λ _=>rfl) rfl λ av wv hE hO hD=>?_
      simp[go_sem,qF av 7 (.int .i64 (t:Nat)) (hO.2.2 7 rfl),k15,b15,b15n,bv_xor,bv_shrm,bs3,bs3m]
     case s12=>
      refine qV (λ _=>rfl) rfl λ av wv hE hO hD=>?_
      simp[go_sem,qE (hD.1 rfl _ rfl),k15,b15,b15n,bv_xor,bv_shrm,bs3,bs3m]
     case s13=>
      refine qV (λ _=>rfl) rfl λ av wv hE hO hD=>?_
      simp[go_sem,qF av 5 (.pointer (some ⟨wb,0,none⟩)) (hO.2.2 5 rfl),qE (hD.1 rfl _ rfl),k15,b15,b15n,bv_xor,bv_shrm,bs3,bs3m]
     case s14=>
      refine qV (λ _=>rfl) rfl λ av wv hE hO hD=>?_
      simp[go_sem,qE (hD.1 rfl _ rfl),extB_cell hE (by simp) c15,k15,b15,b15n,bv_xor,bv_shrm,bs3,bs3m]
     case s15=>
      refine step_wp (λ av wv hE hS hO hD=>⟨rfl,?_⟩)
      have f75:=qE (hD.1 rfl _ rfl)
      exact wp_of_run (v:=.int .u32 (wI (X15 >>> 3))) (by simp[go_sem,f75];exact bs3m) ⟨_,rfl,es_of_ext (Ext_refl _),rfl⟩
     case s16=>
      refine qV (λ _=>rfl) rfl λ av wv hE hO hD=>?_
      simp[go_sem,qE (hD.1 rfl _ rfl),qE (hD.2.1 rfl _ rfl),k15,b15,b15n,bv_xor,bv_shrm,bs3,bs3m]
     intro a' w' hE hO hall
     have hA:=act_of_outer (ds:=[61,62,63,64,65,66,67,68,69,70,71,72,73,74,75,76,77]) rfl hO (by kernel_rfl)
     obtain⟨j0,j1,j2,j3,j4,j5,j6,j7,j8,j9,j10,j11,j12,j13,j14,j15,j16,-⟩:=hall
     simp only[List.foldl_cons,List.foldl_nil,Act.put,List.setIfInBounds_toArray,List.set_cons_succ,List.set_cons_zero,qJ 61 (j0 _ rfl),qJ 62 (j1 _ rfl),qJ 63 (j2 _ rfl),qJ 64 (j3 _ rfl),qJ 65 (j4 _ rfl),qJ 66 (j5 _ rfl),qJ 67 (j6 _ rfl),qJ 68 (j7 _ rfl),qJ 69 (j8 _ rfl),qJ 70 (j9 _ rfl),qJ 71 (j10 _ rfl),qJ 72 (j11 _ rfl),qJ 73 (j12 _ rfl),qJ 74 (j13 _ rfl),qJ 75 (j14 _ rfl),qJ 76 (j15 _ rfl),qJ 77 (j16 _ rfl)]at hA
     clear hO j0 j1 j2 j3 j4 j5 j6 j7 j8 j9 j10 j11 j12 j13 j14 j15 j16
     subst hA
     have hX:=of_drew hE;have HW:=QLh ((hX.block _ (lt_of_block HW.out)).trans HW.out);have HB:=QLh (HB.out.next hX);clear hE hX c15
     obtain⟨W2,hW2⟩:∃W2,w'=W2:=⟨_,rfl⟩
     rw[hW2]at HW HB ⊢
     clear hW2 w'
     obtain⟨Y15,hY15⟩:∃Y,rotr X15 7 ^^^ rotr X15 18 ^^^ X15 >>> 3=Y:=⟨_,rfl⟩
     rw[hY15]
     have HY15:=QLh hY15;clear hY15;have c2:=(HC.out W2 HW.out).2.1
     go_upto_region 10 with fail
     refine wp_region_tail 17 1000 (none) (phis (List.map qv [.int .i64 (t:Nat),.int .i64 (p2:Nat),.pointer (some ⟨wb,p2,none⟩),.int .u32 (wI X2),.int .u32 (wI (rotr X2 17)),.int .i64 (t:Nat),.int .i64 (p2:Nat),.pointer (some ⟨wb,p2,none⟩),.int .u32 (wI X2),.int .u32 (wI (rotr X2 19)),.int .u32 (wI (rotr X2 17 ^^^ rotr X2 19)),.int .i64 (t:Nat),.int .i64 (p2:Nat),.pointer (some ⟨wb,p2,none⟩),.int .u32 (wI X2),.int .u32 (wI (X2 >>> 10)),.int .u32 (wI (rotr X2 17 ^^^ rotr X2 19 ^^^ X2 >>> 10))])) rfl (by kernel_rfl) (by kernel_rfl) (mono_of mono_qv) (steps_of 17 ⟨?s0,?s1,?s2,?s3,?s4,?s5,?s6,?s7,?s8,?s9,?s10,?s11,?s12,?s13,?s14,?s15,?s16,trivial⟩) ?_
     case s0=>
      refine qV (λ _=>rfl) rfl λ av wv hE hO hD=>?_
      simp[go_sem,qF av 7 (.int .i64 (t:Nat)) (hO.2.2 7 rfl),k2,b2,b2n,bv_xor,bv_shrm,bs10,bs10m]
     case s1=>
      refine qV (λ _=>rfl) rfl λ av wv hE hO hD=>?_
      simp[go_sem,qE (hD.1 rfl _ rfl),k2,b2,b2n,bv_xor,bv_shrm,bs10,bs10m]
     case s2=>
      refine qV (λ _=>rfl) rfl λ av wv hE hO hD=>?_
      simp[go_sem,qF av 5 (.pointer (some ⟨wb,0,none⟩)) (hO.2.2 5 rfl),qE (hD.1 rfl _ rfl),k2,b2,b2n,bv_xor,bv_shrm,bs10,bs10m]
     case s3=>
      refine qV (λ _=>rfl) rfl λ av wv hE hO hD=>?_
      simp[go_sem,qE (hD.1 rfl _ rfl),extB_cell hE (by simp) c2,k2,b2,b2n,bv_xor,bv_shrm,bs10,bs10m]
     case s4=>
      refine step_wp (λ av wv hE hS hO hD=>⟨rfl,?_⟩)
      have f81:=qE (hD.1 rfl _ rfl)
      refine wp_of_call (v:=.int .u32 (wI (rotr X2 17))) (by simp[go_sem,f81]) ((rturned_any X2 17 wv (by decide) (by decide)).mono (λ e w2 ⟨h1,h2⟩=>⟨h1,h2.below _⟩)) (λ w2 hb=>⟨_,rfl,es_of_ext hb,rfl⟩)
     case s5=>
      refine qV (λ _=>rfl) rfl λ av wv hE hO hD=>?_
      simp[go_sem,qF av 7 (.int .i64 (t:Nat)) (hO.2.2 7 rfl),k2,b2,b2n,bv_xor,bv_shrm,bs10,bs10m]
     case s6=>
      refine qV (λ _=>rfl) rfl λ av wv hE hO hD=>?_
      simp[go_sem,qE (hD.1 rfl _ rfl),k2,b2,b2n,bv_xor,bv_shrm,bs10,bs10m]
     case s7=>
      refine qV (λ _=>rfl) rfl λ av wv hE hO hD=>?_
      simp[go_sem,qF av 5 (.pointer (some ⟨wb,0,none⟩)) (hO.2.2 5 rfl),qE (hD.1 rfl _ rfl),k2,b2,b2n,bv_xor,bv_shrm,bs10,bs10m]
     case s8=>
      refine qV (λ _=>rfl) rfl λ av wv hE hO hD=>?_
      simp[go_sem,qE (hD.1 rfl _ rfl),extB_cell hE (by simp) c2,k2,b2,b2n,bv_xor,bv_shrm,bs10,bs10m]
     case s9=>
      refine step_wp (λ av wv hE hS hO hD=>⟨rfl,?_⟩)
      have f86:=qE (hD.1 rfl _ rfl)
      refine wp_of_call (v:=.int .u32 (wI (rotr X2 19))) (by simp[go_sem,f86]) ((rturned_any X2 19 wv (by decide) (by decide)).mono (λ e w2 ⟨h1,h2⟩=>⟨h1,h2.below _⟩)) (λ w2 hb=>⟨_,rfl,es_of_ext hb,rfl⟩)
     case s10=>
      refine qV (λ _=>rfl) rfl λ av wv hE hO hD=>?_
      simp[go_sem,qE (hD.1 rfl _ rfl),qE (hD.2.1 rfl _ rfl),k2,b2,b2n,bv_xor,bv_shrm,bs10,bs10m]
     case s11=>
      refine qV (λ _=>rfl) rfl λ av wv hE hO hD=>?_
      simp[go_sem,qF av 7 (.int .i64 (t:Nat)) (hO.2.2 7 rfl),k2,b2,b2n,bv_xor,bv_shrm,bs10,bs10m]
     case s12=>
      refine qV (λ _=>rfl) rfl λ av wv hE hO hD=>?_
      simp[go_sem,qE (hD.1 rfl _ rfl),k2,b2,b2n,bv_xor,bv_shrm,bs10,bs10m]
     case s13=>
      refine qV (λ _=>rfl) rfl λ av wv hE hO hD=>?_
      simp[go_sem,qF av 5 (.pointer (some ⟨wb,0,none⟩)) (hO.2.2 5 rfl),qE (hD.1 rfl _ rfl),k2,b2,b2n,bv_xor,bv_shrm,bs10,bs10m]
     case s14=>
      refine qV (λ _=>rfl) rfl λ av wv hE hO hD=>?_
      simp[go_sem,qE (hD.1 rfl _ rfl),extB_cell hE (by simp) c2,k2,b2,b2n,bv_xor,bv_shrm,bs10,bs10m]
     case s15=>
      refine step_wp (λ av wv hE hS hO hD=>⟨rfl,?_⟩)
      have f92:=qE (hD.1 rfl _ rfl)
      exact wp_of_run (v:=.int .u32 (wI (X2 >>> 10))) (by simp[go_sem,f92];exact bs10m) ⟨_,rfl,es_of_ext (Ext_refl _),rfl⟩
     case s16=>
      refine qV (λ _=>rfl) rfl λ av wv hE hO hD=>?_
      simp[go_sem,qE (hD.1 rfl _ rfl),qE (hD.2.1 rfl _ rfl),k2,b2,b2n,bv_xor,bv_shrm,bs10,bs10m]
     intro a' w' hE hO hall
     have hA:=act_of_outer (ds:=[78,79,80,81,82,83,84,85,86,87,88,89,90,91,92,93,94]) rfl hO (by kernel_rfl)
     obtain⟨j0,j1,j2,j3,j4,j5,j6,j7,j8,j9,j10,j11,j12,j13,j14,j15,j16,-⟩:=hall
     simp only[List.foldl_cons,List.foldl_nil,Act.put,List.setIfInBounds_toArray,List.set_cons_succ,List.set_cons_zero,qJ 78 (j0 _ rfl),qJ 79 (j1 _ rfl),qJ 80 (j2 _ rfl),qJ 81 (j3 _ rfl),qJ 82 (j4 _ rfl),qJ 83 (j5 _ rfl),qJ 84 (j6 _ rfl),qJ 85 (j7 _ rfl),qJ 86 (j8 _ rfl),qJ 87 (j9 _ rfl),qJ 88 (j10 _ rfl),qJ 89 (j11 _ rfl),qJ 90 (j12 _ rfl),qJ 91 (j13 _ rfl),qJ 92 (j14 _ rfl),qJ 93 (j15 _ rfl),qJ 94 (j16 _ rfl)]at hA
     clear hO j0 j1 j2 j3 j4 j5 j6 j7 j8 j9 j10 j11 j12 j13 j14 j15 j16
     subst hA
     have hX:=of_drew hE;have HW:=QLh ((hX.block _ (lt_of_block HW.out)).trans HW.out);have HB:=QLh (HB.out.next hX);clear hE hX c2
     obtain⟨W3,hW3⟩:∃W3,w'=W3:=⟨_,rfl⟩
     rw[hW3]at HW HB ⊢
     clear hW3 w'
     obtain⟨Y2,hY2⟩:∃Y,rotr X2 17 ^^^ rotr X2 19 ^^^ X2 >>> 10=Y:=⟨_,rfl⟩
     rw[hY2]
     have HY2:=QLh hY2;clear hY2;have c16:=(HC.out W3 HW.out).2.2.1;have c7:=(HC.out W3 HW.out).2.2.2.1
     go_upto_region 11 with fail
     refine wp_region_qt 15 rfl (by kernel_rfl) λ w' hE=>?_
     have c16:=extB_cell hE (by simp) c16;have c7:=extB_cell hE (by simp) c7
     simp only[List.take_succ_cons,List.take_zero,List.drop_succ_cons,List.drop_zero]
     repeat go_big_quiet_step (fail)
     refine wpQuiet_nil ?_
     have hX:=of_drew hE;have HW:=QLh ((hX.block _ (lt_of_block HW.out)).trans HW.out);have HB:=QLh (HB.out.next hX);clear hE hX c16 c7
     obtain⟨W4,hW4⟩:∃W4,w'=W4:=⟨_,rfl⟩
     rw[hW4]at HW HB ⊢
     clear hW4 w';have c0:=(HC.out W4 HW.out).2.2.2.2;have f0:W4.frozen? ⟨wb,t,none⟩=false:=block_free HW.out t;have l0:wb<W4.heap.size:=lt_of_block HW.out;clear k15 k2 k16 k7 b15 b15n b2 b2n b16 b16n b7 b7n bt btn bs3 bs3m bs10 bs10m;have iw:IntKind.i64.wrap (((t:Nat):Int)+1)=((t:Nat):Int)+1:=IntWalk.i64_in _ (by omega)
     go_wp2
     go_roundg (48 - (j+1))
     case rel=>exact⟨j+1,by omega,by have:=HT.out;congr 1;omega,QLh (by
      have h9:=block_setCell HW.out (o:=t) (wV (X16+Y15+X7+Y2))
      rw[wsC_set]at h9
      rw[<-moreZ_next L j hlt,HNX.out,HT.out]
      unfold s0W s1W
      rw[HY15.out,HY2.out]
      exact h9),QLh (HB.out.set HNE.out.2.2.1 HNE.out.2.2.2.1 HNE.out.2.2.2.2.1)⟩
     case measure=>omega
    ·obtain rfl:j=48:=by omega
     have i1:¬((16+48:Nat):Int)<64:=by decide
     clear hj hlt i1
     obtain⟨Ws,hWs⟩:∃Ws,moreW (headW L 16) 48=Ws:=⟨_,rfl⟩
     have HWL:Hid (Ws.length=64):=QLh (by rw[<-hWs,moreW_len,headW_len]);have HWS:=QLh hWs;have HW:Hid (wr.heap[wb]?=some (.cells (wsC Ws) 294 (0,0))):=QLh (by
      have e9:moreZ L 48=Ws:=by rw[<-hWs];unfold moreZ;rw[Nat.sub_self,List.replicate_zero,List.append_nil]
      rw[<-e9];exact HW.out)
     clear hWs;have i1:¬((16+48:Nat):Int)<64:=by decide
     go_upto_region 12 with fail
     go_wp2_with fail
     refine(rconsts_any wr).mono ?_
     rintro e w2 ⟨rfl,hb2⟩
     have HW2:=QLh ((hb2.block _ (lt_of_block HW.out)).trans HW.out);have HB2:=QLh (HB.out.next hb2)
     obtain⟨KC,hKC⟩:∃KC,wsC kW=KC:=⟨_,rfl⟩
     have HKC:=QLh hKC;have HKS:Hid (KC.size=64):=QLh (by rw[<-hKC];rfl);have HON:Hid (KC.all (·.oneCell')=true):=QLh (by rw[<-hKC];kernel_rfl);have HI:Hid ((Tryz.prog.info? 294).map (·.size)=some KC.size):=QLh (by rw[HKS.out];kernel_rfl)
     rw[hKC]
     clear hb2 hKC HW HB
     go_upto_region 13 with(first | (refine wpList_store_row ?_ 294 (.tmp 10) (.tmp 110) ?_ w2.heap.size KC ?_ ?_ 294 _ (heap_alloc_new _ _) HI.out ?_ HON.out ?_;rfl;rfl;rfl;rfl;(rw[HKS.out];rfl);skip))
     have HKB:Hid (w.heap.size<=w2.heap.size/\pb<w2.heap.size/\rb<w2.heap.size/\wb<w2.heap.size):=QLh ⟨HB2.out.below.size,lt_of_block HB2.out.p,lt_of_block HB2.out.r,lt_of_block HW2.out⟩
     change Code.wp _ _ _ _ ((w2.alloc (.cells (wsC zeroW) 294)).setRow w2.heap.size KC)
     obtain⟨V,hV⟩:∃V,(w2.alloc (.cells (wsC zeroW) 294)).setRow w2.heap.size KC=V:=⟨_,rfl⟩
     rw[hV]
     obtain⟨kb,hkb⟩:∃kb,w2.heap.size=kb:=⟨_,rfl⟩
     rw[hkb]at hV HKB ⊢
     have HVK:Hid (V.heap[kb]?=some (.cells (wsC kW) 294 (0,0))):=QLh (by rw[HKC.out,<-hV];exact setRow_heap _ _ _ _ _ _ (by rw[<-hkb];exact heap_alloc_new _ _));have HVO:∀b c,b<kb->w2.heap[b]?=some c->V.heap[b]?=some c:=λ b c hb hc=>by
      rw[<-hV,setRow_other _ _ _ _ (by omega:b≠kb)]
      exact block_alloc hc _
     have HVS:w2.heap.size<=V.heap.size:=by rw[<-hV,setRow_size];exact(balloc (Below.refl _ w2) _).size
     have HVB:Hid (Below w.heap.size w V):=QLh (by
      have h1:Below w.heap.size w (w2.alloc (.cells (wsC zeroW) 294)):=balloc HB2.out.below _
      rw[<-hV]
      exact⟨h1.os,h1.tape,h1.output,by rw[setRow_size];exact h1.size,λ i hi=>by rw[setRow_other _ _ _ _ (show i≠kb by have:=HKB.out;omega)];exact h1.block i hi⟩)
     have HVW:=QLh (HVO wb _ HKB.out.2.2.2 HW2.out);have HVA:Hid (BlkAt pb rb A9 w V):=QLh ⟨HVB.out,HVO pb _ HKB.out.2.1 HB2.out.p,HVO rb _ HKB.out.2.2.1 HB2.out.r⟩;clear hV hkb HVO HVS HVB HB2 HW2 HI HON HKS;have p0:V.cell? ⟨pb,0,none⟩=some (.int .u32 (wI v.a)):=(block_cell HVA.out.p 0).trans (by rw[<-HA9.out];rfl);have p1:V.cell? ⟨pb,1,none⟩=some (.int .u32 (wI v.b)):=(block_cell HVA.out.p 1).trans (by rw[<-HA9.out];rfl);have p2:V.cell? ⟨pb,2,none⟩=some (.int .u32 (wI v.c)):=(block_cell HVA.out.p 2).trans (by rw[<-HA9.out];rfl);have p3:V.cell? ⟨pb,3,none⟩=some (.int .u32 (wI v.d)):=(block_cell HVA.out.p 3).trans (by rw[<-HA9.out];rfl)
     refine wp_region_all 1000 (none) (phis (List.map qv [.pointer (some ⟨pb,0,none⟩),.int .u32 (wI v.a),.pointer (some ⟨pb,1,none⟩),.int .u32 (wI v.b),.pointer (some ⟨pb,2,none⟩),.int .u32 (wI v.c),.pointer (some ⟨pb,3,none⟩),.int .u32 (wI v.d),.int .u32 (wI v.a),.int .u32 (wI v.b),.int .u32 (wI v.c),.int .u32 (wI v.d)])) rfl (by kernel_rfl) (mono_of mono_qv) (steps_of 12 ⟨?s0,?s1,?s2,?s3,?s4,?s5,?s6,?s7,?s8,?s9,?s10,?s11,trivial⟩) ?_
     case s0=>
      refine qV (λ _=>rfl) rfl λ av wv hE hO hD=>?_
      simp[go_sem,qF av 2 (.pointer (some ⟨pb,0,none⟩)) (hO.2.2 2 rfl)]
     case s1=>
      refine qV (λ _=>rfl) rfl λ av wv hE hO hD=>?_
      simp[go_sem,qE (hD.1 rfl _ rfl),extB_cell hE (by simp) p0,extB_cell hE (by simp) p1,extB_cell hE (by simp) p2,extB_cell hE (by simp) p3]
     case s2=>
      refine qV (λ _=>rfl) rfl λ av wv hE hO hD=>?_
      simp[go_sem,qF av 2 (.pointer (some ⟨pb,0,none⟩)) (hO.2.2 2 rfl)]
     case s3=>
      refine qV (λ _=>rfl) rfl λ av wv hE hO hD=>?_
      simp[go_sem,qE (hD.1 rfl _ rfl),extB_cell hE (by simp) p0,extB_cell hE (by simp) p1,extB_cell hE (by simp) p2,extB_cell hE (by simp) p3]
     case s4=>
      refine qV (λ _=>rfl) rfl λ av wv hE hO hD=>?_
      simp[go_sem,qF av 2 (.pointer (some ⟨pb,0,none⟩)) (hO.2.2 2 rfl)]
     case s5=>
      refine qV (λ _=>rfl) rfl λ av wv hE hO hD=>?_
      simp[go_sem,qE (hD.1 rfl _ rfl),extB_cell hE (by simp) p0,extB_cell hE (by simp) p1,extB_cell hE (by simp) p2,extB_cell hE (by simp) p3]
     case s6=>
      refine qV (λ _=>rfl) rfl λ av wv hE hO hD=>?_
      simp[go_sem,qF av 2 (.pointer (some ⟨pb,0,none⟩)) (hO.2.2 2 rfl)]
     case s7=>
      refine qV (λ _=>rfl) rfl λ av wv hE hO hD=>?_
      simp[go_sem,qE (hD.1 rfl _ rfl),extB_cell hE (by simp) p0,extB_cell hE (by simp) p1,extB_cell hE (by simp) p2,extB_cell hE (by simp) p3]
     case s8=>
      refine qV (λ _=>rfl) rfl λ av wv hE hO hD=>?_
      simp[go_sem,qE (hD.1 rfl _ rfl)]
     case s9=>
      refine qV (λ _=>rfl) rfl λ av wv hE hO hD=>?_
      simp[go_sem,qE (hD.1 rfl _ rfl)]
     case s10=>
      refine qV (λ _=>rfl) rfl λ av wv hE hO hD=>?_
      simp[go_sem,qE (hD.1 rfl _ rfl)]
     case s11=>
      refine qV (λ _=>rfl) rfl λ av wv hE hO hD=>?_
      simp[go_sem,qE (hD.1 rfl _ rfl)]
     intro a' w' hE hO hall
     have hA:=act_of_outer (ds:=[111,112,113,114,115,116,117,118,11,12,13,14]) rfl hO (by kernel_rfl)
     obtain⟨j0,j1,j2,j3,j4,j5,j6,j7,j8,j9,j10,j11,-⟩:=hall
     simp only[List.foldl_cons,List.foldl_nil,Act.put,List.setIfInBounds_toArray,List.set_cons_succ,List.set_cons_zero,qJ 111 (j0 _ rfl),qJ 112 (j1 _ rfl),qJ 113 (j2 _ rfl),qJ 114 (j3 _ rfl),qJ 115 (j4 _ rfl),qJ 116 (j5 _ rfl),qJ 117 (j6 _ rfl),qJ 118 (j7 _ rfl),qJ 11 (j8 _ rfl),qJ 12 (j9 _ rfl),qJ 13 (j10 _ rfl),qJ 14 (j11 _ rfl)]at hA
     clear hO j0 j1 j2 j3 j4 j5 j6 j7 j8 j9 j10 j11
     subst hA
     have hX:=of_drew hE;have HVK:=QLh ((hX.block _ (lt_of_block HVK.out)).trans HVK.out);have HVW:=QLh ((hX.block _ (lt_of_block HVW.out)).trans HVW.out);have HVA:=QLh (HVA.out.next hX);clear hE hX p0 p1 p2 p3
     obtain⟨V2,hV2⟩:∃V2,w'=V2:=⟨_,rfl⟩
     rw[hV2]at HVK HVW HVA ⊢
     clear hV2 w';have p4:V2.cell? ⟨pb,4,none⟩=some (.int .u32 (wI v.e)):=(block_cell HVA.out.p 4).trans (by rw[<-HA9.out];rfl);have p5:V2.cell? ⟨pb,5,none⟩=some (.int .u32 (wI v.f)):=(block_cell HVA.out.p 5).trans (by rw[<-HA9.out];rfl);have p6:V2.cell? ⟨pb,6,none⟩=some (.int .u32 (wI v.g)):=(block_cell HVA.out.p 6).trans (by rw[<-HA9.out];rfl);have p7:V2.cell? ⟨pb,7,none⟩=some (.int .u32 (wI v.h)):=(block_cell HVA.out.p 7).trans (by rw[<-HA9.out];rfl)
     go_upto_region 14 with fail
     refine wp_region_qa rfl (by kernel_rfl) λ w' hE=>?_
     have p4:=extB_cell hE (by simp) p4;have p5:=extB_cell hE (by simp) p5;have p6:=extB_cell hE (by simp) p6;have p7:=extB_cell hE (by simp) p7
     repeat go_big_quiet_step (fail)
     refine wpQuiet_nil ?_
     have hX:=of_drew hE;have HVK:=QLh ((hX.block _ (lt_of_block HVK.out)).trans HVK.out);have HVW:=QLh ((hX.block _ (lt_of_block HVW.out)).trans HVW.out);have HVA:=QLh (HVA.out.next hX);clear hE hX p4 p5 p6 p7
     obtain⟨V3,hV3⟩:∃V3,w'=V3:=⟨_,rfl⟩
     rw[hV3]at HVK HVW HVA ⊢
     clear hV3 w'
     go_upto_region 16 with fail
     go_loopg [19,11,12,13,14,15,16,17,18] 64 (λ g i xa xb xc xd xe xf xg xh wr=>∃(m:Nat) (z8:St8),g+m=64/\i=.int .i64 (m:Nat)/\xa=.int .u32 (wI z8.a)/\xb=.int .u32 (wI z8.b)/\xc=.int .u32 (wI z8.c)/\xd=.int .u32 (wI z8.d)/\xe=.int .u32 (wI z8.e)/\xf=.int .u32 (wI z8.f)/\xg=.int .u32 (wI z8.g)/\xh=.int .u32 (wI z8.h)/\Hid (roundsW kW Ws v m=z8)/\Hid (wr.heap[kb]?=some (.cells (wsC kW) 294 (0,0)))/\Hid (wr.heap[wb]?=some (.cells (wsC Ws) 294 (0,0)))/\Hid (BlkAt pb rb A9 w wr))
     case atStart=>exact⟨0,v,rfl,rfl,rfl,rfl,rfl,rfl,rfl,rfl,rfl,rfl,QLh rfl,HVK,HVW,HVA⟩
     case round=>
      clear HVK HVW HVA
      obtain⟨m,z8,hm,rfl,rfl,rfl,rfl,rfl,rfl,rfl,rfl,rfl,HZ,HVK,HVW,HVA⟩:=hrel
      by_cases hlt:m<64
      ·have i1:(m:Int)<64:=by omega
       have bm:¬(64:Int)<=(m:Int):=by omega
       have bmn:¬64<=m:=by omega
       obtain⟨KM,hKM⟩:∃X,wth kW m=X:=⟨_,rfl⟩
       obtain⟨WM,hWM⟩:∃X,wth Ws m=X:=⟨_,rfl⟩
       obtain⟨W5,hW5⟩:∃W5,wr=W5:=⟨_,rfl⟩
       rw[hW5]at HVK HVW HVA ⊢
       clear hW5;have ck:W5.cell? ⟨kb,m,none⟩=some (.int .u32 (wI KM)):=by rw[block_cell HVK.out,wsC_at _ _ (show m<64 from hlt),hKM]
       have cw:W5.cell? ⟨wb,m,none⟩=some (.int .u32 (wI WM)):=by rw[block_cell HVW.out,wsC_at _ _ (by rw[HWL.out];exact hlt),hWM]
       have HNZ:Hid (roundsW kW Ws v (m+1)=stepW z8 KM WM):=QLh (by rw[roundsW,HZ.out,hKM,hWM]);clear hKM hWM
       go_upto_region 18 with fail
       refine wp_region_tail 27 1000 (none) (phis (List.map qv [.int .u32 (wI z8.h),.int .i64 (m:Nat),.pointer (some ⟨kb,m,none⟩),.int .u32 (wI KM),.int .u32 (wI (z8.h+KM)),.int .i64 (m:Nat),.pointer (some ⟨wb,m,none⟩),.int .u32 (wI WM),.int .u32 (wI (z8.h+KM+WM)),.int .u32 (wI z8.e),.int .u32 (wI (rotr z8.e 6)),.int .u32 (wI z8.e),.int .u32 (wI (rotr z8.e 11)),.int .u32 (wI (rotr z8.e 6 ^^^ rotr z8.e 11)),.int .u32 (wI z8.e),.int .u32 (wI (rotr z8.e 25)),.int .u32 (wI (rotr z8.e 6 ^^^ rotr z8.e 11 ^^^ rotr z8.e 25)),.int .u32 (wI (z8.h+KM+WM+(rotr z8.e 6 ^^^ rotr z8.e 11 ^^^ rotr z8.e 25))),.int .u32 (wI z8.e),.int .u32 (wI z8.f),.int .u32 (wI (z8.e &&& z8.f)),.int .u32 (wI z8.e),.int .u32 (wI (~~~ z8.e)),.int .u32 (wI z8.g),.int .u32 (wI (~~~ z8.e &&& z8.g)),.int .u32 (wI (z8.e &&& z8.f ||| ~~~ z8.e &&& z8.g)),.int .u32 (wI (z8.h+KM+WM+(rotr z8.e 6 ^^^ rotr z8.e 11 ^^^ rotr z8.e 25)+(z8.e &&& z8.f ||| ~~~ z8.e &&& z8.g)))])) rfl (by kernel_rfl) (by kernel_rfl) (mono_of mono_qv) (steps_of 27 ⟨?s0,?s1,?s2,?s3,?s4,?s5,?s6,?s7,?s8,?s9,?s10,?s11,?s12,?s13,?s14,?s15,?s16,?s17,?s18,?s19,?s20,?s21,?s22,?s23,?s24,?s25,?s26,trivial⟩) ?_
       case s0=>
        refine qV (λ _=>rfl) rfl λ av wv hE hO hD=>?_
        simp[go_sem,qF av 18 (.int .u32 (wI z8.h)) (hO.2.2 18 rfl),bv_add,bv_addm,bv_xor,bv_and,bv_or,bv_not2,bm,bmn]
       case s1=>
        refine qV (λ _=>rfl) rfl λ av wv hE hO hD=>?_
        simp[go_sem,qF av 19 (.int .i64 (m:Nat)) (hO.2.2 19 rfl),bv_add,bv_addm,bv_xor,bv_and,bv_or,bv_not2,bm,bmn]
       case s2=>
        refine qV (λ _=>rfl) rfl λ av wv hE hO hD=>?_
        simp[go_sem,qF av 10 (.pointer (some ⟨kb,0,none⟩)) (hO.2.2 10 rfl),qE (hD.1 rfl _ rfl),bv_add,bv_addm,bv_xor,bv_and,bv_or,bv_not2,bm,bmn]
       case s3=>
        refine qV (λ _=>rfl) rfl λ av wv hE hO hD=>?_
        simp[go_sem,qE (hD.1 rfl _ rfl),extB_cell hE (by simp) ck,extB_cell hE (by simp) cw,bv_add,bv_addm,bv_xor,bv_and,bv_or,bv_not2,bm,bmn]
       case s4=>
        refine qV (λ _=>rfl) rfl λ av wv hE hO hD=>?_
        simp[go_sem,qE (hD.1 rfl _ rfl),qE (hD.2.1 rfl _ rfl),bv_add,bv_addm,bv_xor,bv_and,bv_or,bv_not2,bm,bmn]
       case s5=>
        refine qV (λ _=>rfl) rfl λ av wv hE hO hD=>?_
        simp[go_sem,qF av 19 (.int .i64 (m:Nat)) (hO.2.2 19 rfl),bv_add,bv_addm,bv_xor,bv_and,bv_or,bv_not2,bm,bmn]
       case s6=>
        refine qV (λ _=>rfl) rfl λ av wv hE hO hD=>?_
        simp[go_sem,qF av 5 (.pointer (some ⟨wb,0,none⟩)) (hO.2.2 5 rfl),qE (hD.1 rfl _ rfl),bv_add,bv_addm,bv_xor,bv_and,bv_or,bv_not2,bm,bmn]
       case s7=>
        refine qV (λ _=>rfl) rfl λ av wv hE hO hD=>?_
        simp[go_sem,qE (hD.1 rfl _ rfl),extB_cell hE (by simp) ck,extB_cell hE (by simp) cw,bv_add,bv_addm,bv_xor,bv_and,bv_or,bv_not2,bm,bmn]
       case s8=>
        refine qV (λ _=>rfl) rfl λ av wv hE hO hD=>?_
        simp[go_sem,qE (hD.1 rfl _ rfl),qE (hD.2.1 rfl _ rfl),bv_add,bv_addm,bv_xor,bv_and,bv_or,bv_not2,bm,bmn]
       case s9=>
        refine qV (λ _=>rfl) rfl λ av wv hE hO hD=>?_
        simp[go_sem,qF av 15 (.int .u32 (wI z8.e)) (hO.2.2 15 rfl),bv_add,bv_addm,bv_xor,bv_and,bv_or,bv_not2,bm,bmn]
       case s10=>
        refine step_wp (λ av wv hE hS hO hD=>⟨rfl,?_⟩)
        have f140:=qE (hD.1 rfl _ rfl)
        refine wp_of_call (v:=.int .u32 (wI (rotr z8.e 6))) (by simp[go_sem,f140]) ((rturned_any z8.e 6 wv (by decide) (by decide)).mono (λ e w2 ⟨h1,h2⟩=>⟨h1,h2.below _⟩)) (λ w2 hb=>⟨_,rfl,es_of_ext hb,rfl⟩)
       case s11=>
        refine qV (λ _=>rfl) rfl λ av wv hE hO hD=>?_
        simp[go_sem,qF av 15 (.int .u32 (wI z8.e)) (hO.2.2 15 rfl),bv_add,bv_addm,bv_xor,bv_and,bv_or,bv_not2,bm,bmn]
       case s12=>
        refine step_wp (λ av wv hE hS hO hD=>⟨rfl,?_⟩)
        have f142:=qE (hD.1 rfl _ rfl)
        refine wp_of_call (v:=.int .u32 (wI (rotr z8.e 11))) (by simp[go_sem,f142]) ((rturned_any z8.e 11 wv (by decide) (by decide)).mono (λ e w2 ⟨h1,h2⟩=>⟨h1,h2.below _⟩)) (λ w2 hb=>⟨_,rfl,es_of_ext hb,rfl⟩)
       case s13=>
        refine qV (λ _=>rfl) rfl λ av wv hE hO hD=>?_
        simp[go_sem,qE (hD.1 rfl _ rfl),qE (hD.2.1 rfl _ rfl),bv_add,bv_addm,bv_xor,bv_and,bv_or,bv_not2,bm,bmn]
       case s14=>
        refine qV (λ _=>rfl) rfl λ av wv hE hO hD=>?_
        simp[go_sem,qF av 15 (.int .u32 (wI z8.e)) (hO.2.2 15 rfl),bv_add,bv_addm,bv_xor,bv_and,bv_or,bv_not2,bm,bmn]
       case s15=>
        refine step_wp (λ av wv hE hS hO hD=>⟨rfl,?_⟩)
        have f145:=qE (hD.1 rfl _ rfl)
        refine wp_of_call (v:=.int .u32 (wI (rotr z8.e 25))) (by simp[go_sem,f145]) ((rturned_any z8.e 25 wv (by decide) (by decide)).mono (λ e w2 ⟨h1,h2⟩=>⟨h1,h2.below _⟩)) (λ w2 hb=>⟨_,rfl,es_of_ext hb,rfl⟩)
       case s16=>
        refine qV (λ _=>rfl) rfl λ av wv hE hO hD=>?_
        simp[go_sem,qE (hD.1 rfl _ rfl),qE (hD.2.1 rfl _ rfl),bv_add,bv_addm,bv_xor,bv_and,bv_or,bv_not2,bm,bmn]
       case s17=>
        refine qV (λ _=>rfl) rfl λ av wv hE hO hD=>?_
        simp[go_sem,qE (hD.1 rfl _ rfl),qE (hD.2.1 rfl _ rfl),bv_add,bv_addm,bv_xor,bv_and,bv_or,bv_not2,bm,bmn]
       case s18=>
        refine qV (λ _=>rfl) rfl λ av wv hE hO hD=>?_
        simp[go_sem,qF av 15 (.int .u32 (wI z8.e)) (hO.2.2 15 rfl),bv_add,bv_addm,bv_xor,bv_and,bv_or,bv_not2,bm,bmn]
       case s19=>
        refine qV (λ _=>rfl) rfl λ av wv hE hO hD=>?_
        simp[go_sem,qF av 16 (.int .u32 (wI z8.f)) (hO.2.2 16 rfl),bv_add,bv_addm,bv_xor,bv_and,bv_or,bv_not2,bm,bmn]
       case s20=>
        refine qV (λ _=>rfl) rfl λ av wv hE hO hD=>?_
        simp[go_sem,qE (hD.1 rfl _ rfl),qE (hD.2.1 rfl _ rfl),bv_add,bv_addm,bv_xor,bv_and,bv_or,bv_not2,bm,bmn]
       case s21=>
        refine qV (λ _=>rfl) rfl λ av wv hE hO hD=>?_
        simp[go_sem,qF av 15 (.int .u32 (wI z8.e)) (hO.2.2 15 rfl),bv_add,bv_addm,bv_xor,bv_and,bv_or,bv_not2,bm,bmn]
       case s22=>
        refine qV (λ _=>rfl) rfl λ av wv hE hO hD=>?_
        simp[go_sem,qE (hD.1 rfl _ rfl),bv_add,bv_addm,bv_xor,bv_and,bv_or,bv_not2,bm,bmn]
       case s23=>
        refine qV (λ _=>rfl) rfl λ av wv hE hO hD=>?_
        simp[go_sem,qF av 17 (.int .u32 (wI z8.g)) (hO.2.2 17 rfl),bv_add,bv_addm,bv_xor,bv_and,bv_or,bv_not2,bm,bmn]
       case s24=>
        refine qV (λ _=>rfl) rfl λ av wv hE hO hD=>?_
        simp[go_sem,qE (hD.1 rfl _ rfl),qE (hD.2.1 rfl _ rfl),bv_add,bv_addm,bv_xor,bv_and,bv_or,bv_not2,bm,bmn]
       case s25=>
        refine qV (λ _=>rfl) rfl λ av wv hE hO hD=>?_
        simp[go_sem,qE (hD.1 rfl _ rfl),qE (hD.2.1 rfl _ rfl),bv_add,bv_addm,bv_xor,bv_and,bv_or,bv_not2,bm,bmn]
       case s26=>
        refine qV (λ _=>rfl) rfl λ av wv hE hO hD=>?_
        simp[go_sem,qE (hD.1 rfl _ rfl),qE (hD.2.1 rfl _ rfl),bv_add,bv_addm,bv_xor,bv_and,bv_or,bv_not2,bm,bmn]
       intro a' w' hE hO hall
       have hA:=act_of_outer (ds:=[131,132,133,134,135,136,137,138,139,140,141,142,143,144,145,146,147,148,149,150,151,152,153,154,155,156,157]) rfl hO (by kernel_rfl)
       obtain⟨j0,j1,j2,j3,j4,j5,j6,j7,j8,j9,j10,j11,j12,j13,j14,j15,j16,j17,j18,j19,j20,j21,j22,j23,j24,j25,j26,-⟩:=hall
       simp only[List.foldl_cons,List.foldl_nil,Act.put,List.setIfInBounds_toArray,List.set_cons_succ,List.set_cons_zero,qJ 131 (j0 _ rfl),qJ 132 (j1 _ rfl),qJ 133 (j2 _ rfl),qJ 134 (j3 _ rfl),qJ 135 (j4 _ rfl),qJ 136 (j5 _ rfl),qJ 137 (j6 _ rfl),qJ 138 (j7 _ rfl),qJ 139 (j8 _ rfl),qJ 140 (j9 _ rfl),qJ 141 (j10 _ rfl),qJ 142 (j11 _ rfl),qJ 143 (j12 _ rfl),qJ 144 (j13 _ rfl),qJ 145 (j14 _ rfl),qJ 146 (j15 _ rfl),qJ 147 (j16 _ rfl),qJ 148 (j17 _ rfl),qJ 149 (j18 _ rfl),qJ 150 (j19 _ rfl),qJ 151 (j20 _ rfl),qJ 152 (j21 _ rfl),qJ 153 (j22 _ rfl),qJ 154 (j23 _ rfl),qJ 155 (j24 _ rfl),qJ 156 (j25 _ rfl),qJ 157 (j26 _ rfl)]at hA
       clear hO j0 j1 j2 j3 j4 j5 j6 j7 j8 j9 j10 j11 j12 j13 j14 j15 j16 j17 j18 j19 j20 j21 j22 j23 j24 j25 j26
       subst hA
       have hX:=of_drew hE;have HVK:=QLh ((hX.block _ (lt_of_block HVK.out)).trans HVK.out);have HVW:=QLh ((hX.block _ (lt_of_block HVW.out)).trans HVW.out);have HVA:=QLh (HVA.out.next hX);clear hE hX ck cw bm bmn
       obtain⟨V4,hV4⟩:∃V4,w'=V4:=⟨_,rfl⟩
       rw[hV4]at HVK HVW HVA ⊢
       clear hV4 w'
       obtain⟨XX,hXX⟩:∃XX,z8.h+KM+WM+(rotr z8.e 6 ^^^ rotr z8.e 11 ^^^ rotr z8.e 25)+(z8.e &&& z8.f ||| ~~~ z8.e &&& z8.g)=XX:=⟨_,rfl⟩
       rw[hXX]
       have HXX:=QLh hXX;clear hXX
       go_upto_region 19 with fail
       go_wp2_with fail
       refine(rturned_any z8.a 2 V4 (by decide) (by decide)).mono ?_
       rintro e wa ⟨rfl,ha⟩
       have Ha:=QLh ha;clear ha
       go_wp2_with fail
       refine(rturned_any z8.a 13 wa (by decide) (by decide)).mono ?_
       rintro e wb9 ⟨rfl,hb⟩
       have Hb:=QLh hb;clear hb
       go_wp2_with fail
       refine(rturned_any z8.a 22 wb9 (by decide) (by decide)).mono ?_
       rintro e wc9 ⟨rfl,hc⟩
       have hX:Below V4.heap.size V4 wc9:=((Ha.out.below _).trans (Hb.out.below _)).trans (hc.below _);have HVK:=QLh ((hX.block _ (lt_of_block HVK.out)).trans HVK.out);have HVW:=QLh ((hX.block _ (lt_of_block HVW.out)).trans HVW.out);have HVA:=QLh (HVA.out.next hX);clear hX hc Ha Hb;have HSA:Hid ((stepW z8 KM WM).a=XX+(rotr z8.a 2 ^^^ rotr z8.a 13 ^^^ rotr z8.a 22)+(z8.a &&& z8.b ||| z8.a &&& z8.c ||| z8.b &&& z8.c)/\(stepW z8 KM WM).a=XX+((rotr z8.a 2 ^^^ rotr z8.a 13 ^^^ rotr z8.a 22)+(z8.a &&& z8.b ||| z8.a &&& z8.c ||| z8.b &&& z8.c))):=QLh (by
        have e:xW z8 KM WM=XX:=HXX.out;have e2:(stepW z8 KM WM).a=XX+((rotr z8.a 2 ^^^ rotr z8.a 13 ^^^ rotr z8.a 22)+(z8.a &&& z8.b ||| z8.a &&& z8.c ||| z8.b &&& z8.c)):=by
         show xW z8 KM WM+yW z8=_
         rw[e];rfl
        exact⟨by rw[e2,BitVec.add_assoc],e2⟩)
       have HSE:Hid ((stepW z8 KM WM).e=z8.d+XX):=QLh (by
        have e:xW z8 KM WM=XX:=HXX.out
        show z8.d+xW z8 KM WM=_
        rw[e])
       go_wp2
       go_roundg (64 - (m+1))
       case rel=>exact⟨m+1,stepW z8 KM WM,by omega,by go_num,by rw[HSA.out.2],rfl,rfl,rfl,by rw[HSE.out],rfl,rfl,rfl,HNZ,HVK,HVW,HVA⟩
       case measure=>omega
      ·obtain rfl:m=64:=by omega
       have i1:¬((64:Nat):Int)<64:=by decide
       go_upto_region 28 with fail
       have p0:wr.cell? ⟨pb,0,none⟩=some (.int .u32 (wI v.a)):=(block_cell HVA.out.p 0).trans (by rw[<-HA9.out];rfl);have p1:wr.cell? ⟨pb,1,none⟩=some (.int .u32 (wI v.b)):=(block_cell HVA.out.p 1).trans (by rw[<-HA9.out];rfl);have p2:wr.cell? ⟨pb,2,none⟩=some (.int .u32 (wI v.c)):=(block_cell HVA.out.p 2).trans (by rw[<-HA9.out];rfl);have p3:wr.cell? ⟨pb,3,none⟩=some (.int .u32 (wI v.d)):=(block_cell HVA.out.p 3).trans (by rw[<-HA9.out];rfl);have p4:wr.cell? ⟨pb,4,none⟩=some (.int .u32 (wI v.e)):=(block_cell HVA.out.p 4).trans (by rw[<-HA9.out];rfl);have p5:wr.cell? ⟨pb,5,none⟩=some (.int .u32 (wI v.f)):=(block_cell HVA.out.p 5).trans (by rw[<-HA9.out];rfl);have p6:wr.cell? ⟨pb,6,none⟩=some (.int .u32 (wI v.g)):=(block_cell HVA.out.p 6).trans (by rw[<-HA9.out];rfl);have p7:wr.cell? ⟨pb,7,none⟩=some (.int .u32 (wI v.h)):=(block_cell HVA.out.p 7).trans (by rw[<-HA9.out];rfl);clear HVK HVW hm hlt i1
       refine wp_of_act λ a0 ha0=>?_
       have E0:Ev a0 223 [(2,Value.pointer (some ⟨pb,0,none⟩)),(4,Value.pointer (some ⟨rb,0,none⟩)),(11,Value.int .u32 (wI z8.a)),(12,Value.int .u32 (wI z8.b)),(13,Value.int .u32 (wI z8.c)),(14,Value.int .u32 (wI z8.d)),(15,Value.int .u32 (wI z8.e)),(16,Value.int .u32 (wI z8.f)),(17,Value.int .u32 (wI z8.g)),(18,Value.int .u32 (wI z8.h))]:=by
        refine⟨by rw[ha0];rfl,by rw[ha0],?_⟩
        intro p hp
        simp only[List.mem_cons,List.not_mem_nil,or_false]at hp
        rw[ha0]
        rcases hp with rfl | rfl | rfl | rfl | rfl | rfl | rfl | rfl | rfl | rfl <;> rfl
       clear ha0
       apply wp_region_lit
       refine wpList_readTo rfl (some 190) rfl (Value.pointer (some ⟨pb,0,none⟩)) ?_ ?_
       case refine_1=>
        have g2:=E0.atf 0 2 _ rfl
        simp[go_sem,g2]
       have E1:=E0.put 190 (Value.pointer (some ⟨pb,0,none⟩)) (by decide) rfl
       obtain⟨a1,ha1⟩:∃b:Act,a0.put (some 190) (Value.pointer (some ⟨pb,0,none⟩))=b:=⟨_,rfl⟩
       rw[ha1]at E1 ⊢
       clear ha1 E0
       refine wpList_readTo rfl (some 191) rfl (Value.int .u32 (wI v.a)) ?_ ?_
       case refine_1=>
        have g190:=E1.atf 0 190 _ rfl
        simp[go_sem,g190,p0]
       have E2:=E1.put 191 (Value.int .u32 (wI v.a)) (by decide) rfl
       obtain⟨a2,ha2⟩:∃b:Act,a1.put (some 191) (Value.int .u32 (wI v.a))=b:=⟨_,rfl⟩
       rw[ha2]at E2 ⊢
       clear ha2 E1
       refine wpList_readTo rfl (some 192) rfl (Value.int .u32 (wI z8.a)) ?_ ?_
       case refine_1=>
        have g11:=E2.atf 4 11 _ rfl
        simp[go_sem,g11]
       have E3:=E2.put 192 (Value.int .u32 (wI z8.a)) (by decide) rfl
       obtain⟨a3,ha3⟩:∃b:Act,a2.put (some 192) (Value.int .u32 (wI z8.a))=b:=⟨_,rfl⟩
       rw[ha3]at E3 ⊢
       clear ha3 E2
       refine wpList_readTo rfl (some 193) rfl (Value.int .u32 (wI (v.a+z8.a))) ?_ ?_
       case refine_1=>
        have g191:=E3.atf 1 191 _ rfl;have g192:=E3.atf 0 192 _ rfl
        simp[go_sem,g191,g192,bv_add,bv_addm]
       have E4:=E3.put 193 (Value.int .u32 (wI (v.a+z8.a))) (by decide) rfl
       obtain⟨a4,ha4⟩:∃b:Act,a3.put (some 193) (Value.int .u32 (wI (v.a+z8.a)))=b:=⟨_,rfl⟩
       rw[ha4]at E4 ⊢
       clear ha4 E3
       refine wpList_readTo rfl (some 194) rfl (Value.pointer (some ⟨pb,1,none⟩)) ?_ ?_
       case refine_1=>
        have g2:=E4.atf 4 2 _ rfl
        simp[go_sem,g2]
       have E5:=E4.put 194 (Value.pointer (some ⟨pb,1,none⟩)) (by decide) rfl
       obtain⟨a5,ha5⟩:∃b:Act,a4.put (some 194) (Value.pointer (some ⟨pb,1,none⟩))=b:=⟨_,rfl⟩
       rw[ha5]at E5 ⊢
       clear ha5 E4
       refine wpList_readTo rfl (some 195) rfl (Value.int .u32 (wI v.b)) ?_ ?_
       case refine_1=>
        have g194:=E5.atf 0 194 _ rfl
        simp[go_sem,g194,p1]
       have E6:=E5.put 195 (Value.int .u32 (wI v.b)) (by decide) rfl
       obtain⟨a6,ha6⟩:∃b:Act,a5.put (some 195) (Value.int .u32 (wI v.b))=b:=⟨_,rfl⟩
       rw[ha6]at E6 ⊢
       clear ha6 E5
       refine wpList_readTo rfl (some 196) rfl (Value.int .u32 (wI z8.b)) ?_ ?_
       case refine_1=>
        have g12:=E6.atf 9 12 _ rfl
        simp[go_sem,g12]
       have E7:=E6.put 196 (Value.int .u32 (wI z8.b)) (by decide) rfl
       obtain⟨a7,ha7⟩:∃b:Act,a6.put (some 196) (Value.int .u32 (wI z8.b))=b:=⟨_,rfl⟩
       rw[ha7]at E7 ⊢
       clear ha7 E6
       refine wpList_readTo rfl (some 197) rfl (Value.int .u32 (wI (v.b+z8.b))) ?_ ?_
       case refine_1=>
        have g195:=E7.atf 1 195 _ rfl;have g196:=E7.atf 0 196 _ rfl
        simp[go_sem,g195,g196,bv_add,bv_addm]
       have E8:=E7.put 197 (Value.int .u32 (wI (v.b+z8.b))) (by decide) rfl
       obtain⟨a8,ha8⟩:∃b:Act,a7.put (some 197) (Value.int .u32 (wI (v.b+z8.b)))=b:=⟨_,rfl⟩
       rw[ha8]at E8 ⊢
       clear ha8 E7
       refine wpList_readTo rfl (some 198) rfl (Value.pointer (some ⟨pb,2,none⟩)) ?_ ?_
       case refine_1=>
        have g2:=E8.atf 8 2 _ rfl
        simp[go_sem,g2]
       have E9:=E8.put 198 (Value.pointer (some ⟨pb,2,none⟩)) (by decide) rfl
       obtain⟨a9,ha9⟩:∃b:Act,a8.put (some 198) (Value.pointer (some ⟨pb,2,none⟩))=b:=⟨_,rfl⟩
       rw[ha9]at E9 ⊢
       clear ha9 E8
       refine wpList_readTo rfl (some 199) rfl (Value.int .u32 (wI v.c)) ?_ ?_
       case refine_1=>
        have g198:=E9.atf 0 198 _ rfl
        simp[go_sem,g198,p2]
       have E10:=E9.put 199 (Value.int .u32 (wI v.c)) (by decide) rfl
       obtain⟨a10,ha10⟩:∃b:Act,a9.put (some 199) (Value.int .u32 (wI v.c))=b:=⟨_,rfl⟩
       rw[ha10]at E10 ⊢
       clear ha10 E9
       refine wpList_readTo rfl (some 200) rfl (Value.int .u32 (wI z8.c)) ?_ ?_
       case refine_1=>
        have g13:=E10.atf 14 13 _ rfl
        simp[go_sem,g13]
       have E11:=E10.put 200 (Value.int .u32 (wI z8.c)) (by decide) rfl
       obtain⟨a11,ha11⟩:∃b:Act,a10.put (some 200) (Value.int .u32 (wI z8.c))=b:=⟨_,rfl⟩
       rw[ha11]at E11 ⊢
       clear ha11 E10
       refine wpList_readTo rfl (some 201) rfl (Value.int .u32 (wI (v.c+z8.c))) ?_ ?_
       case refine_1=>
        have g199:=E11.atf 1 199 _ rfl;have g200:=E11.atf 0 200 _ rfl
        simp[go_sem,g199,g200,bv_add,bv_addm]
       have E12:=E11.put 201 (Value.int .u32 (wI (v.c+z8.c))) (by decide) rfl
       obtain⟨a12,ha12⟩:∃b:Act,a11.put (some 201) (Value.int .u32 (wI (v.c+z8.c)))=b:=⟨_,rfl⟩
       rw[ha12]at E12 ⊢
       clear ha12 E11
       refine wpList_readTo rfl (some 202) rfl (Value.pointer (some ⟨pb,3,none⟩)) ?_ ?_
       case refine_1=>
        have g2:=E12.atf 12 2 _ rfl
        simp[go_sem,g2]
       have E13:=E12.put 202 (Value.pointer (some ⟨pb,3,none⟩)) (by decide) rfl
       obtain⟨a13,ha13⟩:∃b:Act,a12.put (some 202) (Value.pointer (some ⟨pb,3,none⟩))=b:=⟨_,rfl⟩
       rw[ha13]at E13 ⊢
       clear ha13 E12
       refine wpList_readTo rfl (some 203) rfl (Value.int .u32 (wI v.d)) ?_ ?_
       case refine_1=>
        have g202:=E13.atf 0 202 _ rfl
        simp[go_sem,g202,p3]
       have E14:=E13.put 203 (Value.int .u32 (wI v.d)) (by decide) rfl
       obtain⟨a14,ha14⟩:∃b:Act,a13.put (some 203) (Value.int .u32 (wI v.d))=b:=⟨_,rfl⟩
       rw[ha14]at E14 ⊢
       clear ha14 E13
       refine wpList_readTo rfl (some 204) rfl (Value.int .u32 (wI z8.d)) ?_ ?_
       case refine_1=>
        have g14:=E14.atf 19 14 _ rfl
        simp[go_sem,g14]
       have E15:=E14.put 204 (Value.int .u32 (wI z8.d)) (by decide) rfl
       obtain⟨a15,ha15⟩:∃b:Act,a14.put (some 204) (Value.int .u32 (wI z8.d))=b:=⟨_,rfl⟩
       rw[ha15]at E15 ⊢
       clear ha15 E14
       refine wpList_readTo rfl (some 205) rfl (Value.int .u32 (wI (v.d+z8.d))) ?_ ?_
       case refine_1=>
        have g203:=E15.atf 1 203 _ rfl;have g204:=E15.atf 0 204 _ rfl
        simp[go_sem,g203,g204,bv_add,bv_addm]
       have E16:=E15.put 205 (Value.int .u32 (wI (v.d+z8.d))) (by decide) rfl
       obtain⟨a16,ha16⟩:∃b:Act,a15.put (some 205) (Value.int .u32 (wI (v.d+z8.d)))=b:=⟨_,rfl⟩
       rw[ha16]at E16 ⊢
       clear ha16 E15
       refine wpList_readTo rfl (some 206) rfl (Value.pointer (some ⟨pb,4,none⟩)) ?_ ?_
       case refine_1=>
        have g2:=E16.atf 16 2 _ rfl
        simp[go_sem,g2]
       have E17:=E16.put 206 (Value.pointer (some ⟨pb,4,none⟩)) (by decide) rfl
       obtain⟨a17,ha17⟩:∃b:Act,a16.put (some 206) (Value.pointer (some ⟨pb,4,none⟩))=b:=⟨_,rfl⟩
       rw[ha17]at E17 ⊢
       clear ha17 E16
       refine wpList_readTo rfl (some 207) rfl (Value.int .u32 (wI v.e)) ?_ ?_
       case refine_1=>
        have g206:=E17.atf 0 206 _ rfl
        simp[go_sem,g206,p4]
       have E18:=E17.put 207 (Value.int .u32 (wI v.e)) (by decide) rfl
       obtain⟨a18,ha18⟩:∃b:Act,a17.put (some 207) (Value.int .u32 (wI v.e))=b:=⟨_,rfl⟩
       rw[ha18]at E18 ⊢
       clear ha18 E17
       refine wpList_readTo rfl (some 208) rfl (Value.int .u32 (wI z8.e)) ?_ ?_
       case refine_1=>
        have g15:=E18.atf 24 15 _ rfl
        simp[go_sem,g15]
       have E19:=E18.put 208 (Value.int .u32 (wI z8.e)) (by decide) rfl
       obtain⟨a19,ha19⟩:∃b:Act,a18.put (some 208) (Value.int .u32 (wI z8.e))=b:=⟨_,rfl⟩
       rw[ha19]at E19 ⊢
       clear ha19 E18
       refine wpList_readTo rfl (some 209) rfl (Value.int .u32 (wI (v.e+z8.e))) ?_ ?_
       case refine_1=>
        have g207:=E19.atf 1 207 _ rfl;have g208:=E19.atf 0 208 _ rfl
        simp[go_sem,g207,g208,bv_add,bv_addm]
       have E20:=E19.put 209 (Value.int .u32 (wI (v.e+z8.e))) (by decide) rfl
       obtain⟨a20,ha20⟩:∃b:Act,a19.put (some 209) (Value.int .u32 (wI (v.e+z8.e)))=b:=⟨_,rfl⟩
       rw[ha20]at E20 ⊢
       clear ha20 E19
       refine wpList_readTo rfl (some 210) rfl (Value.pointer (some ⟨pb,5,none⟩)) ?_ ?_
       case refine_1=>
        have g2:=E20.atf 20 2 _ rfl
        simp[go_sem,g2]
       have E21:=E20.put 210 (Value.pointer (some ⟨pb,5,none⟩)) (by decide) rfl
       obtain⟨a21,ha21⟩:∃b:Act,a20.put (some 210) (Value.pointer (some ⟨pb,5,none⟩))=b:=⟨_,rfl⟩
       rw[ha21]at E21 ⊢
       clear ha21 E20
       refine wpList_readTo rfl (some 211) rfl (Value.int .u32 (wI v.f)) ?_ ?_
       case refine_1=>
        have g210:=E21.atf 0 210 _ rfl
        simp[go_sem,g210,p5]
       have E22:=E21.put 211 (Value.int .u32 (wI v.f)) (by decide) rfl
       obtain⟨a22,ha22⟩:∃b:Act,a21.put (some 211) (Value.int .u32 (wI v.f))=b:=⟨_,rfl⟩
       rw[ha22]at E22 ⊢
       clear ha22 E21
       refine wpList_readTo rfl (some 212) rfl (Value.int .u32 (wI z8.f)) ?_ ?_
       case refine_1=>
        have g16:=E22.atf 29 16 _ rfl
        simp[go_sem,g16]
       have E23:=E22.put 212 (Value.int .u32 (wI z8.f)) (by decide) rfl
       obtain⟨a23,ha23⟩:∃b:Act,a22.put (some 212) (Value.int .u32 (wI z8.f))=b:=⟨_,rfl⟩
       rw[ha23]at E23 ⊢
       clear ha23 E22
       refine wpList_readTo rfl (some 213) rfl (Value.int .u32 (wI (v.f+z8.f))) ?_ ?_
       case refine_1=>
        have g211:=E23.atf 1 211 _ rfl;have g212:=E23.atf 0 212 _ rfl
        simp[go_sem,g211,g212,bv_add,bv_addm]
       have E24:=E23.put 213 (Value.int .u32 (wI (v.f+z8.f))) (by decide) rfl
       obtain⟨a24,ha24⟩:∃b:Act,a23.put (some 213) (Value.int .u32 (wI (v.f+z8.f)))=b:=⟨_,rfl⟩
       rw[ha24]at E24 ⊢
       clear ha24 E23
       refine wpList_readTo rfl (some 214) rfl (Value.pointer (some ⟨pb,6,none⟩)) ?_ ?_
       case refine_1=>
        have g2:=E24.atf 24 2 _ rfl
        simp[go_sem,g2]
       have E25:=E24.put 214 (Value.pointer (some ⟨pb,6,none⟩)) (by decide) rfl
       obtain⟨a25,ha25⟩:∃b:Act,a24.put (some 214) (Value.pointer (some ⟨pb,6,none⟩))=b:=⟨_,rfl⟩
       rw[ha25]at E25 ⊢
       clear ha25 E24
       refine wpList_readTo rfl (some 215) rfl (Value.int .u32 (wI v.g)) ?_ ?_
       case refine_1=>
        have g214:=E25.atf 0 214 _ rfl
        simp[go_sem,g214,p6]
       have E26:=E25.put 215 (Value.int .u32 (wI v.g)) (by decide) rfl
       obtain⟨a26,ha26⟩:∃b:Act,a25.put (some 215) (Value.int .u32 (wI v.g))=b:=⟨_,rfl⟩
       rw[ha26]at E26 ⊢
       clear ha26 E25
       refine wpList_readTo rfl (some 216) rfl (Value.int .u32 (wI z8.g)) ?_ ?_
       case refine_1=>
        have g17:=E26.atf 34 17 _ rfl
        simp[go_sem,g17]
       have E27:=E26.put 216 (Value.int .u32 (wI z8.g)) (by decide) rfl
       obtain⟨a27,ha27⟩:∃b:Act,a26.put (some 216) (Value.int .u32 (wI z8.g))=b:=⟨_,rfl⟩
       rw[ha27]at E27 ⊢
       clear ha27 E26
       refine wpList_readTo rfl (some 217) rfl (Value.int .u32 (wI (v.g+z8.g))) ?_ ?_
       case refine_1=>
        have g215:=E27.atf 1 215 _ rfl;have g216:=E27.atf 0 216 _ rfl
        simp[go_sem,g215,g216,bv_add,bv_addm]
       have E28:=E27.put 217 (Value.int .u32 (wI (v.g+z8.g))) (by decide) rfl
       obtain⟨a28,ha28⟩:∃b:Act,a27.put (some 217) (Value.int .u32 (wI (v.g+z8.g)))=b:=⟨_,rfl⟩
       rw[ha28]at E28 ⊢
       clear ha28 E27
       refine wpList_readTo rfl (some 218) rfl (Value.pointer (some ⟨pb,7,none⟩)) ?_ ?_
       case refine_1=>
        have g2:=E28.atf 28 2 _ rfl
        simp[go_sem,g2]
       have E29:=E28.put 218 (Value.pointer (some ⟨pb,7,none⟩)) (by decide) rfl
       obtain⟨a29,ha29⟩:∃b:Act,a28.put (some 218) (Value.pointer (some ⟨pb,7,none⟩))=b:=⟨_,rfl⟩
       rw[ha29]at E29 ⊢
       clear ha29 E28
       refine wpList_readTo rfl (some 219) rfl (Value.int .u32 (wI v.h)) ?_ ?_
       case refine_1=>
        have g218:=E29.atf 0 218 _ rfl
        simp[go_sem,g218,p7]
       have E30:=E29.put 219 (Value.int .u32 (wI v.h)) (by decide) rfl
       obtain⟨a30,ha30⟩:∃b:Act,a29.put (some 219) (Value.int .u32 (wI v.h))=b:=⟨_,rfl⟩
       rw[ha30]at E30 ⊢
       clear ha30 E29
       refine wpList_readTo rfl (some 220) rfl (Value.int .u32 (wI z8.h)) ?_ ?_
       case refine_1=>
        have g18:=E30.atf 39 18 _ rfl
        simp[go_sem,g18]
       have E31:=E30.put 220 (Value.int .u32 (wI z8.h)) (by decide) rfl
       obtain⟨a31,ha31⟩:∃b:Act,a30.put (some 220) (Value.int .u32 (wI z8.h))=b:=⟨_,rfl⟩
       rw[ha31]at E31 ⊢
       clear ha31 E30
       refine wpList_readTo rfl (some 221) rfl (Value.int .u32 (wI (v.h+z8.h))) ?_ ?_
       case refine_1=>
        have g219:=E31.atf 1 219 _ rfl;have g220:=E31.atf 0 220 _ rfl
        simp[go_sem,g219,g220,bv_add,bv_addm]
       have E32:=E31.put 221 (Value.int .u32 (wI (v.h+z8.h))) (by decide) rfl
       obtain⟨a32,ha32⟩:∃b:Act,a31.put (some 221) (Value.int .u32 (wI (v.h+z8.h)))=b:=⟨_,rfl⟩
       rw[ha32]at E32 ⊢
       clear ha32 E31
       refine wpList_build_ofR rfl 222 _ rfl (wsC (stL (plusW v z8))) ?_ ?_
       case refine_1=>
        have hb8:∀x0 x1 x2 x3 x4 x5 x6 x7:Value,x0=.int .u32 (wI (v.a+z8.a))->x1=.int .u32 (wI (v.b+z8.b))->x2=.int .u32 (wI (v.c+z8.c))->x3=.int .u32 (wI (v.d+z8.d))->x4=.int .u32 (wI (v.e+z8.e))->x5=.int .u32 (wI (v.f+z8.f))->x6=.int .u32 (wI (v.g+z8.g))->x7=.int .u32 (wI (v.h+z8.h))->Tryz.prog.built 222 [(0,x0),(1,x1),(2,x2),(3,x3),(4,x4),(5,x5),(6,x6),(7,x7)]=some (wsC (stL (plusW v z8))):=by
         rintro _ _ _ _ _ _ _ _ rfl rfl rfl rfl rfl rfl rfl rfl
         kernel_rfl
        simp only[List.map_toArray,List.map_cons,List.map_nil]
        exact hb8 _ _ _ _ _ _ _ _ (E32.at 28 193 _ rfl) (E32.at 24 197 _ rfl) (E32.at 20 201 _ rfl) (E32.at 16 205 _ rfl) (E32.at 12 209 _ rfl) (E32.at 8 213 _ rfl) (E32.at 4 217 _ rfl) (E32.at 0 221 _ rfl)
       have E33:=E32.put 222 (.agg (wsC (stL (plusW v z8)))) (by decide) rfl
       obtain⟨a33,ha33⟩:∃b:Act,a32.put (some 222) (.agg (wsC (stL (plusW v z8))))=b:=⟨_,rfl⟩
       change wpList _ _ _ _ (a32.put (some 222) (.agg (wsC (stL (plusW v z8))))) _
       rw[ha33]at E33 ⊢
       clear ha33 E32
       refine wpList_store_row rfl 222 _ _ rfl rb (wsC (stL (plusW v z8))) (E33.at 34 4 _ rfl) (E33.at 0 222 _ rfl) 222 _ HVA.out.r (by kernel_rfl) rfl (by kernel_rfl) ?_
       apply wpList_nil
       obtain⟨U,hU⟩:∃U,wr.setRow rb (wsC (stL (plusW v z8)))=U:=⟨_,rfl⟩
       have HU:Hid (U.heap[rb]?=some (.cells (wsC (stL (plusW v z8))) 222 (0,0))):=QLh (by rw[<-hU];exact setRow_heap wr rb _ _ _ _ HVA.out.r);have HUB:Hid (Below w.heap.size w U):=QLh (by
        rw[<-hU]
        have h1:=HVA.out.below
        exact⟨h1.os,h1.tape,h1.output,by rw[setRow_size];exact h1.size,λ i hi=>by rw[setRow_other _ _ _ _ (show i≠rb by have:=HNE.out.2.1;omega)];exact h1.block i hi⟩)
       rw[hU]
       clear hU
       rename_i hK
       refine hK _ _ ?_
       apply wp_ret
       refine bodyPost_ret (v:=.agg (wsC (stL (plusW v z8)))) ?_ E33.2.1 ?_
       ·exact results_cell_row rfl _ _ rb 222 (wsC (stL (plusW v z8))) (0,0) _ (E33.at 34 4 _ rfl) HU.out rfl rfl (by as_aux_lemma=>kernel_rfl)
       ·refine⟨?_,HUB.out⟩
        rw[HLL.out]
        unfold pressW
        rw[HWS.out,HZ.out]
end
section
open Go.RowKit Go.Great
theorem blocksW_snoc(m:Nat)(v:St8)(l:List UInt8):blocksW (m+1) v l=pressW (blocksW m v l) ((l.drop (64 * m)).take 64):=by
 rw[blocksW_add m 1];rfl
theorem info_b8R:(Tryz.prog.info? 5).map (λ i=>(i.zero,i.size,i.bytes))=some (some (.int .u8 0),1,1):=by kernel_rfl
def z32R:Array Value:=madeCells (Value.int .u8 0).cells (32 * 1)
theorem make_z32R(W:World):(Instr.makeSlice 41 (.int .i64 0) (.int .i64 32)).run Tryz.prog W=.ok (.slice (some ⟨W.heap.size,0,none⟩) 0 32) (W.alloc (.cells z32R 5)):=by
 obtain⟨i0,hi,hz0,hz1,hz2⟩:=info_parts info_b8R
 have hr:=run_make (P:=Tryz.prog) W 41 5 i0 (.int .u8 0) Tryz.underlying41 hi hz0 .i64 .i64 0 32 (by omega) (by omega) (by rw[hz2];omega) (by omega)
 rw[hr,hz1];rfl
theorem wsC8(v:St8):(wsC (stL v)).size=8:=rfl
theorem wsC8_one(v:St8):(wsC (stL v)).all (·.oneCell')=true:=by kernel_rfl
theorem rsum_any(s:ByteArray)(w:World)(hs:s.size<=1152921504606846976):
  Calls Tryz.prog 137 #[.string s] w λ e w'=>e=.returned (.string (shaP s))/\Below w.heap.size w w':=by
 have HS:=QLh hs;clear hs
 go_enter Tryz.func137,Tryz.ntmps137
 go_upto_region 2 with fail
 obtain⟨nb,hnb⟩:∃nb,w.heap.size=nb:=⟨_,rfl⟩
 have hC0:(#[.int .u32 1779033703,.int .u32 3144134277,.int .u32 1013904242,.int .u32 2773480762,.int .u32 1359893119,.int .u32 2600822924,.int .u32 528734635,.int .u32 1541459225]:Array Value)=wsC (stL st0):=by kernel_rfl
 rw[hnb,hC0]
 obtain⟨V,hV⟩:∃V,w.alloc (.cells (wsC (stL st0)) 222)=V:=⟨_,rfl⟩
 rw[hV]
 have HNB:Hid (V.heap[nb]?=some (.cells (wsC (stL st0)) 222 (0,0))):=QLh (by rw[<-hV];exact alloc_new_at _ hnb);have HW:Hid (Below w.heap.size w V):=QLh (by rw[<-hV];exact balloc (Below.refl _ w) _);have HNW:Hid (w.heap.size<=nb):=QLh (Nat.le_of_eq hnb);clear hV hnb hC0
 go_wp2_with fail
 refine(rpadded_any s V HS.out).mono ?_
 rintro e w2 ⟨rfl,hb2⟩
 have HNB:=QLh ((hb2.block _ (lt_of_block HNB.out)).trans HNB.out);have HW:=QLh (bnext HW.out hb2);clear hb2
 obtain⟨pl,hpl⟩:∃pl,padW s.data.toList=pl:=⟨_,rfl⟩
 obtain⟨PP,hPP⟩:∃PP,padS s=PP:=⟨_,rfl⟩
 have HPL:Hid (PP.data.toList=pl):=QLh (by rw[<-hPP,<-hpl];rfl)
 obtain⟨N,hN⟩:∃N,pl.length=64 * N:=⟨pl.length / 64,by have:=padW_len s.data.toList;rw[hpl]at this;omega⟩
 have HN:=QLh hN;have HPS:Hid (PP.size=64 * N):=QLh (by rw[<-hN,<-HPL.out,data_size]);have HPB:Hid (64 * N<=4611686018427387904):=QLh (by
  rw[<-hN,<-hpl]
  unfold padW zerosW num8
  simp only[List.length_append,List.length_replicate,List.length_map,List.length_range,List.length_singleton,data_size]
  have:=HS.out
  omega)
 rw[hPP]
 have HPW:=QLh hpl;clear hpl hPP hN
 go_upto_region 4 with fail
 go_loopg [5] N (λ g i wr=>∃m c:Nat,g+m=N/\i=.int .i64 (c:Nat)/\Hid (c=64 * m)/\Hid (wr.heap[nb]?=some (.cells (wsC (stL (blocksW m st0 pl))) 222 (0,0)))/\Hid (Below w.heap.size w wr))
 case atStart=>exact⟨0,0,rfl,rfl,QLh rfl,HNB,HW⟩
 case round=>
  clear HNB HW
  obtain⟨m,c,hm,rfl,HC,HNB,HW⟩:=hrel
  by_cases hlt:m<N
  ·have hc64:=HC.out
   have hps:=HPS.out;have hpb:=HPB.out;have i1:(c:Int)<(PP.size:Int):=by omega
   have s1:IntKind.i64.wrap (((c:Nat):Int)+64)=((c:Nat):Int)+64:=IntWalk.i64_in _ (by omega)
   obtain⟨SB,hSB⟩:∃SB,PP.extract c (c+64)=SB:=⟨_,rfl⟩
   have HSB:Hid (SB.data.toList=(pl.drop c).take 64):=QLh (by
    rw[<-hSB,<-HPL.out]
    simp[ByteArray.data_extract,List.extract_eq_take_drop])
   have HSZ:Hid (SB.size=64):=QLh (by rw[<-hSB,ByteArray.size_extract];omega)
   obtain⟨W,hW⟩:∃W,wr=W:=⟨_,rfl⟩
   rw[hW]at HNB HW ⊢
   obtain⟨v8,hv8⟩:∃v8,blocksW m st0 pl=v8:=⟨_,rfl⟩
   rw[hv8]at HNB
   have HV2:Hid (blocksW (m+1) st0 pl=pressW v8 SB.data.toList):=QLh (by rw[blocksW_snoc,hv8,HSB.out,HC.out])
   obtain⟨CV,hCV⟩:∃CV,wsC (stL v8)=CV:=⟨_,rfl⟩
   obtain⟨CV2,hCV2⟩:∃CV2,wsC (stL (pressW v8 SB.data.toList))=CV2:=⟨_,rfl⟩
   have HRB:Hid (∀w9:World,Calls Tryz.prog 188 #[.agg CV,.string SB] w9 λ e w'=>e=.returned (.agg CV2)/\Below w9.heap.size w9 w'):=QLh (λ w9=>by rw[<-hCV,<-hCV2];exact rblock_any v8 SB w9 HSZ.out);have HI:Hid ((Tryz.prog.info? 222).map (·.size)=some CV.size):=QLh (by rw[<-hCV,wsC8];kernel_rfl);have HI2:Hid ((Tryz.prog.info? 222).map (·.size)=some CV2.size):=QLh (by rw[<-hCV2,wsC8];kernel_rfl);have HO2:Hid (CV2.all (·.oneCell')=true):=QLh (by rw[<-hCV2];exact wsC8_one _);have HE2:Hid (CV.size=CV2.size):=QLh (by rw[<-hCV,<-hCV2,wsC8,wsC8])
   rw[hCV]at HNB
   have HCV2:=QLh hCV2;have s2:(0:Int)<=(c:Int)/\(c:Int)<=(c:Int)+64:=by omega
   have s3:(0:Int)<=(c:Int)+64/\(c:Int)+64<=(PP.size:Int):=by omega
   have s4:((c:Int)+64).toNat=c+64:=by omega
   have s5:PP.extract c (c+64)=SB:=hSB;clear hCV hCV2 hW hv8 hc64 hps hpb hSB
   go_upto_region 6 with fail
   refine wp_region_tail 7 1000 (none) (phis (List.map qv [.agg CV,.string PP,.int .i64 (c:Nat),.int .i64 (c:Nat),.int .i64 ((c:Nat)+64),.string SB,.agg CV2])) rfl (by kernel_rfl) (by kernel_rfl) (mono_of mono_qv) (steps_of 7 ⟨?s0,?s1,?s2,?s3,?s4,?s5,?s6,trivial⟩) ?_
   case s0=>
    refine step_wp (λ av wv hE hS hO hD=>⟨rfl,?_⟩)
    have h3:av.eval (.tmp 3)=(.pointer (some ⟨nb,0,none⟩)):=hO.2.2 3 rfl
    exact wp_load_row 222 _ rfl nb h3 222 CV (0,0) _ (extB_block hE (by simp) HNB.out) Tryz.underlying222 rfl HI.out ⟨_,rfl,es_of_ext (Ext_refl _),rfl⟩
   case s1=>
    refine qV (λ _=>rfl) rfl λ av wv hE hO hD=>?_
    simp[go_sem,qF av 4 (.string PP) (hO.2.2 4 rfl),s1,s2,s3,s4,s5]
   case s2=>
    refine qV (λ _=>rfl) rfl λ av wv hE hO hD=>?_
    simp[go_sem,qF av 5 (.int .i64 (c:Nat)) (hO.2.2 5 rfl),s1,s2,s3,s4,s5]
   case s3=>
    refine qV (λ _=>rfl) rfl λ av wv hE hO hD=>?_
    simp[go_sem,qF av 5 (.int .i64 (c:Nat)) (hO.2.2 5 rfl),s1,s2,s3,s4,s5]
   case s4=>
    refine qV (λ _=>rfl) rfl λ av wv hE hO hD=>?_
    simp[go_sem,qE (hD.1 rfl _ rfl),s1,s2,s3,s4,s5]
   case s5=>
    refine qV (λ _=>rfl) rfl λ av wv hE hO hD=>?_
    simp[go_sem,qE (hD.1 rfl _ rfl),qE (hD.2.1 rfl _ rfl),qE (hD.2.2.1 rfl _ rfl),s1,s2,s3,s4,s5]
   case s6=>
    refine step_wp (λ av wv hE hS hO hD=>⟨rfl,?_⟩)
    have f17:=qE (hD.1 rfl _ rfl);have f22:=qE (hD.2.1 rfl _ rfl)
    refine wp_of_call (v:=.agg CV2) (by simp[go_sem,f17,f22]) (HRB.out wv) (λ w2 hb=>⟨_,rfl,es_of_ext hb,rfl⟩)
   intro a' w' hE hO hall
   have hA:=act_of_outer (ds:=[17,18,19,20,21,22,23]) rfl hO (by kernel_rfl)
   obtain⟨j0,j1,j2,j3,j4,j5,j6,-⟩:=hall
   simp only[List.foldl_cons,List.foldl_nil,Act.put,List.setIfInBounds_toArray,List.set_cons_succ,List.set_cons_zero,qJ 17 (j0 _ rfl),qJ 18 (j1 _ rfl),qJ 19 (j2 _ rfl),qJ 20 (j3 _ rfl),qJ 21 (j4 _ rfl),qJ 22 (j5 _ rfl),qJ 23 (j6 _ rfl)]at hA
   clear hO j0 j1 j2 j3 j4 j5 j6
   subst hA
   have hX:=of_drew hE;have HNB:=QLh ((hX.block _ (lt_of_block HNB.out)).trans HNB.out);have HW:=QLh (bnext HW.out hX);clear hE hX s1 s2 s3 s4 s5
   go_upto_region 5 with(first | (refine wpList_store_row ?_ 222 (.tmp 3) (.tmp 23) ?_ nb CV2 ?_ ?_ 222 _ HNB.out HI2.out ?_ HO2.out ?_;rfl;rfl;rfl;rfl;exact HE2.out;skip))
   have HNB2:Hid ((w'.setRow nb CV2).heap[nb]?=some (.cells (wsC (stL (blocksW (m+1) st0 pl))) 222 (0,0))):=QLh (by rw[HV2.out,HCV2.out];exact setRow_heap _ _ _ _ _ _ HNB.out);have HW2:Hid (Below w.heap.size w (w'.setRow nb CV2)):=QLh (by
    have h1:=HW.out
    exact⟨h1.os,h1.tape,h1.output,by rw[setRow_size];exact h1.size,λ i hi=>by rw[setRow_other _ _ _ _ (show i≠nb by have:=HNW.out;omega)];exact h1.block i hi⟩)
   have iw:IntKind.i64.wrap (((c:Nat):Int)+64)=((c:Nat):Int)+64:=IntWalk.i64_in _ (by have:=HC.out;have:=HPB.out;omega)
   go_wp2
   go_roundg (N - (m+1))
   case rel=>exact⟨m+1,c+64,by omega,by go_num,QLh (by rw[HC.out];omega),HNB2,HW2⟩
   case measure=>omega
  ·obtain rfl:m=N:=by omega
   have i1:¬(c:Int)<(PP.size:Int):=by have:=HC.out;have:=HPS.out;omega
   obtain⟨z,hz⟩:∃z,blocksW m st0 pl=z:=⟨_,rfl⟩
   have HZ:Hid (shaL s.data.toList=outW z):=QLh (by
    unfold shaL foldW
    rw[HPW.out,HN.out,Nat.mul_div_cancel_left _ (by decide),hz])
   rw[hz]at HNB
   clear hz
   obtain⟨i0,hi,hz0,hz1,hz2⟩:=info_parts info_b8R
   have HZ0:=QLh hz0;clear hz0 HPL HPB HPW HN hm;have mk:=make_z32R
   go_upto_region 10 with fail
   clear mk
   obtain⟨ob,hob⟩:∃ob,wr.heap.size=ob:=⟨_,rfl⟩
   rw[hob]
   obtain⟨U,hU⟩:∃U,wr.alloc (.cells z32R 5)=U:=⟨_,rfl⟩
   rw[hU]
   have HNB2:Hid (U.heap[nb]?=some (.cells (wsC (stL z)) 222 (0,0))):=QLh (by rw[<-hU];exact block_alloc HNB.out _);have HUW:Hid (Below w.heap.size w U):=QLh (by rw[<-hU];exact balloc HW.out _);have HLT:Hid (nb<ob/\w.heap.size<=ob):=QLh ⟨by rw[<-hob];exact lt_of_block HNB.out,by rw[<-hob];exact HW.out.size⟩;have HUO:Hid (U.ownsRow ob 5 1 (.slice (some ⟨ob,0,none⟩) 0 32) (4 * 0) ((((stL z).take 0).map word4).flatten.map byV)):=QLh ⟨by simp,.inr ⟨ob,32,z32R,rfl,Nat.le_refl _,by rw[<-hU];exact alloc_new_at _ hob,by decide,by decide,size_madeCells _ _,by simp⟩⟩;have HUOB:Hid (ob<=U.heap.size):=QLh (by rw[<-hU,<-hob];simp);clear hU hob HNB HW
   go_loopg [7,6] 8 (λ g i o wr=>∃m:Nat,g+m=8/\i=.int .i64 m/\Hid (wr.ownsRow ob 5 1 o (4 * m) ((((stL z).take m).map word4).flatten.map byV))/\Hid (wr.heap[nb]?=some (.cells (wsC (stL z)) 222 (0,0)))/\Hid (Below w.heap.size w wr)/\Hid (ob<=wr.heap.size))
   case atStart=>exact⟨0,rfl,rfl,HUO,HNB2,HUW,HUOB⟩
   case round=>
    clear HUO HNB2 HUW HUOB
    obtain⟨m,hm,rfl,HO,HNB,HW,HOB⟩:=hrel
    by_cases hlt:m<8
    ·have i1:(m:Int)<8:=by omega
     obtain⟨X,hX⟩:∃X,wth (stL z) m=X:=⟨_,rfl⟩
     have HX:=QLh hX
     obtain⟨OV,hOV⟩:∃OV,u6=OV:=⟨_,rfl⟩
     rw[hOV]at HO ⊢
     obtain⟨W,hW⟩:∃W,wr=W:=⟨_,rfl⟩
     rw[hW]at HO HW HNB HOB ⊢
     have cx:W.cell? ⟨nb,m,none⟩=some (.int .u32 (wI X)):=by
      rw[block_cell HNB.out,<-hX]
      exact wsC_at (stL z) m hlt
     have bi:¬(8:Int)<=(m:Int):=by omega
     have bin:¬8<=m:=by omega
     have v1:IntKind.u8.wrap (wI X / 16777216)=wI X / 16777216 % 256:=IntKind.wrap_u8 _;have v2:IntKind.u8.wrap (wI X / 65536)=wI X / 65536 % 256:=IntKind.wrap_u8 _;have v3:IntKind.u8.wrap (wI X / 256)=wI X / 256 % 256:=IntKind.wrap_u8 _;have v4:IntKind.u8.wrap (wI X)=wI X % 256:=IntKind.wrap_u8 _;clear hX hW hOV
     go_upto_region 11 with fail
     refine wp_region_tail 21 1000 (none) (phis [λ u _=>u=(OV),λ u _=>u=(.int .i64 (m:Nat)),λ u _=>u=(.pointer (some ⟨nb,m,none⟩)),λ u _=>u=(.int .u32 (wI X)),λ u _=>u=(.int .u32 (wI X / 16777216)),λ u _=>u=(.int .u8 (wI X / 16777216 % 256)),λ u _=>u=(.int .i64 (m:Nat)),λ u _=>u=(.pointer (some ⟨nb,m,none⟩)),λ u _=>u=(.int .u32 (wI X)),λ u _=>u=(.int .u32 (wI X / 65536)),λ u _=>u=(.int .u8 (wI X / 65536 % 256)),λ u _=>u=(.int .i64 (m:Nat)),λ u _=>u=(.pointer (some ⟨nb,m,none⟩)),λ u _=>u=(.int .u32 (wI X)),λ u _=>u=(.int .u32 (wI X / 256)),λ u _=>u=(.int .u8 (wI X / 256 % 256)),λ u _=>u=(.int .i64 (m:Nat)),λ u _=>u=(.pointer (some ⟨nb,m,none⟩)),λ u _=>u=(.int .u32 (wI X)),λ u _=>u=(.int .u8 (wI X % 256)),λ uu w'=>∃c,uu=.slice (some ⟨c,0,none⟩) 4 4/\w'.heap[c]?=some (.cells #[.int .u8 (wI X / 16777216 % 256),.int .u8 (wI X / 65536 % 256),.int .u8 (wI X / 256 % 256),.int .u8 (wI X % 256)] 5 (0,0))]) rfl (by kernel_rfl) (by kernel_rfl) (mono_of ⟨mono_eq,mono_eq,mono_eq,mono_eq,mono_eq,mono_eq,mono_eq,mono_eq,mono_eq,mono_eq,mono_eq,mono_eq,mono_eq,mono_eq,mono_eq,mono_eq,mono_eq,mono_eq,mono_eq,mono_eq,?m20,trivial⟩) (steps_of 21 ⟨?s0,?s1,?s2,?s3,?s4,?s5,?s6,?s7,?s8,?s9,?s10,?s11,?s12,?s13,?s14,?s15,?s16,?s17,?s18,?s19,?s20,trivial⟩) ?_
     case m20=>
      exact⟨λ uu w1 w2 h ⟨c,h1,h2⟩=>⟨c,h1,ext_block h h2⟩,λ _ uu w1 w2 h ⟨c,h1,h2⟩=>⟨c,h1,extB_block h (by simp) h2⟩⟩
     case s0=>
      refine qV (λ _=>rfl) rfl λ av wv hE hO hD=>?_
      simp[go_sem,qF av 6 (OV) (hO.2.2 6 rfl),bi,bin,v1,v2,v3,v4]
     case s1=>
      refine qV (λ _=>rfl) rfl λ av wv hE hO hD=>?_
      simp[go_sem,qF av 7 (.int .i64 (m:Nat)) (hO.2.2 7 rfl),bi,bin,v1,v2,v3,v4]
     case s2=>
      refine qV (λ _=>rfl) rfl λ av wv hE hO hD=>?_
      simp[go_sem,qF av 3 (.pointer (some ⟨nb,0,none⟩)) (hO.2.2 3 rfl),qE (hD.1 rfl _ rfl),bi,bin,v1,v2,v3,v4]
     case s3=>
      refine qV (λ _=>rfl) rfl λ av wv hE hO hD=>?_
      simp[go_sem,qE (hD.1 rfl _ rfl),extB_cell hE (by simp) cx,bi,bin,v1,v2,v3,v4]
     case s4=>
      refine qV (λ _=>rfl) rfl λ av wv hE hO hD=>?_
      simp[go_sem,qE (hD.1 rfl _ rfl),bi,bin,v1,v2,v3,v4]
     case s5=>
      refine qV (λ _=>rfl) rfl λ av wv hE hO hD=>?_
      simp[go_sem,qE (hD.1 rfl _ rfl),bi,bin,v1,v2,v3,v4]
     case s6=>
      refine qV (λ _=>rfl) rfl λ av wv hE hO hD=>?_
      simp[go_sem,qF av 7 (.int .i64 (m:Nat)) (hO.2.2 7 rfl),bi,bin,v1,v2,v3,v4]
     case s7=>
      refine qV (λ _=>rfl) rfl λ av wv hE hO hD=>?_
      simp[go_sem,qF av 3 (.pointer (some ⟨nb,0,none⟩)) (hO.2.2 3 rfl),qE (hD.1 rfl _ rfl),bi,bin,v1,v2,v3,v4]
     case s8=>
      refine qV (λ _=>rfl) rfl λ av wv hE hO hD=>?_
      simp[go_sem,qE (hD.1 rfl _ rfl),extB_cell hE (by simp) cx,bi,bin,v1,v2,v3,v4]
     case s9=>
      refine qV (λ _=>rfl) rfl λ av wv hE hO hD=>?_
      simp[go_sem,qE (hD.1 rfl _ rfl),bi,bin,v1,v2,v3,v4]
     case s10=>
      refine qV (λ _=>rfl) rfl λ av wv hE hO hD=>?_
      simp[go_sem,qE (hD.1 rfl _ rfl),bi,bin,v1,v2,v3,v4]
     case s11=>
      refine qV (λ _=>rfl) rfl λ av wv hE hO hD=>?_
      simp[go_sem,qF av 7 (.int .i64 (m:Nat)) (hO.2.2 7 rfl),bi,bin,v1,v2,v3,v4]
     case s12=>
      refine qV (λ _=>rfl) rfl λ av wv hE hO hD=>?_
      simp[go_sem,qF av 3 (.pointer (some ⟨nb,0,none⟩)) (hO.2.2 3 rfl),qE (hD.1 rfl _ rfl),bi,bin,v1,v2,v3,v4]
     case s13=>
      refine qV (λ _=>rfl) rfl λ av wv hE hO hD=>?_
      simp[go_sem,qE (hD.1 rfl _ rfl),extB_cell hE (by simp) cx,bi,bin,v1,v2,v3,v4]
     case s14=>
      refine qV (λ _=>rfl) rfl λ av wv hE hO hD=>?_
      simp[go_sem,qE (hD.1 rfl _ rfl),bi,bin,v1,v2,v3,v4]
     case s15=>
      refine qV (λ _=>rfl) rfl λ av wv hE hO hD=>?_
      simp[go_sem,qE (hD.1 rfl _ rfl),bi,bin,v1,v2,v3,v4]
     case s16=>
      refine qV (λ _=>rfl) rfl λ av wv hE hO hD=>?_
      simp[go_sem,qF av 7 (.int .i64 (m:Nat)) (hO.2.2 7 rfl),bi,bin,v1,v2,v3,v4]
     case s17=>
      refine qV (λ _=>rfl) rfl λ av wv hE hO hD=>?_
      simp[go_sem,qF av 3 (.pointer (some ⟨nb,0,none⟩)) (hO.2.2 3 rfl),qE (hD.1 rfl _ rfl),bi,bin,v1,v2,v3,v4]
     case s18=>
      refine qV (λ _=>rfl) rfl λ av wv hE hO hD=>?_
      simp[go_sem,qE (hD.1 rfl _ rfl),extB_cell hE (by simp) cx,bi,bin,v1,v2,v3,v4]
     case s19=>
      refine qV (λ _=>rfl) rfl λ av wv hE hO hD=>?_
      simp[go_sem,qE (hD.1 rfl _ rfl),bi,bin,v1,v2,v3,v4]
     case s20=>
      refine step_wp (λ av wv hE hS hO hD=>⟨rfl,?_⟩)
      have f34:=qE (hD.1 rfl _ rfl);have f39:=qE (hD.2.1 rfl _ rfl);have f44:=qE (hD.2.2.1 rfl _ rfl);have f48:=qE (hD.2.2.2.1 rfl _ rfl)
      exact wp_of_run (v:=.slice (some ⟨wv.heap.size,0,none⟩) 4 4) (w':=wv.alloc (.cells #[.int .u8 (wI X / 16777216 % 256),.int .u8 (wI X / 65536 % 256),.int .u8 (wI X / 256 % 256),.int .u8 (wI X % 256)] 5)) (by simp[go_sem,f34,f39,f44,f48]) ⟨_,rfl,es_of_ext (balloc (Ext_refl _) _),wv.heap.size,rfl,heap_alloc_new _ _⟩
     intro a' w' hE hO hall
     have hA:=act_of_outer (ds:=[29,30,31,32,33,34,35,36,37,38,39,40,41,42,43,44,45,46,47,48,49]) rfl hO (by kernel_rfl)
     obtain⟨j0,j1,j2,j3,j4,j5,j6,j7,j8,j9,j10,j11,j12,j13,j14,j15,j16,j17,j18,j19,j20,-⟩:=hall
     have e49:(λ uu w'=>∃c,uu=.slice (some ⟨c,0,none⟩) 4 4/\w'.heap[c]?=some (.cells #[.int .u8 (wI X / 16777216 % 256),.int .u8 (wI X / 65536 % 256),.int .u8 (wI X / 256 % 256),.int .u8 (wI X % 256)] 5 (0,0))) (a'.eval (.tmp 49)) w':=j20 _ rfl
     obtain⟨v49,hv49⟩:∃v,a'.eval (.tmp 49)=v:=⟨_,rfl⟩
     rw[hv49]at e49
     simp only[List.foldl_cons,List.foldl_nil,Act.put,List.setIfInBounds_toArray,List.set_cons_succ,List.set_cons_zero,qJ 29 (j0 _ rfl),qJ 30 (j1 _ rfl),qJ 31 (j2 _ rfl),qJ 32 (j3 _ rfl),qJ 33 (j4 _ rfl),qJ 34 (j5 _ rfl),qJ 35 (j6 _ rfl),qJ 36 (j7 _ rfl),qJ 37 (j8 _ rfl),qJ 38 (j9 _ rfl),qJ 39 (j10 _ rfl),qJ 40 (j11 _ rfl),qJ 41 (j12 _ rfl),qJ 42 (j13 _ rfl),qJ 43 (j14 _ rfl),qJ 44 (j15 _ rfl),qJ 45 (j16 _ rfl),qJ 46 (j17 _ rfl),qJ 47 (j18 _ rfl),qJ 48 (j19 _ rfl),hv49]at hA
     clear hO j20 j0 j1 j2 j3 j4 j5 j6 j7 j8 j9 j10 j11 j12 j13 j14 j15 j16 j17 j18 j19 hv49
     subst hA
     have hX:=of_drew hE;have HO2:=QLh (own_below HO.out hX);have HNB2:=QLh ((hX.block _ (lt_of_block HNB.out)).trans HNB.out);have HW2:Hid (Below w.heap.size w w'):=QLh (bnext HW.out hX);have HOB2:Hid (ob<=w'.heap.size):=QLh (Nat.le_trans HOB.out hX.size)
     obtain⟨cb,rfl,hcb⟩:=e49
     have HCB:=QLh hcb;clear hX hE cx bi bin v1 v2 v3 v4 HOB HNB HW hcb;have hmm:4 * m<=32:=by omega
     simp only[List.drop_succ_cons,List.drop_zero]
     go_wp2_with (at_builtin;refine wpList_append_own _ rfl _ _ 41 rfl ob 5 i0 (.int .u8 0) 1 1 Tryz.underlying41 hi HZ0.out hz1 hz2 rfl (by decide) _ _ _ rfl HO2.out ⟨cb,0,none⟩ 4 4 [.int .u8 (wI X / 16777216 % 256),.int .u8 (wI X / 65536 % 256),.int .u8 (wI X / 256 % 256),.int .u8 (wI X % 256)] rfl rfl (World.news_of_block HCB.out) (by intro u hu;simp at hu;rcases hu with rfl | rfl | rfl | rfl <;> rfl) (by unfold maxLen;omega) (by omega) HOB2.out ?_;intro v9 w4 hown2 hgrow2 _)
     have HO3:Hid (w4.ownsRow ob 5 1 v9 (4 * (m+1)) ((((stL z).take (m+1)).map word4).flatten.map byV)):=QLh (by
      rw[outW_snoc z m hlt,HX.out,List.map_append,<-word4_vals]
      exact hown2)
     have HNB3:Hid (w4.heap[nb]?=some (.cells (wsC (stL z)) 222 (0,0))):=QLh ((hgrow2.block nb (lt_of_block HNB2.out) (λ e=>by
      have:=(HO2.out.lt nb e.symm).1;have:=HLT.out.1
      omega)).trans HNB2.out)
     have HW3:Hid (Below w.heap.size w w4):=QLh (grownBy_below HW2.out hgrow2 (λ k hk'=>Nat.le_trans HLT.out.2 (HO2.out.lt k hk').1));have HOB3:Hid (ob<=w4.heap.size):=QLh (Nat.le_trans HOB2.out hgrow2.size);clear hown2 hgrow2
     go_wp2
     go_roundg (8 - (m+1))
     case rel=>exact⟨m+1,by omega,by go_num,HO3,HNB3,HW3,HOB3⟩
     case measure=>omega
    ·obtain rfl:m=8:=by omega
     have i1:¬((8:Nat):Int)<8:=by decide
     have HO2:Hid (wr.ownsRow ob 5 1 u6 32 ((shaL s.data.toList).map byV)):=QLh (by
      have h1:=HO.out
      rw[show(stL z).take 8=stL z from rfl,outW_eq,<-HZ.out]at h1
      exact h1)
     have cv:=conv_own HO2.out (shaL_len s.data.toList) (by decide)
     go_wp2
     go_ret
     exact⟨rfl,HW.out⟩
end
theorem ofNat_byV(x:Nat):Value.int .u8 ((x:Int) % 256)=byV (UInt8.ofNat x):=by
 unfold byV
 rw[UInt8.toNat_ofNat']
 congr 1
theorem num8_drop(N m:Nat)(h:m<8):(num8 N).drop (8 - (m+1))=UInt8.ofNat (N / 256 ^ m) :: (num8 N).drop (8 - m):=by
 have h8:8 - (m+1)<(num8 N).length:=by rw[num8_len];omega
 rw[List.drop_eq_getElem_cons h8,show 8 - (m+1)+1=8 - m by omega]
 congr 1
 have h9:=num8_get N (8 - (m+1)) (by omega)
 rw[List.getElem?_eq_getElem h8]at h9
 have h10:=Option.some.inj h9
 rw[h10,show 7 - (8 - (m+1))=m by omega]
theorem rnum_any(N:Nat)(w:World)(hN:N<18446744073709551616):Calls Tryz.prog 186 #[.int .u64 (N:Nat)] w λ e w'=>e=.returned (.string (num8S N))/\Below w.heap.size w w':=by
 have HN:=QLh hN;clear hN
 go_enter Tryz.func186,Tryz.ntmps186
 go_upto_region 3 with fail
 go_loopg [4,3,0] 8 (λ g i x n wr=>∃(m:Nat) (X:ByteArray),g+m=8/\i=.int .i64 m/\x=.string X/\n=.int .u64 ((N / 256 ^ m:Nat):Int)/\Hid (X.data.toList=(num8 N).drop (8 - m))/\Hid (Below w.heap.size w wr))
 case atStart=>exact⟨0,⟨#[]⟩,rfl,rfl,rfl,by rw[Nat.pow_zero,Nat.div_one],QLh (by rw[List.drop_of_length_le (by rw[num8_len];decide)]),QLh (Below.refl _ _)⟩
 case round=>
  obtain⟨m,X,hm,rfl,rfl,rfl,HX,HW⟩:=hrel
  by_cases hlt:m<8
  ·have i1:(m:Int)<8:=by omega
   obtain⟨x,hx⟩:∃x,N / 256 ^ m=x:=⟨_,rfl⟩
   have HXX:Hid (N / 256 ^ (m+1)=x / 256):=QLh (by rw[Nat.pow_succ,<-Nat.div_div_eq_div_mul,hx]);have hx6:x<18446744073709551616:=by rw[<-hx];exact Nat.lt_of_le_of_lt (Nat.div_le_self _ _) HN.out
   obtain⟨b9,hb9⟩:∃b9,UInt8.ofNat x=b9:=⟨_,rfl⟩
   have HB9:Hid (Value.int .u8 ((x:Int) % 256)=byV b9):=QLh (by rw[ofNat_byV,hb9]);have cv:(convert 41 9 (.slice (some ⟨wr.heap.size,0,none⟩) 1 1)).run Tryz.prog (wr.alloc (.cells #[.int .u8 ((x:Int) % 256)] 5))=.ok (.string ⟨#[b9]⟩) (wr.alloc (.cells #[.int .u8 ((x:Int) % 256)] 5)):=by
    rw[HB9.out]
    exact conv_new wr 5 1 1 [b9] rfl
   have HX2:Hid (((⟨#[b9]⟩:ByteArray)++X).data.toList=(num8 N).drop (8 - (m+1))):=QLh (by
    rw[app_data,HX.out,num8_drop N m hlt,hx,hb9]
    rfl)
   have q2:1+X.size<=9223372036854775807:=by
    have h1:=congrArg List.length HX.out
    rw[data_size,List.length_drop,num8_len]at h1
    omega
   rw[hx]
   have HE:Hid (((x:Nat):Int) / 256=((N / 256 ^ (m+1):Nat):Int)):=QLh (by rw[HXX.out];rfl);clear hx hb9
   go_wp2
   go_roundg (8 - (m+1))
   case rel=>exact⟨m+1,_,by omega,by go_num,rfl,by rw[HE.out],HX2,by(repeat (first | exact Below.refl _ _ | assumption | (refine bdrew ?_) | (refine bdrewN ?_ _) | (refine balloc ?_ _) | (refine bset ?_ (by first | omega | (simp;done) | (simp;omega)) _) | (refine bnext ?_ (by assumption))))⟩
   case measure=>omega
  ·obtain rfl:m=8:=by omega
   have i1:¬((8:Nat):Int)<8:=by decide
   have HF:Hid (X=num8S N):=QLh (ba_eq (by rw[HX.out];rfl))
   go_wp2
   go_ret
   exact⟨by rw[HF.out];rfl,HW.out⟩
theorem rframe_any(tag:ByteArray)(parts:List ByteArray)(a:Option Addr)(cap:Nat)(w:World)(h1:1<=tag.size)(h2:tag.size<=16)(hp:Txts w a parts)(hs:(partsL parts).length<=140737488355300):
  Calls Tryz.prog 136 #[.string tag,.slice a (len parts) cap] w λ e w'=>e=.returned (.string (frameS tag parts))/\Below w.heap.size w w':=by
 have HP:=QLh hp;have HS:=QLh hs;have HT2:=QLh h2;have HPL:Hid (len parts<=140737488355300):=QLh (by have:=partsL_ge parts;rw[len_eq];omega);have t1:¬(tag.size:Int)<1:=by omega
 have t2:¬(16:Int)<(tag.size:Int):=by omega
 have t3:IntKind.u8.wrap ((tag.size:Nat):Int)=((tag.size:Nat):Int):=IntWalk.u8_in _ (by omega);have t4:1+tag.size<=9223372036854775807:=by omega
 have HB9:Hid (Value.int .u8 ((tag.size:Nat):Int)=byV (UInt8.ofNat tag.size)):=QLh (by
  unfold byV
  rw[UInt8.toNat_ofNat',Nat.mod_eq_of_lt (by omega)])
 have cv:(convert 41 9 (.slice (some ⟨w.heap.size,0,none⟩) 1 1)).run Tryz.prog (w.alloc (.cells #[.int .u8 ((tag.size:Nat):Int)] 5))=.ok (.string ⟨#[UInt8.ofNat tag.size]⟩) (w.alloc (.cells #[.int .u8 ((tag.size:Nat):Int)] 5)):=by
  rw[HB9.out]
  exact conv_new w 5 1 1 [UInt8.ofNat tag.size] rfl
 clear hp hs h1 h2
 go_enter Tryz.func136,Tryz.ntmps136
 go_upto_region 5 with fail
 obtain⟨X0,hX0⟩:∃X0,(⟨#[UInt8.ofNat tag.size]⟩:ByteArray)++tag=X0:=⟨_,rfl⟩
 rw[hX0]
 have HX0:Hid (X0.data.toList=headL tag++partsL (parts.take 0)):=QLh (by rw[<-hX0,app_data,List.take_zero,show partsL []=[]from rfl,List.append_nil];rfl);have HW0:Hid (Below w.heap.size w (w.alloc (.cells #[.int .u8 ((tag.size:Nat):Int)] 5))):=QLh (balloc (Below.refl _ _) _);clear hX0 t1 t2 t3 t4 cv
 go_loopg [6,5] (len parts) (λ g i x wr=>∃(m:Nat) (X:ByteArray),g+m=len parts/\i=.int .i64 m/\x=.string X/\Hid (X.data.toList=headL tag++partsL (parts.take m))/\Hid (Below w.heap.size w wr))
 case atStart=>exact⟨0,X0,rfl,rfl,rfl,HX0,HW0⟩
 case round=>
  clear HX0 HW0
  obtain⟨m,X,hm,rfl,rfl,HX,HW⟩:=hrel
  have HPB:=HPL.out
  by_cases hlt:m<len parts
  ·have b0:(m:Int)<len parts:=by omega
   obtain⟨pb,po,rfl,cs⟩:=(HP.out.below HW.out) m hlt
   obtain⟨p,hx⟩:∃p,tth parts m=p:=⟨_,rfl⟩
   rw[hx]at cs
   have hsz:X.size+(8+p.size)<=140737488355328:=by
    have h1:=congrArg List.length HX.out
    rw[data_size,List.length_append,headL_len]at h1
    have h2:=partsL_le parts (m+1)
    rw[partsL_snoc _ _ hlt,List.length_append,hx,partL_len]at h2
    have:=HS.out;have:=HT2.out
    omega
   have bl:¬len parts<=m:=by omega
   have u1:IntKind.u64.wrap ((p.size:Nat):Int)=((p.size:Nat):Int):=IntWalk.u64_in _ (by omega);have q1:X.size+(num8S p.size).size<=9223372036854775807:=by rw[num8S_size];omega
   have q2:X.size+(num8S p.size).size+p.size<=9223372036854775807:=by rw[num8S_size];omega
   have HNM:=QLh (λ w9=>rnum_any p.size w9 (by omega));have HX2:Hid (((X++num8S p.size)++p).data.toList=headL tag++partsL (parts.take (m+1))):=QLh (by
    rw[app_data,app_data,HX.out,partsL_snoc _ _ hlt,hx]
    unfold partL
    simp only[List.append_assoc]
    rfl)
   clear hx hsz
   go_upto_region 7 with fail
   refine wp_region_tail 14 1000 (none) (phis (List.map qv [.string X,.slice (some ⟨pb,po,none⟩) (len parts) cap,.int .i64 (m:Nat),.pointer (some ⟨pb,po+m,none⟩),.string p,.int .i64 (p.size:Nat),.int .u64 (p.size:Nat),.string (num8S p.size),.string (X++num8S p.size),.slice (some ⟨pb,po,none⟩) (len parts) cap,.int .i64 (m:Nat),.pointer (some ⟨pb,po+m,none⟩),.string p,.string ((X++num8S p.size)++p)])) rfl (by kernel_rfl) (by kernel_rfl) (mono_of mono_qv) (steps_of 14 ⟨?s0,?s1,?s2,?s3,?s4,?s5,?s6,?s7,?s8,?s9,?s10,?s11,?s12,?s13,trivial⟩) ?_
   case s0=>
    refine qV (λ _=>rfl) rfl λ av wv hE hO hD=>?_
    simp[go_sem,qF av 5 (.string X) (hO.2.2 5 rfl),bl,u1,q1,q2]
   case s1=>
    refine qV (λ _=>rfl) rfl λ av wv hE hO hD=>?_
    simp[go_sem,qF av 1 (.slice (some ⟨pb,po,none⟩) (len parts) cap) (hO.2.2 1 rfl),bl,u1,q1,q2]
   case s2=>
    refine qV (λ _=>rfl) rfl λ av wv hE hO hD=>?_
    simp[go_sem,qF av 6 (.int .i64 (m:Nat)) (hO.2.2 6 rfl),bl,u1,q1,q2]
   case s3=>
    refine qV (λ _=>rfl) rfl λ av wv hE hO hD=>?_
    simp[go_sem,qE (hD.1 rfl _ rfl),qE (hD.2.1 rfl _ rfl),bl,u1,q1,q2]
   case s4=>
    refine qV (λ _=>rfl) rfl λ av wv hE hO hD=>?_
    simp[go_sem,qE (hD.1 rfl _ rfl),extB_cell hE (by simp) cs,bl,u1,q1,q2]
   case s5=>
    refine qV (λ _=>rfl) rfl λ av wv hE hO hD=>?_
    simp[go_sem,qE (hD.1 rfl _ rfl),bl,u1,q1,q2]
   case s6=>
    refine qV (λ _=>rfl) rfl λ av wv hE hO hD=>?_
    simp[go_sem,qE (hD.1 rfl _ rfl),bl,u1,q1,q2]
   case s7=>
    refine step_wp (λ av wv hE hS hO hD=>⟨rfl,?_⟩)
    have f34:=qE (hD.1 rfl _ rfl)
    refine wp_of_call (v:=.string (num8S p.size)) (by simp[go_sem,f34]) (HNM.out wv) (λ w2 hb=>⟨_,rfl,es_of_ext hb,rfl⟩)
   case s8=>
    refine qV (λ _=>rfl) rfl λ av wv hE hO hD=>?_
    simp[go_sem,qE (hD.1 rfl _ rfl),qE (hD.2.1 rfl _ rfl),bl,u1,q1,q2]
   case s9=>
    refine qV (λ _=>rfl) rfl λ av wv hE hO hD=>?_
    simp[go_sem,qF av 1 (.slice (some ⟨pb,po,none⟩) (len parts) cap) (hO.2.2 1 rfl),bl,u1,q1,q2]
   case s10=>
    refine qV (λ _=>rfl) rfl λ av wv hE hO hD=>?_
    simp[go_sem,qF av 6 (.int .i64 (m:Nat)) (hO.2.2 6 rfl),bl,u1,q1,q2]
   case s11=>
    refine qV (λ _=>rfl) rfl λ av wv hE hO hD=>?_
    simp[go_sem,qE (hD.1 rfl _ rfl),qE (hD.2.1 rfl _ rfl),bl,u1,q1,q2]
   case s12=>
    refine qV (λ _=>rfl) rfl λ av wv hE hO hD=>?_
    simp[go_sem,qE (hD.1 rfl _ rfl),extB_cell hE (by simp) cs,bl,u1,q1,q2]
   case s13=>
    refine qV (λ _=>rfl) rfl λ av wv hE hO hD=>?_
    simp[go_sem,qE (hD.1 rfl _ rfl),qE (hD.2.1 rfl _ rfl),bl,u1,q1,q2]
   intro a' w' hE hO hall
   have hA:=act_of_outer (ds:=[28,29,30,31,32,33,34,35,36,37,38,39,40,41]) rfl hO (by kernel_rfl)
   obtain⟨j0,j1,j2,j3,j4,j5,j6,j7,j8,j9,j10,j11,j12,j13,-⟩:=hall
   simp only[List.foldl_cons,List.foldl_nil,Act.put,List.setIfInBounds_toArray,List.set_cons_succ,List.set_cons_zero,qJ 28 (j0 _ rfl),qJ 29 (j1 _ rfl),qJ 30 (j2 _ rfl),qJ 31 (j3 _ rfl),qJ 32 (j4 _ rfl),qJ 33 (j5 _ rfl),qJ 34 (j6 _ rfl),qJ 35 (j7 _ rfl),qJ 36 (j8 _ rfl),qJ 37 (j9 _ rfl),qJ 38 (j10 _ rfl),qJ 39 (j11 _ rfl),qJ 40 (j12 _ rfl),qJ 41 (j13 _ rfl)]at hA
   clear hO j0 j1 j2 j3 j4 j5 j6 j7 j8 j9 j10 j11 j12 j13
   subst hA
   have HW2:Hid (Below w.heap.size w w'):=QLh (bnext HW.out (of_drew hE));clear hE cs bl u1 q1 q2
   go_wp2
   go_roundg (len parts - (m+1))
   case rel=>exact⟨m+1,_,by omega,by go_num,rfl,HX2,HW2⟩
   case measure=>omega
  ·obtain rfl:m=len parts:=by omega
   have b0:¬((len parts:Nat):Int)<len parts:=by omega
   have HF:Hid (X=frameS tag parts):=QLh (ba_eq (by rw[HX.out,take_len];rfl))
   go_wp2
   go_ret
   exact⟨by rw[HF.out];rfl,HW.out⟩
theorem rhash_any(tag:ByteArray)(parts:List ByteArray)(a:Option Addr)(cap:Nat)(w:World)(h1:1<=tag.size)(h2:tag.size<=16)(hp:Txts w a parts)(hs:(partsL parts).length<=140737488355300):
  Calls Tryz.prog 81 #[.string tag,.slice a (len parts) cap] w λ e w'=>e=.returned (.string (hashP tag parts))/\Below w.heap.size w w':=by
 have HF:=QLh (rframe_any tag parts a cap w h1 h2 hp hs);have HS:Hid (1<=(frameS tag parts).size/\(frameS tag parts).size<=140737488355328):=QLh (by rw[frameS_size];omega);clear h1 h2 hp hs
 go_enter Tryz.func81,Tryz.ntmps81
 go_wp2_with fail
 refine HF.out.mono ?_
 rintro e w1 ⟨rfl,hb1⟩
 have HB1:=QLh hb1;have t1:(frameS tag parts).toList.isEmpty=false:=fullT (by have:=HS.out;omega);clear hb1
 go_wp2_with fail
 refine(rsum_any (frameS tag parts) w1 (by have:=HS.out;omega)).mono ?_
 rintro e w2 ⟨rfl,hb2⟩
 have HB2:Hid (Below w.heap.size w w2):=QLh (bnext HB1.out hb2);clear hb2
 go_wp2
 go_ret
 exact⟨rfl,HB2.out⟩
theorem rhash0_any(tag:ByteArray)(w:World)(h1:1<=tag.size)(h2:tag.size<=16):Calls Tryz.prog 81 #[.string tag,.slice none 0 0] w λ e w'=>e=.returned (.string (hashP tag []))/\Below w.heap.size w w':=
 rhash_any tag [] none 0 w h1 h2 (Txts.nil _ _) (by decide)
theorem txts_rcells{w:World}{b:Nat}{t:TypeId}(l:List ByteArray)(h:w.heap[b]?=some (.cells (l.map Value.string).toArray t (0,0))):Txts w (some ⟨b,0,none⟩) l:=λ i hi=>⟨b,0,rfl,by
 have h2:i<l.length:=hi
 rw[block_cell h,Nat.zero_add,List.getElem?_toArray,List.getElem?_map,List.getElem?_eq_getElem h2,tth_eq l i hi]
 rfl⟩
theorem rhash1_any(tag s:ByteArray)(w:World)(h1:1<=tag.size)(h2:tag.size<=16)(hs:s.size<=140737488355200):Calls Tryz.prog 81 #[.string tag,.slice (some ⟨w.heap.size,0,none⟩) 1 1] (w.alloc (.cells #[.string s] 9)) λ e w'=>e=.returned (.string (hashP tag [s]))/\Below w.heap.size w w':=by
 have hw1:Txts (w.alloc (.cells #[.string s] 9)) (some ⟨w.heap.size,0,none⟩) [s]:=txts_rcells [s] (heap_alloc_new _ _)
 refine(rhash_any tag [s] (some ⟨w.heap.size,0,none⟩) 1 _ h1 h2 hw1 (by show((partL s)++[]).length<=_;rw[List.append_nil,partL_len];omega)).mono ?_
 rintro e w2 ⟨rfl,hb2⟩
 exact⟨rfl,bnext (balloc (Below.refl _ _) _) hb2⟩
theorem rhash2_any(tag s t:ByteArray)(w:World)(h1:1<=tag.size)(h2:tag.size<=16)(hs:s.size<=1000000)(ht:t.size<=1000000):Calls Tryz.prog 81 #[.string tag,.slice (some ⟨w.heap.size,0,none⟩) 2 2] (w.alloc (.cells #[.string s,.string t] 9)) λ e w'=>e=.returned (.string (hashP tag [s,t]))/\Below w.heap.size w w':=by
 have hw1:Txts (w.alloc (.cells #[.string s,.string t] 9)) (some ⟨w.heap.size,0,none⟩) [s,t]:=txts_rcells [s,t] (heap_alloc_new _ _)
 refine(rhash_any tag [s,t] (some ⟨w.heap.size,0,none⟩) 2 _ h1 h2 hw1 (by show((partL s)++((partL t)++[])).length<=_;rw[List.append_nil,List.length_append,partL_len,partL_len];omega)).mono ?_
 rintro e w2 ⟨rfl,hb2⟩
 exact⟨rfl,bnext (balloc (Below.refl _ _) _) hb2⟩
section
open Go.RowKit Go.ChangeMaps
theorem rroot_arg(n:Int)(ps:List Int)(es ds:List ByteArray)(pa ea da:Option Addr)(pc ec dc:Nat)(w:World)(hp:U64s w pa ps)(hl:len ps<=100)(h0:-9223372036854775808<=n)(h1:n<=9223372036854775807)(hb:¬ArgOk n ps es)(hle:len es<=1000000):
  Calls Tryz.prog 180 #[.int .i64 n,.slice pa (len ps) pc,.slice ea (len es) ec,.slice da (len ds) dc] w (RootIs n ps es ds w):=by
 have HE:Hid (rootE n ps es ds=2/\rootS n ps es ds=⟨#[]⟩):=QLh (by
  have h9:rootE n ps es ds=2:=by unfold rootE;rw[if_pos hb]
  exact⟨h9,by unfold rootS;rw[h9];rfl⟩)
 have HM:=QLh (λ w9 hb9=>rMay_any n ps pa pc w9 (hp.below hb9) (by omega) h0 h1)
 by_cases hs:SizeOk n ps
 ·have hne:¬len es=len ps:=λ h9=>hb ⟨hs,h9⟩
  have z1:¬((len es:Nat):Int)=((len ps:Nat):Int):=by omega
  rw[decide_eq_true hs]at HM
  clear hb hs hp hl h0 h1 hne hle
  go_enter Tryz.func180,Tryz.ntmps180
  go_wp2_with fail
  refine(HM.out _ (Below.refl _ _)).mono ?_
  rintro e w1 ⟨rfl,hb1⟩
  have HB1:=QLh hb1;clear hb1
  go_wp2
  go_ret2
  exact⟨by rw[HE.out.1,HE.out.2];rfl,HB1.out⟩
 ·rw[decide_eq_false hs]at HM
  clear hb hs hp hl h0 h1 hle
  go_enter Tryz.func180,Tryz.ntmps180
  go_wp2_with fail
  refine(HM.out _ (Below.refl _ _)).mono ?_
  rintro e w1 ⟨rfl,hb1⟩
  have HB1:=QLh hb1;clear hb1
  go_wp2
  go_ret2
  exact⟨by rw[HE.out.1,HE.out.2];rfl,HB1.out⟩
structure KlAt(B:Nat)(v:Value)(KL:List Plc)(w:World):Prop where
 own:w.ownsRow B 279 2 v (len KL) (KL.flatMap Plc.cells)
 ok:∀x ∈ KL,0<=x.K/\x.K<65536/\x.d.size<=1000
theorem KlAt.nil(B:Nat)(w:World):KlAt B (.slice none 0 0) [] w:=⟨World.ownsRow_nil _ _ _ _,λ x h=>by simp at h⟩
theorem KlAt.below{B:Nat}{v:Value}{KL:List Plc}{w w':World}(h:KlAt B v KL w)(hb:Below w.heap.size w w'):KlAt B v KL w':=⟨own_below h.own hb,h.ok⟩
theorem KlAt.plcs{B:Nat}{v:Value}{KL:List Plc}{w:World}(h:KlAt B v KL w):∃a c,v=.slice a (len KL) c/\Plcs w a KL:=by
 obtain⟨a,c,h1,h2,_⟩:=Plcs.own h.own
 exact⟨a,c,h1,h2⟩
theorem KlAt.snoc{B:Nat}{v:Value}{KL:List Plc}{w':World}(ok:∀x ∈ KL,0<=x.K/\x.K<65536/\x.d.size<=1000)(x:Plc)(h:w'.ownsRow B 279 2 v (len KL+1) (KL.flatMap Plc.cells++x.cells))(hx:0<=x.K/\x.K<65536/\x.d.size<=1000):KlAt B v (KL++[x]) w':=by
 refine⟨?_,λ y hy=>?_⟩
 ·have e:len (KL++[x])=len KL+1:=by rw[len_eq,List.length_append];rfl
  rw[e,List.flatMap_append]
  simpa using h
 ·rcases List.mem_append.1 hy with h1 | h1
  ·exact ok y h1
  ·rw[List.mem_singleton]at h1;rw[h1];exact hx
theorem plc_len_snoc(KL:List Plc)(x:Plc):len (KL++[x])=len KL+1:=by rw[len_eq,List.length_append];rfl
theorem laid8_grow{w w1:World}{base b2 n:Nat}{v vo:Value}{rs:List (List Int)}{xs:List Value}(h:Laid8 w base v rs)(hq:w.ownsRow b2 279 2 vo n xs)(hg:w.grownBy w1 vo.ownBlock):Laid8 w1 base v rs:=by
 obtain⟨vals,h1,h2⟩:=h
 refine⟨vals,h1.kept hg (own_apart h1 hq (by decide)),h2.kept hg (λ i u hu=>?_)⟩
 rcases hq.2 with⟨e,_⟩ | ⟨g,cap,cur,e,_,hgb,_⟩
 ·rw[e];cases h:u.ownBlock <;> simp[Value.ownBlock]
 ·rw[e];exact h2.apart hgb (by decide) i u hu
theorem laid8_rows{w:World}{base n c:Nat}{a:Option Addr}{rs:List (List Int)}(h:Laid8 w base (.slice a n c) rs):Rows2 w a rs:=by
 obtain⟨vals,h1,h2⟩:=h
 obtain⟨a',c',e,h3,_,_⟩:=rows2_of h1 h2
 cases e
 exact h3
theorem leaf_bd{ps:List Int}{d:Nat}(hd:d<=16)(m:Nat)(h:m<len (leavesL ps (d:Nat))):0<=nth (leavesL ps (d:Nat)) m/\nth (leavesL ps (d:Nat)) m<65536:=by
 have h1:=leaves_in hd _ (mem_nth h);have h2:(2:Int) ^ d<=65536:=by
  rw[pow_cast]
  have:2 ^ d<=65536:=Nat.pow_le_pow_right (n:=2) (by decide) hd
  omega
 omega
theorem plc_take(KL:List Plc):KL.take (len KL)=KL:=List.take_length
theorem fnd_key:∀(l:List Plc) (k:Int),(fndF l k).isSome->∃x ∈ l,x.K=k
 | [],k,h=>by cases h
 | y :: l,k,h=>by
  rw[fndF_cons]at h
  by_cases e:y.K=k
  ·exact⟨y,List.mem_cons_self,e⟩
  ·rw[if_neg e]at h
   obtain⟨x,h1,h2⟩:=fnd_key l k h
   exact⟨x,List.mem_cons_of_mem _ h1,h2⟩
theorem fnd_mem:∀(l:List Plc) (x:Plc),x ∈ l->(fndF l x.K).isSome
 | y :: l,x,h=>by
  rw[fndF_cons]
  by_cases e:y.K=x.K
  ·rw[if_pos e];rfl
  ·rw[if_neg e]
   rcases List.mem_cons.1 h with rfl | h1
   ·exact absurd rfl e
   ·exact fnd_mem l x h1
theorem fnd_val:∀(l:List Plc) (k:Int) (d:ByteArray),fndF l k=some d->∃x ∈ l,x.d=d
 | [],k,d,h=>by cases h
 | y :: l,k,d,h=>by
  rw[fndF_cons]at h
  by_cases e:y.K=k
  ·rw[if_pos e]at h;exact⟨y,List.mem_cons_self,Option.some.inj h⟩
  ·rw[if_neg e]at h
   obtain⟨x,h1,h2⟩:=fnd_val l k d h
   exact⟨x,List.mem_cons_of_mem _ h1,h2⟩
theorem kl_small{KL:List Plc}(h:∀x ∈ KL,0<=x.K/\x.K<65536/\x.d.size<=1000)(k:Int):(kidF (fndF KL) k).size<=1000000:=by
 unfold kidF
 cases hf:fndF KL k with
 | none=>show(0:Nat)<=_;omega
 | some d=>
  obtain⟨x,h1,h2⟩:=fnd_val KL k d hf
  have:=(h x h1).2.2
  rw[h2]at this
  show d.size<=_
  omega
theorem row_bd{ps:List Int}{d i:Nat}{t:Int}(hd:d<=16)(hi:i<d)(h:t ∈ rnth (rowsOf (leavesL ps (d:Nat)) d) i):0<=t/\t<65536:=by
 obtain⟨⟨y,hy,rfl⟩,_⟩:=(row_mem _ d i hi t).1 h
 obtain⟨h1,h2⟩:=leaves_in hd y hy
 have h3:=half_bd h1 h2 (Nat.le_of_lt hi)
 obtain⟨e,he⟩:∃e,d - i=e+1:=⟨d - i - 1,by omega⟩
 rw[he]at h3
 have h4:=sib_bd h3.1 h3.2;have h5:(2:Int) ^ (e+1)<=65536:=by
  rw[pow_cast]
  have:2 ^ (e+1)<=65536:=Nat.pow_le_pow_right (n:=2) (by decide) (by omega:e+1<=16)
  omega
 omega
theorem rroot_main(nn:Nat)(ps:List Int)(es ds:List ByteArray)(pa ea da:Option Addr)(pc ec dc:Nat)(w:World)(hp:U64s w pa ps)(he:Txts w ea es)(hd:Txts w da ds)(hl:len ps<=100)(hu:∀k ∈ ps,U64 k)(hld:len ds<=1000000)(hdc:len ds<=dc)(hez:∀i,i<len es->(tth es i).size<=1000000)(hb:ArgOk (nn:Nat) ps es):
  Calls Tryz.prog 180 #[.int .i64 (nn:Nat),.slice pa (len ps) pc,.slice ea (len es) ec,.slice da (len ds) dc] w (RootIs (nn:Nat) ps es ds w):=by
 have hn16:nn<=65536:=by have:=hb.1.2.1;omega
 obtain⟨d,hdd⟩:∃d:Nat,Lib.bitLen (nn - 1)=d:=⟨_,rfl⟩
 have hdz:depthZ (nn:Nat)=(d:Nat):=by unfold depthZ;rw[if_neg (by omega),Int.toNat_natCast,hdd]
 have hdb:=depth_bd nn hn16
 rw[hdd]at hdb
 have HD16:Hid (d<=16):=QLh hdb.1
 obtain⟨lv,hlv⟩:∃lv,leavesL ps (d:Nat)=lv:=⟨_,rfl⟩
 have HLN:Hid (len lv=len ps):=QLh (by rw[<-hlv,leavesL_len]);have HLU:Hid (∀k ∈ lv,U64 k):=QLh (by rw[<-hlv];exact leavesL_u64 ps _);have HLND:Hid (lv.Nodup):=QLh (by rw[<-hlv];exact leaves_nodup hdb.1 hdb.2.1 hu hb.1.2.2);have HLBD:Hid (∀m,m<len lv->0<=nth lv m/\nth lv m<65536):=QLh (by rw[<-hlv];exact λ m hm=>leaf_bd hdb.1 m hm)
 obtain⟨rs,hrs⟩:∃rs,rowsOf lv d=rs:=⟨_,rfl⟩
 have HNR:Hid (needsL lv (d:Nat)=rs):=QLh (by rw[<-hrs,<-hlv];exact needsP_rows hdb.1 hb.1.2.2);have HRL:Hid (len rs=d):=QLh (by rw[<-hrs,rowsOf_len]);have HLV:=QLh hlv;have HRS:=QLh hrs;have HNM:Hid (∀i,len (rnth rs i)<=100):=QLh (by
  rw[<-HNR.out]
  exact rnth_nl _ _ (by rw[HLN.out];exact hl))
 have HRP:Hid (rowsP (nn:Nat) ps=rs):=QLh (by unfold rowsP;rw[hdz,hlv];exact HNR.out);have HDP:Hid (digP (nn:Nat) ps es ds=kidF (rootG (g0F lv es) rs ds) 0):=QLh (by unfold digP;rw[HRP.out,hdz,hlv]);have HNP:Hid (neededP (nn:Nat) ps=usedR rs (len rs)):=QLh (by unfold neededP;rw[HRP.out]);have HM:=QLh (λ w9 hb9=>rMay_any (nn:Nat) ps pa pc w9 (hp.below hb9) (by omega) (by omega) (by omega))
 rw[decide_eq_true hb.1]at HM
 have hel:=hb.2;have HDE:=QLh (λ w9=>refDepth_any (nn:Nat) w9 (by omega) (by omega))
 rw[hdz]at HDE
 have HLF:=QLh (λ k (hk:U64 k) w9=>refLeaf_any k (d:Nat) w9 hk.1 hk.2 (by have:=HD16.out;omega) (by have:=HD16.out;omega));have HP:=QLh hp;have HES:=QLh he;have HDS:=QLh hd;have HU:=QLh hu;have HL100:=QLh hl;have HEZ:=QLh hez;have HEL:=QLh hel;have HLD:=QLh hld;have HDC:=QLh hdc;have HARG:=QLh hb
 obtain⟨i0,hi,hz0,hz1,hz2⟩:=info_parts info_u64
 have HZ0:=QLh hz0
 obtain⟨j0,hj,hy0,hy1,hy2⟩:=info_parts info_plc
 have HY0:=QLh hy0;clear hp he hd hl hu hld hdc hez hb hn16 hdd hdz hdb hlv hrs hel hz0 hy0
 go_enter Tryz.func180,Tryz.ntmps180
 rw[HEL.out]
 go_wp2_with fail
 refine(HM.out _ (Below.refl _ _)).mono ?_
 rintro e w1 ⟨rfl,hb1⟩
 have HB1:=QLh hb1;clear hb1 HM
 go_upto_region 4 with fail
 go_loopg [10] (len ds) (λ g i wr=>∃m:Nat,g+m=len ds/\i=.int .i64 m/\Hid (∀j,j<m->(tth ds j).size=32)/\wr=w1)
 case atStart=>exact⟨0,rfl,rfl,QLh (λ j hj=>by omega),rfl⟩
 case round=>
  obtain⟨m,hm,rfl,HG,rfl⟩:=hrel
  have hld:=HLD.out
  by_cases hlt:m<len ds
  ·have b1:(m:Int)<len ds:=by omega
   have b2:¬len ds<=m:=by omega
   obtain⟨b,off,hda,hcell⟩:=HDS.out.below HB1.out m hlt
   subst hda
   have l1:=lt_of_cell hcell
   obtain⟨s,hs⟩:∃s,tth ds m=s:=⟨_,rfl⟩
   rw[hs]at hcell
   have HS:=QLh hs;have HSM:Hid (s ∈ ds):=QLh (by rw[<-hs,tth_eq ds m hlt];exact List.getElem_mem _);clear hs
   by_cases hf:s.size=32
   ·have HF:=QLh hf
    have z1:((s.size:Nat):Int)=32:=by omega
    clear hf
    go_wp2
    go_roundg (len ds - (m+1))
    case rel=>exact⟨m+1,by omega,by go_num,QLh (λ j hj=>by
     by_cases e:j=m
     ·subst e;rw[HS.out];exact HF.out
     ·exact HG.out j (by omega)),rfl⟩
    case measure=>omega
   ·have z1:¬((s.size:Nat):Int)=32:=by omega
    have HE:Hid (rootE (nn:Nat) ps es ds=5/\rootS (nn:Nat) ps es ds=⟨#[]⟩):=QLh (by
     have h9:rootE (nn:Nat) ps es ds=5:=by unfold rootE;rw[if_neg (λ h=>h HARG.out),if_pos (show badB ds=true from decide_eq_true ⟨s,HSM.out,hf⟩)]
     exact⟨h9,by unfold rootS;rw[h9];rfl⟩)
    clear hf
    go_wp2
    go_ret2
    exact⟨by rw[HE.out.1,HE.out.2];rfl,HB1.out⟩
  ·obtain rfl:m=len ds:=by omega
   have b1:¬((len ds:Nat):Int)<len ds:=by omega
   have HBADF:Hid (badB ds=false):=QLh (decide_eq_false (by
    rintro⟨x,hx,h9⟩
    obtain⟨j,hj,rfl⟩:=List.getElem_of_mem hx
    have h1:=HG.out j hj
    rw[tth_eq ds j hj]at h1
    exact h9 h1))
   clear HG hm
   go_wp2_with fail
   refine(HDE.out wr).mono ?_
   rintro e w2 ⟨rfl,rfl⟩
   go_upto_region 12 with fail
   go_loopg [14,12,13] (len ps) (λ g i v k wz=>∃(m:Nat) (KL:List Plc),g+m=len ps/\i=.int .i64 m/\len KL=m/\Hid (wz.ownsRow w.heap.size 23 1 v m ((lv.take m).map (Value.int .u64)))/\Hid (KlAt w.heap.size k KL wz)/\Hid (fndF KL=addF noF (lv.take m) (leafD es))/\Hid (Below w.heap.size w wz))
   case atStart=>exact⟨0,[],rfl,rfl,rfl,QLh (World.ownsRow_nil _ _ _ _),QLh (KlAt.nil _ _),QLh (by rw[List.take_zero];rfl),HB1⟩
   case round=>
    clear HB1
    obtain⟨m,KL,hm,rfl,hkl,HO,HK,HF,HW⟩:=hrel
    have HNN:=HL100.out
    by_cases hlt:m<len ps
    ·have b0:(m:Int)<len ps:=by omega
     have b1:¬len ps<=m:=by omega
     obtain⟨b,off,hra,hcell⟩:=HP.out.below HW.out m hlt
     subst hra
     obtain⟨k,hk⟩:∃k,nth ps m=k:=⟨_,rfl⟩
     have hku:U64 k:=by rw[<-hk];exact HU.out _ (mem_nth hlt)
     obtain⟨s,hs⟩:∃s,tth es m=s:=⟨_,rfl⟩
     have HSZ:Hid (s.size<=1000000):=QLh (by rw[<-hs];exact HEZ.out m (by rw[HEL.out];exact hlt))
     obtain⟨t,ht⟩:∃t,turnedZ k (d:Nat)=t:=⟨_,rfl⟩
     have HSS:=QLh hs;have HTN:Hid (nth lv m=t):=QLh (by rw[<-HLV.out,leaves_nth ps _ m hlt,hk,ht]);have HLML:Hid (m<len lv):=QLh (by rw[HLN.out];exact hlt);have HTB:Hid (0<=t/\t<65536):=QLh (by rw[<-HTN.out];exact HLBD.out m HLML.out);have HLK:=QLh (HLF.out k hku wr)
     rw[ht]at HLK
     obtain⟨D,hD⟩:∃D,hashP leafT [s]=D:=⟨_,rfl⟩
     have HLD9:Hid (tth (leafD es) m=D):=QLh (by rw[leafD_at es m (by rw[HEL.out];exact hlt),hs,hD]);have HDZ9:Hid (D.size<=1000):=QLh (by rw[<-hD,hashP_size];omega);have HHD:=QLh hD;have HFR:Hid (fndF KL t=none):=QLh (by rw[HF.out,<-HTN.out];exact fresh_leaf HLND.out _ m HLML.out)
     rw[hk]at hcell
     have l1:=lt_of_cell hcell;have HKLN:=QLh hkl;clear hk hku hs ht hD hkl
     go_upto_region 15 with fail
     clear hcell l1
     refine HLK.out.mono ?_
     rintro e w2 ⟨rfl,rfl⟩
     go_upto_region 16 with(at_builtin;refine wpList_append_own _ rfl _ _ 64 rfl w.heap.size 23 i0 (.int .u64 0) 1 8 Tryz.underlying64 hi HZ0.out hz1 hz2 rfl (by decide) _ _ _ rfl (HO.out.alloc _) ⟨wr.heap.size,0,none⟩ 1 1 [.int .u64 t] rfl rfl (World.news_of_block (heap_alloc_new _ _)) (by intro u hu9;simp at hu9;subst hu9;rfl) (by unfold maxLen;omega) (by omega) (by have:=HW.out.size;simp;omega) ?_;intro v2 w4 hown2 hgrow2 _)
     have HX9:Hid (Below wr.heap.size wr (wr.alloc (.cells #[.int .u64 t] 23))):=QLh (balloc (Below.refl _ _) _);have HO4:Hid (w4.ownsRow w.heap.size 23 1 v2 (m+1) ((lv.take (m+1)).map (Value.int .u64))):=QLh (by
      rw[take_snoc_nth HLML.out,HTN.out,List.map_append]
      exact hown2)
     have HK4:Hid (KlAt w.heap.size u13 KL w4):=QLh ⟨(own_below HK.out.own HX9.out).kept hgrow2 (own_apart (own_below HK.out.own HX9.out) (HO.out.alloc _) (by decide)),HK.out.ok⟩;have HW4:Hid (Below w.heap.size w w4):=QLh (grownBy_below (balloc HW.out _) hgrow2 (λ k hk'=>(HO.out.lt k hk').1));clear hown2 hgrow2 HX9 HO HK HW HLK
     obtain⟨eb2,eo2,he2,hcel2⟩:=HES.out.below HW4.out m (by rw[HEL.out];exact hlt)
     subst he2
     rw[HSS.out]at hcel2
     have l2:=lt_of_cell hcel2
     go_wp2_with fail
     refine(rhash1_any leafT s w4 (by decide) (by decide) (by have:=HSZ.out;omega)).mono ?_
     rintro e w5 ⟨rfl,hb5⟩
     rw[HHD.out]
     clear hcel2 l2;have HO5:Hid (w5.ownsRow w.heap.size 23 1 v2 (m+1) ((lv.take (m+1)).map (Value.int .u64))):=QLh (own_below HO4.out hb5);have HK5:Hid (KlAt w.heap.size u13 KL w5):=QLh (HK4.out.below hb5);have HW5:Hid (Below w.heap.size w w5):=QLh (bnext HW4.out hb5);have hkn:len KL<=100:=by have:=HKLN.out;omega
     clear hb5 HO4 HK4 HW4
     go_wp2_with (at_builtin;refine wpList_append_own _ rfl _ _ 277 rfl w.heap.size 279 j0 Plc.zero.val 2 24 Tryz.underlying277 hj HY0.out hy1 hy2 rfl (by decide) _ _ _ rfl (HK5.out.own.alloc _) ⟨w5.heap.size,0,none⟩ 1 1 [.int .u64 t,.string D] rfl rfl (World.news_of_block (heap_alloc_new _ _)) (by intro u hu9;simp at hu9;rcases hu9 with rfl | rfl <;> rfl) (by unfold maxLen;omega) (by omega) (by have:=HW5.out.size;simp;omega) ?_;intro v3 w6 hown3 hgrow3 _)
     have HX9:Hid (Below w5.heap.size w5 (w5.alloc (.cells #[.int .u64 t,.string D] 279))):=QLh (balloc (Below.refl _ _) _);have HO6:Hid (w6.ownsRow w.heap.size 23 1 v2 (m+1) ((lv.take (m+1)).map (Value.int .u64))):=QLh ((own_below HO5.out HX9.out).kept hgrow3 (own_apart (own_below HO5.out HX9.out) (HK5.out.own.alloc _) (by decide)));have HK6:Hid (KlAt w.heap.size v3 (KL++[⟨t,D⟩]) w6):=QLh (KlAt.snoc HK5.out.ok ⟨t,D⟩ hown3 ⟨HTB.out.1,HTB.out.2,HDZ9.out⟩);have HW6:Hid (Below w.heap.size w w6):=QLh (grownBy_below (balloc HW5.out _) hgrow3 (λ k hk'=>(HK5.out.own.lt k hk').1));have HF6:Hid (fndF (KL++[⟨t,D⟩])=addF noF (lv.take (m+1)) (leafD es)):=QLh (by
      rw[fndF_snoc KL ⟨t,D⟩ HFR.out,addF_take _ _ _ m HLML.out,HTN.out,HLD9.out,HF.out])
     have HN6:Hid (len (KL++[(⟨t,D⟩:Plc)])=m+1):=QLh (by rw[plc_len_snoc,HKLN.out]);clear hown3 hgrow3 HX9 HO5 HK5 HW5 hkn
     go_wp2
     go_roundg (len ps - (m+1))
     case rel=>exact⟨m+1,_,by omega,by go_num,HN6.out,HO6,HK6,HF6,HW6⟩
     case measure=>omega
    ·obtain rfl:m=len ps:=by omega
     have b0:¬((len ps:Nat):Int)<len ps:=by omega
     have HFZ:Hid (fndF KL=g0F lv es):=QLh (by
      have h9:=HF.out
      rw[show lv.take (len ps)=lv by rw[<-HLN.out,take_len]]at h9
      exact h9)
     have HOZ:Hid (wr.ownsRow w.heap.size 23 1 u12 (len ps) (lv.map (Value.int .u64))):=QLh (by
      have h9:=HO.out
      rw[show lv.take (len ps)=lv by rw[<-HLN.out,take_len]]at h9
      exact h9)
     obtain⟨al,cl,rfl,hUl,_,_⟩:=own_u64 HOZ.out
     have HND:=QLh (refNeeds_any al cl lv (d:Nat) wr hUl (by rw[HLN.out];exact HL100.out) HLU.out)
     rw[HNR.out]at HND
     have HKLN:=QLh hkl;clear hUl HO HF HOZ hm hkl
     go_wp2_with fail
     refine HND.out.mono ?_
     rintro e w3 ⟨v,vals,rfl,hr1,hr2,hb3⟩
     obtain⟨a3,cap3,rfl,_,_,_⟩:=rows2_of hr1 hr2
     obtain⟨B2,hB2⟩:∃B2,wr.heap.size=B2:=⟨_,rfl⟩
     rw[hB2]at hr1 hr2
     have HL8:Hid (Laid8 w3 B2 (.slice a3 (len rs) cap3) rs):=QLh ⟨vals,hr1,hr2⟩;have HK3:Hid (KlAt w.heap.size u13 KL w3):=QLh (HK.out.below hb3);have HW3:Hid (Below w.heap.size w w3):=QLh (bnext HW.out hb3);clear hr1 hr2 hB2 hb3 HND HK HW
     go_upto_region 20 with fail
     obtain⟨W3,hW3⟩:∃W3,W3=w3:=⟨_,rfl⟩
     subst hW3
     go_loopg [18,17] (len rs) (λ g i v wz=>∃m:Nat,g+m=len rs/\i=.int .i64 m/\v=.int .i64 (usedR rs m:Nat)/\wz=W3)
     case atStart=>exact⟨0,rfl,rfl,rfl,rfl⟩
     case round=>
      obtain⟨m,hm,rfl,rfl,rfl⟩:=hrel
      have hr16:len rs<=16:=by have:=HRL.out;have:=HD16.out;omega
      by_cases hlt:m<len rs
      ·have b1:(m:Int)<len rs:=by omega
       have b2:¬len rs<=m:=by omega
       obtain⟨rb,ro,ra,rc,hra3,hrc,_,_⟩:=(laid8_rows HL8.out) m hlt
       subst hra3
       have l1:=lt_of_cell hrc;have HN9:Hid (usedR rs (m+1)=usedR rs m+len (rnth rs m)):=QLh (usedR_next rs m hlt);have hub:usedR rs m+len (rnth rs m)<=1600:=by
        rw[<-usedR_next rs m hlt]
        have:=usedR_bd HNM.out (m+1) (by omega)
        omega
       obtain⟨u,hu⟩:∃u,usedR rs m=u:=⟨_,rfl⟩
       obtain⟨q,hq⟩:∃q,len (rnth rs m)=q:=⟨_,rfl⟩
       rw[hu,hq]at hub HN9
       rw[hq]at hrc
       rw[hu]
       clear hu hq
       go_wp2
       go_roundg (len rs - (m+1))
       case rel=>exact⟨m+1,by omega,by go_num,by rw[HN9.out];go_num,rfl⟩
       case measure=>omega
      ·obtain rfl:m=len rs:=by omega
       have b1:¬((len rs:Nat):Int)<len rs:=by omega
       have hub:usedR rs (len rs)<=1600:=by
        have:=usedR_bd HNM.out (len rs) (Nat.le_refl _)
        omega
       obtain⟨N,hN⟩:∃N,usedR rs (len rs)=N:=⟨_,rfl⟩
       have HNN:=QLh hN
       rw[hN]at hub HNP ⊢
       have HUB:=QLh hub;clear hN hub hm hr16
       by_cases hlt4:len ds<N
       ·have z1:((len ds:Nat):Int)<((N:Nat):Int):=by omega
        have HE:Hid (rootE (nn:Nat) ps es ds=4/\rootS (nn:Nat) ps es ds=⟨#[]⟩):=QLh (by
         have h9:rootE (nn:Nat) ps es ds=4:=by unfold rootE;rw[if_neg (λ h=>h HARG.out),if_neg (by rw[HBADF.out];simp),HNP.out,if_pos hlt4]
         exact⟨h9,by unfold rootS;rw[h9];rfl⟩)
        clear hlt4
        go_wp2
        go_ret2
        exact⟨by rw[HE.out.1,HE.out.2];rfl,HW3.out⟩
       ·have z1:¬((len ds:Nat):Int)<((N:Nat):Int):=by omega
        by_cases hlt3:N<len ds
        ·have z2:((N:Nat):Int)<((len ds:Nat):Int):=by omega
         have HE:Hid (rootE (nn:Nat) ps es ds=3/\rootS (nn:Nat) ps es ds=⟨#[]⟩):=QLh (by
          have h9:rootE (nn:Nat) ps es ds=3:=by unfold rootE;rw[if_neg (λ h=>h HARG.out),if_neg (by rw[HBADF.out];simp),HNP.out,if_neg hlt4,if_pos hlt3]
          exact⟨h9,by unfold rootS;rw[h9];rfl⟩)
         clear hlt4 hlt3
         go_wp2
         go_ret2
         exact⟨by rw[HE.out.1,HE.out.2];rfl,HW3.out⟩
        ·have z2:¬((N:Nat):Int)<((len ds:Nat):Int):=by omega
         have HEQ:Hid (len ds=N):=QLh (by omega);have HE:Hid (rootE (nn:Nat) ps es ds=0/\rootS (nn:Nat) ps es ds=kidF (rootG (g0F lv es) rs ds) 0):=QLh (by
          have h9:rootE (nn:Nat) ps es ds=0:=by unfold rootE;rw[if_neg (λ h=>h HARG.out),if_neg (by rw[HBADF.out];simp),HNP.out,if_neg hlt4,if_neg hlt3]
          exact⟨h9,by unfold rootS;rw[h9,if_pos rfl];exact HDP.out⟩)
         clear hlt4 hlt3
         go_upto_region 28 with fail
         clear z1 z2;have HF3:Hid (fndF KL=rootT (g0F lv es) rs ds 0):=HFZ;have hk100:len KL<=100+100 * 0:=by have:=HKLN.out;have:=HL100.out;omega
         clear HFZ HKLN
         go_loopg [19,13,3] (len rs) (λ g i v p wz=>∃(m:Nat) (KL:List Plc) (a':Option Addr) (c':Nat),g+m=len rs/\i=.int .i64 m/\p=.slice a' (len (ds.drop (usedR rs m))) c'/\len KL<=100+100 * m/\Hid (KlAt w.heap.size v KL wz)/\Hid (fndF KL=rootT (g0F lv es) rs ds m)/\Hid (len (ds.drop (usedR rs m))<=c'/\∀w9,Txts w9 da ds->Txts w9 a' (ds.drop (usedR rs m)))/\Hid (Laid8 wz B2 (.slice a3 (len rs) cap3) rs)/\Hid (Below w.heap.size w wz))
         case atStart=>exact⟨0,KL,da,dc,rfl,rfl,rfl,hk100,HK3,HF3,QLh ⟨HDC.out,λ _ h9=>h9⟩,HL8,HW3⟩
         case round=>
          clear HF3 hk100 HK3 HL8 HW3
          obtain⟨m,KL,a9,c9,hm,rfl,rfl,hkl,HK,HF,HTX,HL8,HW⟩:=hrel
          have hr16:len rs<=16:=by have:=HRL.out;have:=HD16.out;omega
          have hrd:=HRL.out
          by_cases hlt:m<len rs
          ·have b1:(m:Int)<(d:Int):=by omega
           obtain⟨row,hrow⟩:∃row,rnth rs m=row:=⟨_,rfl⟩
           have HROW:=QLh hrow;have HRLN:Hid (len row<=100):=QLh (by rw[<-hrow];exact HNM.out m);have HHM:=QLh hm;have HHL:=QLh hlt;have HKL9:=QLh hkl
           obtain⟨u,hu⟩:∃u,usedR rs m=u:=⟨_,rfl⟩
           have HUU:Hid (usedR rs m=u):=QLh hu;have HUT:Hid (u+len row<=len ds):=QLh (by
            have h1:=usedR_next rs m hlt;have h2:=usedR_le rs (m+1)
            rw[hrow,hu]at h1
            rw[HEQ.out,<-HNN.out]
            omega)
           obtain⟨GT,hGT⟩:∃GT,rootT (g0F lv es) rs ds m=GT:=⟨_,rfl⟩
           have HGT:=QLh hGT;have HFRR:Hid (∀q,q<len row->addF GT (row.take q) (ds.drop u) (nth row q)=none):=QLh (λ q hq=>by
            rw[<-hGT,<-hrow,<-HRS.out]
            have hd2:m<d:=by omega
            refine fresh_row lv d (g0F lv es) ds (ds.drop u) (λ k=>g0F_some lv es k) m hd2 q ?_
            rw[HRS.out,hrow];exact hq)
           rw[hGT]at HF
           rw[hu]at HTX ⊢
           have HF0:Hid (fndF KL=addF GT (row.take 0) (ds.drop u)):=QLh (by rw[List.take_zero];exact HF.out);have hkl0:len KL<=100+100 * m+0:=hkl
           obtain⟨GK,hGK⟩:∃G,G=gk:=⟨_,rfl⟩
           subst hGK
           clear hrow hu hGT HF hm hlt hr16 hrd
           go_upto_region 31 with fail
           clear b1
           go_loopg [20,13,3] (len row) (λ g j v p wz=>∃(q:Nat) (KL:List Plc) (a':Option Addr) (c':Nat),g+q=len row/\j=.int .i64 q/\p=.slice a' (len (ds.drop (u+q))) c'/\len KL<=100+100 * m+q/\Hid (KlAt w.heap.size v KL wz)/\Hid (fndF KL=addF GT (row.take q) (ds.drop u))/\Hid (len (ds.drop (u+q))<=c'/\∀w9,Txts w9 da ds->Txts w9 a' (ds.drop (u+q)))/\Hid (Laid8 wz B2 (.slice a3 (len rs) cap3) rs)/\Hid (Below w.heap.size w wz))
           case atStart=>exact⟨0,KL,a9,c9,rfl,rfl,rfl,hkl0,HK,HF0,HTX,HL8,HW⟩
           case round=>
            clear hkl hkl0 HK HF0 HTX HL8 HW HKL9;clear KL a9 c9
            obtain⟨q,KL,a9,c9,hq,rfl,rfl,hkl,HK,HF,HTX,HL8,HW⟩:=hrel
            have hr16:len rs<=16:=by have:=HRL.out;have:=HD16.out;omega
            have hlt:=HHL.out;have hr100:=HRLN.out;have bm:¬len rs<=m:=by omega
            have bmi:¬(len rs:Int)<=(m:Int):=by omega
            obtain⟨rb,ro,ra,rc,hra3,hrc,hru,_⟩:=(laid8_rows HL8.out) m hlt
            subst hra3
            rw[HROW.out]at hrc hru
            have l1:=lt_of_cell hrc
            by_cases hlq:q<len row
            ·have b1:(q:Int)<len row:=by omega
             have bq:¬len row<=q:=by omega
             have bqi:¬(len row:Int)<=(q:Int):=by omega
             obtain⟨ub,uo,hua,hk⟩:=hru q hlq
             subst hua
             obtain⟨t,ht⟩:∃t,nth row q=t:=⟨_,rfl⟩
             have HFT:Hid (fndF KL t=none):=QLh (by rw[HF.out,<-ht];exact HFRR.out q hlq)
             rw[ht]at hk
             have HTB:Hid (0<=t/\t<65536):=QLh (by
              have h1:t ∈ rnth rs m:=by rw[HROW.out,<-ht];exact mem_nth hlq
              rw[<-HRS.out,<-HLV.out]at h1
              exact row_bd HD16.out (by rw[<-HRL.out];exact hlt) h1)
             have hut:=HUT.out;have hdl:len (ds.drop (u+q))=len ds - (u+q):=by rw[len_eq,List.length_drop];rfl
             obtain⟨hc9,hta⟩:=HTX.out
             obtain⟨xb,xo,hxa,hdc⟩:=hta _ (HDS.out.below HW.out) 0 (by omega)
             subst hxa
             rw[tth_drop,Nat.add_zero,Nat.add_zero]at hdc
             obtain⟨D,hD⟩:∃D,tth ds (u+q)=D:=⟨_,rfl⟩
             rw[hD]at hdc
             have HDD:Hid (D.size<=1000):=QLh (by
              have h1:=of_decide_eq_false HBADF.out;have h2:u+q<ds.length:=by have:len ds=ds.length:=rfl;omega
              apply Classical.byContradiction
              intro h3
              exact h1 ⟨ds[u+q],List.getElem_mem h2,λ h4=>h3 (by rw[<-hD,tth_eq ds (u+q) h2,h4];omega)⟩)
             have HTN:Hid (addF GT (row.take (q+1)) (ds.drop u)=putF (addF GT (row.take q) (ds.drop u)) t D):=QLh (by rw[addF_take _ _ _ q hlq,ht,tth_drop,hD])
             obtain⟨n9,hn9⟩:∃n9,len (ds.drop (u+q))=n9:=⟨_,rfl⟩
             have HN9:Hid (0<n9/\n9<=c9/\len (ds.drop (u+(q+1)))=n9 - 1):=QLh (by rw[len_eq,List.length_drop];have:len ds=ds.length:=rfl;omega)
             rw[hn9]
             have b9:¬n9<=0:=by omega
             have b9i:(0:Int)<(n9:Int):=by omega
             obtain⟨KV,hKV⟩:∃KV,u13=KV:=⟨_,rfl⟩
             rw[hKV]at HK ⊢
             clear hKV ht hD hdl hut hc9 hru
             go_upto_region 33 with fail
             refine wp_region_tail 13 1000 (none) (phis [λ u _=>u=(KV),λ u _=>u=(.slice (some ⟨rb,ro,none⟩) (len rs) cap3),λ u _=>u=(.int .i64 (m:Nat)),λ u _=>u=(.pointer (some ⟨rb,ro+m,none⟩)),λ u _=>u=(.slice (some ⟨ub,uo,none⟩) (len row) rc),λ u _=>u=(.int .i64 (q:Nat)),λ u _=>u=(.pointer (some ⟨ub,uo+q,none⟩)),λ u _=>u=(.int .u64 t),λ u _=>u=(.slice (some ⟨xb,xo,none⟩) n9 c9),λ u _=>u=(.pointer (some ⟨xb,xo,none⟩)),λ u _=>u=(.string D),λ u _=>u=(.agg #[.int .u64 t,.string D]),λ uu w'=>∃c,uu=.slice (some ⟨c,0,none⟩) 1 1/\w'.heap[c]?=some (.cells #[.int .u64 t,.string D] 279 (0,0))]) rfl (by kernel_rfl) (by kernel_rfl) (mono_of ⟨mono_eq,mono_eq,mono_eq,mono_eq,mono_eq,mono_eq,mono_eq,mono_eq,mono_eq,mono_eq,mono_eq,mono_eq,?m12,trivial⟩) (steps_of 13 ⟨?s0,?s1,?s2,?s3,?s4,?s5,?s6,?s7,?s8,?s9,?s10,?s11,?s12,trivial⟩) ?_
             case m12=>
              exact⟨λ uu w1 w2 h ⟨c,h1,h2⟩=>⟨c,h1,ext_block h h2⟩,λ _ uu w1 w2 h ⟨c,h1,h2⟩=>⟨c,h1,extB_block h (by simp) h2⟩⟩
             case s0=>
              refine qV (λ _=>rfl) rfl λ av wv hE hO hD=>?_
              simp[go_sem,qF av 13 (KV) (hO.2.2 13 rfl),bm,bmi,bq,bqi,b9,b9i]
             case s1=>
              refine qV (λ _=>rfl) rfl λ av wv hE hO hD=>?_
              simp[go_sem,qF av 16 (.slice (some ⟨rb,ro,none⟩) (len rs) cap3) (hO.2.2 16 rfl),bm,bmi,bq,bqi,b9,b9i]
             case s2=>
              refine qV (λ _=>rfl) rfl λ av wv hE hO hD=>?_
              simp[go_sem,qF av 19 (.int .i64 (m:Nat)) (hO.2.2 19 rfl),bm,bmi,bq,bqi,b9,b9i]
             case s3=>
              refine qV (λ _=>rfl) rfl λ av wv hE hO hD=>?_
              simp[go_sem,qE (hD.1 rfl _ rfl),qE (hD.2.1 rfl _ rfl),bm,bmi,bq,bqi,b9,b9i]
             case s4=>
              refine qV (λ _=>rfl) rfl λ av wv hE hO hD=>?_
              simp[go_sem,qE (hD.1 rfl _ rfl),extB_cell hE (by simp) hrc,extB_cell hE (by simp) hk,extB_cell hE (by simp) hdc,bm,bmi,bq,bqi,b9,b9i]
             case s5=>
              refine qV (λ _=>rfl) rfl λ av wv hE hO hD=>?_
              simp[go_sem,qF av 20 (.int .i64 (q:Nat)) (hO.2.2 20 rfl),bm,bmi,bq,bqi,b9,b9i]
             case s6=>
              refine qV (λ _=>rfl) rfl λ av wv hE hO hD=>?_
              simp[go_sem,qE (hD.1 rfl _ rfl),qE (hD.2.1 rfl _ rfl),bm,bmi,bq,bqi,b9,b9i]
             case s7=>
              refine qV (λ _=>rfl) rfl λ av wv hE hO hD=>?_
              simp[go_sem,qE (hD.1 rfl _ rfl),extB_cell hE (by simp) hrc,extB_cell hE (by simp) hk,extB_cell hE (by simp) hdc,bm,bmi,bq,bqi,b9,b9i]
             case s8=>
              refine qV (λ _=>rfl) rfl λ av wv hE hO hD=>?_
              simp[go_sem,qF av 3 (.slice (some ⟨xb,xo,none⟩) n9 c9) (hO.2.2 3 rfl),bm,bmi,bq,bqi,b9,b9i]
             case s9=>
              refine qV (λ _=>rfl) rfl λ av wv hE hO hD=>?_
              simp[go_sem,qE (hD.1 rfl _ rfl),bm,bmi,bq,bqi,b9,b9i]
             case s10=>
              refine qV (λ _=>rfl) rfl λ av wv hE hO hD=>?_
              simp[go_sem,qE (hD.1 rfl _ rfl),extB_cell hE (by simp) hrc,extB_cell hE (by simp) hk,extB_cell hE (by simp) hdc,bm,bmi,bq,bqi,b9,b9i]
             case s11=>
              refine qV (λ _=>rfl) rfl λ av wv hE hO hD=>?_
              simp[go_sem,qE (hD.1 rfl _ rfl),qE (hD.2.1 rfl _ rfl),bm,bmi,bq,bqi,b9,b9i]
             case s12=>
              refine step_wp (λ av wv hE hS hO hD=>⟨rfl,?_⟩)
              have f125:=qE (hD.1 rfl _ rfl)
              exact wp_of_run (v:=.slice (some ⟨wv.heap.size,0,none⟩) 1 1) (w':=wv.alloc (.cells #[.int .u64 t,.string D] 279)) (by simp[go_sem,f125]) ⟨_,rfl,es_of_ext (balloc (Ext_refl _) _),wv.heap.size,rfl,heap_alloc_new _ _⟩
             intro a' w' hE hO hall
             have hA:=act_of_outer (ds:=[114,115,116,117,118,119,120,121,122,123,124,125,126]) rfl hO (by kernel_rfl)
             obtain⟨j0,j1,j2,j3,j4,j5,j6,j7,j8,j9,j10,j11,j12,-⟩:=hall
             have e126:(λ uu w'=>∃c,uu=.slice (some ⟨c,0,none⟩) 1 1/\w'.heap[c]?=some (.cells #[.int .u64 t,.string D] 279 (0,0))) (a'.eval (.tmp 126)) w':=j12 _ rfl
             obtain⟨v126,hv126⟩:∃v,a'.eval (.tmp 126)=v:=⟨_,rfl⟩
             rw[hv126]at e126
             simp only[List.foldl_cons,List.foldl_nil,Act.put,List.setIfInBounds_toArray,List.set_cons_succ,List.set_cons_zero,qJ 114 (j0 _ rfl),qJ 115 (j1 _ rfl),qJ 116 (j2 _ rfl),qJ 117 (j3 _ rfl),qJ 118 (j4 _ rfl),qJ 119 (j5 _ rfl),qJ 120 (j6 _ rfl),qJ 121 (j7 _ rfl),qJ 122 (j8 _ rfl),qJ 123 (j9 _ rfl),qJ 124 (j10 _ rfl),qJ 125 (j11 _ rfl),hv126]at hA
             clear hO j12 j0 j1 j2 j3 j4 j5 j6 j7 j8 j9 j10 j11 hv126
             subst hA
             have hX:=of_drew hE;have HK2:=QLh (HK.out.below hX);have HL82:=QLh (HL8.out.below hX);have HW2:Hid (Below w.heap.size w w'):=QLh (bnext HW.out hX)
             obtain⟨cb,rfl,hcb⟩:=e126
             have HCB:=QLh hcb;clear hX hE hrc hk hdc bm bmi bq bqi b9 b9i l1 HK HL8 HW hcb
             simp only[List.drop_succ_cons,List.drop_zero]
             go_upto_region 34 with(at_builtin;refine wpList_append_own _ rfl _ _ 277 rfl w.heap.size 279 j0 Plc.zero.val 2 24 Tryz.underlying277 hj HY0.out hy1 hy2 rfl (by decide) _ _ _ rfl HK2.out.own ⟨cb,0,none⟩ 1 1 [.int .u64 t,.string D] rfl rfl (World.news_of_block HCB.out) (by intro u hu9;simp at hu9;rcases hu9 with rfl | rfl <;> rfl) (by unfold maxLen;omega) (by omega) HW2.out.size ?_;intro v3 w6 hown3 hgrow3 _)
             have HK6:Hid (KlAt w.heap.size v3 (KL++[⟨t,D⟩]) w6):=QLh (KlAt.snoc HK2.out.ok ⟨t,D⟩ hown3 ⟨HTB.out.1,HTB.out.2,HDD.out⟩);have HW6:Hid (Below w.heap.size w w6):=QLh (grownBy_below HW2.out hgrow3 (λ k hk'=>(HK2.out.own.lt k hk').1));have HL86:Hid (Laid8 w6 B2 (.slice (some ⟨rb,ro,none⟩) (len rs) cap3) rs):=QLh (laid8_grow HL82.out HK2.out.own hgrow3);have HF6:Hid (fndF (KL++[⟨t,D⟩])=addF GT (row.take (q+1)) (ds.drop u)):=QLh (by
              rw[fndF_snoc KL ⟨t,D⟩ HFT.out,HTN.out,HF.out])
             have HN6:Hid (len (KL++[(⟨t,D⟩:Plc)])=len KL+1):=QLh (plc_len_snoc _ _);clear hown3 hgrow3 HK2 HL82 HW2 HCB;have z1:¬n9<=0:=by have:=HN9.out;omega
             have z2:(0:Int)<(n9:Int):=by have:=HN9.out;omega
             have z3:n9<=c9:=HN9.out.2.1;have z4:¬n9<1:=by omega
             go_wp2_with fail
             ·skip
              go_roundg (len row - (q+1))
              case rel=>exact⟨q+1,_,some ⟨xb,xo,none⟩,0,by omega,by go_num,by rw[HN9.out.2.2],by rw[HN6.out];omega,HK6,HF6,QLh ⟨by rw[HN9.out.2.2];omega,λ w9 h9=>by
               rw[show ds.drop (u+(q+1))=[]from List.eq_nil_of_length_eq_zero (by have h8:=HN9.out.2.2;rw[len_eq]at h8;omega)]
               exact Txts.nil _ _⟩,HL86,HW6⟩
              case measure=>omega
             ·skip
              go_roundg (len row - (q+1))
              case rel=>exact⟨q+1,_,some ⟨xb,xo+1,none⟩,c9 - 1,by omega,by go_num,by rw[HN9.out.2.2],by rw[HN6.out];omega,HK6,HF6,QLh ⟨by rw[HN9.out.2.2];omega,λ w9 h9=>by
               have h8:=txts_drop1 (hta w9 h9)
               rw[List.drop_drop]at h8
               exact h8⟩,HL86,HW6⟩
              case measure=>omega
            ·obtain rfl:q=len row:=by omega
             have b1:¬((len row:Nat):Int)<len row:=by omega
             have hm:=HHM.out;have HF6:Hid (fndF KL=addF GT row (ds.drop u)):=QLh (by have h9:=HF.out;rw[take_len]at h9;exact h9);have HRT:Hid (rootT (g0F lv es) rs ds (m+1)=overF (addF GT row (ds.drop u))):=QLh (by rw[rootT_next _ _ _ m hlt,HGT.out,HROW.out,HUU.out]);have HUN:Hid (usedR rs (m+1)=u+len row):=QLh (by rw[usedR_next rs m hlt,HUU.out,HROW.out])
             obtain⟨H9,hH9⟩:∃H9,addF GT row (ds.drop u)=H9:=⟨_,rfl⟩
             rw[hH9]at HF6 HRT
             obtain⟨Z,hZ⟩:∃Z,Z=wr:=⟨_,rfl⟩
             subst hZ
             obtain⟨B3,hB3⟩:∃B3,Z.heap.size=B3:=⟨_,rfl⟩
             have HB3:Hid (w.heap.size<=B3):=QLh (by rw[<-hB3];exact HW.out.size);have HKV:=HK.out.plcs
             obtain⟨ka,kc,hkv,hkp⟩:=HKV
             subst hkv
             have HKP:=QLh hkp;have hklb:len KL<=1800:=by have:=HRLN.out;omega
             have HKB:=QLh hklb;have HKQ:=QLh hkl;clear hH9 hkp hkl HF
             go_upto_region 37 with fail
             clear b1 hrc l1 bm bmi
             go_loopg [22,21] (len KL) (λ g i v wz=>∃(j:Nat) (OL:List Plc),g+j=len KL/\i=.int .i64 j/\len OL<=j/\Hid (KlAt B3 v OL wz)/\Hid (fndF OL=resF (overF H9) ((KL.take j).map (λ x=>x.K / 2)))/\Hid (Below Z.heap.size Z wz))
             case atStart=>exact⟨0,[],rfl,rfl,Nat.le_refl _,QLh (KlAt.nil _ _),QLh (by rw[List.take_zero,List.map_nil,resF_nil];rfl),QLh (Below.refl _ _)⟩
             case round=>
              obtain⟨j,OL,hj9,rfl,hol,HKO,HFO,HWO⟩:=hrel
              have hkb:=HKB.out
              by_cases hlj:j<len KL
              ·have b1:(j:Int)<len KL:=by omega
               have bj:¬len KL<=j:=by omega
               obtain⟨kb,ko,hka,hcs⟩:=(HKP.out.below HWO.out) j hlj
               subst hka
               have c0:=hcs.c0;have l1:=lt_of_cell c0
               obtain⟨x,hx⟩:∃x,plth KL j=x:=⟨_,rfl⟩
               rw[hx]at c0
               have hxo:=HK.out.ok x (by rw[<-hx,plth_eq KL j hlj];exact List.getElem_mem _)
               obtain⟨kn,hkn⟩:∃kn:Nat,x.K=(kn:Nat):=⟨x.K.toNat,by omega⟩
               rw[hkn]at c0
               have HX:=QLh hx;clear hcs hx
               go_upto_region 40 with fail
               obtain⟨pn,hpn⟩:∃pn:Nat,kn / 2=pn:=⟨_,rfl⟩
               rw[show((kn:Nat):Int) / 2=((pn:Nat):Int)by omega]
               obtain⟨oa,oc,hov,hop⟩:=HKO.out.plcs
               subst hov
               have HOP:=QLh hop;have HPN:Hid (x.K=((kn:Nat):Int)/\kn / 2=pn/\kn<65536):=QLh (by omega);have HXM:Hid (x ∈ KL):=QLh (by rw[<-HX.out,plth_eq KL j hlj];exact List.getElem_mem _);have HTK:Hid ((KL.take (j+1)).map (λ x=>x.K / 2)=(KL.take j).map (λ x=>x.K / 2)++[((pn:Nat):Int)]):=QLh (by
                have hj2:j<KL.length:=hlj
                rw[List.take_succ_eq_append_getElem hj2,List.map_append,<-plth_eq KL j hj2,HX.out]
                show _++[x.K / 2]=_
                rw[hkn,show((kn:Nat):Int) / 2=((pn:Nat):Int)by omega])
               have HPR:Hid (prIs H9 ((pn:Nat):Int)):=QLh (by
                have h1:=fnd_mem KL x HXM.out
                rw[HF6.out,hkn]at h1
                unfold prIs
                by_cases e:kn % 2=0
                ·left;rw[show 2 * ((pn:Nat):Int)=((kn:Nat):Int)by omega];exact h1
                ·right;rw[show 2 * ((pn:Nat):Int)+1=((kn:Nat):Int)by omega];exact h1)
               have hol2:len OL<=1800:=by omega
               have HOL2:=QLh hol2;have HFA:=QLh (find_any OL ((pn:Nat):Int) oa oc wr HOP.out (by omega))
               obtain⟨R,hR⟩:∃R,kidF (fndF OL) ((pn:Nat):Int)=R:=⟨_,rfl⟩
               rw[hR]at HFA
               clear hop hpn hkn hxo c0 l1 bj
               by_cases hin:((pn:Nat):Int) ∈ (KL.take j).map (λ x=>x.K / 2)
               ·have e1:R.toList.isEmpty=false:=fullT (by
                 rw[<-hR]
                 unfold kidF
                 rw[HFO.out,resF_in hin,over_some HPR.out]
                 show(hashP nodeT _).size≠0
                 rw[hashP_size];decide)
                have HF7:Hid (fndF OL=resF (overF H9) ((KL.take (j+1)).map (λ x=>x.K / 2))):=QLh (by
                 rw[HTK.out,HFO.out]
                 funext k
                 by_cases e:k ∈ (KL.take j).map (λ x=>x.K / 2)
                 ·rw[resF_in e,resF_in (List.mem_append_left _ e)]
                 ·rw[resF_out e,resF_out (λ h9=>by
                   rcases List.mem_append.1 h9 with h8 | h8
                   ·exact e h8
                   ·rw[List.mem_singleton]at h8;rw[h8]at e;exact e hin)])
                clear hR hin
                go_wp2_with fail
                refine HFA.out.mono ?_
                rintro e w2 ⟨rfl,hb2⟩
                have HKO7:=QLh (HKO.out.below hb2);have HWO7:Hid (Below Z.heap.size Z w2):=QLh (bnext HWO.out hb2);clear hb2
                go_wp2
                go_roundg (len KL - (j+1))
                case rel=>exact⟨j+1,OL,by omega,by go_num,by omega,HKO7,HF7,HWO7⟩
                case measure=>omega
               ·have HON:Hid (fndF OL ((pn:Nat):Int)=none):=QLh (by rw[HFO.out,resF_out hin])
                have e1:R.toList.isEmpty=true:=by
                 rw[<-hR]
                 unfold kidF
                 rw[HON.out]
                 show ByteArray.empty.toList.isEmpty=true
                 rw[ByteArray.toList_eq]
                 rfl
                obtain⟨p0,hp0⟩:∃p0:Nat,2 * pn=p0:=⟨_,rfl⟩
                obtain⟨p1,hp1⟩:∃p1:Nat,2 * pn+1=p1:=⟨_,rfl⟩
                have hpb:=HPN.out;have f1:IntKind.u64.wrap (2 * ((pn:Nat):Int))=((p0:Nat):Int):=by rw[IntWalk.u64_in _ (by omega)];omega
                have f2:IntKind.u64.wrap (((p0:Nat):Int)+1)=((p1:Nat):Int):=by rw[IntWalk.u64_in _ (by omega)];omega
                obtain⟨X0,hX0⟩:∃X0,kidF H9 (2 * ((pn:Nat):Int))=X0:=⟨_,rfl⟩
                obtain⟨X1,hX1⟩:∃X1,kidF H9 (2 * ((pn:Nat):Int)+1)=X1:=⟨_,rfl⟩
                have HK0:Hid (kidF (fndF KL) ((p0:Nat):Int)=X0):=QLh (by rw[HF6.out,<-hX0,<-hp0];rfl);have HK1:Hid (kidF (fndF KL) ((p1:Nat):Int)=X1):=QLh (by rw[HF6.out,<-hX1,<-hp1];rfl);have HXZ:Hid (X0.size<=1000000/\X1.size<=1000000):=QLh ⟨by rw[<-HK0.out];exact kl_small HK.out.ok _,by rw[<-HK1.out];exact kl_small HK.out.ok _⟩
                obtain⟨D,hD⟩:∃D,hashP nodeT [X0,X1]=D:=⟨_,rfl⟩
                have HOV:Hid (overF H9 ((pn:Nat):Int)=some D):=QLh (by rw[over_some HPR.out,hX0,hX1,hD]);have HDZ:Hid (D.size<=1000):=QLh (by rw[<-hD,hashP_size];omega);have HHD:=QLh hD;have HPB:Hid (0<=((pn:Nat):Int)/\((pn:Nat):Int)<65536):=QLh (by omega);clear hR hin hp0 hp1 hX0 hX1 hD hpb
                go_wp2_with fail
                refine HFA.out.mono ?_
                rintro e w2 ⟨rfl,hb2⟩
                have HKO7:=QLh (HKO.out.below hb2);have HWO7:Hid (Below Z.heap.size Z w2):=QLh (bnext HWO.out hb2);clear hb2 HFA
                go_wp2_with fail
                refine(find_any KL ((p0:Nat):Int) (some ⟨kb,ko,none⟩) kc w2 (HKP.out.below HWO7.out) (by omega)).mono ?_
                rintro e w3 ⟨rfl,hb3⟩
                rw[HK0.out]
                have HKO8:=QLh (HKO7.out.below hb3);have HWO8:Hid (Below Z.heap.size Z w3):=QLh (bnext HWO7.out hb3);clear hb3 HKO7 HWO7
                go_wp2_with fail
                refine(find_any KL ((p1:Nat):Int) (some ⟨kb,ko,none⟩) kc w3 (HKP.out.below HWO8.out) (by omega)).mono ?_
                rintro e w4 ⟨rfl,hb4⟩
                rw[HK1.out]
                have HKO9:=QLh (HKO8.out.below hb4);have HWO9:Hid (Below Z.heap.size Z w4):=QLh (bnext HWO8.out hb4);clear hb4 HKO8 HWO8 f1 f2
                go_wp2_with fail
                refine(rhash2_any nodeT X0 X1 w4 (by decide) (by decide) HXZ.out.1 HXZ.out.2).mono ?_
                rintro e w5 ⟨rfl,hb5⟩
                rw[HHD.out]
                have HKOA:=QLh (HKO9.out.below hb5);have HWOA:Hid (Below Z.heap.size Z w5):=QLh (bnext HWO9.out hb5);have hbs:B3<=w5.heap.size:=by rw[<-hB3];exact HWOA.out.size
                have HBS:=QLh hbs;clear hb5 HKO9 HWO9 hbs
                go_wp2_with (at_builtin;refine wpList_append_own _ rfl _ _ 277 rfl B3 279 j0 Plc.zero.val 2 24 Tryz.underlying277 hj HY0.out hy1 hy2 rfl (by decide) _ _ _ rfl (HKOA.out.own.alloc _) ⟨w5.heap.size,0,none⟩ 1 1 [.int .u64 ((pn:Nat):Int),.string D] rfl rfl (World.news_of_block (heap_alloc_new _ _)) (by intro u hu9;simp at hu9;rcases hu9 with rfl | rfl <;> rfl) (by unfold maxLen;omega) (by omega) (by have:=HBS.out;simp;omega) ?_;intro v3 w6 hown3 hgrow3 _)
                have HKOB:Hid (KlAt B3 v3 (OL++[⟨((pn:Nat):Int),D⟩]) w6):=QLh (KlAt.snoc HKOA.out.ok ⟨((pn:Nat):Int),D⟩ hown3 ⟨HPB.out.1,HPB.out.2,HDZ.out⟩);have HWOB:Hid (Below Z.heap.size Z w6):=QLh (grownBy_below (balloc HWOA.out _) hgrow3 (λ k hk'=>by have:=(HKOA.out.own.lt k hk').1;rw[hB3];exact this));have HFOB:Hid (fndF (OL++[⟨((pn:Nat):Int),D⟩])=resF (overF H9) ((KL.take (j+1)).map (λ x=>x.K / 2))):=QLh (by
                 rw[fndF_snoc OL ⟨((pn:Nat):Int),D⟩ HON.out,HTK.out,resF_snoc _ HOV.out,HFO.out])
                have HNOB:Hid (len (OL++[(⟨((pn:Nat):Int),D⟩:Plc)])=len OL+1):=QLh (plc_len_snoc _ _);clear hown3 hgrow3 HKOA HWOA
                go_wp2
                go_roundg (len KL - (j+1))
                case rel=>exact⟨j+1,_,by omega,by go_num,by rw[HNOB.out];omega,HKOB,HFOB,HWOB⟩
                case measure=>omega
              ·obtain rfl:j=len KL:=by omega
               have b1:¬((len KL:Nat):Int)<len KL:=by omega
               have HFZ:Hid (fndF OL=rootT (g0F lv es) rs ds (m+1)):=QLh (by
                rw[HRT.out,HFO.out,plc_take]
                apply resF_all
                intro k hk
                have hk2:=(overF_some H9 k).1 hk
                rw[<-HF6.out]at hk2
                rcases hk2 with h1 | h1
                ·obtain⟨x,hx,e⟩:=fnd_key KL _ h1
                 exact List.mem_map.2 ⟨x,hx,by rw[e];omega⟩
                ·obtain⟨x,hx,e⟩:=fnd_key KL _ h1
                 exact List.mem_map.2 ⟨x,hx,by rw[e];omega⟩)
               have HKZ:Hid (KlAt w.heap.size u21 OL wr):=QLh ⟨own_lower HKO.out.own HB3.out,HKO.out.ok⟩;have HL8Z:Hid (Laid8 wr B2 (.slice (some ⟨rb,ro,none⟩) (len rs) cap3) rs):=QLh (HL8.out.below HWO.out);have HWZ:Hid (Below w.heap.size w wr):=QLh (bnext HW.out HWO.out);have hkq:=HKQ.out;have hrl9:=HRLN.out
               go_wp2
               go_roundg (len rs - (m+1))
               case rel=>exact⟨m+1,OL,a9,c9,by omega,by go_num,by rw[HUN.out],by omega,HKZ,HFZ,QLh (by rw[HUN.out];exact HTX.out),HL8Z,HWZ⟩
               case measure=>omega
          ·obtain rfl:m=len rs:=by omega
           have b1:¬((len rs:Nat):Int)<(d:Int):=by omega
           obtain⟨ka,kc,hkv,hkp⟩:=HK.out.plcs
           subst hkv
           have HFD:=QLh (find_any KL 0 ka kc wr hkp (by omega));have HFE:Hid (kidF (fndF KL) 0=rootS (nn:Nat) ps es ds):=QLh (by
            rw[HE.out.2,HF.out]
            unfold rootT
            rw[take_len])
           rw[HFE.out]at HFD
           clear hkp hkl
           go_wp2_with fail
           refine HFD.out.mono ?_
           rintro e w2 ⟨rfl,hb2⟩
           have HW2:Hid (Below w.heap.size w w2):=QLh (bnext HW.out hb2);clear hb2
           go_wp2
           go_ret2
           exact⟨by rw[HE.out.1];rfl,HW2.out⟩
end
theorem own_ge{base:Nat}{w:World}{e size n:Nat}{v:Value}{xs:List Value}(h:w.ownsRow base e size v n xs){b:Nat}(hb:w.heap.size<=b):some b≠v.ownBlock:=λ e=>by
 have:=h.lt b e.symm;omega
theorem own_lo{base:Nat}{w:World}{e size n:Nat}{v:Value}{xs:List Value}(h:w.ownsRow base e size v n xs){b:Nat}(hb:b<base):some b≠v.ownBlock:=λ e=>by
 have:=h.lt b e.symm;omega
structure PrIn(ps:List Int)(es ds:List ByteArray)(pa ea da:Option Addr)(dc:Nat)(w:World):Prop where
 p:U64s w pa ps
 e:Txts w ea es
 d:Txts w da ds
 pl:len ps<=12
 pu:∀k ∈ ps,U64 k
 el:len es<=1000000
 dl:len ds<=1000000
 dc_:len ds<=dc
 ez:∀i,i<len es->(tth es i).size<=1000000
theorem PrIn.below{ps:List Int}{es ds:List ByteArray}{pa ea da:Option Addr}{dc:Nat}{w w':World}(h:PrIn ps es ds pa ea da dc w)(hb:Below w.heap.size w w'):PrIn ps es ds pa ea da dc w':=
 ⟨h.p.below hb,h.e.below hb,h.d.below hb,h.pl,h.pu,h.el,h.dl,h.dc_,h.ez⟩
theorem proot_any(n:Int)(ps:List Int)(es ds:List ByteArray)(pa ea da:Option Addr)(pc ec dc:Nat)(w:World)(h:PrIn ps es ds pa ea da dc w)(h0:-9223372036854775808<=n)(h1:n<=9223372036854775807):
  Calls Tryz.prog 102 #[.int .i64 n,.slice pa (len ps) pc,.slice ea (len es) ec,.slice da (len ds) dc] w (RootIs n ps es ds w):=by
 by_cases hb:ArgOk n ps es
 ·cases hbad:badB ds with
  | true=>exact proot_form n ps es ds pa ea da pc ec dc w h.p h.d (Nat.le_trans h.pl (by decide)) h.dl h0 h1 hb hbad
  | false=>
   obtain⟨nn,rfl⟩:=Int.eq_ofNat_of_zero_le hb.1.1
   exact proot_main nn ps es ds pa ea da pc ec dc w h.p h.e h.d h.pl h.pu h.dl h.dc_ h.ez hb hbad
 ·exact proot_arg n ps es ds pa ea da pc ec dc w h.p (Nat.le_trans h.pl (by decide)) h0 h1 hb h.el
theorem rroot_any(n:Int)(ps:List Int)(es ds:List ByteArray)(pa ea da:Option Addr)(pc ec dc:Nat)(w:World)(h:PrIn ps es ds pa ea da dc w)(h0:-9223372036854775808<=n)(h1:n<=9223372036854775807):
  Calls Tryz.prog 180 #[.int .i64 n,.slice pa (len ps) pc,.slice ea (len es) ec,.slice da (len ds) dc] w (RootIs n ps es ds w):=by
 by_cases hb:ArgOk n ps es
 ·obtain⟨nn,rfl⟩:=Int.eq_ofNat_of_zero_le hb.1.1
  exact rroot_main nn ps es ds pa ea da pc ec dc w h.p h.e h.d (Nat.le_trans h.pl (by decide)) h.pu h.dl h.dc_ h.ez hb
 ·exact rroot_arg n ps es ds pa ea da pc ec dc w h.p (Nat.le_trans h.pl (by decide)) h0 h1 hb h.el
def checkE(r:ByteArray)(n:Int)(ps:List Int)(es ds:List ByteArray):Int:=if rootE n ps es ds=0/\rootS n ps es ds≠r then 20 else rootE n ps es ds
theorem pcheck_any(r:ByteArray)(n:Int)(ps:List Int)(es ds:List ByteArray)(pa ea da:Option Addr)(pc ec dc:Nat)(w:World)(h:PrIn ps es ds pa ea da dc w)(h0:-9223372036854775808<=n)(h1:n<=9223372036854775807):
  Calls Tryz.prog 47 #[.string r,.int .i64 n,.slice pa (len ps) pc,.slice ea (len es) ec,.slice da (len ds) dc] w λ e w'=>e=.returned (.int .i64 (checkE r n ps es ds))/\Below w.heap.size w w':=by
 have HR:=QLh (proot_any n ps es ds pa ea da pc ec dc w h h0 h1);clear h h0 h1
 go_enter Tryz.func47,Tryz.ntmps47
 go_wp2_with fail
 refine HR.out.mono ?_
 rintro e w1 ⟨rfl,hb1⟩
 have HB1:=QLh hb1;have HCE:Hid (checkE r n ps es ds=if rootE n ps es ds=0/\rootS n ps es ds≠r then 20 else rootE n ps es ds):=QLh rfl
 obtain⟨E,hE⟩:∃E,rootE n ps es ds=E:=⟨_,rfl⟩
 obtain⟨D,hD⟩:∃D,rootS n ps es ds=D:=⟨_,rfl⟩
 rw[hE,hD]at HCE ⊢
 clear hb1 hE hD
 by_cases he:E=0
 ·subst he
  by_cases hd:D=r
  ·have e1:(D.toList == r.toList)=true:=by rw[str_beq];exact decide_eq_true hd
   have HC2:Hid (checkE r n ps es ds=0):=QLh (by rw[HCE.out,if_neg (λ h=>h.2 hd)]);clear hd
   go_wp2
   go_ret
   exact⟨by rw[HC2.out];rfl,HB1.out⟩
  ·have e1:(D.toList == r.toList)=false:=by rw[str_beq];exact decide_eq_false hd
   have HC2:Hid (checkE r n ps es ds=20):=QLh (by rw[HCE.out,if_pos ⟨rfl,hd⟩]);clear hd
   go_wp2
   go_ret
   exact⟨by rw[HC2.out];rfl,HB1.out⟩
 ·have e1:(E == 0)=false:=by simpa using he
  have HC2:Hid (checkE r n ps es ds=E):=QLh (by rw[HCE.out,if_neg (λ h=>he h.1)])
  go_wp2
  go_ret
  exact⟨by rw[HC2.out];rfl,HB1.out⟩
theorem rcheck_any(r:ByteArray)(n:Int)(ps:List Int)(es ds:List ByteArray)(pa ea da:Option Addr)(pc ec dc:Nat)(w:World)(h:PrIn ps es ds pa ea da dc w)(h0:-9223372036854775808<=n)(h1:n<=9223372036854775807):
  Calls Tryz.prog 117 #[.string r,.int .i64 n,.slice pa (len ps) pc,.slice ea (len es) ec,.slice da (len ds) dc] w λ e w'=>e=.returned (.int .i64 (checkE r n ps es ds))/\Below w.heap.size w w':=by
 have HR:=QLh (rroot_any n ps es ds pa ea da pc ec dc w h h0 h1);clear h h0 h1
 go_enter Tryz.func117,Tryz.ntmps117
 go_wp2_with fail
 refine HR.out.mono ?_
 rintro e w1 ⟨rfl,hb1⟩
 have HB1:=QLh hb1;have HCE:Hid (checkE r n ps es ds=if rootE n ps es ds=0/\rootS n ps es ds≠r then 20 else rootE n ps es ds):=QLh rfl
 obtain⟨E,hE⟩:∃E,rootE n ps es ds=E:=⟨_,rfl⟩
 obtain⟨D,hD⟩:∃D,rootS n ps es ds=D:=⟨_,rfl⟩
 rw[hE,hD]at HCE ⊢
 clear hb1 hE hD
 by_cases he:E=0
 ·subst he
  by_cases hd:D=r
  ·have e1:(D.toList == r.toList)=true:=by rw[str_beq];exact decide_eq_true hd
   have HC2:Hid (checkE r n ps es ds=0):=QLh (by rw[HCE.out,if_neg (λ h=>h.2 hd)]);clear hd
   go_wp2
   go_ret
   exact⟨by rw[HC2.out];rfl,HB1.out⟩
  ·have e1:(D.toList == r.toList)=false:=by rw[str_beq];exact decide_eq_false hd
   have HC2:Hid (checkE r n ps es ds=20):=QLh (by rw[HCE.out,if_pos ⟨rfl,hd⟩]);clear hd
   go_wp2
   go_ret
   exact⟨by rw[HC2.out];rfl,HB1.out⟩
 ·have e1:(E == 0)=false:=by simpa using he
  have HC2:Hid (checkE r n ps es ds=E):=QLh (by rw[HCE.out,if_neg (λ h=>he h.1)])
  go_wp2
  go_ret
  exact⟨by rw[HC2.out];rfl,HB1.out⟩
def treeR(l:List ByteArray):ByteArray:=plD l (depN l) (depN l) 0
theorem treeR_size(l:List ByteArray):(treeR l).size=32:=plD_size _ _ _ _
theorem one_may{n k:Nat}(hk:k<n):MayOk (n:Nat) [((k:Nat):Int)]:=⟨(by decide:0<1),λ i hi=>by
 have hi:i<1:=hi
 obtain rfl:i=0:=by omega
 exact⟨by show((k:Nat):Int)<n;omega,λ h=>by omega⟩⟩
theorem one_u64{n k:Nat}(hn:n<=65536)(hk:k<n):∀x ∈ [((k:Nat):Int)],U64 x:=λ x hx=>by
 obtain rfl:=List.mem_singleton.1 hx
 exact⟨by omega,by omega⟩
def oneD(els:List ByteArray)(k:Nat):List ByteArray:=dgsL els (plcL (len els:Nat) [((k:Nat):Int)])
theorem oneD_len{els:List ByteArray}{k:Nat}(hn:len els<=65536):len (oneD els k)=depN els:=by
 unfold oneD
 rw[dgs_len,plc_one (d:=depN els) (depthZ_len hn) (depN_le hn)]
theorem oneD_size(els:List ByteArray)(k:Nat):∀d ∈ oneD els k,d.size=32:=λ d hd=>by
 unfold oneD dgsL at hd
 obtain⟨x,_,rfl⟩:=List.mem_map.1 hd
 exact plD_size _ _ _ _
theorem one_back{els:List ByteArray}{k:Nat}(hn:len els<=65536)(hk:k<len els):rootE (len els:Nat) [((k:Nat):Int)] [tth els k] (oneD els k)=0/\rootS (len els:Nat) [((k:Nat):Int)] [tth els k] (oneD els k)=treeR els:=
 back_root hn (one_u64 hn hk) (one_may hk) (Agree.refl _ _) rfl (λ m hm=>by
  have hm:m<1:=hm
  obtain rfl:m=0:=by omega
  rfl)
theorem one_check{els:List ByteArray}{k:Nat}(hn:len els<=65536)(hk:k<len els):checkE (treeR els) (len els:Nat) [((k:Nat):Int)] [tth els k] (oneD els k)=0:=by
 have h:=one_back hn hk
 unfold checkE
 rw[h.1,h.2,if_neg (λ h=>h.2 rfl)]
theorem own_capP{w:World}{base n c:Nat}{a:Option Addr}{xs:List Value}{m:Nat}(h:w.ownsRow base 9 1 (.slice a m c) n xs):m<=c/\(a=none->c=0):=by
 rcases h.2 with⟨e,_⟩ | ⟨g,cap,cur,e,_,_,h3,_⟩
 ·injection e with e1 e2 e3;exact⟨by omega,λ _=>e3⟩
 ·injection e with e1 e2 e3;exact⟨by omega,λ e9=>by rw[e9]at e1;cases e1⟩
def TextsAre(L:List ByteArray)(v:Value)(w:World):Prop:=∃a c,v=.slice a (len L) c/\Txts w a L/\len L<=c/\(a=none->c=0)
theorem TextsAre.below{L:List ByteArray}{v:Value}{w w':World}(h:TextsAre L v w)(hb:Below w.heap.size w w'):TextsAre L v w':=by
 obtain⟨a,c,h1,h2,h3,h4⟩:=h
 exact⟨a,c,h1,h2.below hb,h3,h4⟩
theorem TextsAre.nil(w:World):TextsAre [] (.slice none 0 0) w:=⟨none,0,rfl,Txts.nil _ _,Nat.le_refl _,λ _=>rfl⟩
theorem TextsAre.own{w:World}{base n:Nat}{v:Value}{L:List ByteArray}(h:w.ownsRow base 9 1 v n (L.map Value.string)):TextsAre L v w:=by
 obtain⟨a,c,rfl,ht⟩:=own_txts h
 obtain⟨h1,h2⟩:=own_capP h
 exact⟨a,c,rfl,ht,h1,h2⟩
structure Hdr where
 rnd:Int
 prev:ByteArray
 txns:ByteArray
 seed:ByteArray
abbrev Hdr.val(r:Hdr):Value:=.agg #[.int .u64 r.rnd,.string r.prev,.string r.txns,.string r.seed]
def Hdr.cells(r:Hdr):List Value:=[.int .u64 r.rnd,.string r.prev,.string r.txns,.string r.seed]
theorem Hdr.cells_len(r:Hdr):r.cells.length=4:=rfl
theorem Hdr.cells_one(r:Hdr):∀u ∈ r.cells,u.oneCell'=true:=by intro u hu;simp only[Hdr.cells,List.mem_cons,List.not_mem_nil,or_false]at hu;rcases hu with rfl | rfl | rfl | rfl <;> rfl
def Hdr.zero:Hdr:=⟨0,ByteArray.empty,ByteArray.empty,ByteArray.empty⟩
def hnth(l:List Hdr)(i:Nat):Hdr:=l.getD i Hdr.zero
theorem hnth_eq(l:List Hdr)(i:Nat)(h:i<l.length):hnth l i=l[i]:=by unfold hnth;rw[List.getD_eq_getElem?_getD,List.getElem?_eq_getElem h];rfl
structure HdrAt(w:World)(b o:Nat)(r:Hdr):Prop where
 c0:w.cell? ⟨b,o,none⟩=some (.int .u64 r.rnd)
 c1:w.cell? ⟨b,o+1,none⟩=some (.string r.prev)
 c2:w.cell? ⟨b,o+2,none⟩=some (.string r.txns)
 c3:w.cell? ⟨b,o+3,none⟩=some (.string r.seed)
theorem HdrAt.below{w w':World}{b o:Nat}{r:Hdr}(h:HdrAt w b o r)(hb:Below w.heap.size w w'):HdrAt w' b o r:=by
 have hl:=lt_of_cell h.c0;have e:∀q,w'.cell? ⟨b,q,none⟩=w.cell? ⟨b,q,none⟩:=λ q=>hb.cell (p:=⟨b,q,none⟩) hl
 obtain⟨c0,c1,c2,c3⟩:=h
 constructor <;> (rw[e];assumption)
def Hdrs(w:World)(a:Option Addr)(l:List Hdr):Prop:=∀i,i<len l->∃b off,a=some ⟨b,off,none⟩/\HdrAt w b (off+i * 4) (hnth l i)
theorem Hdrs.nil(w:World)(a:Option Addr):Hdrs w a []:=λ i hi=>absurd hi (by simp[len])
theorem Hdrs.below{w w':World}{a:Option Addr}{l:List Hdr}(h:Hdrs w a l)(hb:Below w.heap.size w w'):Hdrs w' a l:=λ i hi=>by
 obtain⟨b,off,rfl,hc⟩:=h i hi
 exact⟨b,off,rfl,hc.below hb⟩
theorem Hdrs.take{w:World}{a:Option Addr}{l:List Hdr}(h:Hdrs w a l)(k:Nat):Hdrs w a (l.take k):=λ i hi=>by
 have hi2:i<l.length/\i<k:=by simp only[len,List.length_take]at hi;omega
 have hi3:i<(l.take k).length:=hi;have e:hnth (l.take k) i=hnth l i:=by rw[hnth_eq l i hi2.1,hnth_eq _ i hi3,List.getElem_take]
 rw[e];exact h i hi2.1
theorem Hdrs.own{w:World}{base e n:Nat}{v:Value}{l:List Hdr}(h:w.ownsRow base e 4 v n (l.flatMap Hdr.cells)):∃a cap,v=.slice a (len l) cap/\Hdrs w a l/\len l<=cap:=by
 have hn:len l=n:=by have:=h.1;rw[flat_length Hdr.cells 4 Hdr.cells_len]at this;rw[len_eq];omega
 obtain⟨h1,h2⟩:=h
 rcases h2 with⟨rfl,h2⟩ | ⟨g,cap,cur,rfl,hg,hh,hc1,hc2,hc3,hc4⟩
 ·obtain rfl:l=[]:=List.eq_nil_of_length_eq_zero (by rw[<-len_eq];omega)
  exact⟨none,0,rfl,Hdrs.nil _ _,Nat.le_refl _⟩
 ·refine⟨some ⟨g,0,none⟩,cap,by rw[hn],λ i hi=>⟨g,0,rfl,?_⟩,by omega⟩
  have hown:w.ownsRow base e 4 (.slice (some ⟨g,0,none⟩) n cap) n (l.flatMap Hdr.cells):=⟨h1,.inr ⟨g,cap,cur,rfl,hg,hh,hc1,hc2,hc3,hc4⟩⟩;have key:∀r,r<4->w.cell? ⟨g,0+i * 4+r,none⟩=(hnth l i).cells[r]?:=λ r hr=>by
   have:=hown.cellAt (i * 4+r) (by rw[<-hn];omega)
   rw[Nat.zero_add,this,flat_get Hdr.cells 4 Hdr.cells_len l i r hi hr,hnth_eq l i hi]
  exact⟨key 0 (by decide),key 1 (by decide),key 2 (by decide),key 3 (by decide)⟩
theorem Hdrs.block{w:World}{g:Nat}{l:List Hdr}{t:TypeId}{fr:Nat × Nat}(h:w.heap[g]?=some (.cells (l.flatMap Hdr.cells).toArray t fr)):Hdrs w (some ⟨g,0,none⟩) l:=λ i hi=>⟨g,0,rfl,by
 have key:∀r,r<4->w.cell? ⟨g,0+i * 4+r,none⟩=(hnth l i).cells[r]?:=λ r hr=>by
  rw[Nat.zero_add,block_cell h,List.getElem?_toArray,flat_get Hdr.cells 4 Hdr.cells_len l i r hi hr,hnth_eq l i hi]
 exact⟨key 0 (by decide),key 1 (by decide),key 2 (by decide),key 3 (by decide)⟩⟩
structure Hdr.Ok(r:Hdr):Prop where
 r0:U64i r.rnd
 p1:r.prev.size<=1000000
 t1:r.txns.size<=1000000
 s1:r.seed.size<=1000000
theorem Hdr.zero_ok:Hdr.zero.Ok:=⟨⟨by decide,by decide⟩,by decide,by decide,by decide⟩
theorem hoks{L:List Hdr}(h:∀p ∈ L,p.Ok):∀i,(hnth L i).Ok:=λ i=>by
 rcases Nat.lt_or_ge i L.length with hi | hi
 ·rw[hnth_eq L i hi];exact h _ (List.getElem_mem hi)
 ·unfold hnth;rw[List.getD_eq_getElem?_getD,List.getElem?_eq_none hi];exact Hdr.zero_ok
def hsp(r:Hdr):List FSpec:=headerSpecs r.rnd r.prev r.txns r.seed
def hOk(r:Hdr):Bool:=allMay (hsp r)
def hbs(r:Hdr):ByteArray:=layP (hsp r)
theorem hOk_eq(r:Hdr):hOk r=(decide (r.prev.size=32) && decide (r.seed.size=32) && decide (r.txns.size=32)):=may_header _ _ _ _
theorem hbs_size{r:Hdr}(h:hOk r=true):(hbs r).size<=1000:=headerSz h
def stepH(a b:Hdr):Bool:=decide (a.rnd<b.rnd) && decide (b.rnd - a.rnd=1)
def followH(R:Hdr->Hdr->Bool)(l:List Hdr):Bool:=(List.range (len l)).all λ i=>decide (i=0) || R (hnth l (i - 1)) (hnth l i)
theorem followH_yes{R:Hdr->Hdr->Bool}{l:List Hdr}(h:∀i,i<len l->0<i->R (hnth l (i - 1)) (hnth l i)=true):followH R l=true:=by
 unfold followH
 rw[List.all_eq_true]
 intro i hi
 by_cases h0:i=0
 ·simp[h0]
 ·rw[h i (List.mem_range.1 hi) (by omega)];simp
theorem followH_at{R:Hdr->Hdr->Bool}{l:List Hdr}(h:followH R l=true){i:Nat}(hi:i<len l)(h0:0<i):R (hnth l (i - 1)) (hnth l i)=true:=by
 unfold followH at h
 have:=List.all_eq_true.1 h i (List.mem_range.2 hi)
 simp at this
 rcases this with h1 | h1
 ·omega
 ·exact h1
def laysH(l:List Hdr):Bool:=l.all hOk
theorem laysH_yes{l:List Hdr}(h:∀i,i<len l->hOk (hnth l i)=true):laysH l=true:=by
 unfold laysH
 rw[List.all_eq_true]
 intro x hx
 obtain⟨i,hi,rfl⟩:=List.getElem_of_mem hx
 have:=h i hi
 rwa [hnth_eq l i hi]at this
theorem laysH_at{l:List Hdr}(h:laysH l=true){i:Nat}(hi:i<len l):hOk (hnth l i)=true:=by
 unfold laysH at h
 rw[hnth_eq l i hi]
 exact List.all_eq_true.1 h _ (List.getElem_mem hi)
def elOk(l:List Hdr):Bool:=decide (0<len l) && decide (len l<=64) && followH stepH l && laysH l
def elL(l:List Hdr):List ByteArray:=l.map hbs
theorem elL_len(l:List Hdr):len (elL l)=len l:=by unfold elL;rw[len_eq,len_eq,List.length_map]
theorem elL_snoc(l:List Hdr)(m:Nat)(h:m<len l):elL (l.take (m+1))=elL (l.take m)++[hbs (hnth l m)]:=by
 unfold elL
 have h2:m<l.length:=h
 rw[List.take_succ_eq_append_getElem h2,List.map_append,hnth_eq l m h2]
 rfl
theorem elL_at(l:List Hdr)(i:Nat)(h:i<len l):tth (elL l) i=hbs (hnth l i):=by
 have h2:i<l.length:=h
 rw[hnth_eq l i h2]
 unfold tth elL
 rw[List.getD_eq_getElem?_getD,List.getElem?_map,List.getElem?_eq_getElem h2]
 rfl
theorem elOk_at{l:List Hdr}(h:elOk l=true):0<len l/\len l<=64/\followH stepH l=true/\laysH l=true:=by
 unfold elOk at h
 simp only[Bool.and_eq_true,decide_eq_true_eq]at h
 exact⟨h.1.1.1,h.1.1.2,h.1.2,h.2⟩
theorem elOk_of{l:List Hdr}(h1:0<len l)(h2:len l<=64)(h3:followH stepH l=true)(h4:laysH l=true):elOk l=true:=by
 unfold elOk
 rw[decide_eq_true h1,decide_eq_true h2,h3,h4];rfl
theorem elL_size{l:List Hdr}(h:elOk l=true):∀i,i<len (elL l)->(tth (elL l) i).size<=1000:=λ i hi=>by
 rw[elL_len]at hi
 rw[elL_at l i hi]
 exact hbs_size (laysH_at (elOk_at h).2.2.2 hi)
def bodsOk(l:List ByteArray):Bool:=decide (len l<=64) && l.all λ s=>decide (0<s.size) && decide (s.size<=64)
theorem turnedZ_in{k d:Nat}(hd:d<=16)(hk:k<2 ^ d):turnedZ (k:Nat) (d:Nat)=((revOf k d:Nat):Int):=by
 unfold turnedZ
 rw[if_pos ⟨by omega,by omega,by rw[Int.toNat_natCast,pow_cast];exact_mod_cast hk⟩]
 rfl
theorem rdigest_zero(els:List ByteArray)(a:Option Addr)(cap d k:Nat)(w:World)(hd:d<=16)(hn:len els<=65536)(hz:∀i,i<len els->(tth els i).size<=140737488355200)(hk:k<2 ^ d)(ht:Txts w a els):
  Calls Tryz.prog 108 #[.slice a (len els) cap,.int .i64 (d:Nat),.int .i64 0,.int .u64 (k:Nat)] w λ e w'=>e=.returned (.string (plD els d 0 k))/\Below w.heap.size w w':=by
 have hk2:k<65536:=Nat.lt_of_lt_of_le hk (Nat.pow_le_pow_right (by decide) hd);have HE:=QLh (refElement_any (k:Nat) (d:Nat) w (by omega) (by omega) (by omega) (by omega))
 rw[turnedZ_in hd hk]at HE
 obtain⟨r,hr⟩:∃r,revOf k d=r:=⟨_,rfl⟩
 rw[hr]at HE
 by_cases hlt:r<len els
 ·have HP:Hid (plD els d 0 k=hashP leafT [tth els r]):=QLh (by
   show(if revOf k d<len els then hashP leafT [tth els (revOf k d)]else hashP noneT [])=_
   rw[hr,if_pos hlt])
  have b0:(r:Int)<len els:=by omega
  have b1:¬(len els:Int)<=(r:Int):=by omega
  obtain⟨bb,off,rfl,hcell⟩:=ht r hlt
  have HZ:=QLh (hz r hlt)
  obtain⟨s,hs⟩:∃s,tth els r=s:=⟨_,rfl⟩
  rw[hs]at HP HZ hcell
  have w8:IntKind.u64.wrap ((len els:Nat):Int)=((len els:Nat):Int):=IntWalk.u64_in _ (by omega);have lc:=lt_of_cell hcell;have wr1:IntKind.i64.wrap ((r:Nat):Int)=((r:Nat):Int):=IntWalk.i64_in _ (by omega);clear hd hn hz hk ht hr hs hk2
  go_enter Tryz.func108,Tryz.ntmps108
  go_wp2_with fail
  refine HE.out.mono ?_
  rintro e w1 ⟨rfl,rfl⟩
  go_wp2_with fail
  refine(rhash1_any leafT s w (by decide) (by decide) HZ.out).mono ?_
  rintro e w2 ⟨rfl,hb2⟩
  have HB2:=QLh hb2;clear hb2
  go_wp2
  go_ret
  exact⟨by rw[HP.out];rfl,HB2.out⟩
 ·have HP:Hid (plD els d 0 k=hashP noneT []):=QLh (by
   show(if revOf k d<len els then hashP leafT [tth els (revOf k d)]else hashP noneT [])=_
   rw[hr,if_neg hlt])
  have b1:(len els:Int)<=(r:Int):=by omega
  have w8:IntKind.u64.wrap ((len els:Nat):Int)=((len els:Nat):Int):=IntWalk.u64_in _ (by omega);clear hd hn hz hk ht hr hk2
  go_enter Tryz.func108,Tryz.ntmps108
  go_wp2_with fail
  refine HE.out.mono ?_
  rintro e w1 ⟨rfl,rfl⟩
  go_wp2_with fail
  refine(rhash0_any noneT w (by decide) (by decide)).mono ?_
  rintro e w2 ⟨rfl,hb2⟩
  have HB2:=QLh hb2;clear hb2
  go_wp2
  go_ret
  exact⟨by rw[HP.out];rfl,HB2.out⟩
theorem rdigest_any(els:List ByteArray)(a:Option Addr)(cap d:Nat)(hd:d<=16)(hn:len els<=65536)(hz:∀i,i<len els->(tth els i).size<=140737488355200):∀(l k:Nat) (w:World),l<=d->k<2 ^ (d - l)->Txts w a els->
  Calls Tryz.prog 108 #[.slice a (len els) cap,.int .i64 (d:Nat),.int .i64 (l:Nat),.int .u64 (k:Nat)] w λ e w'=>e=.returned (.string (plD els d l k))/\Below w.heap.size w w'
 | 0,k,w,hl,hk,ht=>rdigest_zero els a cap d k w hd hn hz hk ht
 | l+1,k,w,hl,hk,ht=>by
  have hp:2 ^ (d - l)=2 * 2 ^ (d - (l+1)):=by rw[show d - l=d - (l+1)+1 by omega,Nat.pow_succ];omega
  have hk2:2 ^ (d - l)<=65536:=Nat.pow_le_pow_right (by decide) (by omega:d - l<=16)
  obtain⟨k0,hk0⟩:∃k0,2 * k=k0:=⟨_,rfl⟩
  obtain⟨k1,hk1⟩:∃k1,2 * k+1=k1:=⟨_,rfl⟩
  obtain⟨m,hm⟩:∃m,l+1=m:=⟨_,rfl⟩
  have f1:IntKind.u64.wrap (2 * ((k:Nat):Int))=((k0:Nat):Int):=by rw[IntWalk.u64_in _ (by omega)];omega
  have f2:IntKind.u64.wrap (((k0:Nat):Int)+1)=((k1:Nat):Int):=by rw[IntWalk.u64_in _ (by omega)];omega
  have l1:(0:Int)<((m:Nat):Int):=by omega
  have l2:IntKind.i64.wrap (((m:Nat):Int) - 1)=((l:Nat):Int):=by rw[IntWalk.i64_in _ (by omega)];omega
  have IH1:=QLh (λ w9 h9=>rdigest_any els a cap d hd hn hz l (2 * k) w9 (by omega) (by omega) h9);have IH2:=QLh (λ w9 h9=>rdigest_any els a cap d hd hn hz l (2 * k+1) w9 (by omega) (by omega) h9);have HT:=QLh ht
  obtain⟨X,hX⟩:∃X,plD els d l (2 * k)=X:=⟨_,rfl⟩
  obtain⟨Y,hY⟩:∃Y,plD els d l (2 * k+1)=Y:=⟨_,rfl⟩
  have HP:Hid (plD els d (l+1) k=hashP nodeT [X,Y]):=QLh (by rw[<-hX,<-hY];rfl);have HXS:Hid (X.size<=1000000):=QLh (by rw[<-hX,plD_size];decide);have HYS:Hid (Y.size<=1000000):=QLh (by rw[<-hY,plD_size];decide)
  rw[hX,hk0]at IH1
  rw[hY,hk1]at IH2
  rw[hm]at HP ⊢
  clear hX hY ht hk hp hk2 hd hn hz hl hk0 hk1 hm
  go_enter Tryz.func108,Tryz.ntmps108
  go_wp2_with fail
  refine(IH1.out w HT.out).mono ?_
  rintro e w1 ⟨rfl,hb1⟩
  have HB1:=QLh hb1;have HT1:=QLh (HT.out.below hb1);clear hb1
  go_wp2_with fail
  refine(IH2.out w1 HT1.out).mono ?_
  rintro e w2 ⟨rfl,hb2⟩
  have HB2:Hid (Below w.heap.size w w2):=QLh (bnext HB1.out hb2);clear hb2
  go_wp2_with fail
  refine(rhash2_any nodeT X Y w2 (by decide) (by decide) HXS.out HYS.out).mono ?_
  rintro e w3 ⟨rfl,hb3⟩
  have HB3:Hid (Below w.heap.size w w3):=QLh (bnext HB2.out hb3);clear hb3
  go_wp2
  go_ret
  exact⟨by rw[HP.out];rfl,HB3.out⟩
theorem own_at{base n c:Nat}{w:World}{a:Option Addr}{l:List ByteArray}(h:w.ownsRow base 9 1 (.slice a n c) n (l.map Value.string))(m:Nat)(hm:m<n):∃g,a=some ⟨g,0,none⟩/\base<=g/\w.cell? ⟨g,m,none⟩=some (.string (tth l m))/\w.frozen? ⟨g,m,none⟩=false/\g<w.heap.size:=by
 have hn:l.length=n:=by have:=h.1;simpa using this
 rcases h.2 with⟨hz,h9⟩ | ⟨g9,cap,cur,hv,hg,hh,h1,h2,h3,h4⟩
 ·omega
 ·cases hv
  refine⟨g9,rfl,hg,?_,block_free hh m,lt_of_block hh⟩
  have h5:=h.cellAt m (by omega);have hi2:m<l.length:=by omega
  rw[h5,List.getElem?_map,List.getElem?_eq_getElem hi2,tth_eq l m hi2];rfl
theorem txts_news{w:World}{ad:Addr}{l:List ByteArray}(h:Txts w (some ad) l):∀j u,(l.map Value.string)[j]?=some u->w.cell? (ad.add j)=some u:=by
 intro j u hu
 have hj:j<l.length:=by have:=(List.getElem?_eq_some_iff.1 hu).1;simpa using this
 rw[List.getElem?_map,List.getElem?_eq_getElem hj]at hu
 cases hu
 obtain⟨b,off,e,hc⟩:=h j hj
 cases e
 rw[tth_eq l j hj]at hc
 by_cases hj0:j=0
 ·subst hj0;simpa [Addr.add] using hc
 ·simpa [Addr.add,hj0] using hc
theorem one_txts(l:List ByteArray):∀u ∈ l.map Value.string,u.oneCell'=true:=by
 intro u hu
 obtain⟨x,_,rfl⟩:=List.mem_map.1 hu
 rfl
theorem len_appT{α:Type}(a b:List α):len (a++b)=len a+len b:=by rw[len_eq,List.length_append];rfl
theorem wpList_append_txts{w:World}{ops:Array Oper}{rest:List Oper}{o:Oper}{a:Act}{Q:Exit->Act->World->Prop}(hgd:o.guard=none)(s x:Operand)
  (ho:o.op=.call { callee:=.builtin .append,args:=#[s,x],argTypes:=#[36,36] })
  (base:Nat) (v:Value) (xs l:List ByteArray) (ad:Option Addr) (c:Nat) (hs:a.eval s=v) (hown:w.ownsRow base 9 1 v (len xs) (xs.map Value.string))
  (hx:a.eval x=.slice ad (len l) c) (hl:Txts w ad l) (hc:ad=none->c=0) (hlen:len xs+len l<=100000) (hbase:base<=w.heap.size)
  (h:∀v' w',w'.ownsRow base 9 1 v' (len (xs++l)) ((xs++l).map Value.string)->w.grownBy w' v.ownBlock->wpList Tryz.prog ops Q rest (a.put o.dst v') w'):wpList Tryz.prog ops Q (o :: rest) a w:=by
 obtain⟨i0,hi,hz0,hz1,hz2⟩:=info_parts info_str
 cases ad with
 | none=>
  obtain rfl:l=[]:=by
   cases l with
   | nil=>rfl
   | cons y l=>obtain⟨b,off,e,_⟩:=hl 0 (by simp[len]);cases e
  rw[hc rfl]at hx
  refine wpList_append_own_none hgd s x 36 ho base 9 i0 1 Tryz.underlying36 hi v _ _ hs hown hx ?_
  exact h v w (by rw[List.append_nil];exact hown) ⟨rfl,rfl,rfl,Nat.le_refl _,λ _ _ _=>rfl⟩
 | some ad=>
  refine wpList_append_own _ hgd s x 36 ho base 9 i0 (.string ⟨#[]⟩) 1 16 Tryz.underlying36 hi hz0 hz1 hz2 rfl (by decide) v _ _ hs hown ad (len l) c (l.map Value.string) hx (by simp[len]) (txts_news hl) (one_txts l) (by unfold maxLen;omega) (by omega) hbase ?_
  intro v' w' h1 h2 _
  refine h v' w' ?_ h2
  rw[len_appT,List.map_append];exact h1
def RElIs(l:List Hdr)(w:World)(e:Ending)(w':World):Prop:=∃v,e=.returned (.tuple #[v,.bool (elOk l)])/\(elOk l=true->TextsAre (elL l) v w')/\Below w.heap.size w w'
structure ElSt(l:List Hdr)(w wr:World)(v:Value)(m:Nat):Prop where
 b:Below w.heap.size w wr
 o:wr.ownsRow w.heap.size 9 1 v (len (elL (l.take m))) ((elL (l.take m)).map Value.string)
 y:∀j,j<m->hOk (hnth l j)=true
 s:∀j,0<j->j<m->stepH (hnth l (j - 1)) (hnth l j)=true
theorem lenT(l:List Hdr)(m:Nat)(h:m<=len l):len (elL (l.take m))=m:=by rw[elL_len,len_eq,List.length_take];rw[len_eq]at h;omega
theorem bod_no{l:List ByteArray}{m:Nat}(hm:m<len l)(h:¬(0<(tth l m).size/\(tth l m).size<=64)):bodsOk l=false:=by
 unfold bodsOk
 have:(l.all λ s=>decide (0<s.size) && decide (s.size<=64))=false:=by
  rw[List.all_eq_false]
  refine⟨tth l m,by rw[tth_eq l m hm];exact List.getElem_mem hm,?_⟩
  simp only[Bool.and_eq_true,decide_eq_true_eq]
  exact h
 rw[this];simp
theorem bod_yes{l:List ByteArray}(hn:len l<=64)(h:∀m,m<len l->0<(tth l m).size/\(tth l m).size<=64):bodsOk l=true:=by
 unfold bodsOk
 rw[decide_eq_true hn,Bool.true_and,List.all_eq_true]
 intro x hx
 obtain⟨i,hi,rfl⟩:=List.getElem_of_mem hx
 have:=h i hi
 rw[tth_eq l i hi]at this
 simp[this.1,this.2]
section
open Go.RowKit Go.ChangeShapes Go.WideShapes Go.ChangeAt Go.Deep
section
variable {H : Type} {enc : TypeId × Value → H} {P : Program} {w : World}
theorem below_trodAll(hl:laidOutB P=true){W W':World}(hb:Below W.heap.size W W'):∀{ts:List TypeId} {vs:List Value} {ds:List (DataW H)} {ps:List MemPlace},
  (∀t ∈ ts,P.readableRec t=true/\t<P.types.size)->DataW.TrodAll enc P W 0 (λ _=>true) true ts vs ds ps->DataW.TrodAll enc P W' 0 (λ b=>decide (b<W.heap.size)) true ts vs ds ps
 | [],vs,ds,ps,_,h=>by
  obtain⟨rfl,rfl,rfl⟩:=trodAll_nil h
  exact trodAll_mk0
 | t :: ts,vs,ds,ps,ht,h=>by
  obtain⟨v,vs',d,ds',p,q,rfl,rfl,rfl,h0,r0⟩:=trodAll_cons h
  have lt0:∀x ∈ p,x.block<W.heap.size:=by obtain⟨m,hm⟩:=h0;exact DataW.trod_lt m _ _ _ hm
  exact trodAll_cons_mk (Below.trod hl (ht t (List.mem_cons_self ..)).1 (ht t (List.mem_cons_self ..)).2 h0 hb lt0) (below_trodAll hl hb (λ t' h'=>ht t' (List.mem_cons_of_mem _ h')) r0)
theorem list_of{α:Type}{n:Nat}{p:Nat->α->Prop}(h:∀i,i<n->∃x,p i x):∃l:List α,l.length=n/\∀i (hi:i<l.length),p i l[i]:=by
 induction n with
 | zero=>exact⟨[],rfl,λ i hi=>by simp at hi⟩
 | succ n ih=>
  obtain⟨l,hl,hp⟩:=ih (λ i hi=>h i (by omega))
  obtain⟨x,hx⟩:=h n (by omega)
  refine⟨l++[x],by simp[hl],λ i hi=>?_⟩
  rcases Nat.lt_or_ge i l.length with h' | h'
  ·rw[List.getElem_append_left h'];exact hp i h'
  ·have e:i=l.length:=by simp at hi;omega
   subst e
   simp only[List.getElem_append_right (Nat.le_refl _),Nat.sub_self,List.getElem_cons_zero]
   rw[hl];exact hx
theorem open_elems{α:Type}{t e:TypeId}(k:Nat)(cells:α->List Value)(ok:α->Prop)(ht:P.underlying t=some (.slice e))(hC:P.cellsOf e=k)(hk:0<k)
  (hel:∀n cs' y,cs'.length=k->DataW.trod enc P w 0 (λ _=>true) true n e cs'=some y->∃x,cs'=cells x/\ok x)
  {v:Value} {d:DataW H} {p:List MemPlace} {r:Reach} {base:Nat} (hv:Value.okWide P w r base t v) (h:DataW.Trod enc P w 0 (λ _=>true) true t v d p):
  ∃a c,∃l:List α,v=.slice a (len l) c/\len l<=c/\c<=maxLen/\∀i (hi:i<l.length),ok l[i]/\∃b off,a=some ⟨b,off,none⟩/\∀j,j<k->w.cell? ⟨b,off+i * k+j,none⟩=(cells l[i])[j]?:=by
 obtain⟨a0,n0,c0,rfl⟩:=okWide_slice ht hv
 obtain⟨fuel,hf⟩:=h
 rcases open_slice ht hf with⟨hcs,_⟩ | ⟨a,n,c,m,q,D,Pl,hcs,_,hl,hm,hmm,_,hi⟩
 ·simp[Value.cells]at hcs
  obtain⟨rfl,rfl,rfl⟩:=hcs
  exact⟨none,0,[],rfl,Nat.le_refl _,Nat.zero_le _,λ i hi=>by simp at hi⟩
 ·simp[Value.cells]at hcs
  obtain⟨rfl,rfl,rfl⟩:=hcs
  have hnm:n0<=m:=by rw[hmm];simp;exact hl
  have each:∀i,i<n0->∃x,ok x/\∃b off,some a=some ⟨b,off,none⟩/\∀j,j<k->w.cell? ⟨b,off+i * k+j,none⟩=(cells x)[j]?:=by
   intro i hin
   obtain⟨cs',hc,htr⟩:=hi i (by omega)
   rw[hC]at hc
   obtain⟨_,hcl,hat⟩:=World.cells?_some hc
   obtain⟨x,rfl,hx⟩:=hel q cs' _ hcl htr
   obtain⟨b,off,spot⟩:=a
   have hspot:spot=none:=by
    obtain⟨cs0,hc0,htr0⟩:=hi 0 (by omega)
    rw[hC]at hc0
    obtain⟨_,hcl0,hat0⟩:=World.cells?_some hc0
    have h1:=hat0 0 hk;have h2:cs0[0]?=some (cs0[0]'(by omega)):=List.getElem?_eq_getElem (by omega)
    rw[h2]at h1
    simpa [Addr.add] using World.cell?_spot h1
   subst hspot
   refine⟨x,hx,b,off,rfl,λ j hj=>?_⟩
   have h1:=hat j hj
   rw[Go.Deep.add_add]at h1
   have e:(⟨b,off,none⟩:Addr).add (i * k+j)=⟨b,off+i * k+j,none⟩:=by
    unfold Addr.add;split
    ·rename_i h0;simp <;> omega
    ·simp[Nat.add_assoc]
   rw[e]at h1;exact h1
  obtain⟨l,hll,hp⟩:=list_of each
  subst hll
  exact⟨some a,c0,l,rfl,hl,hm,hp⟩
theorem cell_read{n:Nat}{e:TypeId}{k:IntKind}{v:Value}{y:DataW H × List MemPlace}(he:P.underlying e=some (.int k))(h:DataW.trod enc P w 0 (λ _=>true) true n e [v]=some y):∃x,v=.int k x/\(Lit.int k x).wf=true:=by
 obtain⟨x,hx,_,hw⟩:=DataW.trod_int he h
 exact⟨x,by simpa using hx,hw⟩
theorem wf_u8{x:Int}(h:(Lit.int .u8 x).wf=true):0<=x/\x<=255:=by
 simp[Lit.wf,IntKind.min,IntKind.max,IntKind.bits,IntKind.signed]at h;omega
end
end
section
open Go.RowKit Go.ChangeShapes Go.WideShapes Go.ChangeAt
theorem own:ownKnob Tryz.prog.godebug=none:=by kernel_rfl
theorem laidOut:laidOutB Tryz.prog=true:=by kernel_rfl
end
def isOkR(r:Except Flt Rcd):Bool:=match r with | .ok _=>true | .error _=>false
def EvOf(r:Except Flt Rcd)(ev:Value):Prop:=match r with
 | .ok _=>ev=.nilIface
 | .error _=>∃fb,ev=.iface 290 (.pointer (some ⟨fb,0,none⟩))
theorem rqHeader_any(B:Nat)(s:ByteArray)(w:World)(h:TE7 B w)(hs:s.size<=9223372036854775807):Calls Tryz.prog 112 #[.string s] w λ e w'=>∃ev,e=.returned (.tuple #[.agg (cellsHeader (recV (readR s (headerGs s) header0) header0)),ev])/\EvOf (readR s (headerGs s) header0) ev/\Below w.heap.size w w':=by
 refine(reaHeader_any B s w h.t h.e h.s h.g hs).mono ?_
 rintro e w' ⟨hb,hh⟩
 cases hr:readR s (headerGs s) header0 with
 | error f=>
  rw[hr]at hh
  obtain⟨fb,he,hf⟩:=hh
  exact⟨_,he,⟨fb,rfl⟩,hb⟩
 | ok y=>
  rw[hr]at hh
  exact⟨_,hh.2.2,rfl,hb⟩
section
open Go.RowKit Go.ChangeMaps
theorem dgsL_len(els:List ByteArray)(L:List (Int × Int)):len (dgsL els L)=L.length:=by unfold dgsL;rw[len_eq,List.length_map]
theorem rprove_ok(els:List ByteArray)(ae:Option Addr)(ce:Nat)(l:List Int)(a:Option Addr)(cap:Nat)(w:World)(ht:Txts w ae els)(hn:len els<=65536)(hz:∀i,i<len els->(tth els i).size<=140737488355200)(h:U64s w a l)(hl:len l<=100)(hu:∀k ∈ l,U64 k)(hb:MayOk (len els:Nat) l):
  Calls Tryz.prog 106 #[.slice ae (len els) ce,.slice a (len l) cap] w (ProofIs (dgsL els (plcL (len els:Nat) l)) 0 w):=by
 have HM:=QLh (rmay_any (len els:Nat) l a cap w h (by omega) (by omega) (by omega))
 rw[decide_eq_true hb]at HM
 have HT:=QLh ht;have HNE:=QLh hn;have HZE:=QLh hz;have H:=QLh h;have HU:=QLh hu
 obtain⟨d,hd⟩:∃d,depN els=d:=⟨_,rfl⟩
 have HDD:=QLh hd;have HD16:Hid (d<=16):=QLh (by rw[<-hd];exact depN_le hn);have HPL:Hid (plcL (len els:Nat) l=flatLv (needsL (leavesL l d) d)):=QLh (by unfold plcL;rw[depthZ_len hn,hd]);have HDZ:=QLh (λ w9=>refDepth_any (len els:Nat) w9 (by omega) (by omega))
 rw[depthZ_len hn,hd]at HDZ
 have HN:=QLh hl;have HPB:Hid (∀x ∈ flatLv (needsL (leavesL l d) (d:Nat)),∃i k:Nat,x=((i:Int),(k:Int))/\i<d/\k<2 ^ (d - i)):=QLh (plc_bd HD16.out (leaves_in HD16.out))
 obtain⟨i0,hi,hz0,hz1,hz2⟩:=info_parts info_str
 have HZ0:=QLh hz0;clear ht hn hz h hu hb hd hl hz0
 go_enter Tryz.func106,Tryz.ntmps106
 go_wp2_with fail
 refine HM.out.mono ?_
 rintro e w1 ⟨rfl,hb1⟩
 have HB1:=QLh hb1;clear hb1 HM
 go_wp2_with fail
 refine(HDZ.out _).mono ?_
 rintro e w2 ⟨rfl,rfl⟩
 go_wp2_with fail
 refine(rleaves_any l a cap (d:Nat) w1 (H.out.below HB1.out) (by have:=HN.out;omega) HU.out (by have:=HD16.out;omega) (by have:=HD16.out;omega)).mono ?_
 rintro e w2 ⟨a2,cap2,rfl,hl2,hb2⟩
 have HL2:=QLh hl2;have HB2:Hid (Below w.heap.size w w2):=QLh (bnext HB1.out hb2);clear hl2 hb2;have HND:=QLh (refNeeds_any a2 cap2 (leavesL l d) (d:Nat) w2 HL2.out (by rw[leavesL_len];exact HN.out) (leavesL_u64 l d))
 rw[leavesL_len]at HND
 go_wp2_with fail
 refine HND.out.mono ?_
 rintro e w3 ⟨v,vals,rfl,hr1,hr2,hb3⟩
 obtain⟨rs,hrs⟩:∃rs,needsL (leavesL l d) d=rs:=⟨_,rfl⟩
 have HR1:Hid (len rs<=16):=QLh (by rw[<-hrs];exact len_nl _ _);have HR2:Hid (∀i,len (rnth rs i)<=100):=QLh (by rw[<-hrs];exact rnth_nl _ _ (by rw[leavesL_len];exact HN.out));have HR3:Hid ((flatLv rs).length<=1600):=QLh (by rw[<-hrs];exact flat_bd _ _ (by rw[leavesL_len];exact HN.out))
 rw[hrs]at hr2 HPL HPB
 obtain⟨a3,cap3,hv,hR3,hc4,hc5⟩:=rows2_of hr1 hr2
 subst hv
 have R3:=QLh hR3;have HB3:Hid (Below w.heap.size w w3):=QLh (bnext HB2.out hb3);clear hr1 hr2 hb3 hR3 hrs HND hc4 hc5;have HT3:=QLh (HT.out.below HB3.out);have HO0:Hid (w3.ownsRow w3.heap.size 9 1 (.slice none 0 0) (len (dgsL els (flatAt rs 0 0))) ((dgsL els (flatAt rs 0 0)).map Value.string)):=QLh (World.ownsRow_nil _ _ _ _);clear HB1 HB2 HL2 HDZ
 go_upto_region 7 with fail
 go_loopg [9,8] (len rs) (λ g i v wr=>∃m:Nat,g+m=len rs/\i=.int .i64 m/\Hid (wr.ownsRow w3.heap.size 9 1 v (len (dgsL els (flatAt rs m 0))) ((dgsL els (flatAt rs m 0)).map Value.string))/\Hid (Below w3.heap.size w3 wr))
 case atStart=>exact⟨0,rfl,rfl,HO0,QLh (Below.refl _ _)⟩
 case round=>
  clear HO0
  obtain⟨m,hm,rfl,HO,HB⟩:=hrel
  have hb1:=HR1.out
  by_cases hlt:m<len rs
  ·have b1:(m:Int)<len rs:=by omega
   obtain⟨rb,ro,ra,rc,rfl,hrc,hru,-⟩:=R3.out m hlt
   have HRC:=QLh hrc;have HRU:=QLh hru
   obtain⟨row,hrow⟩:∃row,rnth rs m=row:=⟨_,rfl⟩
   have HROW:=QLh hrow;have HRL:Hid (len row<=100):=QLh (by rw[<-hrow];exact HR2.out m)
   rw[hrow]at HRC HRU
   have hrl:=HRL.out;have HM9:=QLh hm
   obtain⟨GK,hGK⟩:∃G,G=gk:=⟨_,rfl⟩
   subst hGK
   have hrc2:=(HB.out.cell (p:=⟨rb,ro+m,none⟩) (lt_of_cell HRC.out)).trans HRC.out;clear hrc hru hrow hm
   go_upto_region 10 with fail
   clear hrc2
   go_loopg [10,8] (len row) (λ g j v wr=>∃q:Nat,g+q=len row/\j=.int .i64 q/\Hid (wr.ownsRow w3.heap.size 9 1 v (len (dgsL els (flatAt rs m q))) ((dgsL els (flatAt rs m q)).map Value.string))/\Hid (Below w3.heap.size w3 wr))
   case atStart=>exact⟨0,rfl,rfl,HO,HB⟩
   case round=>
    clear HO HB
    obtain⟨q,hq,rfl,HO,HB⟩:=hrel
    have bm:¬len rs<=m:=by omega
    have cr:=(HB.out.cell (p:=⟨rb,ro+m,none⟩) (lt_of_cell HRC.out)).trans HRC.out;have lcr:=lt_of_cell cr
    by_cases hlq:q<len row
    ·have b2:(q:Int)<len row:=by omega
     obtain⟨ub,uo,rfl,hk⟩:=(HRU.out.below HB.out) q hlq
     have lck:=lt_of_cell hk;have hmem:((m:Int),nth row q) ∈ flatLv rs:=by
      have h9:=flat_at rs m q hlt (by rw[HROW.out];exact hlq)
      rw[HROW.out]at h9
      exact List.mem_of_getElem? h9
     obtain⟨i9,k,hx,hi9,hk9⟩:=HPB.out _ hmem
     have e1:i9=m:=by have:=congrArg Prod.fst hx;simp only at this;omega
     have e2:nth row q=((k:Nat):Int):=congrArg Prod.snd hx
     subst e1
     rw[e2]at hk
     have HDG:=QLh (rdigest_any els ae ce d HD16.out HNE.out HZE.out i9 k wr (by omega) hk9 (HT3.out.below HB.out))
     obtain⟨X9,hX9⟩:∃X9,plD els d i9 k=X9:=⟨_,rfl⟩
     rw[hX9]at HDG
     have HSN:Hid (dgsL els (flatAt rs i9 (q+1))=dgsL els (flatAt rs i9 q)++[X9]):=QLh (by
      rw[flatAt_next rs i9 q (by rw[HROW.out];exact hlq),dgsL_snoc,HROW.out,e2,HDD.out,<-hX9]
      simp)
     obtain⟨P9,hP9⟩:∃P9,dgsL els (flatAt rs i9 q)=P9:=⟨_,rfl⟩
     have HPL9:Hid (len P9<=1600):=QLh (by
      rw[<-hP9,dgsL_len]
      have h8:=flatAt_lt rs i9 q hlt (by rw[HROW.out];exact hlq);have:=HR3.out
      omega)
     rw[hP9]at HO HSN
     clear hmem hx hi9 hk9 e2 hX9 hP9
     go_wp2_with fail
     refine HDG.out.mono ?_
     rintro e w4 ⟨rfl,hb4⟩
     have HO4:Hid (w4.ownsRow w3.heap.size 9 1 u8 (len P9) (P9.map Value.string)):=QLh (own_below HO.out hb4);have HB4:Hid (Below w3.heap.size w3 w4):=QLh (bnext HB.out hb4);have hpb:=HPL9.out;clear hb4 hk cr lck lcr bm HO HB HDG
     go_wp2_with (at_builtin;refine wpList_append_own _ rfl _ _ 36 rfl w3.heap.size 9 i0 (.string ⟨#[]⟩) 1 16 Tryz.underlying36 hi HZ0.out hz1 hz2 rfl (by decide) _ _ _ rfl (HO4.out.alloc _) ⟨w4.heap.size,0,none⟩ 1 1 [.string X9] rfl rfl (World.news_of_block (heap_alloc_new _ _)) (by intro u hu9;simp at hu9;subst hu9;rfl) (by unfold maxLen;omega) (by omega) (by have:=HB4.out.size;simp;omega) ?_;intro v2 w5 hown2 hgrow2 _)
     have HO5:Hid (w5.ownsRow w3.heap.size 9 1 v2 (len (dgsL els (flatAt rs i9 (q+1)))) ((dgsL els (flatAt rs i9 (q+1))).map Value.string)):=QLh (by
      have e9:len (P9++[X9])=len P9+1:=by rw[len_eq,List.length_append];rfl
      rw[HSN.out,List.map_append,e9]
      exact hown2)
     have HB5:Hid (Below w3.heap.size w3 w5):=QLh (grownBy_below (balloc HB4.out _) hgrow2 (λ k hk'=>(HO4.out.lt k hk').1));clear hown2 hgrow2
     go_wp2
     go_roundg (len row - (q+1))
     case rel=>exact⟨q+1,by omega,by go_num,HO5,HB5⟩
     case measure=>omega
    ·obtain rfl:q=len row:=by omega
     have b2:¬((len row:Nat):Int)<len row:=by omega
     have HO2:Hid (wr.ownsRow w3.heap.size 9 1 u8 (len (dgsL els (flatAt rs (m+1) 0))) ((dgsL els (flatAt rs (m+1) 0)).map Value.string)):=QLh (by
      have h9:=HO.out
      rw[<-HROW.out,flatAt_row rs m hlt]at h9
      exact h9)
     have hm:=HM9.out
     go_wp2
     go_roundg (len rs - (m+1))
     case rel=>exact⟨m+1,by omega,by go_num,HO2,HB⟩
     case measure=>omega
  ·obtain rfl:m=len rs:=by omega
   have b1:¬((len rs:Nat):Int)<len rs:=by omega
   have HO2:Hid (wr.ownsRow w.heap.size 9 1 u8 (len (dgsL els (plcL (len els:Nat) l))) ((dgsL els (plcL (len els:Nat) l)).map Value.string)):=QLh (by
    have h9:=HO.out
    rw[flatAt_end,<-HPL.out]at h9
    exact own_lower h9 HB3.out.size)
   go_wp2
   go_ret2
   exact⟨_,rfl,HO2.out,bnext HB3.out HB.out⟩
end
def findR(l:List Hdr)(r:Int):Option Nat:=l.findIdx? λ h=>decide (h.rnd=r)
theorem findR_hit{l:List Hdr}{r:Int}{i:Nat}(hi:i<len l)(h:∀j,j<i->(hnth l j).rnd≠r)(h':(hnth l i).rnd=r):findR l r=some i:=by
 unfold findR
 rw[List.findIdx?_eq_some_iff_getElem]
 refine⟨hi,?_,λ j hj=>?_⟩
 ·rw[hnth_eq l i hi]at h';simp[h']
 ·have:=h j hj;rw[hnth_eq l j (Nat.lt_trans hj hi)]at this;simp[this]
theorem findR_none{l:List Hdr}{r:Int}(h:∀j,j<len l->(hnth l j).rnd≠r):findR l r=none:=by
 unfold findR
 rw[List.findIdx?_eq_none_iff]
 intro x hx
 obtain⟨i,hi,rfl⟩:=List.getElem_of_mem hx
 have:=h i hi;rw[hnth_eq l i hi]at this;simp[this]
def ihO(l:List Hdr)(r:Int):Option Nat:=if elOk l=true then findR l r else none
def ihS(l:List Hdr)(r:Int):ByteArray:=match ihO l r with | some i=>hbs (hnth l i) | none=>⟨#[]⟩
def ihP(l:List Hdr)(r:Int):List ByteArray:=match ihO l r with | some i=>oneD (elL l) i | none=>[]
def ihE(l:List Hdr)(r:Int):Int:=if elOk l=true then(match findR l r with | some _=>0 | none=>19)else 2
def IhIs(l:List Hdr)(r:Int)(w:World)(e:Ending)(w':World):Prop:=∃v,e=.returned (.tuple #[.string (ihS l r),v,.int .i64 (ihE l r)])/\TextsAre (ihP l r) v w'/\Below w.heap.size w w'
theorem ih_no{l:List Hdr}{r:Int}(h:elOk l=false):ihS l r=⟨#[]⟩/\ihP l r=[]/\ihE l r=2:=by
 have e:ihO l r=none:=if_neg (by rw[h];decide)
 refine⟨?_,?_,if_neg (by rw[h];decide)⟩
 ·unfold ihS;rw[e]
 ·unfold ihP;rw[e]
theorem ih_none{l:List Hdr}{r:Int}(h:elOk l=true)(hf:findR l r=none):ihS l r=⟨#[]⟩/\ihP l r=[]/\ihE l r=19:=by
 have e:ihO l r=none:=(if_pos h).trans hf
 refine⟨?_,?_,?_⟩
 ·unfold ihS;rw[e]
 ·unfold ihP;rw[e]
 ·unfold ihE;rw[if_pos h,hf]
theorem ih_some{l:List Hdr}{r:Int}{i:Nat}(h:elOk l=true)(hf:findR l r=some i):ihS l r=hbs (hnth l i)/\ihP l r=oneD (elL l) i/\ihE l r=0:=by
 have e:ihO l r=some i:=(if_pos h).trans hf
 refine⟨?_,?_,?_⟩
 ·unfold ihS;rw[e]
 ·unfold ihP;rw[e]
 ·unfold ihE;rw[if_pos h,hf]
def isA(root:ByteArray)(f t:Int):Bool:=decide (root.size=32) && decide (f<=t) && decide (t - f<64)
def isE(root:ByteArray)(f t:Int)(s:ByteArray)(p:List ByteArray):Int:=
 if isA root f t=true then
  match readR s (headerGs s) header0 with
  | .error _=>5
  | .ok y=>if f<=(y 0).n/\(y 0).n<=t then(if checkE root (t - f+1) [(y 0).n - f] [s] p=0 then 0 else 20)else 19
 else 2
def isH(root:ByteArray)(f t:Int)(s:ByteArray)(p:List ByteArray):Rcd:=if isE root f t s p=0 then recV (readR s (headerGs s) header0) header0 else header0
def IsIs(root:ByteArray)(f t:Int)(s:ByteArray)(p:List ByteArray)(w:World)(e:Ending)(w':World):Prop:=e=.returned (.tuple #[.agg (cellsHeader (isH root f t s p)),.int .i64 (isE root f t s p)])/\Below w.heap.size w w'
def bdOk(l:List ByteArray):Bool:=decide (0<len l) && bodsOk l
def itO(l:List ByteArray)(i:Int):Option Nat:=if bdOk l=true/\0<=i/\i<len l then some i.toNat else none
def itP(l:List ByteArray)(i:Int):List ByteArray:=match itO l i with | some k=>oneD l k | none=>[]
def itE(l:List ByteArray)(i:Int):Int:=if bdOk l=true then(if 0<=i/\i<len l then 0 else 19)else 2
def ItIs(l:List ByteArray)(i:Int)(w:World)(e:Ending)(w':World):Prop:=∃v,e=.returned (.tuple #[v,.int .i64 (itE l i)])/\TextsAre (itP l i) v w'/\Below w.heap.size w w'
theorem it_no{l:List ByteArray}{i:Int}(h:bdOk l=false):itP l i=[]/\itE l i=2:=by
 have e:itO l i=none:=if_neg (λ h9=>by rw[h]at h9;exact absurd h9.1 (by decide))
 exact⟨by unfold itP;rw[e],if_neg (by rw[h];decide)⟩
theorem it_none{l:List ByteArray}{i:Int}(h:bdOk l=true)(hi:¬(0<=i/\i<len l)):itP l i=[]/\itE l i=19:=by
 have e:itO l i=none:=if_neg (λ h9=>hi h9.2)
 exact⟨by unfold itP;rw[e],(if_pos h).trans (if_neg hi)⟩
theorem it_some{l:List ByteArray}{k:Nat}(h:bdOk l=true)(hi:k<len l):itP l (k:Nat)=oneD l k/\itE l (k:Nat)=0:=by
 have hi2:0<=((k:Nat):Int)/\((k:Nat):Int)<len l:=⟨by omega,by omega⟩;have e:itO l (k:Nat)=some k:=by unfold itO;rw[if_pos ⟨h,hi2⟩];rfl
 exact⟨by unfold itP;rw[e],(if_pos h).trans (if_pos hi2)⟩
def tiA(root:ByteArray)(i n:Int)(s:ByteArray):Bool:=decide (root.size=32) && decide (1<=n) && decide (n<=64) && decide (i<n) && decide (0<s.size) && decide (s.size<=64)
def tiE(root:ByteArray)(i n:Int)(s:ByteArray)(p:List ByteArray):Int:=if tiA root i n s=true then(if checkE root n [i] [s] p=0 then 0 else 20)else 2
theorem bdOk_at{l:List ByteArray}(h:bdOk l=true):0<len l/\len l<=64/\∀i,i<len l->0<(tth l i).size/\(tth l i).size<=64:=by
 unfold bdOk bodsOk at h
 simp only[Bool.and_eq_true,decide_eq_true_eq]at h
 refine⟨h.1,h.2.1,λ i hi=>?_⟩
 have:=List.all_eq_true.1 h.2.2 (tth l i) (by rw[tth_eq l i hi];exact List.getElem_mem hi)
 simpa using this
theorem bdOk_of{l:List ByteArray}(h0:0<len l)(h1:len l<=64)(h:∀i,i<len l->0<(tth l i).size/\(tth l i).size<=64):bdOk l=true:=by
 unfold bdOk
 rw[decide_eq_true h0,bod_yes h1 h];rfl
theorem bdOk_bad{l:List ByteArray}{m:Nat}(hm:m<len l)(h:¬(0<(tth l m).size/\(tth l m).size<=64)):bdOk l=false:=by
 unfold bdOk
 rw[bod_no hm h];simp
theorem bdOk_len{l:List ByteArray}(h:¬(0<len l/\len l<=64)):bdOk l=false:=by
 cases e:bdOk l with
 | false=>rfl
 | true=>exact absurd ⟨(bdOk_at e).1,(bdOk_at e).2.1⟩ h
structure PT(B:Nat)(w:World):Prop where
 p:PTab B w
 s:B<=w.heap.size
theorem PT.below{B:Nat}{w w':World}(h:PT B w)(hb:Below w.heap.size w w'):PT B w':=⟨h.p.keep hb h.s,Nat.le_trans h.s hb.size⟩
theorem hw_any(B:Nat)(r:Hdr)(w:World)(ht:PT B w)(ho:r.Ok):Calls Tryz.prog 44 #[r.val] w (LaidIs (hsp r) w):=
 wheader2_any B r.rnd r.prev r.txns r.seed w ht.p ho.r0 (Nat.le_trans ho.p1 (by decide)) (Nat.le_trans ho.t1 (by decide)) (Nat.le_trans ho.s1 (by decide)) (λ h=>Nat.le_trans (headerSz h) (by decide))
theorem hw_yes(B:Nat)(r:Hdr)(w:World)(ht:PT B w)(ho:r.Ok)(h:hOk r=true):Calls Tryz.prog 44 #[r.val] w λ e w'=>e=.returned (.tuple #[.string (hbs r),.int .i64 0])/\Below w.heap.size w w':=
 (hw_any B r w ht ho).mono λ e w' hh=>laid_yes h rfl hh
theorem hw_no(B:Nat)(r:Hdr)(w:World)(ht:PT B w)(ho:r.Ok)(h:hOk r=false):Calls Tryz.prog 44 #[r.val] w λ e w'=>e=.returned (.tuple #[.string ⟨#[]⟩,.int .i64 2])/\Below w.heap.size w w':=
 (hw_any B r w ht ho).mono λ e w' hh=>laid_no h hh
def BoxL(w:World)(xb:Nat)(a:Option Addr)(n cap:Nat):Prop:=w.heap[xb]?=some (.cells #[.slice a n cap] 22 (0,0))
theorem BoxL.below{w w':World}{xb:Nat}{a:Option Addr}{n cap:Nat}(h:BoxL w xb a n cap)(hb:Below w.heap.size w w'):BoxL w' xb a n cap:=(hb.block _ (lt_of_block h)).trans h
theorem info_u8h:(Tryz.prog.info? 5).map (λ i=>(i.zero,i.size,i.bytes))=some (some (.int .u8 0),1,1):=by kernel_rfl
theorem info_hdr:(Tryz.prog.info? 33).map (λ i=>(i.zero,i.size,i.bytes))=some (some Hdr.zero.val,4,56):=by kernel_rfl
def textL(c:Nat):List UInt8:=(List.range 32).map λ i=>UInt8.ofNat ((c+i % 3) % 256)
theorem textL_len(c:Nat):(textL c).length=32:=by unfold textL;rw[List.length_map,List.length_range]
theorem textL_at(c m:Nat)(h:m<32):Value.int .u8 (((c+m % 3) % 256:Nat):Int)=byV ((textL c).getD m 0):=by
 unfold textL byV
 rw[List.getD_eq_getElem?_getD,List.getElem?_map,List.getElem?_range h]
 simp
def textS(c:Nat):ByteArray:=⟨(textL c).toArray⟩
theorem textS_size(c:Nat):(textS c).size=32:=by
 show(textL c).toArray.size=32
 rw[List.size_toArray,textL_len]
theorem make_b32(K:List UInt8)(W:World):(Instr.makeSlice 41 (.int .i64 32) (.int .i64 32)).run Tryz.prog W=.ok (.slice (some ⟨W.heap.size,0,none⟩) 32 32) (W.alloc (.cells (filC K 32 0) 5)):=by
 obtain⟨i0,hi,hz0,hz1,hz2⟩:=info_parts info_u8h
 have hr:=run_make (P:=Tryz.prog) W 41 5 i0 (.int .u8 0) Tryz.underlying41 hi hz0 .i64 .i64 32 32 (by decide) (Int.le_refl _) (by rw[hz2];decide) (by decide);have e:madeCells (Value.int .u8 0).cells (32 * 1)=filC K 32 0:=by
  apply Array.toList_inj.1
  show(madeCells #[.int .u8 0] (32 * 1)).toList=_
  rw[toList_madeCells_one]
  rfl
 rw[hr,hz1]
 show Result.ok _ (W.alloc (.cells (madeCells (Value.int .u8 0).cells (32 * 1)) 5))=_
 rw[e]
 rfl
theorem text27_any(c:Nat)(w:World)(hc:c<=255):Calls Tryz.prog 56 #[.int .u8 (c:Nat)] w λ e w'=>e=.returned (.string (textS c))/\Below w.heap.size w w':=by
 have HC:=QLh hc;have mk:=make_b32 (textL c);clear hc
 go_enter Tryz.func56,Tryz.ntmps56
 go_upto_region 2 with fail
 obtain⟨lb,hlb⟩:∃lb,w.heap.size=lb:=⟨_,rfl⟩
 obtain⟨U,hU⟩:∃U,w.alloc (.cells (filC (textL c) 32 0) 5)=U:=⟨_,rfl⟩
 have HUB:Hid (U.heap[lb]?=some (.cells (filC (textL c) 32 0) 5 (0,0))):=QLh (by rw[<-hU];exact alloc_new_at _ hlb);have HUW:Hid (Below w.heap.size w U):=QLh (by rw[<-hU];exact balloc (Below.refl _ _) _);have HLB:Hid (w.heap.size<=lb):=QLh (Nat.le_of_eq hlb)
 rw[hlb]
 rw[hU]
 clear hU hlb mk
 go_wp2
 go_loopg [4] 32 (λ g i wr=>∃m:Nat,g+m=32/\i=.int .i64 m/\Hid (wr.heap[lb]?=some (.cells (filC (textL c) 32 m) 5 (0,0)))/\Hid (Below w.heap.size w wr))
 case atStart=>exact⟨0,rfl,rfl,HUB,HUW⟩
 case round=>
  clear HUB HUW
  obtain⟨m,hm,rfl,HUB,HUW⟩:=hrel
  by_cases hlt:m<32
  ·have i1:(m:Int)<32:=by omega
   obtain⟨W,hW⟩:∃W,wr=W:=⟨_,rfl⟩
   rw[hW]at HUB HUW ⊢
   have c0:W.cell? ⟨lb,m,none⟩=some (byV 0):=by rw[block_cell HUB.out,filC_at _ _ _ hlt (textL_len c)]
   have c1:W.frozen? ⟨lb,m,none⟩=false:=block_free HUB.out m;have c2:lb<W.heap.size:=lt_of_block HUB.out;clear hW;have HM:=QLh hm;clear hm;have ev:Value.int .u8 (((c:Int)+(m:Int) % 3) % 256)=byV ((textL c).getD m 0):=by rw[<-textL_at c m hlt];congr 1
   have HEV:=QLh ev;have HLT:=QLh hlt;clear ev hlt
   go_upto_region 4 with fail
   rw[HEV.out]
   clear c0 c1 c2;have HU2:Hid ((W.setCell ⟨lb,m,none⟩ (byV ((textL c).getD m 0))).heap[lb]?=some (.cells (filC (textL c) 32 (m+1)) 5 (0,0))):=QLh (by
    have:=block_setCell HUB.out (o:=m) (byV ((textL c).getD m 0))
    rw[filC_set _ _ _ HLT.out (textL_len c)]at this
    exact this)
   have HU4:Hid (Below w.heap.size w (W.setCell ⟨lb,m,none⟩ (byV ((textL c).getD m 0)))):=QLh (bset HUW.out HLB.out _)
   go_wp2
   go_roundg (gk - 1)
   case rel=>exact⟨m+1,by have:=HM.out;have:=HLT.out;omega,by have:=HLT.out;go_num,HU2,HU4⟩
   case measure=>have:=HM.out;have:=HLT.out;omega
  ·obtain rfl:m=32:=by omega
   have i1:¬((32:Nat):Int)<32:=by decide
   have HUB:=QLh (by have h:=HUB.out;rw[filC_all _ _ (textL_len c)]at h;exact h);have cv:(convert 41 9 (.slice (some ⟨lb,0,none⟩) 32 32)).run Tryz.prog wr=.ok (.string (textS c)) wr:=conv_block wr lb 0 32 32 (textL c) (textL_len c) (λ i hi=>byV_block HUB.out i (by rw[textL_len];exact hi))
   go_wp2
   go_ret
   exact⟨rfl,HUW.out⟩
theorem own_setk{base n c g m k:Nat}{w:World}{e:TypeId}{xs:List Value}{u:Value}(h:w.ownsRow base e k (.slice (some ⟨g,0,none⟩) n c) n xs):(w.setCell ⟨g,m,none⟩ u).ownsRow base e k (.slice (some ⟨g,0,none⟩) n c) n (xs.set m u):=by
 refine⟨by rw[List.length_set];exact h.1,?_⟩
 rcases h.2 with⟨hz,_⟩ | ⟨g9,cap,cur,hv,hg,hh,h1,h2,h3,h4⟩
 ·cases hz
 ·cases hv
  refine Or.inr ⟨g,c,cur.setIfInBounds m u,rfl,hg,block_setCell hh u,h1,h2,by rw[Array.size_setIfInBounds];exact h3,?_⟩
  rw[Array.toList_setIfInBounds,<-h4,List.take_set]
theorem flat_set{α β:Type}(f:α->List β)(k:Nat)(hf:∀x,(f x).length=k){u:β}{x':α}:∀(l:List α) (i j:Nat) (hi:i<l.length),j<k->f x'=(f l[i]).set j u->(l.flatMap f).set (i * k+j) u=(l.set i x').flatMap f
 | x :: l,0,j,_,hj,hx=>by
  simp only[List.flatMap_cons,Nat.zero_mul,Nat.zero_add,List.getElem_cons_zero,List.set_cons_zero]at hx ⊢
  rw[List.set_append_left _ _ (by rw[hf];exact hj),hx]
 | x :: l,i+1,j,hi,hj,hx=>by
  simp only[List.flatMap_cons,List.getElem_cons_succ,List.set_cons_succ]at hx ⊢
  rw[List.set_append_right _ _ (by rw[hf,Nat.add_mul];omega),hf,show(i+1) * k+j - k=i * k+j by rw[Nat.add_mul];omega]
  rw[flat_set f k hf l i j (by simpa using hi) hj hx]
def OwnH(base g c:Nat)(L:List Hdr)(w:World):Prop:=w.ownsRow base 33 4 (.slice (some ⟨g,0,none⟩) (len L) c) (len L) (L.flatMap Hdr.cells)
theorem OwnH.below{base g c:Nat}{L:List Hdr}{w w':World}(h:OwnH base g c L w)(hb:Below w.heap.size w w'):OwnH base g c L w':=own_below h hb
theorem OwnH.set{base g c:Nat}{L:List Hdr}{w:World}(h:OwnH base g c L w){i j:Nat}{u:Value}{r':Hdr}(hi:i<len L)(hj:j<4)(hr:r'.cells=(hnth L i).cells.set j u):OwnH base g c (L.set i r') (w.setCell ⟨g,i * 4+j,none⟩ u):=by
 unfold OwnH
 have hl:len (L.set i r')=len L:=by rw[len_eq,len_eq,List.length_set]
 rw[hl,<-flat_set Hdr.cells 4 Hdr.cells_len L i j hi hj (by rw[hr,hnth_eq L i hi])]
 exact own_setk h
theorem hset_len(L:List Hdr)(i:Nat)(r:Hdr):len (L.set i r)=len L:=by rw[len_eq,len_eq,List.length_set]
theorem OwnH.lt{base g c:Nat}{L:List Hdr}{w:World}(h:OwnH base g c L w):base<=g/\g<w.heap.size:=h.1 |> λ _=>World.ownsRow.lt h g rfl
structure HCells(w:World)(g i:Nat)(r:Hdr):Prop where
 c0:w.cell? ⟨g,i * 4,none⟩=some (.int .u64 r.rnd)
 c1:w.cell? ⟨g,i * 4+1,none⟩=some (.string r.prev)
 c2:w.cell? ⟨g,i * 4+2,none⟩=some (.string r.txns)
 c3:w.cell? ⟨g,i * 4+3,none⟩=some (.string r.seed)
 f:∀o,w.frozen? ⟨g,o,none⟩=false
theorem OwnH.at{base g c:Nat}{L:List Hdr}{w:World}(h:OwnH base g c L w){i:Nat}(hi:i<len L):HCells w g i (hnth L i):=by
 obtain⟨a,cap,e,hh,_⟩:=Hdrs.own h
 cases e
 obtain⟨b,off,e,⟨h0,h1,h2,h3⟩⟩:=hh i hi
 cases e
 rw[Nat.zero_add]at h0 h1 h2 h3
 rcases h.2 with⟨hz,_⟩ | ⟨g9,cap,cur,hv,hg,hb,_⟩
 ·cases hz
 ·cases hv
  exact⟨h0,h1,h2,h3,block_free hb⟩
theorem OwnH.hdrs{base g c:Nat}{L:List Hdr}{w:World}(h:OwnH base g c L w):Hdrs w (some ⟨g,0,none⟩) L:=by
 obtain⟨a,cap,e,hh,_⟩:=Hdrs.own h
 cases e
 exact hh
theorem ownH_of{base n:Nat}{v:Value}{L:List Hdr}{w:World}(h:w.ownsRow base 33 4 v n (L.flatMap Hdr.cells)):(v=.slice none 0 0/\L=[]) \/ ∃g c,v=.slice (some ⟨g,0,none⟩) (len L) c/\OwnH base g c L w:=by
 have hn:len L=n:=by have:=h.1;rw[flat_length Hdr.cells 4 Hdr.cells_len]at this;rw[len_eq];omega
 rcases h.2 with⟨hv,h0⟩ | ⟨g,cap,cur,hv,hr⟩
 ·exact .inl ⟨hv,List.eq_nil_of_length_eq_zero (by rw[<-len_eq];omega)⟩
 ·exact .inr ⟨g,cap,by rw[hn];exact hv,by unfold OwnH;rw[hn,<-hv];exact h⟩
section
set_option linter.constructorNameAsVariable false
theorem own_base{base b' n k:Nat}{e:TypeId}{v:Value}{w:World}{xs:List Value}(h:w.ownsRow base e k v n xs)(hb:b'<=base):w.ownsRow b' e k v n xs:=
 ⟨h.1,h.2.imp id (fun ⟨g,cap,cur,hv,hg,r⟩=>⟨g,cap,cur,hv,Nat.le_trans hb hg,r⟩)⟩
def rowAt(f c i:Nat):Hdr:=⟨((f:Int)+(i:Int)) % 18446744073709551616,textS c,textS ((c+1) % 256),textS ((c+2) % 256)⟩
def lett(l:List Int)(i:Nat):Nat:=(nth l i).toNat
def rowN(f:Nat)(l:List Int)(n:Nat):List Hdr:=(List.range n).map λ i=>rowAt f (lett l i) i
theorem rowN_len(f:Nat)(l:List Int)(n:Nat):len (rowN f l n)=n:=by unfold rowN;rw[len_eq];simp
theorem rowN_snoc(f:Nat)(l:List Int)(n:Nat):rowN f l (n+1)=rowN f l n++[rowAt f (lett l n) n]:=by unfold rowN;rw[List.range_succ,List.map_append];rfl
theorem rowN_at(f:Nat)(l:List Int){n i:Nat}(h:i<n):hnth (rowN f l n) i=rowAt f (lett l i) i:=by
 unfold rowN
 rw[hnth_eq _ i (by simpa using h)]
 simp
theorem rowAt_ok(f c i:Nat):(rowAt f c i).Ok:=⟨⟨by show(0:Int)<=((f:Int)+(i:Int)) % 18446744073709551616;omega,by show((f:Int)+(i:Int)) % 18446744073709551616<=18446744073709551615;omega⟩,by unfold rowAt;rw[textS_size];decide,by unfold rowAt;rw[textS_size];decide,by unfold rowAt;rw[textS_size];decide⟩
def rowO(o0 o1:Nat)(L:List Hdr):List Hdr:=
 if o1<len L then
  (if o0 % 8=1 then L.set o1 { hnth L o1 with rnd:=((hnth L o1).rnd+1) % 18446744073709551616 }
   else if o0 % 8=2 then L.set o1 { hnth L o1 with txns:=(hnth L o1).txns.extract 1 (hnth L o1).txns.size } else L)
 else L
def rowL(f:Nat)(l:List Int)(o0 o1:Nat):List Hdr:=rowO o0 o1 (rowN f l (min (len l) 70))
theorem rowN_ok(f:Nat)(l:List Int)(n:Nat):∀i,(hnth (rowN f l n) i).Ok:=hoks (λ p hp=>by
 unfold rowN at hp
 obtain⟨i,_,rfl⟩:=List.mem_map.1 hp
 exact rowAt_ok _ _ _)
theorem row_fin{base b' g c i:Nat}{L R:List Hdr}{r':Hdr}{W:World}(h:OwnH base g c (L.set i r') W)(hR:R=L.set i r')(hb:b'<=base):W.ownsRow b' 33 4 (.slice (some ⟨g,0,none⟩) (len L) c) (len R) (R.flatMap Hdr.cells):=by
 subst hR
 have h2:=own_base h hb
 rw[hset_len]at h2 ⊢
 exact h2
def Row27Is(f:Nat)(l:List Int)(o0 o1:Nat)(w:World)(e:Ending)(w':World):Prop:=∃v,e=.returned v/\w'.ownsRow w.heap.size 33 4 v (len (rowL f l o0 o1)) ((rowL f l o0 o1).flatMap Hdr.cells)/\Below w.heap.size w w'
theorem row27_any(f:Nat)(l:List Int)(a:Option Addr)(cap o0 o1:Nat)(w:World)(hf:f<18446744073709551616)(hc:U8s w a l)(hl:∀i,0<=nth l i/\nth l i<=255)(hn:len l<=9223372036854775807)(h0:o0<=255)(h1:o1<=255):
  Calls Tryz.prog 48 #[.int .u64 (f:Nat),.slice a (len l) cap,.agg #[.int .u8 (o0:Nat),.int .u8 (o1:Nat)]] w (Row27Is f l o0 o1 w):=by
 have HC:=QLh hc;have HLT:=QLh hl;have HF:=QLh hf;have HN:=QLh hn;have H0:=QLh h0;have H1:=QLh h1
 obtain⟨i0,hi,hz0,hz1,hz2⟩:=info_parts info_hdr
 have HZ0:=QLh hz0;clear hc hl hf hn h0 h1 hz0
 go_enter Tryz.func48,Tryz.ntmps48
 go_upto_region 1 with fail
 obtain⟨V,hV⟩:∃V,w.alloc (.cells #[.int .u8 (o0:Nat),.int .u8 (o1:Nat)] 70)=V:=⟨_,rfl⟩
 obtain⟨ob,hob⟩:∃ob,w.heap.size=ob:=⟨_,rfl⟩
 have HV:Hid (Below w.heap.size w V):=QLh (by rw[<-hV];exact balloc (Below.refl _ _) _);have HOB:Hid (V.heap[ob]?=some (.cells #[.int .u8 (o0:Nat),.int .u8 (o1:Nat)] 70 (0,0))):=QLh (by rw[<-hV,<-hob];exact heap_alloc_new _ _)
 rw[hV,hob]
 clear hV hob
 go_wp2
 go_loopg [8,7] 70 (λ gg i v wr=>∃m:Nat,gg+m=70/\i=.int .i64 (m:Nat)/\Hid (m<=len l)/\Hid (Below V.heap.size V wr)/\Hid (wr.ownsRow V.heap.size 33 4 v m ((rowN f l m).flatMap Hdr.cells)))
 case atStart=>exact⟨0,rfl,rfl,QLh (Nat.zero_le _),QLh (Below.refl _ _),QLh (World.ownsRow_nil _ _ _ _)⟩
 case round=>
  obtain⟨m,hm,rfl,HML,HB,HOWN⟩:=hrel
  by_cases hin:m<len l/\m<70
  ·obtain⟨hlt,h70⟩:=hin
   have b0:(m:Int)<len l:=by omega
   have b1:(m:Int)<70:=by omega
   obtain⟨pb,po,rfl,cs⟩:=((HC.out.below HV.out).below HB.out) m hlt
   obtain⟨c,hcc⟩:∃c,lett l m=c:=⟨_,rfl⟩
   have hx:=HLT.out m;have ec:nth l m=((c:Nat):Int):=by rw[<-hcc];unfold lett;omega
   have HCB:Hid (c<=255):=QLh (by omega);have HCE:=QLh hcc
   rw[ec]at cs
   have HM:=QLh hm;have H70:=QLh h70;have HLL:=QLh hlt;have kw:IntKind.u64.wrap ((m:Nat):Int)=((m:Nat):Int):=IntWalk.u64_in _ (by omega)
   obtain⟨X,hX⟩:∃X,IntKind.u64.wrap ((f:Int)+(m:Int))=X:=⟨_,rfl⟩
   have HXE:Hid (((f:Int)+(m:Int)) % 18446744073709551616=X):=QLh (by rw[<-hX,IntKind.wrap_u64]);clear ec hx hcc hm h70 hlt;have HNL:=HN.out
   go_wp2_with fail
   refine(text27_any c _ HCB.out).mono ?_
   rintro e w1 ⟨rfl,hb⟩
   have HB1:=QLh (bnext HB.out hb);have HO1:=QLh (own_below HOWN.out hb);clear hb cs kw
   obtain⟨c1,hc1⟩:∃c1,(c+1) % 256=c1:=⟨_,rfl⟩
   obtain⟨c2,hc2⟩:∃c2,(c+2) % 256=c2:=⟨_,rfl⟩
   have HK1:Hid (((c:Int)+1) % 256=((c1:Nat):Int)/\c1<=255):=QLh ⟨by omega,by omega⟩;have HK2:Hid (((c:Int)+2) % 256=((c2:Nat):Int)/\c2<=255):=QLh ⟨by omega,by omega⟩;have HRW:Hid (rowAt f c m=⟨((f:Int)+(m:Int)) % 18446744073709551616,textS c,textS c1,textS c2⟩):=QLh (by unfold rowAt;rw[hc1,hc2]);clear hc1 hc2
   go_wp2_with fail
   rw[HK1.out.1]
   refine(text27_any c1 _ HK1.out.2).mono ?_
   rintro e w2 ⟨rfl,hb⟩
   have HB2:=QLh (bnext HB1.out hb);have HO2:=QLh (own_below HO1.out hb);clear hb
   go_wp2_with fail
   rw[HK2.out.1]
   refine(text27_any c2 _ HK2.out.2).mono ?_
   rintro e w3 ⟨rfl,hb⟩
   have HB3:=QLh (bnext HB2.out hb);have HO3:=QLh (own_below HO2.out hb);clear hb
   obtain⟨t0,ht0⟩:∃t,textS c=t:=⟨_,rfl⟩
   obtain⟨t1,ht1⟩:∃t,textS c1=t:=⟨_,rfl⟩
   obtain⟨t2,ht2⟩:∃t,textS c2=t:=⟨_,rfl⟩
   rw[HXE.out,ht0,ht1,ht2]at HRW
   rw[ht2]
   simp only[ht0,ht1]
   clear hX ht0 ht1 ht2
   go_wp2_with (at_builtin;refine wpList_append_lies _ rfl _ _ 22 rfl V.heap.size 33 i0 Hdr.zero.val 4 56 Tryz.underlying22 hi HZ0.out hz1 hz2 rfl (by decide) _ m _ rfl (HO3.out.alloc _) ⟨w3.heap.size,0,none⟩ 1 1 (Hdr.cells ⟨X,t0,t1,t2⟩) rfl rfl ?d1 (Hdr.cells_one _) (by decide) ?d4 ?d5 ?d6 _ rfl ?_)
   case d1=>exact World.news_of_block (alloc_new_at _ rfl)
   case d4=>unfold maxLen;have:=H70.out;omega
   case d5=>have:=H70.out;omega
   case d6=>have:=HB3.out.size;simp;omega
   intro g cp w4 hown hgrow hat hgl
   have HB4:=QLh (grownBy_below (balloc HB3.out _) hgrow (λ q hq=>(HO3.out.lt q hq).1));have HO4:Hid (w4.ownsRow V.heap.size 33 4 (.slice (some ⟨g,0,none⟩) (m+1) cp) (m+1) ((rowN f l (m+1)).flatMap Hdr.cells)):=QLh (by
    rw[rowN_snoc,HCE.out,HRW.out,List.flatMap_append]
    simpa using hown)
   clear hown hgrow hat hgl;have h70:=H70.out
   go_wp2
   go_roundg (gk - 1)
   case rel=>exact⟨m+1,by have:=HM.out;omega,by go_num,QLh HLL.out,HB4,HO4⟩
   case measure=>have:=HM.out;omega
  ·have hex:(¬(m:Int)<len l) \/ ((m:Int)<len l/\¬(m:Int)<70):=by omega
   have HMM:Hid (min (len l) 70=m):=QLh (by have:=HML.out;omega)
   obtain⟨L,hL⟩:∃L,rowN f l m=L:=⟨_,rfl⟩
   have HRO:Hid (rowL f l o0 o1=rowO o0 o1 L):=QLh (by unfold rowL;rw[HMM.out,hL]);have hln:len L=m:=by rw[<-hL,rowN_len]
   have HO:=QLh HOWN.out
   rw[hL,<-hln]at HO
   have HBB:=QLh HB.out;have HB0:Hid (wr.heap[ob]?=some (.cells #[.int .u8 (o0:Nat),.int .u8 (o1:Nat)] 70 (0,0))):=QLh ((HB.out.block _ (lt_of_block HOB.out)).trans HOB.out);have c0:wr.cell? ⟨ob,0,none⟩=some (.int .u8 (o0:Nat)):=block_cell HB0.out 0;have c1:wr.cell? ⟨ob,1,none⟩=some (.int .u8 (o1:Nat)):=block_cell HB0.out 1;have kw:IntKind.i64.wrap ((o1:Nat):Int)=((o1:Nat):Int):=by have:=H1.out;exact IntWalk.i64_in _ (by omega)
   have HM70:Hid (len L<=70):=QLh (by omega)
   by_cases ho:o1<len L
   ·have d0:(o1:Int)<len L:=by omega
    rcases ownH_of HO.out with⟨-,hnil⟩ | ⟨g,c,rfl,hoo⟩
    ·rw[hnil]at ho;exact absurd ho (by show ¬o1<0;omega)
    have HOO:=QLh hoo;have HGB:=QLh hoo.lt
    obtain⟨e0,e1,e2,e3,fz⟩:=hoo.at ho
    have HROK:Hid (hnth L o1).Ok:=QLh (by rw[<-hL];exact rowN_ok f l m o1)
    obtain⟨r,hr⟩:∃r,hnth L o1=r:=⟨_,rfl⟩
    rw[hr]at e0 e1 e2 e3 HROK
    have HTZ:Hid (r.txns.size=32):=QLh (by rw[<-hr,<-hL,rowN_at f l (by omega)];exact textS_size _);have HRE:=QLh hr;have HOL:=QLh ho;clear hr hoo hL hm hin hln
    by_cases q1:o0 % 8=1
    ·have k1:(((o0:Nat):Int) % 8 == 1)=true:=by simp;omega
     obtain⟨X,hX⟩:∃X,IntKind.u64.wrap (r.rnd+1)=X:=⟨_,rfl⟩
     have HXE:Hid ((r.rnd+1) % 18446744073709551616=X):=QLh (by rw[<-hX,IntKind.wrap_u64]);have HEQ:Hid (rowL f l o0 o1=L.set o1 { r with rnd:=X }):=QLh (by rw[HRO.out];unfold rowO;rw[if_pos HOL.out,if_pos q1,HRE.out,HXE.out]);clear q1
     rcases hex with h1 | ⟨h1,h2⟩
     all_goals
      go_upto_region 14 with fail
      have HSS:Hid (OwnH V.heap.size g c (L.set o1 { r with rnd:=X }) (wr.setCell ⟨g,o1 * 4,none⟩ (.int .u64 X))):=QLh (HOO.out.set (j:=0) HOL.out (by decide) (by rw[HRE.out];rfl));have HBS:Hid (Below V.heap.size V (wr.setCell ⟨g,o1 * 4,none⟩ (.int .u64 X))):=QLh (bset HBB.out HGB.out.1 _)
      go_wp2
      go_ret
      exact⟨_,rfl,row_fin HSS.out HEQ.out HV.out.size,bnext HV.out HBS.out⟩
    ·have k1:(((o0:Nat):Int) % 8 == 1)=false:=by simp;omega
     by_cases q2:o0 % 8=2
     ·have k2:(((o0:Nat):Int) % 8 == 2)=true:=by simp;omega
      obtain⟨X,hX⟩:∃X,r.txns.extract 1 r.txns.size=X:=⟨_,rfl⟩
      have HEQ:Hid (rowL f l o0 o1=L.set o1 { r with txns:=X }):=QLh (by rw[HRO.out];unfold rowO;rw[if_pos HOL.out,if_neg q1,if_pos q2,HRE.out,hX]);have sz1:¬r.txns.size<1:=by have:=HTZ.out;omega
      have sz2:1<=r.txns.size:=by have:=HTZ.out;omega
      clear q1 q2
      rcases hex with h1 | ⟨h1,h2⟩
      all_goals
       go_upto_region 14 with fail
       have HSS:Hid (OwnH V.heap.size g c (L.set o1 { r with txns:=X }) (wr.setCell ⟨g,o1 * 4+2,none⟩ (.string X))):=QLh (HOO.out.set (j:=2) HOL.out (by decide) (by rw[HRE.out];rfl));have HBS:Hid (Below V.heap.size V (wr.setCell ⟨g,o1 * 4+2,none⟩ (.string X))):=QLh (bset HBB.out HGB.out.1 _)
       go_wp2
       go_ret
       exact⟨_,rfl,row_fin HSS.out HEQ.out HV.out.size,bnext HV.out HBS.out⟩
     ·have k2:(((o0:Nat):Int) % 8 == 2)=false:=by simp;omega
      have HEQ:Hid (rowL f l o0 o1=L):=QLh (by rw[HRO.out];unfold rowO;rw[if_pos HOL.out,if_neg q1,if_neg q2]);clear q1 q2
      rcases hex with h1 | ⟨h1,h2⟩
      all_goals
       go_wp2
       go_ret
       exact⟨_,rfl,own_base (by rw[HEQ.out];exact HO.out) HV.out.size,bnext HV.out HBB.out⟩
   ·have d0:¬(o1:Int)<len L:=by omega
    have HEQ:Hid (rowL f l o0 o1=L):=QLh (by rw[HRO.out];unfold rowO;rw[if_neg ho])
    obtain⟨a9,c9,hv9,_⟩:=Hdrs.own HO.out
    subst hv9
    clear ho hL hm hin hln
    rcases hex with h1 | ⟨h1,h2⟩
    all_goals
     go_wp2
     go_ret
     exact⟨_,rfl,own_base (by rw[HEQ.out];exact HO.out) HV.out.size,bnext HV.out HBB.out⟩
end
def abT:List ByteArray:=[⟨#[97]⟩,⟨#[98]⟩]
theorem abT_txts{w:World}{b:Nat}{t:TypeId}{fr:Nat × Nat}(h:w.heap[b]?=some (.cells #[.string ⟨#[97]⟩,.string ⟨#[98]⟩] t fr)):Txts w (some ⟨b,0,none⟩) abT:=λ i hi=>⟨b,0,rfl,by
 have hi:i<2:=hi
 rw[block_cell h,Nat.zero_add]
 have:i=0 \/ i=1:=by omega
 rcases this with rfl | rfl <;> rfl⟩
theorem abT_size:∀i,i<len abT->(tth abT i).size<=1:=λ i hi=>by
 have hi:i<2:=hi;have:i=0 \/ i=1:=by omega
 rcases this with rfl | rfl <;> decide
theorem one_txts1{w:World}{b:Nat}{t:TypeId}{fr:Nat × Nat}{s:ByteArray}(h:w.heap[b]?=some (.cells #[.string s] t fr)):Txts w (some ⟨b,0,none⟩) [s]:=λ i hi=>⟨b,0,rfl,by
 have hi:i<1:=hi
 obtain rfl:i=0:=by omega
 rw[block_cell h];rfl⟩
theorem oks1{x:Hdr}(hx:x.Ok):∀i,(hnth [x] i).Ok:=hoks (λ p hp=>by
 rw[List.mem_singleton.1 hp];exact hx)
theorem nilB:(⟨#[]⟩:ByteArray).toList=[]:=by kernel_rfl
theorem emptyB(s:ByteArray):s.toList.isEmpty=decide (s.size=0):=by
 have h:=str_beq s ⟨#[]⟩
 rw[nilB]at h
 by_cases e:s.size=0
 ·have:s=⟨#[]⟩:=ByteArray.ext (Array.eq_empty_of_size_eq_zero e)
  rw[this,nilB];rfl
 ·have hn:¬s=⟨#[]⟩:=λ h9=>e (by rw[h9];rfl)
  rw[decide_eq_false hn]at h
  rw[decide_eq_false e]
  cases hs:s.toList with
  | nil=>rw[hs]at h;cases h
  | cons x l=>rfl
def bodyB(s:ByteArray):Bool:=decide (0<s.size) && decide (s.size<=64)
theorem ibody_any(s:ByteArray)(w:World)(hs:s.size<=9223372036854775807):Calls Tryz.prog 120 #[.string s] w λ e w'=>e=.returned (.bool (bodyB s))/\Below w.heap.size w w':=by
 by_cases h0:s.size=0
 ·have te:s.toList.isEmpty=true:=by rw[emptyB,decide_eq_true h0]
  have HE:Hid (bodyB s=false):=QLh (by unfold bodyB;rw[decide_eq_false (by omega)];rfl);clear h0
  go_enter Tryz.func120,Tryz.ntmps120
  go_wp2
  go_ret
  exact⟨by rw[HE.out];rfl,Below.refl _ _⟩
 ·have te:s.toList.isEmpty=false:=by rw[emptyB,decide_eq_false h0]
  by_cases h1:s.size<=64
  ·have i1:((s.size:Nat):Int)<=64:=by omega
   have HE:Hid (bodyB s=true):=QLh (by unfold bodyB;rw[decide_eq_true (by omega:0<s.size),decide_eq_true h1];rfl);clear h0 h1
   go_enter Tryz.func120,Tryz.ntmps120
   go_wp2
   go_ret
   exact⟨by rw[HE.out];rfl,Below.refl _ _⟩
  ·have i1:¬((s.size:Nat):Int)<=64:=by omega
   have HE:Hid (bodyB s=false):=QLh (by unfold bodyB;rw[decide_eq_false h1];simp);clear h0 h1
   go_enter Tryz.func120,Tryz.ntmps120
   go_wp2
   go_ret
   exact⟨by rw[HE.out];rfl,Below.refl _ _⟩
theorem itxn1_any(i:Int)(s:ByteArray)(w:World)(hs:s.size<=9223372036854775807):Calls Tryz.prog 119 #[.int .i64 i,.string s] w λ e w'=>e=.returned (.tuple #[.string s,.bool (bodyB s)])/\Below w.heap.size w w':=by
 go_enter Tryz.func119,Tryz.ntmps119
 go_wp2_with fail
 refine(ibody_any s w hs).mono ?_
 rintro e w1 ⟨rfl,hb⟩
 go_wp2
 go_ret2
 exact⟨rfl,hb⟩
structure BeSt(l:List ByteArray)(w wr:World)(v:Value)(m:Nat):Prop where
 b:Below w.heap.size w wr
 o:wr.ownsRow w.heap.size 9 1 v m ((l.take m).map Value.string)
 y:∀j,j<m->bodyB (tth l j)=true
def RBdIs(l:List ByteArray)(w:World)(e:Ending)(w':World):Prop:=∃v,e=.returned (.tuple #[v,.bool (bdOk l)])/\(bdOk l=true->TextsAre l v w')/\Below w.heap.size w w'
theorem bodyB_at{s:ByteArray}(h:bodyB s=true):0<s.size/\s.size<=64:=by
 unfold bodyB at h
 simpa using h
theorem bodyB_no{s:ByteArray}(h:bodyB s=false):¬(0<s.size/\s.size<=64):=λ h9=>by
 unfold bodyB at h
 rw[decide_eq_true h9.1,decide_eq_true h9.2]at h
 exact absurd h (by decide)
theorem take_snocT(l:List ByteArray)(m:Nat)(h:m<len l):l.take (m+1)=l.take m++[tth l m]:=by
 have h2:m<l.length:=h
 rw[List.take_succ_eq_append_getElem h2,tth_eq l m h2]
theorem take_lenT(l:List ByteArray):l.take (len l)=l:=by rw[len_eq];exact List.take_length
theorem ielS_any(l:List ByteArray)(a:Option Addr)(cap:Nat)(w:World)(hc:Txts w a l)(hn:len l<=100000)(hz:∀i,i<len l->(tth l i).size<=9223372036854775807):
  Calls Tryz.prog 118 #[.slice a (len l) cap,.int .i64 64,.func (.func 119) #[] #[]] w (RBdIs l w):=by
 have HC:=QLh hc;have HN:=QLh hn;have HZZ:=QLh hz;clear hc hn hz
 obtain⟨i0,hi,hz0,hz1,hz2⟩:=info_parts info_str
 have HZ:=QLh hz0;clear hz0
 go_enter Tryz.func118,Tryz.ntmps118
 go_wp2
 go_loopg [15,8] (len l) (λ gg i v wr=>∃m:Nat,gg+m=len l/\i=.int .i64 (m:Nat)/\Hid (BeSt l w wr v m))
 case atStart=>exact⟨0,rfl,rfl,QLh ⟨Below.refl _ _,World.ownsRow_nil _ _ _ _,λ j h=>by omega⟩⟩
 case round=>
  obtain⟨m,hm,rfl,HS⟩:=hrel
  by_cases hlt:m<len l
  ·have b0:(m:Int)<len l:=by omega
   obtain⟨pb,po,rfl,cs⟩:=(HC.out.below HS.out.b) m hlt
   have HSZ:=QLh (HZZ.out m hlt)
   obtain⟨x,hx⟩:∃x,tth l m=x:=⟨_,rfl⟩
   rw[hx]at cs HSZ
   have HX:=QLh hx;have HLT:=QLh hlt;have HM:=QLh hm;clear hx hlt
   go_wp2_with fail
   refine(itxn1_any _ x _ HSZ.out).mono ?_
   rintro e w1 ⟨rfl,hb⟩
   have HB1:Hid (Below w.heap.size w w1):=QLh (bnext HS.out.b hb);have HO1:=QLh (own_below HS.out.o hb);clear hb cs
   cases hbx:bodyB x with
   | true=>
    have HBX:=QLh hbx;clear hbx
    go_wp2_with (at_builtin;refine wpList_append_own _ rfl _ _ 36 rfl w.heap.size 9 i0 (.string ⟨#[]⟩) 1 16 Tryz.underlying36 hi HZ.out hz1 hz2 rfl (by decide) _ _ _ rfl (HO1.out.alloc _) ⟨w1.heap.size,0,none⟩ 1 1 [.string x] rfl rfl ?c1 ?c2 ?c3 ?c4 ?c5 ?_)
    case c1=>exact World.news_of_block (alloc_new_at _ rfl)
    case c2=>intro u hu;simp at hu;subst hu;rfl
    case c3=>unfold maxLen;have:=HN.out;have:=HLT.out;omega
    case c4=>have:=HN.out;have:=HLT.out;omega
    case c5=>have:=HB1.out.size;simp;omega
    intro v' w2 hown' hgrow _
    have HB3:Hid (Below w.heap.size w w2):=QLh (grownBy_below (balloc HB1.out _) hgrow (λ k hk=>(HO1.out.lt k hk).1));have HO3:Hid (w2.ownsRow w.heap.size 9 1 v' (m+1) ((l.take (m+1)).map Value.string)):=QLh (by
     rw[take_snocT l m HLT.out,HX.out,List.map_append,List.map_take];exact hown')
    clear hown' hgrow;have HNN:=HN.out
    go_wp2
    go_roundg (gk - 1)
    case rel=>exact⟨m+1,by have:=HM.out;have:=HLT.out;omega,by have:=HLT.out;go_num,QLh ⟨HB3.out,HO3.out,λ j hj=>by
     by_cases e:j=m
     ·subst e;rw[HX.out];exact HBX.out
     ·exact HS.out.y j (by omega)⟩⟩
    case measure=>have:=HM.out;have:=HLT.out;omega
   | false=>
    have HE:Hid (bdOk l=false):=QLh (bdOk_bad HLT.out (by rw[HX.out];exact bodyB_no hbx));clear hbx
    go_wp2
    go_ret2
    exact⟨.slice none 0 0,by rw[HE.out];rfl,λ h=>absurd h (by rw[HE.out];decide),HB1.out⟩
  ·obtain rfl:m=len l:=by omega
   have b0:¬((len l:Nat):Int)<(len l:Nat):=by omega
   have HSO:=QLh HS.out.o
   rw[take_lenT]at HSO
   have HSB:=QLh HS.out.b;have HY:=QLh (λ i (hi:i<len l)=>bodyB_at (HS.out.y i hi))
   by_cases h0:len l=0
   ·have c1:¬(1:Int)<=len l:=by omega
    have HE:Hid (bdOk l=false):=QLh (bdOk_len (by omega));clear h0
    go_wp2
    go_ret2
    exact⟨_,by rw[HE.out];rfl,λ h=>absurd h (by rw[HE.out];decide),HSB.out⟩
   ·have c1:(1:Int)<=len l:=by omega
    by_cases h64:len l<=64
    ·have c2:(len l:Int)<=64:=by omega
     have HE:Hid (bdOk l=true):=QLh (bdOk_of (by omega) h64 HY.out);clear h0 h64
     go_wp2
     go_ret2
     exact⟨_,by rw[HE.out];rfl,λ h=>TextsAre.own HSO.out,HSB.out⟩
    ·have c2:¬(len l:Int)<=64:=by omega
     have HE:Hid (bdOk l=false):=QLh (bdOk_len (by omega));clear h0 h64
     go_wp2
     go_ret2
     exact⟨_,by rw[HE.out];rfl,λ h=>absurd h (by rw[HE.out];decide),HSB.out⟩
theorem iprove_any(els:List ByteArray)(a:Option Addr)(cap k:Nat)(w:World)(ht:Txts w a els)(hn:len els<=65536)(hz:∀i,i<len els->(tth els i).size<=140737488355200)(hk:k<len els):
  Calls Tryz.prog 105 #[.slice a (len els) cap,.int .i64 (k:Nat)] w λ e w'=>∃v,e=.returned (.tuple #[v,.int .i64 0])/\TextsAre (oneD els k) v w'/\Below w.heap.size w w':=by
 have HT:=QLh ht;have HN:=QLh hn;have HZ:=QLh hz;have HK:=QLh hk;clear ht hn hz hk;have kw:IntKind.u64.wrap ((k:Nat):Int)=((k:Nat):Int):=by have:=HN.out;have:=HK.out;exact IntWalk.u64_in _ (by omega)
 go_enter Tryz.func105,Tryz.ntmps105
 go_wp2_with fail
 refine(build_any els a cap w HT.out HN.out HZ.out).mono ?_
 rintro e w1 ⟨b,rfl,hs,ht,hb⟩
 have HTR:=QLh ht;have HB:=QLh hb;clear hs ht hb
 go_wp2_with fail
 refine(prove_ok els b [((k:Nat):Int)] (some ⟨w1.heap.size,0,none⟩) 1 _ (HTR.out.below (balloc (Below.refl _ _) _)) HN.out (λ i hi=>⟨_,0,rfl,by
  have hi:i<1:=hi
  obtain rfl:i=0:=by omega
  rw[block_cell (heap_alloc_new _ _)];rfl⟩) (by show 1<=12;decide) (one_u64 HN.out HK.out) (one_may HK.out)).mono ?_
 rintro e w2 ⟨v,rfl,ho,hb⟩
 have HB2:Hid (Below w.heap.size w w2):=QLh (bnext (balloc HB.out _) hb);have HV:Hid (TextsAre (oneD els k) v w2):=QLh (TextsAre.own ho);clear hb ho
 go_wp2
 go_ret2
 exact⟨v,rfl,HV.out,HB2.out⟩
section
set_option linter.constructorNameAsVariable false
def eB(l:List Hdr)(i:Nat):Bool:=hOk (hnth l i) && (decide (i=0) || stepH (hnth l (i - 1)) (hnth l i))
def Ih1Is(l:List Hdr)(i:Nat)(w:World)(e:Ending)(w':World):Prop:=∃s,e=.returned (.tuple #[.string s,.bool (eB l i)])/\(eB l i=true->s=hbs (hnth l i))/\Below w.heap.size w w'
theorem ih1_any(B:Nat)(l:List Hdr)(a:Option Addr)(cap xb i:Nat)(w:World)(ht:PT B w)(hc:Hdrs w a l)(ho:∀i,(hnth l i).Ok)(hx:BoxL w xb a (len l) cap)(hi:i<len l)(hn:len l<=100000):
  Calls Tryz.prog 104 #[.int .i64 (i:Nat),(hnth l i).val,.pointer (some ⟨xb,0,none⟩)] w (Ih1Is l i w):=by
 have HT:=QLh ht;have HC:=QLh hc;have HO:=QLh ho;have HX:=QLh hx;have HI:=QLh hi;have HN:=QLh hn;clear ht hc ho hx hi hn
 obtain⟨r,hr⟩:∃r,hnth l i=r:=⟨_,rfl⟩
 have HRE:=QLh hr;have HRO:Hid r.Ok:=QLh (by rw[<-hr];exact HO.out i);have HXX:Hid (xb<w.heap.size):=QLh (lt_of_block HX.out)
 rw[hr]
 clear hr
 cases hok:hOk r with
 | false=>
  have HE:Hid (eB l i=false):=QLh (by unfold eB;rw[HRE.out,hok];rfl);have HW:=QLh (λ w9 h9=>hw_no B r w9 h9 HRO.out hok);clear hok
  go_enter Tryz.func104,Tryz.ntmps104
  go_wp2_with fail
  refine(HW.out _ (HT.out.below (balloc (Below.refl _ _) _))).mono ?_
  rintro e w1 ⟨rfl,hb⟩
  have HB:Hid (Below w.heap.size w w1):=QLh (bnext (balloc (Below.refl _ _) _) hb);clear hb HW
  go_upto_region 2 with fail
  go_quiet (fail)
  go_wp2
  go_ret2
  exact⟨_,by rw[HE.out];rfl,λ h=>absurd h (by rw[HE.out];decide),bdrewN HB.out _⟩
 | true=>
  have HOK:=QLh hok;have HW:=QLh (λ w9 h9=>hw_yes B r w9 h9 HRO.out hok);clear hok
  go_enter Tryz.func104,Tryz.ntmps104
  go_wp2_with fail
  refine(HW.out _ (HT.out.below (balloc (Below.refl _ _) _))).mono ?_
  rintro e w1 ⟨rfl,hb⟩
  have HB:Hid (Below w.heap.size w w1):=QLh (bnext (balloc (Below.refl _ _) _) hb);have HH:Hid (w1.heap[w.heap.size]?=some (.cells #[.int .u64 r.rnd,.string r.prev,.string r.txns,.string r.seed] 33 (0,0))):=QLh ((hb.block _ (by simp)).trans (heap_alloc_new _ _));have HX1:=QLh (HX.out.below HB.out);clear hb HW;have x0:w1.cell? ⟨xb,0,none⟩=some (.slice a (len l) cap):=block_cell HX1.out 0;have h0:w1.cell? ⟨w.heap.size,0,none⟩=some (.int .u64 r.rnd):=block_cell HH.out 0
  by_cases hi0:i=0
  ·subst hi0
   have HE:Hid (eB l 0=true):=QLh (by unfold eB;rw[HRE.out,HOK.out];rfl)
   go_upto_region 2 with fail
   go_quiet (fail)
   go_wp2
   go_ret2
   exact⟨_,by rw[HE.out];rfl,λ _=>by rw[HRE.out],bdrewN HB.out _⟩
  ·obtain⟨k,rfl⟩:∃k,i=k+1:=⟨i - 1,by omega⟩
   obtain⟨b,off,rfl,⟨f0,f1,f2,f3⟩⟩:=(HC.out.below HB.out) k (by have:=HI.out;omega)
   obtain⟨p,hp⟩:∃p,hnth l k=p:=⟨_,rfl⟩
   have HPO:Hid p.Ok:=QLh (by rw[<-hp];exact HO.out k)
   rw[hp]at f0
   have i1:((k:Int)+1 == 0)=false:=by simp;omega
   have i2:IntKind.i64.wrap (k:Int)=(k:Int):=by have:=HN.out;have:=HI.out;exact IntWalk.i64_in _ (by omega)
   have i3:(k:Int)<len l:=by have:=HI.out;omega
   have i4:k<len l:=by have:=HI.out;omega
   have HST:Hid (eB l (k+1)=stepH p r):=QLh (by unfold eB;rw[HRE.out,HOK.out,show k+1 - 1=k from rfl,hp];simp);clear f1 f2 f3 hi0 hp;have hp0:=HPO.out.r0;have hr0:=HRO.out.r0
   by_cases c1:p.rnd<r.rnd
   ·have sb:IntKind.u64.wrap (r.rnd - p.rnd)=r.rnd - p.rnd:=by have:=hp0.1;have:=hr0.2;exact IntWalk.u64_in _ (by omega)
    by_cases c2:r.rnd - p.rnd=1
    ·have HE:Hid (eB l (k+1)=true):=QLh (by rw[HST.out];unfold stepH;rw[decide_eq_true c1,decide_eq_true c2];rfl)
     have e2:(r.rnd - p.rnd == 1)=true:=by simp[c2]
     clear hp0 hr0 c2
     go_upto_region 2 with fail
     go_quiet (fail)
     go_wp2
     go_ret2
     exact⟨_,by rw[HE.out];rfl,λ _=>by rw[HRE.out],bdrewN HB.out _⟩
    ·have HE:Hid (eB l (k+1)=false):=QLh (by rw[HST.out];unfold stepH;rw[decide_eq_false c2];simp)
     have e2:(r.rnd - p.rnd == 1)=false:=by simp[c2]
     clear hp0 hr0 c2
     go_upto_region 2 with fail
     go_quiet (fail)
     go_wp2
     go_ret2
     exact⟨_,by rw[HE.out];rfl,λ h=>absurd h (by rw[HE.out];decide),bdrewN HB.out _⟩
   ·have HE:Hid (eB l (k+1)=false):=QLh (by rw[HST.out];unfold stepH;rw[decide_eq_false c1];rfl)
    have e1:decide (p.rnd<r.rnd)=false:=decide_eq_false c1;clear hp0 hr0 c1
    go_upto_region 2 with fail
    go_quiet (fail)
    go_wp2
    go_ret2
    exact⟨_,by rw[HE.out];rfl,λ h=>absurd h (by rw[HE.out];decide),bdrewN HB.out _⟩
end
section
set_option linter.constructorNameAsVariable false
theorem eB_at{l:List Hdr}{m:Nat}(h:eB l m=true):hOk (hnth l m)=true/\(0<m->stepH (hnth l (m - 1)) (hnth l m)=true):=by
 unfold eB at h
 simp only[Bool.and_eq_true,Bool.or_eq_true,decide_eq_true_eq]at h
 exact⟨h.1,λ h0=>by
  rcases h.2 with h9 | h9
  ·omega
  ·exact h9⟩
theorem eB_no{l:List Hdr}{m:Nat}(hm:m<len l)(h:eB l m=false):elOk l=false:=by
 cases e:elOk l with
 | false=>rfl
 | true=>
  have h1:=elOk_at e;have h2:=laysH_at h1.2.2.2 hm
  unfold eB at h
  rw[h2]at h
  by_cases h0:m=0
  ·rw[decide_eq_true h0]at h;cases h
  ·rw[followH_at h1.2.2.1 hm (by omega)]at h
   simp at h
theorem ielH_any(B:Nat)(l:List Hdr)(a:Option Addr)(cap xb:Nat)(w:World)(ht:PT B w)(hc:Hdrs w a l)(ho:∀i,(hnth l i).Ok)(hx:BoxL w xb a (len l) cap)(hn:len l<=100000):
  Calls Tryz.prog 103 #[.slice a (len l) cap,.int .i64 64,.func (.func 104) #[] #[.pointer (some ⟨xb,0,none⟩)]] w (RElIs l w):=by
 have HT:=QLh ht;have HC:=QLh hc;have HN:=QLh hn;have HX:=QLh hx;have HIH:=QLh (fun (i:Nat) (w9:World) (hi:i<len l) (hb:Below w.heap.size w w9)=>ih1_any B l a cap xb i w9 (ht.below hb) (hc.below hb) ho (hx.below hb) hi hn);clear ht hc hn hx ho
 obtain⟨i0,hi,hz0,hz1,hz2⟩:=info_parts info_str
 have HZ:=QLh hz0;clear hz0
 go_enter Tryz.func103,Tryz.ntmps103
 go_wp2
 go_loopg [15,8] (len l) (λ gg i v wr=>∃m:Nat,gg+m=len l/\i=.int .i64 (m:Nat)/\Hid (ElSt l w wr v m))
 case atStart=>exact⟨0,rfl,rfl,QLh ⟨Below.refl _ _,World.ownsRow_nil _ _ _ _,λ j h=>by omega,λ j _ h=>by omega⟩⟩
 case round=>
  obtain⟨m,hm,rfl,HS⟩:=hrel
  by_cases hlt:m<len l
  ·have b0:(m:Int)<len l:=by omega
   obtain⟨b,off,rfl,⟨e0,e1,e2,e3⟩⟩:=(HC.out.below HS.out.b) m hlt
   have HI1:=QLh (λ w9 hb=>HIH.out m w9 hlt hb)
   unfold Ih1Is at HI1
   have HEA:Hid (eB l m=true->hOk (hnth l m)=true/\(0<m->stepH (hnth l (m - 1)) (hnth l m)=true)):=QLh eB_at;have HEN:Hid (eB l m=false->elOk l=false):=QLh (eB_no hlt)
   obtain⟨r,hr⟩:∃r,hnth l m=r:=⟨_,rfl⟩
   have HRE:=QLh hr
   rw[hr]at e0 e1 e2 e3 HI1
   have HLT:=QLh hlt;have HM:=QLh hm;clear hr hlt hm
   go_upto_region 5 with fail
   obtain⟨V,hV⟩:∃V,wr.alloc (.cells #[.int .u64 r.rnd,.string r.prev,.string r.txns,.string r.seed] 33)=V:=⟨_,rfl⟩
   obtain⟨tb,htb⟩:∃tb,wr.heap.size=tb:=⟨_,rfl⟩
   have HBV:Hid (Below w.heap.size w V):=QLh (by rw[<-hV];exact balloc HS.out.b _);have HOV:Hid (V.ownsRow w.heap.size 9 1 u8 (len (elL (l.take m))) ((elL (l.take m)).map Value.string)):=QLh (by rw[<-hV];exact HS.out.o.alloc _);have HVH:Hid (V.heap[tb]?=some (.cells #[.int .u64 r.rnd,.string r.prev,.string r.txns,.string r.seed] 33 (0,0))):=QLh (by rw[<-hV,<-htb];exact heap_alloc_new _ _)
   rw[hV,htb]
   clear hV htb e0 e1 e2 e3;have d0:V.cell? ⟨tb,0,none⟩=some (.int .u64 r.rnd):=block_cell HVH.out 0;have d1:V.cell? ⟨tb,1,none⟩=some (.string r.prev):=block_cell HVH.out 1;have d2:V.cell? ⟨tb,2,none⟩=some (.string r.txns):=block_cell HVH.out 2;have d3:V.cell? ⟨tb,3,none⟩=some (.string r.seed):=block_cell HVH.out 3
   go_wp2_with fail
   refine(HI1.out V HBV.out).mono ?_
   rintro e w1 ⟨s,rfl,hs,hb⟩
   have HB1:Hid (Below w.heap.size w w1):=QLh (bnext HBV.out hb);have HO1:=QLh (own_below HOV.out hb);clear hb d0 d1 d2 d3
   cases he:eB l m with
   | true=>
    obtain rfl:=hs he
    have HK:=QLh (HEA.out he);clear hs he
    go_wp2_with (at_builtin;refine wpList_append_own _ rfl _ _ 36 rfl w.heap.size 9 i0 (.string ⟨#[]⟩) 1 16 Tryz.underlying36 hi HZ.out hz1 hz2 rfl (by decide) _ _ _ rfl (HO1.out.alloc _) ⟨w1.heap.size,0,none⟩ 1 1 [.string (hbs r)] rfl rfl ?c1 ?c2 ?c3 ?c4 ?c5 ?_)
    case c1=>exact World.news_of_block (alloc_new_at _ rfl)
    case c2=>intro u hu;simp at hu;subst hu;rfl
    case c3=>unfold maxLen;have:=HN.out;have:=HLT.out;have:=lenT l m (by omega);omega
    case c4=>have:=HN.out;have:=HLT.out;have:=lenT l m (by omega);omega
    case c5=>have:=HB1.out.size;simp;omega
    intro v' w2 hown' hgrow _
    have HB3:Hid (Below w.heap.size w w2):=QLh (grownBy_below (balloc HB1.out _) hgrow (λ k hk=>(HO1.out.lt k hk).1));have HO3:Hid (w2.ownsRow w.heap.size 9 1 v' (len (elL (l.take (m+1)))) ((elL (l.take (m+1))).map Value.string)):=QLh (by
     rw[elL_snoc l m HLT.out,HRE.out,List.map_append,len_appT,show len [hbs r]=1 from rfl];exact hown')
    clear hown' hgrow;have HNN:=HN.out;have HLL:=HLT.out
    go_wp2
    go_roundg (gk - 1)
    case rel=>exact⟨m+1,by have:=HM.out;omega,by go_num,QLh ⟨HB3.out,HO3.out,λ j hj=>by
     by_cases e:j=m
     ·subst e;exact HK.out.1
     ·exact HS.out.y j (by omega),λ j h0 hj=>by
     by_cases e:j=m
     ·subst e;exact HK.out.2 h0
     ·exact HS.out.s j h0 (by omega)⟩⟩
    case measure=>have:=HM.out;omega
   | false=>
    have HE:=QLh (HEN.out he);clear hs he
    go_wp2
    go_ret2
    exact⟨.slice none 0 0,by rw[HE.out];rfl,λ h=>absurd h (by rw[HE.out];decide),HB1.out⟩
  ·obtain rfl:m=len l:=by omega
   have b0:¬((len l:Nat):Int)<(len l:Nat):=by omega
   have HTK:Hid (l.take (len l)=l):=QLh (take_len l);have HSO:=QLh HS.out.o
   rw[HTK.out]at HSO
   have HSB:=QLh HS.out.b;have HY1:Hid (laysH l=true):=QLh (laysH_yes (λ i hi=>HS.out.y i hi));have HY2:Hid (followH stepH l=true):=QLh (followH_yes (λ i hi h0=>HS.out.s i h0 hi));have HEO:Hid (elOk l=(decide (0<len l) && decide (len l<=64))):=QLh (by unfold elOk;rw[HY1.out,HY2.out];simp)
   by_cases h0:len l=0
   ·have c1:¬(1:Int)<=len l:=by omega
    have HE:Hid (elOk l=false):=QLh (by rw[HEO.out,decide_eq_false (by omega)];rfl);clear h0
    go_wp2
    go_ret2
    exact⟨_,by rw[HE.out];rfl,λ h=>absurd h (by rw[HE.out];decide),HSB.out⟩
   ·have c1:(1:Int)<=len l:=by omega
    by_cases h64:len l<=64
    ·have c2:(len l:Int)<=64:=by omega
     have HE:Hid (elOk l=true):=QLh (by rw[HEO.out,decide_eq_true (by omega),decide_eq_true h64];rfl);clear h0 h64
     go_wp2
     go_ret2
     exact⟨_,by rw[HE.out];rfl,λ h=>TextsAre.own HSO.out,HSB.out⟩
    ·have c2:¬(len l:Int)<=64:=by omega
     have HE:Hid (elOk l=false):=QLh (by rw[HEO.out,decide_eq_false h64];simp);clear h0 h64
     go_wp2
     go_ret2
     exact⟨_,by rw[HE.out];rfl,λ h=>absurd h (by rw[HE.out];decide),HSB.out⟩
theorem iheader_any(B:Nat)(l:List Hdr)(a:Option Addr)(cap:Nat)(rd:Int)(w:World)(ht:PT B w)(hc:Hdrs w a l)(ho:∀i,(hnth l i).Ok)(hn:len l<=65536):
  Calls Tryz.prog 49 #[.slice a (len l) cap,.int .u64 rd] w (IhIs l rd w):=by
 have HC:=QLh hc;have HN:=QLh hn;have HO:=QLh ho;have HEL:=QLh (ielH_any B l a cap w.heap.size (w.alloc (.cells #[.slice a (len l) cap] 22)) (ht.below (balloc (Below.refl _ _) _)) (hc.below (balloc (Below.refl _ _) _)) ho (heap_alloc_new _ _) (by omega));clear ht hc hn ho
 cases hel:elOk l with
 | false=>
  have HE:=QLh (ih_no (r:=rd) hel)
  go_enter Tryz.func49,Tryz.ntmps49
  go_wp2_with fail
  refine HEL.out.mono ?_
  rintro e w1 ⟨v,rfl,hv,hb⟩
  rw[hel]
  have HB:Hid (Below w.heap.size w w1):=QLh (bnext (balloc (Below.refl _ _) _) hb);clear hv hb hel HEL
  go_wp2
  refine bodyPost_ret (v:=.tuple #[.string ⟨#[]⟩,.slice none 0 0,.int .i64 2]) (by simp[results,Tryz.results49,go_sem]) rfl ⟨_,by rw[HE.out.1,HE.out.2.2],by rw[HE.out.2.1];exact TextsAre.nil _,HB.out⟩
 | true=>
  have HOK:=QLh hel;have HSZ:=QLh (elL_size hel)
  go_enter Tryz.func49,Tryz.ntmps49
  go_wp2_with fail
  refine HEL.out.mono ?_
  rintro e w1 ⟨v,rfl,hv,hb⟩
  obtain⟨a1,c1,rfl,ht1,-,-⟩:=hv hel
  rw[hel]
  have HB:Hid (Below w.heap.size w w1):=QLh (bnext (balloc (Below.refl _ _) _) hb);have HX:Hid (BoxL w1 w.heap.size a (len l) cap):=QLh ((hb.block _ (by simp)).trans (heap_alloc_new _ _));have HT1:=QLh ht1
  rw[elL_len]
  have HPV:=QLh (fun (k:Nat) (w9:World) (h:Txts w9 a1 (elL l)) (hk:k<len l)=>iprove_any (elL l) a1 c1 k w9 h (by rw[elL_len];exact HN.out) (λ i hi=>Nat.le_trans (HSZ.out i hi) (by decide)) (by rw[elL_len];exact hk))
  rw[elL_len]at HPV
  clear hv hb hel ht1 HEL;have x0:w1.cell? ⟨w.heap.size,0,none⟩=some (.slice a (len l) cap):=block_cell HX.out 0
  go_wp2_with fail
  clear x0
  go_loopg [21] (len l) (λ gg i wr=>∃m:Nat,gg+m=len l/\i=.int .i64 (m:Nat)/\Hid (Below w.heap.size w wr)/\Hid (Below w1.heap.size w1 wr)/\Hid (∀j,j<m->(hnth l j).rnd≠rd))
  case atStart=>exact⟨0,rfl,rfl,HB,QLh (Below.refl _ _),QLh (λ j h=>by omega)⟩
  case round=>
   obtain⟨m,hm,rfl,HW,HW1,HI⟩:=hrel
   by_cases hlt:m<len l
   ·have b0:(m:Int)<len l:=by omega
    obtain⟨b,off,rfl,⟨e0,e1,e2,e3⟩⟩:=(HC.out.below HW.out) m hlt
    obtain⟨r,hr⟩:∃r,hnth l m=r:=⟨_,rfl⟩
    have HRE:=QLh hr
    rw[hr]at e0 e1 e2 e3
    have HLT:=QLh hlt;have HM:=QLh hm;clear hr hlt hm;have HNN:=HN.out
    by_cases hrd:r.rnd=rd
    ·have hq:(r.rnd != rd)=false:=by simp[hrd]
     have hq2:(r.rnd == rd)=true:=by simp[hrd]
     have HF:=QLh (ih_some HOK.out (findR_hit HLT.out HI.out (by rw[HRE.out];exact hrd)));clear hrd
     go_wp2_with fail
     refine(HPV.out m _ ((HT1.out.below HW1.out).below (balloc (Below.refl _ _) _)) HLT.out).mono ?_
     rintro e x1 ⟨v,rfl,hv,hb⟩
     have HB1:Hid (Below w.heap.size w x1):=QLh (bnext HW.out (bnext (balloc (Below.refl _ _) _) hb));have HV:=QLh hv
     obtain⟨g,o,rfl,hcc⟩:=((HT1.out.below HW1.out).below (bnext (balloc (Below.refl _ _) _) hb)) m (by rw[elL_len];exact HLT.out)
     rw[elL_at l m HLT.out,HRE.out]at hcc
     have HLL:=HLT.out;clear hb hv e0 e1 e2 e3 hq hq2
     go_wp2
     refine bodyPost_ret (v:=.tuple #[.string (hbs r),v,.int .i64 0]) (by simp[results,Tryz.results49,go_sem]) rfl ⟨v,by rw[HF.out.1,HF.out.2.2,HRE.out],by rw[HF.out.2.1];exact HV.out,HB1.out⟩
    ·have hq:(r.rnd != rd)=true:=by simp[hrd]
     have hq2:(r.rnd == rd)=false:=by simp[hrd]
     have HR:=QLh hrd;clear hrd;have HLL:=HLT.out
     go_wp2
     go_roundg (gk - 1)
     case rel=>exact⟨m+1,by have:=HM.out;omega,by go_num,QLh (balloc HW.out _),QLh (balloc HW1.out _),QLh (λ j hj=>by
      by_cases e:j=m
      ·subst e;rw[HRE.out];exact HR.out
      ·exact HI.out j (by omega))⟩
     case measure=>have:=HM.out;omega
   ·obtain rfl:m=len l:=by omega
    have b0:¬((len l:Nat):Int)<(len l:Nat):=by omega
    have HF:=QLh (ih_none HOK.out (findR_none HI.out))
    go_wp2
    refine bodyPost_ret (v:=.tuple #[.string ⟨#[]⟩,.slice none 0 0,.int .i64 19]) (by simp[results,Tryz.results49,go_sem]) rfl ⟨_,by rw[HF.out.1,HF.out.2.2],by rw[HF.out.2.1];exact TextsAre.nil _,HW.out⟩
end
def Keeps(b:Nat)(w1 w2:World):Prop:=w1.heap.size<=w2.heap.size/\∀i,b<=i->i<w1.heap.size->w2.heap[i]?=w1.heap[i]?
theorem Keeps.of{b:Nat}{w1 w2:World}(h:Below w1.heap.size w1 w2):Keeps b w1 w2:=⟨h.size,λ i _ hi=>h.block i hi⟩
theorem ifirst_any(n rb:Nat)(F:Nat->FuncId)(C:Nat->Array Value)(E:Nat->Int)(I:Nat->World->Prop)(Q:Int->World->Prop)(w:World)
  (hn:n<=100)
  (eg:∀k args w,(callFunc (F k) args).run Tryz.prog w=.ok (.enter (F k) args) w)
  (hI:∀k w1 w2,I k w1->Below w1.heap.size w1 w2->I k w2)
  (hc:∀k,k<n->∀w1,I k w1->w1.cell? ⟨rb,k * 2,none⟩=some (.func (.func (F k)) #[] (C k))/\w1.cell? ⟨rb,k * 2+1,none⟩=some (.int .i64 (E k)))
  (h0:I 0 w)
  (hs:∀k,k<n->∀w1,w.heap.size<=w1.heap.size->I k w1->Calls Tryz.prog (F k) (C k) w1 λ e w2=>∃b,e=.returned (.bool b)/\(b=true->I (k+1) w2)/\(b=false->Q (E k) w2)/\Keeps w.heap.size w1 w2)
  (hq:∀w1,I n w1->Q 0 w1):
  Calls Tryz.prog 109 #[.slice (some ⟨rb,0,none⟩) n n] w λ e w'=>∃x,e=.returned (.int .i64 x)/\Q x w':=by
 have HI:=QLh hI;have HC:=QLh hc;have H0:=QLh h0;have HS:=QLh hs;have HQ:=QLh hq;have HN:=QLh hn;have EG:=QLh eg;clear hI hc h0 hs hq hn eg
 go_enter Tryz.func109,Tryz.ntmps109
 go_wp2
 go_loopg [7] n (λ gg i wr=>∃m:Nat,gg+m=n/\i=.int .i64 (m:Nat)/\Hid (I m wr)/\Hid (w.heap.size<=wr.heap.size))
 case atStart=>exact⟨0,rfl,rfl,H0,QLh (Nat.le_refl _)⟩
 case round=>
  obtain⟨m,hm,rfl,HM,HW⟩:=hrel
  by_cases hlt:m<n
  ·have b0:(m:Int)<n:=by omega
   obtain⟨c0,c1⟩:=HC.out m hlt wr HM.out
   have HLT:=QLh hlt;clear hlt
   go_upto_region 4 with fail
   obtain⟨V,hV⟩:∃V,wr.alloc (.cells #[.func (.func (F m)) #[] (C m),.int .i64 (E m)] 140)=V:=⟨_,rfl⟩
   obtain⟨tb,htb⟩:∃tb,wr.heap.size=tb:=⟨_,rfl⟩
   have HV:Hid (Below wr.heap.size wr V):=QLh (by rw[<-hV];exact balloc (Below.refl _ _) _);have HVC:Hid (V.heap[tb]?=some (.cells #[.func (.func (F m)) #[] (C m),.int .i64 (E m)] 140 (0,0))):=QLh (by rw[<-hV,<-htb];exact heap_alloc_new _ _);have HVI:Hid (I m V):=QLh (HI.out m wr V HM.out HV.out);have HTB:Hid (w.heap.size<=tb):=QLh (by rw[<-htb];exact HW.out);have HVW:Hid (w.heap.size<=V.heap.size):=QLh (Nat.le_trans HW.out HV.out.size)
   rw[hV,htb]
   clear hV htb c0 c1;have egm:=EG.out m;have d0:V.cell? ⟨tb,0,none⟩=some (.func (.func (F m)) #[] (C m)):=block_cell HVC.out 0
   go_wp2_with fail
   refine(HS.out m HLT.out V HVW.out HVI.out).mono ?_
   rintro e w1 ⟨b,rfl,hy,hn,hk⟩
   have HK:=QLh ((hk.2 tb HTB.out (lt_of_block HVC.out)).trans HVC.out);have HK1:Hid (w.heap.size<=w1.heap.size):=QLh (Nat.le_trans HVW.out hk.1);clear hk d0 egm
   cases b with
   | true=>
    have HI1:=QLh (hy rfl);have HNN:=HN.out;clear hy hn
    go_wp2
    go_roundg (gk - 1)
    case rel=>exact⟨m+1,by have:=HLT.out;omega,by have:=HLT.out;go_num,HI1,HK1⟩
    case measure=>have:=HLT.out;omega
   | false=>
    have HQ1:=QLh (hn rfl);clear hy hn;have d1:w1.cell? ⟨tb,1,none⟩=some (.int .i64 (E m)):=block_cell HK.out 1
    go_wp2
    go_ret
    exact⟨_,rfl,HQ1.out⟩
  ·obtain rfl:m=n:=by omega
   have b0:¬((m:Nat):Int)<(m:Nat):=by omega
   go_wp2
   go_ret
   exact⟨0,rfl,HQ.out _ HM.out⟩
theorem iproved_any(root:ByteArray)(i n:Int)(s:ByteArray)(P:List ByteArray)(pa:Option Addr)(pc:Nat)(w:World)(hp:Txts w pa P)(hl:len P<=1000000)(hc:len P<=pc)(hi:U64 i)(hn:0<=n/\n<=100)(hs:s.size<=1000000):
  Calls Tryz.prog 115 #[.string root,.int .u64 i,.int .u64 n,.string s,.slice pa (len P) pc] w λ e w'=>e=.returned (.bool (decide (checkE root n [i] [s] P=0)))/\Below w.heap.size w w':=by
 have HP:Hid (PrIn [i] [s] P (some ⟨w.heap.size,0,none⟩) (some ⟨w.heap.size+1,0,none⟩) pa pc ((w.alloc (.cells #[.int .u64 i] 23)).alloc (.cells #[.string s] 9))):=QLh
  { p:=λ j hj=>⟨_,0,rfl,by
     have hj:j<1:=hj
     obtain rfl:j=0:=by omega
     rw[block_cell (block_alloc (heap_alloc_new _ _) _)];rfl⟩
    e:=one_txts1 (alloc_new_at _ (by simp))
    d:=hp.below (balloc (balloc (Below.refl _ _) _) _)
    pl:=by show 1<=12;decide
    pu:=λ k hk=>by obtain rfl:=List.mem_singleton.1 hk;exact hi
    el:=by show 1<=1000000;decide
    dl:=hl
    dc_:=hc
    ez:=λ j hj=>by
     have hj:j<1:=hj
     obtain rfl:j=0:=by omega
     exact hs }
 have HN:=QLh hn;have kw:IntKind.i64.wrap n=n:=IntWalk.i64_in _ (by omega);clear hp hl hc hi hn hs
 go_enter Tryz.func115,Tryz.ntmps115
 go_wp2_with fail
 refine(pcheck_any root n [i] [s] P (some ⟨w.heap.size,0,none⟩) (some ⟨w.heap.size+1,0,none⟩) pa 1 1 pc _ HP.out (by have:=HN.out;omega) (by have:=HN.out;omega)).mono ?_
 rintro e w1 ⟨rfl,hb⟩
 have HB:Hid (Below w.heap.size w w1):=QLh (bnext (balloc (balloc (Below.refl _ _) _) _) hb);clear hb HP
 obtain⟨K,hK⟩:∃K,checkE root n [i] [s] P=K:=⟨_,rfl⟩
 have HKK:Hid (decide (checkE root n [i] [s] P=0)=(K == 0)):=QLh (by rw[hK];rfl)
 rw[hK]
 clear hK
 go_wp2
 go_ret
 exact⟨by rw[HKK.out];rfl,HB.out⟩
structure TiB(root:ByteArray)(i n:Int)(s:ByteArray)(pa:Option Addr)(pl pc b0 b2 b3 bi bn:Nat)(w:World):Prop where
 r_:w.heap[b0]?=some (.cells #[.string root] 9 (0,0))
 s_:w.heap[b2]?=some (.cells #[.string s] 9 (0,0))
 p_:w.heap[b3]?=some (.cells #[.slice pa pl pc] 36 (0,0))
 i_:w.heap[bi]?=some (.cells #[.int .u64 i] 23 (0,0))
 n_:w.heap[bn]?=some (.cells #[.int .u64 n] 23 (0,0))
theorem TiB.below{root:ByteArray}{i n:Int}{s:ByteArray}{pa:Option Addr}{pl pc b0 b2 b3 bi bn:Nat}{w w':World}(h:TiB root i n s pa pl pc b0 b2 b3 bi bn w)(hb:Below w.heap.size w w'):TiB root i n s pa pl pc b0 b2 b3 bi bn w':=
 ⟨(hb.block _ (lt_of_block h.r_)).trans h.r_,(hb.block _ (lt_of_block h.s_)).trans h.s_,(hb.block _ (lt_of_block h.p_)).trans h.p_,(hb.block _ (lt_of_block h.i_)).trans h.i_,(hb.block _ (lt_of_block h.n_)).trans h.n_⟩
theorem tis1_any(root:ByteArray)(i n:Int)(s:ByteArray)(pa:Option Addr)(pl pc b0 b2 b3 bi bn:Nat)(w:World)(h:TiB root i n s pa pl pc b0 b2 b3 bi bn w)(hs:s.size<=9223372036854775807):
  Calls Tryz.prog 122 #[.pointer (some ⟨b0,0,none⟩),.pointer (some ⟨bn,0,none⟩),.pointer (some ⟨bi,0,none⟩),.pointer (some ⟨b2,0,none⟩)] w λ e w'=>e=.returned (.bool (tiA root i n s))/\Below w.heap.size w w':=by
 have c0:w.cell? ⟨b0,0,none⟩=some (.string root):=block_cell h.r_ 0;have c1:w.cell? ⟨bn,0,none⟩=some (.int .u64 n):=block_cell h.n_ 0;have c2:w.cell? ⟨bi,0,none⟩=some (.int .u64 i):=block_cell h.i_ 0;have c3:w.cell? ⟨b2,0,none⟩=some (.string s):=block_cell h.s_ 0;have HS:=QLh hs;clear h hs
 by_cases h1:root.size=32
 ·have e1:((root.size:Nat):Int)=32:=by omega
  by_cases h2:1<=n
  ·by_cases h3:n<=64
   ·by_cases h4:i<n
    ·have HE:Hid (tiA root i n s=bodyB s):=QLh (by unfold tiA bodyB;rw[decide_eq_true h1,decide_eq_true h2,decide_eq_true h3,decide_eq_true h4];simp)
     clear h1
     go_enter Tryz.func122,Tryz.ntmps122
     go_wp2_with fail
     refine(ibody_any s _ HS.out).mono ?_
     rintro e w1 ⟨rfl,hb⟩
     go_wp2
     go_ret
     exact⟨by rw[HE.out];rfl,hb⟩
    ·have HE:Hid (tiA root i n s=false):=QLh (by unfold tiA;rw[decide_eq_false h4];simp)
     clear h1
     go_enter Tryz.func122,Tryz.ntmps122
     go_wp2
     go_ret
     exact⟨by rw[HE.out];rfl,Below.refl _ _⟩
   ·have HE:Hid (tiA root i n s=false):=QLh (by unfold tiA;rw[decide_eq_false h3];simp)
    clear h1
    go_enter Tryz.func122,Tryz.ntmps122
    go_wp2
    go_ret
    exact⟨by rw[HE.out];rfl,Below.refl _ _⟩
  ·have HE:Hid (tiA root i n s=false):=QLh (by unfold tiA;rw[decide_eq_false h2];simp)
   clear h1
   go_enter Tryz.func122,Tryz.ntmps122
   go_wp2
   go_ret
   exact⟨by rw[HE.out];rfl,Below.refl _ _⟩
 ·have e1:¬((root.size:Nat):Int)=32:=by omega
  have HE:Hid (tiA root i n s=false):=QLh (by unfold tiA;rw[decide_eq_false h1];rfl);clear h1
  go_enter Tryz.func122,Tryz.ntmps122
  go_wp2
  go_ret
  exact⟨by rw[HE.out];rfl,Below.refl _ _⟩
theorem tis2_any(root:ByteArray)(i n:Int)(s:ByteArray)(P:List ByteArray)(pa:Option Addr)(pc b0 b2 b3 bi bn:Nat)(w:World)(h:TiB root i n s pa (len P) pc b0 b2 b3 bi bn w)(hp:Txts w pa P)(hl:len P<=1000000)(hc:len P<=pc)(hi:U64 i)(hn:0<=n/\n<=100)(hs:s.size<=1000000):
  Calls Tryz.prog 123 #[.pointer (some ⟨b0,0,none⟩),.pointer (some ⟨bi,0,none⟩),.pointer (some ⟨bn,0,none⟩),.pointer (some ⟨b2,0,none⟩),.pointer (some ⟨b3,0,none⟩)] w λ e w'=>e=.returned (.bool (decide (checkE root n [i] [s] P=0)))/\Below w.heap.size w w':=by
 have c0:w.cell? ⟨b0,0,none⟩=some (.string root):=block_cell h.r_ 0;have c1:w.cell? ⟨bn,0,none⟩=some (.int .u64 n):=block_cell h.n_ 0;have c2:w.cell? ⟨bi,0,none⟩=some (.int .u64 i):=block_cell h.i_ 0;have c3:w.cell? ⟨b2,0,none⟩=some (.string s):=block_cell h.s_ 0;have c4:w.cell? ⟨b3,0,none⟩=some (.slice pa (len P) pc):=block_cell h.p_ 0;have HR:=QLh (iproved_any root i n s P pa pc w hp hl hc hi hn hs);clear h hp hl hc hi hn hs
 go_enter Tryz.func123,Tryz.ntmps123
 go_wp2_with fail
 refine HR.out.mono ?_
 rintro e w1 ⟨rfl,hb⟩
 have HB:=QLh hb
 obtain⟨K,hK⟩:∃K,decide (checkE root n [i] [s] P=0)=K:=⟨_,rfl⟩
 have HKK:=QLh hK
 rw[hK]
 clear hK hb HR
 go_wp2
 go_ret
 exact⟨by rw[HKK.out];rfl,HB.out⟩
def tisF(k:Nat):FuncId:=match k with | 0=>122 | _=>123
def tisC(b0 b2 b3 bi bn k:Nat):Array Value:=match k with | 0=>#[.pointer (some ⟨b0,0,none⟩),.pointer (some ⟨bn,0,none⟩),.pointer (some ⟨bi,0,none⟩),.pointer (some ⟨b2,0,none⟩)] | _=>#[.pointer (some ⟨b0,0,none⟩),.pointer (some ⟨bi,0,none⟩),.pointer (some ⟨bn,0,none⟩),.pointer (some ⟨b2,0,none⟩),.pointer (some ⟨b3,0,none⟩)]
def tisE(k:Nat):Int:=match k with | 0=>2 | _=>20
theorem tis_rules(root:ByteArray)(i n:Int)(s:ByteArray)(P:List ByteArray)(pa:Option Addr)(pc b0 b2 b3 bi bn rb:Nat)(w:World)(h:TiB root i n s pa (len P) pc b0 b2 b3 bi bn w)(hp:Txts w pa P)(hl:len P<=1000000)(hc:len P<=pc)(hi:U64 i)(hs:s.size<=1000000)
  (hr:w.heap[rb]?=some (.cells #[.func (.func 122) #[] (tisC b0 b2 b3 bi bn 0),.int .i64 2,.func (.func 123) #[] (tisC b0 b2 b3 bi bn 1),.int .i64 20] 140 (0,0))):
  Calls Tryz.prog 109 #[.slice (some ⟨rb,0,none⟩) 2 2] w λ e w'=>e=.returned (.int .i64 (tiE root i n s P))/\Below w.heap.size w w':=by
 refine(ifirst_any 2 rb tisF (tisC b0 b2 b3 bi bn) tisE (λ k w1=>Below w.heap.size w w1/\(1<=k->tiA root i n s=true)/\(2<=k->checkE root n [i] [s] P=0)) (λ x w1=>x=tiE root i n s P/\Below w.heap.size w w1) w (by decide) (λ k args w=>?_) (λ k w1 w2 h hb=>⟨bnext h.1 hb,h.2⟩) (λ k hk w1 hI=>?_) ⟨Below.refl _ _,λ h=>absurd h (by decide),λ h=>absurd h (by decide)⟩ (λ k hk w1 hw hI=>?_) (λ w1 hI=>?_)).mono ?_
 ·unfold tisF;split <;> simp[go_sem]
 ·have hr1:=(hI.1.block _ (lt_of_block hr)).trans hr
  match k,hk with
  | 0,_=>exact⟨block_cell hr1 0,block_cell hr1 1⟩
  | 1,_=>exact⟨block_cell hr1 2,block_cell hr1 3⟩
 ·match k,hk with
  | 0,_=>
   refine(tis1_any root i n s pa (len P) pc b0 b2 b3 bi bn w1 (h.below hI.1) (Nat.le_trans hs (by decide))).mono ?_
   rintro e w2 ⟨rfl,hb⟩
   refine⟨_,rfl,λ ht=>⟨bnext hI.1 hb,λ _=>ht,λ h=>absurd h (by decide)⟩,λ hf=>⟨?_,bnext hI.1 hb⟩,Keeps.of hb⟩
   unfold tiE;rw[hf];rfl
  | 1,_=>
   have hA:=hI.2.1 (by decide);have hn:0<=n/\n<=100:=by
    have:=hA
    unfold tiA at this
    simp only[Bool.and_eq_true,decide_eq_true_eq]at this
    omega
   refine(tis2_any root i n s P pa pc b0 b2 b3 bi bn w1 (h.below hI.1) (hp.below hI.1) hl hc hi hn hs).mono ?_
   rintro e w2 ⟨rfl,hb⟩
   refine⟨_,rfl,λ ht=>⟨bnext hI.1 hb,λ _=>hA,λ _=>of_decide_eq_true ht⟩,λ hf=>⟨?_,bnext hI.1 hb⟩,Keeps.of hb⟩
   unfold tiE;rw[if_pos hA,if_neg (of_decide_eq_false hf)];rfl
 ·refine⟨?_,hI.1⟩
  unfold tiE;rw[if_pos (hI.2.1 (by decide)),if_pos (hI.2.2 (by decide))]
 ·rintro e w' ⟨x,rfl,rfl,hb⟩
  exact⟨rfl,hb⟩
theorem itis_any(root:ByteArray)(i n:Int)(s:ByteArray)(P:List ByteArray)(pa:Option Addr)(pc:Nat)(w:World)(hp:Txts w pa P)(hl:len P<=1000000)(hc:len P<=pc)(hi:U64 i)(hn:U64 n)(hs:s.size<=1000000):
  Calls Tryz.prog 62 #[.string root,.agg #[.int .u64 i,.int .u64 n],.string s,.slice pa (len P) pc] w λ e w'=>e=.returned (.int .i64 (tiE root i n s P))/\Below w.heap.size w w':=by
 have HP:=QLh hp;have HL:=QLh hl;have HC:=QLh hc;have HI:=QLh hi;have HN:=QLh hn;have HS:=QLh hs;clear hp hl hc hi hn hs
 go_enter Tryz.func62,Tryz.ntmps62
 go_upto_region 1 with fail
 obtain⟨V,hV⟩:∃V,(((w.alloc (.cells #[.string root] 9)).alloc (.cells #[.int .u64 i,.int .u64 n] 76)).alloc (.cells #[.string s] 9)).alloc (.cells #[.slice pa (len P) pc] 36)=V:=⟨_,rfl⟩
 have HBV:Hid (Below w.heap.size w V):=QLh (by rw[<-hV];(repeat (first | exact Below.refl _ _ | assumption | (refine bdrew ?_) | (refine bdrewN ?_ _) | (refine balloc ?_ _) | (refine bset ?_ (by first | omega | (simp;done) | (simp;omega)) _) | (refine bnext ?_ (by assumption)))))
 have V0:Hid (V.heap[w.heap.size]?=some (.cells #[.string root] 9 (0,0))):=QLh (by rw[<-hV];(repeat (first | exact alloc_new_at _ (by repeat (first | rfl | refine alloc_size _ ?_)) | refine block_alloc ?_ _)))
 have V1:Hid (V.heap[w.heap.size+1]?=some (.cells #[.int .u64 i,.int .u64 n] 76 (0,0))):=QLh (by rw[<-hV];(repeat (first | exact alloc_new_at _ (by repeat (first | rfl | refine alloc_size _ ?_)) | refine block_alloc ?_ _)))
 have V2:Hid (V.heap[w.heap.size+1+1]?=some (.cells #[.string s] 9 (0,0))):=QLh (by rw[<-hV];(repeat (first | exact alloc_new_at _ (by repeat (first | rfl | refine alloc_size _ ?_)) | refine block_alloc ?_ _)))
 have V3:Hid (V.heap[w.heap.size+1+1+1]?=some (.cells #[.slice pa (len P) pc] 36 (0,0))):=QLh (by rw[<-hV];(repeat (first | exact alloc_new_at _ (by repeat (first | rfl | refine alloc_size _ ?_)) | refine block_alloc ?_ _)))
 have HSZ:Hid (V.heap.size=w.heap.size+4):=QLh (by rw[<-hV];simp)
 rw[hV]
 obtain⟨b,hb⟩:∃b,w.heap.size=b:=⟨_,rfl⟩
 rw[hb]at V0 V1 V2 V3 HSZ ⊢
 clear hV hb
 obtain⟨b1,hb1⟩:∃b1,b+1=b1:=⟨_,rfl⟩
 have z0:b1<V.heap.size:=by have:=HSZ.out;omega
 have z1:b1≠V.heap.size:=by have:=HSZ.out;omega
 have z2:b1≠V.heap.size+1:=by have:=HSZ.out;omega
 rw[hb1]at V1 V2 V3 ⊢
 clear hb1;have y0:V.cell? ⟨b1,0,none⟩=some (.int .u64 i):=block_cell V1.out 0;have y1:V.cell? ⟨b1,1,none⟩=some (.int .u64 n):=block_cell V1.out 1
 go_cut [9,10] (λ s9 s10 wx=>∃bi bn:Nat,s9=.pointer (some ⟨bi,0,none⟩)/\s10=.pointer (some ⟨bn,0,none⟩)/\Hid (wx.heap[bi]?=some (.cells #[.int .u64 i] 23 (0,0)))/\Hid (wx.heap[bn]?=some (.cells #[.int .u64 n] 23 (0,0)))/\Hid (Below V.heap.size V wx))
 case first=>
  go_region
  all_goals
   go_wp2_with fail
   go_meet
   first
    | exact⟨_,_,rfl,rfl,QLh (block_alloc (heap_alloc_new _ _) _),QLh (alloc_new_at _ (by simp)),QLh (bdrew (balloc (balloc (Below.refl _ _) _) _))⟩
    | exact⟨_,_,rfl,rfl,QLh (alloc_new_at _ (by simp)),QLh (block_alloc (heap_alloc_new _ _) _),QLh (bdrew (balloc (balloc (Below.refl _ _) _) _))⟩
 case rest=>
  obtain⟨bi,bn,rfl,rfl,HX,HY,HCB⟩:=hcut
  have K0:=QLh ((HCB.out.block _ (lt_of_block V0.out)).trans V0.out);have K2:=QLh ((HCB.out.block _ (lt_of_block V2.out)).trans V2.out);have K3:=QLh ((HCB.out.block _ (lt_of_block V3.out)).trans V3.out);have HWB:Hid (Below w.heap.size w wc):=QLh (bnext HBV.out HCB.out);have HTB:Hid (TiB root i n s pa (len P) pc b (b1+1) (b1+1+1) bi bn wc):=QLh ⟨K0.out,K2.out,K3.out,HX.out,HY.out⟩;clear y0 y1 z0 z1 z2
  go_wp2_with fail
  refine(tis_rules root i n s P pa pc b (b1+1) (b1+1+1) bi bn _ _ (HTB.out.below (balloc (Below.refl _ _) _)) ((HP.out.below HWB.out).below (balloc (Below.refl _ _) _)) HL.out HC.out HI.out HS.out (heap_alloc_new _ _)).mono ?_
  rintro e w2 ⟨rfl,hb⟩
  have HB2:Hid (Below w.heap.size w w2):=QLh (bnext HWB.out (bnext (balloc (Below.refl _ _) _) hb));clear hb
  go_wp2
  go_ret
  exact⟨rfl,HB2.out⟩
structure IsB(root:ByteArray)(f t:Int)(s:ByteArray)(pa:Option Addr)(pl pc b0 b2 b3 bf bt bh:Nat)(x:Rcd)(w:World):Prop where
 r_:w.heap[b0]?=some (.cells #[.string root] 9 (0,0))
 s_:w.heap[b2]?=some (.cells #[.string s] 9 (0,0))
 p_:w.heap[b3]?=some (.cells #[.slice pa pl pc] 36 (0,0))
 f_:w.heap[bf]?=some (.cells #[.int .u64 f] 23 (0,0))
 t_:w.heap[bt]?=some (.cells #[.int .u64 t] 23 (0,0))
 h_:w.heap[bh]?=some (.cells #[.int .u64 (x 0).n,.string (x 1).s,.string (x 2).s,.string (x 3).s] 33 (0,0))
theorem IsB.below{root:ByteArray}{f t:Int}{s:ByteArray}{pa:Option Addr}{pl pc b0 b2 b3 bf bt bh:Nat}{x:Rcd}{w w':World}(h:IsB root f t s pa pl pc b0 b2 b3 bf bt bh x w)(hb:Below w.heap.size w w'):IsB root f t s pa pl pc b0 b2 b3 bf bt bh x w':=
 ⟨(hb.block _ (lt_of_block h.r_)).trans h.r_,(hb.block _ (lt_of_block h.s_)).trans h.s_,(hb.block _ (lt_of_block h.p_)).trans h.p_,(hb.block _ (lt_of_block h.f_)).trans h.f_,(hb.block _ (lt_of_block h.t_)).trans h.t_,(hb.block _ (lt_of_block h.h_)).trans h.h_⟩
theorem his1_any(root:ByteArray)(f t:Int)(s:ByteArray)(pa:Option Addr)(pl pc b0 b2 b3 bf bt bh:Nat)(x:Rcd)(w:World)(h:IsB root f t s pa pl pc b0 b2 b3 bf bt bh x w)(hf:U64 f)(ht:U64 t):
  Calls Tryz.prog 110 #[.pointer (some ⟨b0,0,none⟩),.pointer (some ⟨bt,0,none⟩),.pointer (some ⟨bf,0,none⟩)] w λ e w'=>e=.returned (.bool (isA root f t))/\Below w.heap.size w w':=by
 have c0:w.cell? ⟨b0,0,none⟩=some (.string root):=block_cell h.r_ 0;have c1:w.cell? ⟨bt,0,none⟩=some (.int .u64 t):=block_cell h.t_ 0;have c2:w.cell? ⟨bf,0,none⟩=some (.int .u64 f):=block_cell h.f_ 0;clear h
 by_cases h1:root.size=32
 ·have e1:((root.size:Nat):Int)=32:=by omega
  by_cases h2:f<=t
  ·have sb:IntKind.u64.wrap (t - f)=t - f:=by have:=hf.1;have:=ht.2;exact IntWalk.u64_in _ (by omega)
   by_cases h3:t - f<64
   ·have HE:Hid (isA root f t=true):=QLh (by unfold isA;rw[decide_eq_true h1,decide_eq_true h2,decide_eq_true h3];rfl)
    clear h1 hf ht
    go_enter Tryz.func110,Tryz.ntmps110
    go_wp2
    go_ret
    exact⟨by rw[HE.out];rfl,Below.refl _ _⟩
   ·have HE:Hid (isA root f t=false):=QLh (by unfold isA;rw[decide_eq_false h3];simp)
    clear h1 hf ht
    go_enter Tryz.func110,Tryz.ntmps110
    go_wp2
    go_ret
    exact⟨by rw[HE.out];rfl,Below.refl _ _⟩
  ·have HE:Hid (isA root f t=false):=QLh (by unfold isA;rw[decide_eq_false h2];simp)
   clear h1 hf ht
   go_enter Tryz.func110,Tryz.ntmps110
   go_wp2
   go_ret
   exact⟨by rw[HE.out];rfl,Below.refl _ _⟩
 ·have e1:¬((root.size:Nat):Int)=32:=by omega
  have HE:Hid (isA root f t=false):=QLh (by unfold isA;rw[decide_eq_false h1];rfl);clear h1 hf ht
  go_enter Tryz.func110,Tryz.ntmps110
  go_wp2
  go_ret
  exact⟨by rw[HE.out];rfl,Below.refl _ _⟩
theorem his3_any(root:ByteArray)(f t:Int)(s:ByteArray)(pa:Option Addr)(pl pc b0 b2 b3 bf bt bh:Nat)(x:Rcd)(w:World)(h:IsB root f t s pa pl pc b0 b2 b3 bf bt bh x w):
  Calls Tryz.prog 113 #[.pointer (some ⟨bh,0,none⟩),.pointer (some ⟨bf,0,none⟩),.pointer (some ⟨bt,0,none⟩)] w λ e w'=>e=.returned (.bool (decide (f<=(x 0).n) && decide ((x 0).n<=t)))/\Below w.heap.size w w':=by
 have c0:w.cell? ⟨bh,0,none⟩=some (.int .u64 (x 0).n):=block_cell h.h_ 0;have c1:w.cell? ⟨bt,0,none⟩=some (.int .u64 t):=block_cell h.t_ 0;have c2:w.cell? ⟨bf,0,none⟩=some (.int .u64 f):=block_cell h.f_ 0;clear h
 generalize (x 0).n=r at c0
 by_cases h1:f<=r
 ·by_cases h2:r<=t
  ·have HE:Hid ((decide (f<=r) && decide (r<=t))=true):=QLh (by rw[decide_eq_true h1,decide_eq_true h2];rfl)
   go_enter Tryz.func113,Tryz.ntmps113
   go_wp2
   go_ret
   exact⟨by rw[HE.out];rfl,Below.refl _ _⟩
  ·have HE:Hid (decide (r<=t)=false):=QLh (decide_eq_false h2)
   rw[decide_eq_true h1]
   go_enter Tryz.func113,Tryz.ntmps113
   go_wp2
   go_ret
   exact⟨by simp[HE.out],Below.refl _ _⟩
 ·rw[decide_eq_false h1]
  go_enter Tryz.func113,Tryz.ntmps113
  go_wp2
  go_ret
  exact⟨by simp,Below.refl _ _⟩
theorem his4_any(root:ByteArray)(f t:Int)(s:ByteArray)(P:List ByteArray)(pa:Option Addr)(pc b0 b2 b3 bf bt bh:Nat)(x:Rcd)(w:World)(h:IsB root f t s pa (len P) pc b0 b2 b3 bf bt bh x w)(hp:Txts w pa P)(hl:len P<=1000000)(hc:len P<=pc)(hf:U64 f)(ht:U64 t)(hft:f<=t/\t - f<64)(hr:f<=(x 0).n/\(x 0).n<=t)(hs:s.size<=1000000):
  Calls Tryz.prog 114 #[.pointer (some ⟨b0,0,none⟩),.pointer (some ⟨bh,0,none⟩),.pointer (some ⟨bf,0,none⟩),.pointer (some ⟨bt,0,none⟩),.pointer (some ⟨b2,0,none⟩),.pointer (some ⟨b3,0,none⟩)] w λ e w'=>e=.returned (.bool (decide (checkE root (t - f+1) [(x 0).n - f] [s] P=0)))/\Below w.heap.size w w':=by
 have c0:w.cell? ⟨b0,0,none⟩=some (.string root):=block_cell h.r_ 0;have c1:w.cell? ⟨bh,0,none⟩=some (.int .u64 (x 0).n):=block_cell h.h_ 0;have c2:w.cell? ⟨bf,0,none⟩=some (.int .u64 f):=block_cell h.f_ 0;have c3:w.cell? ⟨bt,0,none⟩=some (.int .u64 t):=block_cell h.t_ 0;have c4:w.cell? ⟨b2,0,none⟩=some (.string s):=block_cell h.s_ 0;have c5:w.cell? ⟨b3,0,none⟩=some (.slice pa (len P) pc):=block_cell h.p_ 0;have HR:=QLh (iproved_any root ((x 0).n - f) (t - f+1) s P pa pc w hp hl hc ⟨by omega,by omega⟩ ⟨by omega,by omega⟩ hs);have s1:IntKind.u64.wrap ((x 0).n - f)=(x 0).n - f:=by have:=hf.1;have:=ht.2;exact IntWalk.u64_in _ (by omega)
 have s2:IntKind.u64.wrap (t - f)=t - f:=by have:=hf.1;have:=ht.2;exact IntWalk.u64_in _ (by omega)
 have s3:IntKind.u64.wrap (t - f+1)=t - f+1:=IntWalk.u64_in _ (by omega);clear h hp hl hc hf ht hft hr hs
 go_enter Tryz.func114,Tryz.ntmps114
 go_wp2_with fail
 refine HR.out.mono ?_
 rintro e w1 ⟨rfl,hb⟩
 have HB:=QLh hb
 obtain⟨K,hK⟩:∃K,decide (checkE root (t - f+1) [(x 0).n - f] [s] P=0)=K:=⟨_,rfl⟩
 have HKK:=QLh hK
 rw[hK]
 clear hK hb HR
 go_wp2
 go_ret
 exact⟨by rw[HKK.out];rfl,HB.out⟩
abbrev setH(w:World)(g:Nat)(y:Rcd):World:=
 (((w.setCell ⟨g,0,none⟩ (.int .u64 (y 0).n)).setCell ⟨g,1,none⟩ (.string (y 1).s)).setCell ⟨g,2,none⟩ (.string (y 2).s)).setCell ⟨g,3,none⟩ (.string (y 3).s)
theorem setH_ext(w:World)(g:Nat)(y:Rcd):ExtB (some g) w (setH w g y):=
 ExtB_trans _ _ _ _ (ExtB_trans _ _ _ _ (ExtB_trans _ _ _ _ (setB w g 0 _) (setB _ g 1 _)) (setB _ g 2 _)) (setB _ g 3 _)
theorem IsB.put{root:ByteArray}{f t:Int}{s:ByteArray}{pa:Option Addr}{pl pc b0 b2 b3 bf bt bh:Nat}{x:Rcd}{w:World}(h:IsB root f t s pa pl pc b0 b2 b3 bf bt bh x w)
  (n:b0≠bh/\b2≠bh/\b3≠bh/\bf≠bh/\bt≠bh) (y:Rcd):IsB root f t s pa pl pc b0 b2 b3 bf bt bh y (setH w bh y):=by
 have k:∀{b:Nat} {o:Obj},b≠bh->w.heap[b]?=some o->(setH w bh y).heap[b]?=some o:=λ hb hc=>extB_block (setH_ext w bh y) (λ e=>hb (Option.some.inj e)) hc
 exact⟨k n.1 h.r_,k n.2.1 h.s_,k n.2.2.1 h.p_,k n.2.2.2.1 h.f_,k n.2.2.2.2 h.t_,block_setCell (block_setCell (block_setCell (block_setCell h.h_ _) _) _) _⟩
def His2(B:Nat)(root:ByteArray)(f t:Int)(s:ByteArray)(pa:Option Addr)(pl pc b0 b2 b3 bf bt bh:Nat)(w:World)(e:Ending)(w':World):Prop:=
 e=.returned (.bool (isOkR (readR s (headerGs s) header0)))/\IsB root f t s pa pl pc b0 b2 b3 bf bt bh (recV (readR s (headerGs s) header0) header0) w'/\ExtB (some bh) w w'
theorem his2_any(B:Nat)(root:ByteArray)(f t:Int)(s:ByteArray)(pa:Option Addr)(pl pc b0 b2 b3 bf bt bh:Nat)(x:Rcd)(w:World)(hT:TE7 B w)(h:IsB root f t s pa pl pc b0 b2 b3 bf bt bh x w)(hs:s.size<=1000000)
  (n0:b0≠bh) (n2:b2≠bh) (n3:b3≠bh) (nf:bf≠bh) (nt:bt≠bh):
  Calls Tryz.prog 111 #[.pointer (some ⟨b2,0,none⟩),.pointer (some ⟨bh,0,none⟩)] w (His2 B root f t s pa pl pc b0 b2 b3 bf bt bh w):=by
 have c0:w.cell? ⟨b2,0,none⟩=some (.string s):=block_cell h.s_ 0;have HR:=QLh (rqHeader_any B s w hT (Nat.le_trans hs (by decide)));have H:=QLh h;have HNE:=QLh (And.intro n0 (And.intro n2 (And.intro n3 (And.intro nf nt))));clear h hT hs n0 n2 n3 nf nt
 unfold His2
 obtain⟨r,hr⟩:∃r,readR s (headerGs s) header0=r:=⟨_,rfl⟩
 rw[hr]at HR ⊢
 clear hr
 go_enter Tryz.func111,Tryz.ntmps111
 go_wp2_with fail
 refine HR.out.mono ?_
 rintro e w1 ⟨ev,rfl,hev,hb⟩
 have HB:=QLh hb;have H1:=QLh (H.out.below hb);clear hb HR c0;have d:∀o,w1.cell? ⟨bh,o,none⟩=_:=block_cell H1.out.h_;have fz:∀o,w1.frozen? ⟨bh,o,none⟩=false:=block_free H1.out.h_;have hlt:bh<w1.heap.size:=lt_of_block H1.out.h_
 cases r with
 | ok y=>
  obtain rfl:ev=.nilIface:=hev
  rw[show cellsHeader (recV (.ok y) header0)=#[.int .u64 (y 0).n,.string (y 1).s,.string (y 2).s,.string (y 3).s]from rfl]
  have d0:w1.cell? ⟨bh,0,none⟩=some (.int .u64 (x 0).n):=d 0;have d1:w1.cell? ⟨bh,1,none⟩=some (.string (x 1).s):=d 1;have d2:w1.cell? ⟨bh,2,none⟩=some (.string (x 2).s):=d 2;have d3:w1.cell? ⟨bh,3,none⟩=some (.string (x 3).s):=d 3;clear d
  go_upto_region 3 with fail
  obtain⟨V,hV⟩:∃V,setH w1 bh y=V:=⟨_,rfl⟩
  have HV1:Hid (IsB root f t s pa pl pc b0 b2 b3 bf bt bh y V):=QLh (by rw[<-hV];exact H1.out.put HNE.out _);have HV2:Hid (ExtB (some bh) w V):=QLh (by rw[<-hV];exact ExtB_trans _ _ _ _ (below_extB HB.out bh) (setH_ext _ _ _))
  change Code.wp _ _ _ _ (setH w1 bh y)
  rw[hV]
  clear hV d0 d1 d2 d3 fz hlt
  go_wp2
  go_ret
  exact⟨rfl,HV1.out,HV2.out⟩
 | error k=>
  obtain⟨fb,rfl⟩:=hev
  rw[show cellsHeader (recV (.error k) header0)=#[.int .u64 0,.string ⟨#[]⟩,.string ⟨#[]⟩,.string ⟨#[]⟩]from rfl]
  have d0:w1.cell? ⟨bh,0,none⟩=some (.int .u64 (x 0).n):=d 0;have d1:w1.cell? ⟨bh,1,none⟩=some (.string (x 1).s):=d 1;have d2:w1.cell? ⟨bh,2,none⟩=some (.string (x 2).s):=d 2;have d3:w1.cell? ⟨bh,3,none⟩=some (.string (x 3).s):=d 3;clear d
  go_upto_region 3 with fail
  obtain⟨V,hV⟩:∃V,setH w1 bh header0=V:=⟨_,rfl⟩
  have HV1:Hid (IsB root f t s pa pl pc b0 b2 b3 bf bt bh header0 V):=QLh (by rw[<-hV];exact H1.out.put HNE.out _);have HV2:Hid (ExtB (some bh) w V):=QLh (by rw[<-hV];exact ExtB_trans _ _ _ _ (below_extB HB.out bh) (setH_ext _ _ _))
  change Code.wp _ _ _ _ (setH w1 bh header0)
  rw[hV]
  clear hV d0 d1 d2 d3 fz hlt
  go_wp2
  go_ret
  exact⟨rfl,HV1.out,HV2.out⟩
theorem isE_arg{root:ByteArray}{f t:Int}{s:ByteArray}{p:List ByteArray}(h:isA root f t=false):isE root f t s p=2:=by unfold isE;rw[h];rfl
theorem isE_form{root:ByteArray}{f t:Int}{s:ByteArray}{p:List ByteArray}(h:isA root f t=true){k:Flt}(hr:readR s (headerGs s) header0=.error k):isE root f t s p=5:=by unfold isE;rw[h,hr];rfl
theorem isE_none{root:ByteArray}{f t:Int}{s:ByteArray}{p:List ByteArray}(h:isA root f t=true){y:Rcd}(hr:readR s (headerGs s) header0=.ok y)(hn:¬(f<=(y 0).n/\(y 0).n<=t)):isE root f t s p=19:=by
 unfold isE;rw[h,hr,if_pos rfl];exact if_neg hn
theorem isE_proof{root:ByteArray}{f t:Int}{s:ByteArray}{p:List ByteArray}(h:isA root f t=true){y:Rcd}(hr:readR s (headerGs s) header0=.ok y)(hn:f<=(y 0).n/\(y 0).n<=t)(hc:¬checkE root (t - f+1) [(y 0).n - f] [s] p=0):isE root f t s p=20:=by
 unfold isE;rw[h,hr,if_pos rfl];exact(if_pos hn).trans (if_neg hc)
theorem isE_ok{root:ByteArray}{f t:Int}{s:ByteArray}{p:List ByteArray}(h:isA root f t=true){y:Rcd}(hr:readR s (headerGs s) header0=.ok y)(hn:f<=(y 0).n/\(y 0).n<=t)(hc:checkE root (t - f+1) [(y 0).n - f] [s] p=0):isE root f t s p=0:=by
 unfold isE;rw[h,hr,if_pos rfl];exact(if_pos hn).trans (if_pos hc)
theorem isA_at{root:ByteArray}{f t:Int}(h:isA root f t=true):root.size=32/\f<=t/\t - f<64:=by
 unfold isA at h
 simp only[Bool.and_eq_true,decide_eq_true_eq]at h
 exact⟨h.1.1,h.1.2,h.2⟩
theorem txts_ext{w w1:World}{bh:Nat}{pa:Option Addr}{P:List ByteArray}(h:Txts w pa P)(hE:ExtB (some bh) w w1)(hn:∀b o,pa=some ⟨b,o,none⟩->0<len P->b≠bh):Txts w1 pa P:=λ i hi=>by
 obtain⟨b,o,e,hc⟩:=h i hi
 refine⟨b,o,e,?_⟩
 rw[World.cell?_of_block (w:=w) (hE.block b (lt_of_cell hc) (λ e9=>hn b o e (by omega) (Option.some.inj e9)))]
 exact hc
def hisF(k:Nat):FuncId:=match k with | 0=>110 | 1=>111 | 2=>113 | _=>114
def hisC(b0 b2 b3 bf bt bh k:Nat):Array Value:=match k with
 | 0=>#[.pointer (some ⟨b0,0,none⟩),.pointer (some ⟨bt,0,none⟩),.pointer (some ⟨bf,0,none⟩)]
 | 1=>#[.pointer (some ⟨b2,0,none⟩),.pointer (some ⟨bh,0,none⟩)]
 | 2=>#[.pointer (some ⟨bh,0,none⟩),.pointer (some ⟨bf,0,none⟩),.pointer (some ⟨bt,0,none⟩)]
 | _=>#[.pointer (some ⟨b0,0,none⟩),.pointer (some ⟨bh,0,none⟩),.pointer (some ⟨bf,0,none⟩),.pointer (some ⟨bt,0,none⟩),.pointer (some ⟨b2,0,none⟩),.pointer (some ⟨b3,0,none⟩)]
def hisN(k:Nat):Int:=match k with | 0=>2 | 1=>5 | 2=>19 | _=>20
def hisX(r:Except Flt Rcd)(k:Nat):Rcd:=match k with | 0=>header0 | 1=>header0 | _=>recV r header0
structure HisI(root:ByteArray)(f t:Int)(s:ByteArray)(P:List ByteArray)(pa:Option Addr)(pc b0 b2 b3 bf bt bh:Nat)(w:World)(k:Nat)(w1:World):Prop where
 e:ExtB (some bh) w w1
 b:IsB root f t s pa (len P) pc b0 b2 b3 bf bt bh (hisX (readR s (headerGs s) header0) k) w1
 l:k<=1->Below w.heap.size w w1
 a:1<=k->isA root f t=true
 r:2<=k->∃y,readR s (headerGs s) header0=.ok y
 n:3<=k->f<=(recV (readR s (headerGs s) header0) header0 0).n/\(recV (readR s (headerGs s) header0) header0 0).n<=t
 c:4<=k->checkE root (t - f+1) [(recV (readR s (headerGs s) header0) header0 0).n - f] [s] P=0
def HisQ(root:ByteArray)(f t:Int)(s:ByteArray)(P:List ByteArray)(bh:Nat)(w:World)(x:Int)(w1:World):Prop:=
 x=isE root f t s P/\ExtB (some bh) w w1/\∃y:Rcd,(x=0->y=recV (readR s (headerGs s) header0) header0)/\w1.heap[bh]?=some (.cells #[.int .u64 (y 0).n,.string (y 1).s,.string (y 2).s,.string (y 3).s] 33 (0,0))
theorem his_rules(B:Nat)(root:ByteArray)(f t:Int)(s:ByteArray)(P:List ByteArray)(pa:Option Addr)(pc b0 b2 b3 bf bt bh rb:Nat)(w:World)(hT:TE7 B w)(h:IsB root f t s pa (len P) pc b0 b2 b3 bf bt bh header0 w)(hp:Txts w pa P)(hl:len P<=1000000)(hc:len P<=pc)(hf:U64 f)(ht:U64 t)(hs:s.size<=1000000)
  (hn:b0≠bh/\b2≠bh/\b3≠bh/\bf≠bh/\bt≠bh) (hnp:∀b o,pa=some ⟨b,o,none⟩->0<len P->b≠bh) (hnr:rb≠bh)
  (hr:w.heap[rb]?=some (.cells #[.func (.func 110) #[] (hisC b0 b2 b3 bf bt bh 0),.int .i64 2,.func (.func 111) #[] (hisC b0 b2 b3 bf bt bh 1),.int .i64 5,.func (.func 113) #[] (hisC b0 b2 b3 bf bt bh 2),.int .i64 19,.func (.func 114) #[] (hisC b0 b2 b3 bf bt bh 3),.int .i64 20] 140 (0,0))):
  Calls Tryz.prog 109 #[.slice (some ⟨rb,0,none⟩) 4 4] w λ e w'=>∃x,e=.returned (.int .i64 x)/\HisQ root f t s P bh w x w':=by
 refine ifirst_any 4 rb hisF (hisC b0 b2 b3 bf bt bh) hisN (HisI root f t s P pa pc b0 b2 b3 bf bt bh w) (HisQ root f t s P bh w) w (by decide) (λ k args w=>?_) (λ k w1 w2 h hb=>⟨ExtB_trans _ _ _ _ h.e (below_extB hb bh),h.b.below hb,λ hk=>bnext (h.l hk) hb,h.a,h.r,h.n,h.c⟩) (λ k hk w1 hI=>?_) ⟨ExtB_refl _ _,h,λ _=>Below.refl _ _,λ h=>absurd h (by decide),λ h=>absurd h (by decide),λ h=>absurd h (by decide),λ h=>absurd h (by decide)⟩ (λ k hk w1 hw hI=>?_) (λ w1 hI=>?_)
 ·unfold hisF;split <;> simp[go_sem]
 ·have hr1:=extB_block hI.e (λ e=>hnr (Option.some.inj e)) hr
  match k,hk with
  | 0,_=>exact⟨block_cell hr1 0,block_cell hr1 1⟩
  | 1,_=>exact⟨block_cell hr1 2,block_cell hr1 3⟩
  | 2,_=>exact⟨block_cell hr1 4,block_cell hr1 5⟩
  | 3,_=>exact⟨block_cell hr1 6,block_cell hr1 7⟩
 ·match k,hk,hI with
  | 0,_,hI=>
   refine(his1_any root f t s pa (len P) pc b0 b2 b3 bf bt bh header0 w1 hI.b hf ht).mono ?_
   rintro e w2 ⟨rfl,hb⟩
   refine⟨_,rfl,λ h1=>⟨ExtB_trans _ _ _ _ hI.e (below_extB hb bh),hI.b.below hb,λ _=>bnext (hI.l (by decide)) hb,λ _=>h1,λ h=>absurd h (by decide),λ h=>absurd h (by decide),λ h=>absurd h (by decide)⟩,λ h1=>⟨(isE_arg h1).symm,ExtB_trans _ _ _ _ hI.e (below_extB hb bh),header0,λ h=>absurd h (by decide),(hI.b.below hb).h_⟩,Keeps.of hb⟩
  | 1,_,hI=>
   refine(his2_any B root f t s pa (len P) pc b0 b2 b3 bf bt bh header0 w1 (hT.below (hI.l (by decide))) hI.b hs hn.1 hn.2.1 hn.2.2.1 hn.2.2.2.1 hn.2.2.2.2).mono ?_
   rintro e w2 ⟨rfl,hb,hE⟩
   refine⟨_,rfl,λ h1=>⟨ExtB_trans _ _ _ _ hI.e hE,hb,λ h=>absurd h (by decide),λ _=>hI.a (by decide),λ _=>?_,λ h=>absurd h (by decide),λ h=>absurd h (by decide)⟩,λ h1=>⟨?_,ExtB_trans _ _ _ _ hI.e hE,_,λ h=>absurd h (by decide),hb.h_⟩,⟨hE.size,λ i h1 h2=>hE.block i h2 (λ e=>absurd (Option.some.inj e) (by have:=lt_of_block h.h_;omega))⟩⟩
   ·cases hrr:readR s (headerGs s) header0 with
    | ok y=>exact⟨y,rfl⟩
    | error k=>rw[hrr]at h1;cases h1
   ·cases hrr:readR s (headerGs s) header0 with
    | ok y=>rw[hrr]at h1;cases h1
    | error k=>exact(isE_form (hI.a (by decide)) hrr).symm
  | 2,_,hI=>
   obtain⟨y,hy⟩:=hI.r (by decide)
   refine(his3_any root f t s pa (len P) pc b0 b2 b3 bf bt bh _ w1 hI.b).mono ?_
   rintro e w2 ⟨rfl,hb⟩
   refine⟨_,rfl,λ h1=>⟨ExtB_trans _ _ _ _ hI.e (below_extB hb bh),hI.b.below hb,λ h=>absurd h (by decide),λ _=>hI.a (by decide),λ _=>⟨y,hy⟩,λ _=>?_,λ h=>absurd h (by decide)⟩,λ h1=>⟨?_,ExtB_trans _ _ _ _ hI.e (below_extB hb bh),_,λ h=>absurd h (by decide),(hI.b.below hb).h_⟩,Keeps.of hb⟩
   ·simp only[Bool.and_eq_true,decide_eq_true_eq]at h1
    exact h1
   ·refine(isE_none (hI.a (by decide)) hy (λ h9=>?_)).symm
    have h9':f<=(hisX (readR s (headerGs s) header0) 2 0).n/\(hisX (readR s (headerGs s) header0) 2 0).n<=t:=by rw[hy];exact h9
    rw[decide_eq_true h9'.1,decide_eq_true h9'.2]at h1
    cases h1
  | 3,_,hI=>
   obtain⟨y,hy⟩:=hI.r (by decide)
   have hA:=isA_at (hI.a (by decide))
   refine(his4_any root f t s P pa pc b0 b2 b3 bf bt bh _ w1 hI.b (txts_ext hp hI.e hnp) hl hc hf ht hA.2 (hI.n (by decide)) hs).mono ?_
   rintro e w2 ⟨rfl,hb⟩
   refine⟨_,rfl,λ h1=>⟨ExtB_trans _ _ _ _ hI.e (below_extB hb bh),hI.b.below hb,λ h=>absurd h (by decide),λ _=>hI.a (by decide),λ _=>⟨y,hy⟩,λ _=>hI.n (by decide),λ _=>of_decide_eq_true h1⟩,λ h1=>⟨?_,ExtB_trans _ _ _ _ hI.e (below_extB hb bh),_,λ h=>absurd h (by decide),(hI.b.below hb).h_⟩,Keeps.of hb⟩
   have hn1:=hI.n (by decide);have h2:=of_decide_eq_false h1;have h2':¬checkE root (t - f+1) [(recV (readR s (headerGs s) header0) header0 0).n - f] [s] P=0:=h2
   rw[hy]at hn1 h2'
   exact(isE_proof (hI.a (by decide)) hy hn1 h2').symm
 ·obtain⟨y,hy⟩:=hI.r (by decide)
  have hn1:=hI.n (by decide);have h2:=hI.c (by decide)
  refine⟨?_,hI.e,_,λ _=>rfl,hI.b.h_⟩
  rw[hy]at hn1 h2
  exact(isE_ok (hI.a (by decide)) hy hn1 h2).symm
theorem ihis_any(B:Nat)(root:ByteArray)(f t:Int)(s:ByteArray)(P:List ByteArray)(pa:Option Addr)(pc:Nat)(w:World)(hT:TE7 B w)(hp:Txts w pa P)(hl:len P<=1000000)(hc:len P<=pc)(hf:U64 f)(ht:U64 t)(hs:s.size<=1000000):
  Calls Tryz.prog 57 #[.string root,.agg #[.int .u64 f,.int .u64 t],.string s,.slice pa (len P) pc] w (IsIs root f t s P w):=by
 have HT:=QLh hT;have HP:=QLh hp;have HPN:Hid (∀b o,pa=some ⟨b,o,none⟩->0<len P->b<w.heap.size):=QLh (λ b o e h0=>by
  obtain⟨b9,o9,e9,h9⟩:=hp 0 h0
  rw[e]at e9
  cases e9
  exact lt_of_cell h9)
 have HL:=QLh hl;have HC:=QLh hc;have HF:=QLh hf;have HTT:=QLh ht;have HS:=QLh hs;clear hT hp hl hc hf ht hs
 go_enter Tryz.func57,Tryz.ntmps57
 go_upto_region 1 with fail
 obtain⟨V,hV⟩:∃V,((((w.alloc (.cells #[.string root] 9)).alloc (.cells #[.int .u64 f,.int .u64 t] 76)).alloc (.cells #[.string s] 9)).alloc (.cells #[.slice pa (len P) pc] 36)).alloc (.cells #[.int .u64 0,.string ⟨#[]⟩,.string ⟨#[]⟩,.string ⟨#[]⟩] 33)=V:=⟨_,rfl⟩
 have HBV:Hid (Below w.heap.size w V):=QLh (by rw[<-hV];(repeat (first | exact Below.refl _ _ | assumption | (refine bdrew ?_) | (refine bdrewN ?_ _) | (refine balloc ?_ _) | (refine bset ?_ (by first | omega | (simp;done) | (simp;omega)) _) | (refine bnext ?_ (by assumption)))))
 have V0:Hid (V.heap[w.heap.size]?=some (.cells #[.string root] 9 (0,0))):=QLh (by rw[<-hV];(repeat (first | exact alloc_new_at _ (by repeat (first | rfl | refine alloc_size _ ?_)) | refine block_alloc ?_ _)))
 have V1:Hid (V.heap[w.heap.size+1]?=some (.cells #[.int .u64 f,.int .u64 t] 76 (0,0))):=QLh (by rw[<-hV];(repeat (first | exact alloc_new_at _ (by repeat (first | rfl | refine alloc_size _ ?_)) | refine block_alloc ?_ _)))
 have V2:Hid (V.heap[w.heap.size+1+1]?=some (.cells #[.string s] 9 (0,0))):=QLh (by rw[<-hV];(repeat (first | exact alloc_new_at _ (by repeat (first | rfl | refine alloc_size _ ?_)) | refine block_alloc ?_ _)))
 have V3:Hid (V.heap[w.heap.size+1+1+1]?=some (.cells #[.slice pa (len P) pc] 36 (0,0))):=QLh (by rw[<-hV];(repeat (first | exact alloc_new_at _ (by repeat (first | rfl | refine alloc_size _ ?_)) | refine block_alloc ?_ _)))
 have V4:Hid (V.heap[w.heap.size+1+1+1+1]?=some (.cells #[.int .u64 0,.string ⟨#[]⟩,.string ⟨#[]⟩,.string ⟨#[]⟩] 33 (0,0))):=QLh (by rw[<-hV];(repeat (first | exact alloc_new_at _ (by repeat (first | rfl | refine alloc_size _ ?_)) | refine block_alloc ?_ _)))
 have HSZ:Hid (V.heap.size=w.heap.size+5):=QLh (by rw[<-hV];simp)
 rw[hV]
 obtain⟨b,hb⟩:∃b,w.heap.size=b:=⟨_,rfl⟩
 rw[hb]at V0 V1 V2 V3 V4 HSZ ⊢
 have HWB:Hid (w.heap.size<=b):=QLh (Nat.le_of_eq hb);clear hV hb
 obtain⟨b1,hb1⟩:∃b1,b+1=b1:=⟨_,rfl⟩
 have z0:b1<V.heap.size:=by have:=HSZ.out;omega
 have z1:b1≠V.heap.size:=by have:=HSZ.out;omega
 have z2:b1≠V.heap.size+1:=by have:=HSZ.out;omega
 have HB1:Hid (b+1=b1):=QLh hb1
 rw[hb1]at V1 V2 V3 V4 ⊢
 clear hb1;have y0:V.cell? ⟨b1,0,none⟩=some (.int .u64 f):=block_cell V1.out 0;have y1:V.cell? ⟨b1,1,none⟩=some (.int .u64 t):=block_cell V1.out 1
 go_cut [10,11] (λ s9 s10 wx=>∃bf bt:Nat,s9=.pointer (some ⟨bf,0,none⟩)/\s10=.pointer (some ⟨bt,0,none⟩)/\Hid (wx.heap[bf]?=some (.cells #[.int .u64 f] 23 (0,0)))/\Hid (wx.heap[bt]?=some (.cells #[.int .u64 t] 23 (0,0)))/\Hid (Below V.heap.size V wx))
 case first=>
  go_region
  all_goals
   go_wp2_with fail
   go_meet
   first
    | exact⟨_,_,rfl,rfl,QLh (block_alloc (heap_alloc_new _ _) _),QLh (alloc_new_at _ (by simp)),QLh (bdrew (balloc (balloc (Below.refl _ _) _) _))⟩
    | exact⟨_,_,rfl,rfl,QLh (alloc_new_at _ (by simp)),QLh (block_alloc (heap_alloc_new _ _) _),QLh (bdrew (balloc (balloc (Below.refl _ _) _) _))⟩
 case rest=>
  obtain⟨bf,bt,rfl,rfl,HX,HY,HCB⟩:=hcut
  have K0:=QLh ((HCB.out.block _ (lt_of_block V0.out)).trans V0.out);have K2:=QLh ((HCB.out.block _ (lt_of_block V2.out)).trans V2.out);have K3:=QLh ((HCB.out.block _ (lt_of_block V3.out)).trans V3.out);have K4:=QLh ((HCB.out.block _ (lt_of_block V4.out)).trans V4.out);have HWC:Hid (Below w.heap.size w wc):=QLh (bnext HBV.out HCB.out);clear y0 y1 z0 z1 z2
  go_upto_region 3 with fail
  obtain⟨U,hU⟩:∃U,wc.alloc (.cells #[.int .u64 0,.string ⟨#[]⟩,.string ⟨#[]⟩,.string ⟨#[]⟩] 33)=U:=⟨_,rfl⟩
  obtain⟨bh,hbh⟩:∃bh,wc.heap.size=bh:=⟨_,rfl⟩
  have HUB:Hid (Below wc.heap.size wc U):=QLh (by rw[<-hU];exact balloc (Below.refl _ _) _);have HIB:Hid (IsB root f t s pa (len P) pc b (b1+1) (b1+1+1) bf bt bh header0 U):=QLh ⟨(HUB.out.block _ (lt_of_block K0.out)).trans K0.out,(HUB.out.block _ (lt_of_block K2.out)).trans K2.out,(HUB.out.block _ (lt_of_block K3.out)).trans K3.out,(HUB.out.block _ (lt_of_block HX.out)).trans HX.out,(HUB.out.block _ (lt_of_block HY.out)).trans HY.out,by rw[<-hU,<-hbh];exact heap_alloc_new _ _⟩;have K5:=QLh ((HUB.out.block _ (lt_of_block K4.out)).trans K4.out);have HNE:Hid (b≠bh/\b1+1≠bh/\b1+1+1≠bh/\bf≠bh/\bt≠bh):=QLh (by
   have q0:=lt_of_block K0.out;have q2:=lt_of_block K2.out;have q3:=lt_of_block K3.out;have q4:=lt_of_block HX.out;have q5:=lt_of_block HY.out
   omega)
  have HN8:Hid (b1+1+1+1≠bh/\w.heap.size<=bh/\bh<U.heap.size):=QLh (by
   have q0:=lt_of_block K4.out;have q1:=HWC.out.size;have q2:=lt_of_block HIB.out.h_
   omega)
  have HWU:Hid (Below w.heap.size w U):=QLh (bnext HWC.out HUB.out)
  rw[hU,hbh]
  clear hU hbh
  go_wp2_with fail
  refine(his_rules B root f t s P pa pc b (b1+1) (b1+1+1) bf bt bh _ _ ((HT.out.below HWU.out).below (balloc (Below.refl _ _) _)) (HIB.out.below (balloc (Below.refl _ _) _)) ((HP.out.below HWU.out).below (balloc (Below.refl _ _) _)) HL.out HC.out HF.out HTT.out HS.out HNE.out (λ b9 o9 e9 h9=>by have:=HPN.out b9 o9 e9 h9;have:=HN8.out;omega) (by have:=HN8.out;omega) (heap_alloc_new _ _)).mono ?_
  rintro e w2 ⟨x,rfl,hx,hE,y,hy,hh⟩
  have HEX:=QLh hx;have HE:=QLh hE;have HYY:=QLh hy;have HH:=QLh hh;have K6:Hid (w2.heap[b1+1+1+1]?=some (.cells #[.int .u64 0,.string ⟨#[]⟩,.string ⟨#[]⟩,.string ⟨#[]⟩] 33 (0,0))):=QLh (extB_block hE (λ e=>HN8.out.1 (Option.some.inj e)) (block_alloc K5.out _));have HB2:Hid (Below w.heap.size w w2):=QLh (by
   have q:=bnext HWU.out (balloc (Below.refl _ _) (.cells #[] 9));have q1:=HWU.out
   refine⟨hE.os.trans q1.os,hE.tape.trans q1.tape,hE.output.trans q1.output,Nat.le_trans (Nat.le_trans q1.size (by simp)) hE.size,λ i hi=>?_⟩
   rw[hE.block i (by simp;have:=q1.size;omega) (λ e9=>by have:=HN8.out;have:=Option.some.inj e9;omega)]
   exact((balloc (Below.refl U.heap.size U) _).block i (Nat.lt_of_lt_of_le hi q1.size)).trans (q1.block i hi))
  clear hx hE hy hh;have k0:w2.cell? ⟨b1+1+1+1,0,none⟩=some (.int .u64 0):=block_cell K6.out 0;have k1:w2.cell? ⟨b1+1+1+1,1,none⟩=some (.string ⟨#[]⟩):=block_cell K6.out 1;have k2:w2.cell? ⟨b1+1+1+1,2,none⟩=some (.string ⟨#[]⟩):=block_cell K6.out 2;have k3:w2.cell? ⟨b1+1+1+1,3,none⟩=some (.string ⟨#[]⟩):=block_cell K6.out 3;have kf:∀o,w2.frozen? ⟨b1+1+1+1,o,none⟩=false:=block_free K6.out;have h0:w2.cell? ⟨bh,0,none⟩=some (.int .u64 (y 0).n):=block_cell HH.out 0;have h1:w2.cell? ⟨bh,1,none⟩=some (.string (y 1).s):=block_cell HH.out 1;have h2:w2.cell? ⟨bh,2,none⟩=some (.string (y 2).s):=block_cell HH.out 2;have h3:w2.cell? ⟨bh,3,none⟩=some (.string (y 3).s):=block_cell HH.out 3;have H8:Hid (w.heap.size<=b1+1+1+1):=QLh (by have:=HWB.out;have:=HB1.out;omega)
  by_cases hx0:x=0
  ·subst hx0
   go_wp2
   have hb:=block_setCell (block_setCell (block_setCell (block_setCell K6.out (o:=0) (.int .u64 (y 0).n)) (o:=1) (.string (y 1).s)) (o:=2) (.string (y 2).s)) (o:=3) (.string (y 3).s);have d:∀o,_=_:=block_cell hb
   refine bodyPost_ret (v:=.tuple #[.agg #[.int .u64 (y 0).n,.string (y 1).s,.string (y 2).s,.string (y 3).s],.int .i64 0]) ?_ rfl ⟨?_,(((HB2.out.setCell H8.out _).setCell H8.out _).setCell H8.out _).setCell H8.out _⟩
   ·simp[results,Tryz.results57,go_sem,d]
   ·rw[show isH root f t s P=y by unfold isH;rw[<-HEX.out,if_pos rfl];exact(HYY.out (by first | trivial | rfl)).symm,<-HEX.out]
  ·have hxb:(x == 0)=false:=by simp;exact hx0
   have HX0:=QLh hx0
   go_wp2
   have hb:=block_setCell (block_setCell (block_setCell (block_setCell K6.out (o:=0) (.int .u64 0)) (o:=1) (.string ⟨#[]⟩)) (o:=2) (.string ⟨#[]⟩)) (o:=3) (.string ⟨#[]⟩);have d:∀o,_=_:=block_cell hb
   refine bodyPost_ret (v:=.tuple #[.agg #[.int .u64 0,.string ⟨#[]⟩,.string ⟨#[]⟩,.string ⟨#[]⟩],.int .i64 x]) ?_ rfl ⟨?_,(((HB2.out.setCell H8.out _).setCell H8.out _).setCell H8.out _).setCell H8.out _⟩
   ·simp[results,Tryz.results57,go_sem,d]
   ·rw[show isH root f t s P=header0 by unfold isH;rw[<-HEX.out,if_neg HX0.out],<-HEX.out];rfl
theorem rroot27_any(els:List ByteArray)(a:Option Addr)(cap:Nat)(w:World)(ht:Txts w a els)(hn:len els<=65536)(hz:∀i,i<len els->(tth els i).size<=140737488355200):
  Calls Tryz.prog 54 #[.slice a (len els) cap] w λ e w'=>e=.returned (.string (treeR els))/\Below w.heap.size w w':=by
 have HD:=QLh (rdigest_any els a cap (depN els) (depN_le hn) hn hz (depN els) 0 w (Nat.le_refl _) (by rw[Nat.sub_self];decide) ht);have HN:=QLh hn;clear ht hn hz
 go_enter Tryz.func54,Tryz.ntmps54
 go_wp2_with fail
 refine(refDepth_any (len els:Nat) w (by omega) (by have:=HN.out;omega)).mono ?_
 rintro e w1 ⟨rfl,rfl⟩
 rw[depthZ_len HN.out]
 obtain⟨d,hd⟩:∃d,depN els=d:=⟨_,rfl⟩
 have HE:Hid (treeR els=plD els d d 0):=QLh (by unfold treeR;rw[hd])
 rw[hd]at HD ⊢
 clear hd
 go_wp2_with fail
 refine HD.out.mono ?_
 rintro e w2 ⟨rfl,hb⟩
 rw[<-HE.out]
 go_wp2
 go_ret
 exact⟨rfl,hb⟩
theorem rbodies_any(l:List ByteArray)(a:Option Addr)(cap:Nat)(w:World)(hc:Txts w a l)(hn:len l<=100000):
  Calls Tryz.prog 121 #[.slice a (len l) cap] w λ e w'=>e=.returned (.bool (bdOk l))/\Below w.heap.size w w':=by
 have HC:=QLh hc;have HN:=QLh hn;clear hc hn
 go_enter Tryz.func121,Tryz.ntmps121
 go_wp2
 go_loopg [3] (len l) (λ gg i wr=>∃m:Nat,gg+m=len l/\i=.int .i64 (m:Nat)/\Hid (Below w.heap.size w wr)/\Hid (∀j,j<m->bodyB (tth l j)=true))
 case atStart=>exact⟨0,rfl,rfl,QLh (Below.refl _ _),QLh (λ j h=>by omega)⟩
 case round=>
  obtain⟨m,hm,rfl,HW,HI⟩:=hrel
  by_cases hlt:m<len l
  ·have b0:(m:Int)<len l:=by omega
   obtain⟨pb,po,rfl,cs⟩:=(HC.out.below HW.out) m hlt
   obtain⟨x,hx⟩:∃x,tth l m=x:=⟨_,rfl⟩
   rw[hx]at cs
   have HX:=QLh hx;have HLT:=QLh hlt;have HM:=QLh hm;clear hx hlt hm
   by_cases h0:x.size=0
   ·have HE:Hid (bdOk l=false):=QLh (bdOk_bad HLT.out (by rw[HX.out];omega))
    have i1:((x.size:Nat):Int)<1:=by omega
    clear h0
    go_wp2
    go_ret
    exact⟨by rw[HE.out];rfl,by(repeat (first | exact Below.refl _ _ | assumption | (refine bdrew ?_) | (refine bdrewN ?_ _) | (refine balloc ?_ _) | (refine bset ?_ (by first | omega | (simp;done) | (simp;omega)) _) | (refine bnext ?_ (by assumption))))⟩
   ·have i1:¬((x.size:Nat):Int)<1:=by omega
    by_cases h1:x.size<=64
    ·have i2:¬(64:Int)<((x.size:Nat):Int):=by omega
     have HB:Hid (bodyB x=true):=QLh (by unfold bodyB;rw[decide_eq_true (by omega:0<x.size),decide_eq_true h1];rfl);have HNN:=HN.out;clear h0 h1
     go_wp2
     go_roundg (gk - 1)
     case rel=>exact⟨m+1,by have:=HM.out;have:=HLT.out;omega,by have:=HLT.out;go_num,by(repeat (first | exact Below.refl _ _ | assumption | (refine bdrew ?_) | (refine bdrewN ?_ _) | (refine balloc ?_ _) | (refine bset ?_ (by first | omega | (simp;done) | (simp;omega)) _) | (refine bnext ?_ (by assumption)))),QLh (λ j hj=>by
      by_cases e:j=m
      ·subst e;rw[HX.out];exact HB.out
      ·exact HI.out j (by omega))⟩
     case measure=>have:=HM.out;have:=HLT.out;omega
    ·have i2:(64:Int)<((x.size:Nat):Int):=by omega
     have HE:Hid (bdOk l=false):=QLh (bdOk_bad HLT.out (by rw[HX.out];omega));clear h0 h1
     go_wp2
     go_ret
     exact⟨by rw[HE.out];rfl,by(repeat (first | exact Below.refl _ _ | assumption | (refine bdrew ?_) | (refine bdrewN ?_ _) | (refine balloc ?_ _) | (refine bset ?_ (by first | omega | (simp;done) | (simp;omega)) _) | (refine bnext ?_ (by assumption))))⟩
  ·obtain rfl:m=len l:=by omega
   have b0:¬((len l:Nat):Int)<(len l:Nat):=by omega
   have HY:=QLh (λ i (hi:i<len l)=>bodyB_at (HI.out i hi))
   by_cases h0:len l=0
   ·have c1:¬(1:Int)<=len l:=by omega
    have HE:Hid (bdOk l=false):=QLh (bdOk_len (by omega));clear h0
    go_wp2
    go_ret
    exact⟨by rw[HE.out];rfl,HW.out⟩
   ·have c1:(1:Int)<=len l:=by omega
    by_cases h64:len l<=64
    ·have c2:(len l:Int)<=64:=by omega
     have HE:Hid (bdOk l=true):=QLh (bdOk_of (by omega) h64 HY.out);clear h0 h64
     go_wp2
     go_ret
     exact⟨by rw[HE.out];rfl,HW.out⟩
    ·have c2:¬(len l:Int)<=64:=by omega
     have HE:Hid (bdOk l=false):=QLh (bdOk_len (by omega));clear h0 h64
     go_wp2
     go_ret
     exact⟨by rw[HE.out];rfl,HW.out⟩
end Go.Proofs.YtpobhbdomldecaaGreatDoor

/- Parts of the proof, one behind the other. -/
import Derived.Test.YtpobhbdomldecaaGreatDoorItxP3
import Derived.Laws.EntriesVeiled
import Derived.BigQuiet
import Derived.Laws.AppendOwnNone
import Derived.Carry
import Derived.Lib.Strings
import Derived.StillTail
set_option linter.unusedSimpArgs false
set_option linter.unusedVariables false
set_option maxRecDepth 100000
set_option maxHeartbeats 40000000
namespace Go.Proofs.YtpobhbdomldecaaGreatDoor
open Go.RowKit
def zero8:List W32:=List.replicate 8 0
theorem first_any(w:World):Calls Tryz.prog 219 #[] w λ e w'=>e=.returned (.agg (wsC (stL st0)))/\Below w.heap.size w w':=by
 go_enter Tryz.func219,Tryz.ntmps219
 go_upto_region 1 with fail
 obtain⟨b,hb⟩:∃b,w.heap.size=b:=⟨_,rfl⟩
 show Code.wp _ _ _ _ (w.alloc (.cells (wsC zero8) 246))
 obtain⟨V,hV⟩:∃V,w.alloc (.cells (wsC zero8) 246)=V:=⟨_,rfl⟩
 have HV:Hid (V.heap[b]?=some (.cells (wsC zero8) 246 (0,0))):=QLh (by rw[<-hV,<-hb];exact heap_alloc_new _ _);have HS:Hid (Below w.heap.size w V):=QLh (by rw[<-hV];exact balloc (Below.refl _ _) _);have HBW:Hid (w.heap.size<=b):=QLh (Nat.le_of_eq hb)
 rw[hV,hb]
 clear hV hb
 apply wp_region_lit
 refine wpList_build rfl 246 _ rfl (by as_aux_lemma=>kernel_rfl) ?_
 refine wpList_store_row rfl 246 _ _ rfl b (wsC (stL st0)) rfl (by as_aux_lemma=>kernel_rfl) 246 (wsC zero8) HV.out (by as_aux_lemma=>kernel_rfl) (by as_aux_lemma=>kernel_rfl) (by as_aux_lemma=>kernel_rfl) ?_
 apply wpList_nil
 obtain⟨U,hU⟩:∃U,V.setRow b (wsC (stL st0))=U:=⟨_,rfl⟩
 have HU:Hid (U.heap[b]?=some (.cells (wsC (stL st0)) 246 (0,0))):=QLh (by rw[<-hU];exact setRow_heap V b _ _ _ _ HV.out);have HUB:Hid (Below w.heap.size w U):=QLh (by
  rw[<-hU]
  exact⟨HS.out.os,HS.out.tape,HS.out.output,by rw[setRow_size];exact HS.out.size,λ i hi=>by rw[setRow_other _ _ _ _ (show i≠b by have:=HBW.out;omega)];exact HS.out.block i hi⟩)
 rw[hU]
 rename_i Q' K hK
 refine hK _ _ ?_
 apply wp_ret
 refine bodyPost_ret (v:=.agg (wsC (stL st0))) ?_ rfl ?_
 ·exact results_cell_row rfl _ _ b 246 (wsC (stL st0)) (0,0) _ rfl HU.out rfl rfl (by as_aux_lemma=>kernel_rfl)
 ·exact⟨rfl,HUB.out⟩
def zero64:List UInt8:=List.replicate 64 0
theorem built_hsh:Tryz.prog.built 250 [(0,.agg (wsC (stL st0)))]=some (hshC st0 zero64 ((0:Nat):Int)):=by kernel_rfl
def NewIsH(w:World)(e:Ending)(w':World):Prop:=∃b,e=.returned (.pointer (some ⟨b,0,none⟩))/\w.heap.size<=b/\HshIs b [] w'/\Below w.heap.size w w'
theorem zero64_len:zero64.length=64:=by unfold zero64;rw[List.length_replicate]
theorem hnew_any(w:World):Calls Tryz.prog 158 #[] w (NewIsH w):=by
 have HB:=QLh built_hsh;have HF:=QLh first_any
 go_enter Tryz.func158,Tryz.ntmps158
 go_upto_region 1 with fail
 go_wp2_with fail
 refine(HF.out _).mono ?_
 rintro e w2 ⟨rfl,hb2⟩
 have HB2:=QLh hb2;clear hb2;have hA:wsC (stL st0)=#[.int .u32 1779033703,.int .u32 3144134277,.int .u32 1013904242,.int .u32 2773480762,.int .u32 1359893119,.int .u32 2600822924,.int .u32 528734635,.int .u32 1541459225]:=by kernel_rfl
 rw[hA]
 clear hA
 go_wp2
 go_ret
 refine⟨w2.heap.size,rfl,HB2.out.size,⟨st0,zero64,HoldsT.start _ zero64_len,(heap_alloc_new _ _).trans ?_⟩,balloc HB2.out _⟩
 kernel_rfl
theorem info_b8:(Tryz.prog.info? 5).map (λ i=>(i.zero,i.size,i.bytes))=some (some (.int .u8 0),1,1):=by kernel_rfl
theorem index_8(v:St8)(t:Nat)(h:t<8)(w:World):(Instr.index 246 (.agg (wsC (stL v))) (.int .i64 (t:Int))).run Tryz.prog w=.ok (.int .u32 (wI (wth (stL v) t))) w:=by
 have hk:(wsC (stL v))[t]?=some (wV (wth (stL v) t)):=wsC_at (stL v) t h;have hs:(wsC (stL v)).size=8:=rfl
 generalize wsC (stL v)=KC at hk hs
 have b:¬(8:Int)<=(t:Int):=by omega
 have b2:¬(t:Int)<0:=by omega
 unfold Instr.index
 simp[go_sem,hk,hs,b,b2]
 intro h9
 omega
theorem HshIs.count{b:Nat}{L:List UInt8}{w:World}(h:HshIs b L w){n:Nat}(hn:len L=n):w.cell? ⟨b,72,none⟩=some (.int .u64 (n:Nat)):=by
 obtain⟨v,r,h1,h2⟩:=h
 rw[block_cell h2,hshC_n _ _ _ h1.rest,hn]
theorem below_own{B:Nat}{row:Nat}{w V w2:World}(h1:Below B w V)(hr:B<=row)(hB:B<=V.heap.size)(h2:ExtB (some row) V w2):Below B w w2:=
 ⟨h2.os.trans h1.os,h2.tape.trans h1.tape,h2.output.trans h1.output,Nat.le_trans h1.size h2.size,λ i hi=>(h2.block i (by omega) (by simp;omega)).trans (h1.block i hi)⟩
theorem hshC_one(v:St8)(r:List UInt8)(n:Int):(hshC v r n).all (·.oneCell')=true:=by
 unfold hshC
 rw[Array.all_eq_true]
 intro i hi
 have:∀x ∈ (stL v).map wV++r.map bV++[Value.int .u64 n],x.oneCell'=true:=by
  intro x hx
  simp only[List.mem_append,List.mem_map,List.mem_singleton]at hx
  rcases hx with(⟨a,_,rfl⟩ | ⟨a,_,rfl⟩) | rfl <;> rfl
 exact this _ (by simp)
theorem hsum_any(hb:Nat)(L:List UInt8)(w:World)(h:HshIs hb L w)(hl:len L<=1152921504606846976):
  Calls Tryz.prog 160 #[.pointer (some ⟨hb,0,none⟩)] w λ e w'=>e=.returned (.string ⟨(shaL L).toArray⟩)/\Below w.heap.size w w':=by
 obtain⟨v,r,hT,hc⟩:=h
 obtain⟨n,hn⟩:∃n,len L=n:=⟨_,rfl⟩
 rw[hn]at hc hl
 obtain⟨Cc,hCc⟩:∃Cc,hshC v r (n:Nat)=Cc:=⟨_,rfl⟩
 have HCC:=QLh hCc;have HSZ:Hid (Cc.size=73):=QLh (by rw[<-hCc,hshC_size _ _ _ hT.rest]);have HON:Hid (Cc.all (·.oneCell')=true):=QLh (by rw[<-hCc];exact hshC_one _ _ _)
 rw[hCc]at hc
 have HC:=QLh hc;have HT:=QLh hT;have HN:=QLh hn;have HL:=QLh hl;have HI:Hid ((Tryz.prog.info? 250).map (·.size)=some Cc.size):=QLh (by rw[HSZ.out];kernel_rfl);clear hc hT hn hl hCc
 go_enter Tryz.func160,Tryz.ntmps160
 go_upto_region 3 with fail
 go_upto_region 4 with(first | (refine wpList_load_row (o:=⟨some 14,_,_,_,_,_⟩) ?_ 250 (.tmp 13) ?_ hb ?_ 250 Cc (0,0) _ HC.out Tryz.underlying250 ?_ HI.out ?_;rfl;rfl;rfl;rfl;skip) | (refine wpList_store_row ?_ 250 (.tmp 3) (.tmp 14) ?_ w.heap.size Cc ?_ ?_ 250 _ (heap_alloc_new _ _) HI.out ?_ HON.out ?_;rfl;rfl;rfl;rfl;(rw[HSZ.out];kernel_rfl);skip))
 obtain⟨cb,hcb⟩:∃cb,w.heap.size=cb:=⟨_,rfl⟩
 rw[hcb]
 obtain⟨V,hV⟩:∃V,(w.alloc (.cells Tryz.zeroCells250 250)).setRow cb Cc=V:=⟨_,rfl⟩
 rw[hV]
 have HVB:Hid (V.heap[cb]?=some (.cells (hshC v r (n:Nat)) 250 (0,0))):=QLh (by rw[HCC.out,<-hV,<-hcb];exact setRow_heap _ _ _ _ _ _ (heap_alloc_new _ _));have HVW:Hid (Below w.heap.size w V):=QLh (by
  rw[<-hV]
  have h1:Below w.heap.size w (w.alloc (.cells Tryz.zeroCells250 250)):=balloc (Below.refl _ _) _
  exact⟨h1.os,h1.tape,h1.output,by rw[setRow_size];exact h1.size,λ i hi=>by rw[setRow_other _ _ _ _ (by omega:i≠cb)];exact h1.block i hi⟩)
 have HCB:Hid (w.heap.size<=cb):=QLh (Nat.le_of_eq hcb);have HH:Hid (HshIs cb L V):=QLh (HshIs.intro HT.out (by rw[HN.out]) HVB.out);have c72:V.cell? ⟨cb,72,none⟩=some (.int .u64 n):=by rw[block_cell HVB.out,hshC_n _ _ _ HT.out.rest]
 have w8:IntKind.u64.wrap ((n:Int) * 8)=(n:Int) * 8:=IntWalk.u64_in _ (by have:=HL.out;omega);clear hV hcb HVB HC HI HON HSZ HCC
 go_upto_region 5 with fail
 clear c72 w8;have cv:(convert 41 9 (.slice (some ⟨V.heap.size,0,none⟩) 1 1)).run Tryz.prog (V.alloc (.cells #[.int .u8 128] 5))=.ok (.string ⟨#[128]⟩) (V.alloc (.cells #[.int .u8 128] 5)):=conv_new V 5 1 1 [128] rfl
 go_wp2_with fail
 have HV1:=QLh (write_any cb L ⟨#[128]⟩ (V.alloc (.cells #[.int .u8 128] 5)) (HH.out.keep (balloc (Below.refl _ _) _)) (by have h1:=HL.out;have h2:=HN.out;rw[h2];show n+1<=_;omega))
 refine HV1.out.mono ?_
 rintro e w2 ⟨rfl,hE,hH⟩
 have HH:=QLh hH;have HVW:Hid (Below w.heap.size w w2):=QLh (below_own HVW.out HCB.out HVW.out.size (ExtB_trans _ _ _ _ (extB_alloc _ _ _) hE));have HH:Hid (HshIs cb (L++[128]++List.replicate 0 0) w2):=QLh (by rw[List.replicate_zero,List.append_nil];exact HH.out);clear hE hH HV1 cv
 go_upto_region 6 with fail
 go_loopg [21] (zerosW n) (λ g _ wr=>∃m:Nat,g+m=zerosW n/\Hid (HshIs cb (L++[128]++List.replicate m 0) wr)/\Hid (Below w.heap.size w wr))
 case atStart=>exact⟨0,rfl,HH,HVW⟩
 case round=>
  clear HH HVW
  obtain⟨m,hm,HH,HVW⟩:=hrel
  have hz:=zerosW_le n;have HLEN:Hid (len (L++[128]++List.replicate m 0)=n+1+m):=QLh (by
   have:=HN.out
   rw[len_eq]at this
   rw[len_eq,List.length_append,List.length_append,List.length_replicate,this]
   rfl)
  have c72:=HH.out.count HLEN.out
  obtain⟨q,hq⟩:∃q,n+1+m=q:=⟨_,rfl⟩
  rw[hq]at c72 HLEN
  have HQ:Hid (q<=n+64):=QLh (by omega)
  by_cases hlt:m<zerosW n
  ·have q1:¬((q:Nat):Int) % 64=56:=by have:=zerosW_not n m hlt;omega
   clear hq
   go_wp2_with fail
   have HV1:=QLh (write_any cb _ ⟨#[0]⟩ wr HH.out (by rw[HLEN.out];have h1:=HL.out;have h2:=HQ.out;show _+1<=_;omega))
   refine HV1.out.mono ?_
   rintro e w2 ⟨rfl,hE,hH⟩
   have HV2:Hid (Below w.heap.size w w2):=QLh (below_own HVW.out HCB.out HVW.out.size hE);have HH2:Hid (HshIs cb (L++[128]++List.replicate (m+1) 0) w2):=QLh (by
    have e9:L++[128]++List.replicate (m+1) 0=L++[128]++List.replicate m 0++[0]:=by rw[List.replicate_succ',List.append_assoc (L++[128])]
    rw[e9]
    exact hH)
   clear hE hH HV1
   go_wp2
   go_roundg (zerosW n - (m+1))
   case rel=>exact⟨m+1,by omega,HH2,HV2⟩
   case measure=>omega
  ·obtain rfl:m=zerosW n:=by omega
   have q1:((q:Nat):Int) % 64=56:=by have:=zerosW_end n;omega
   clear hq hz hlt hm
   go_upto_region 9 with fail
   obtain⟨N,hN⟩:∃N:Nat,n * 8=N:=⟨_,rfl⟩
   rw[show(n:Int) * 8=((N:Nat):Int)by omega]
   have HN8:=QLh hN
   obtain⟨L1,hL1⟩:∃L1,L++[128]++List.replicate (zerosW n) 0=L1:=⟨_,rfl⟩
   rw[hL1]at HH HLEN
   have HL1:=QLh hL1
   obtain⟨lb,hlb⟩:∃lb,wr.heap.size=lb:=⟨_,rfl⟩
   obtain⟨U,hU⟩:∃U,wr.alloc (.cells (filC (num8 N) 8 0) 68)=U:=⟨_,rfl⟩
   have HUB:Hid (U.heap[lb]?=some (.cells (filC (num8 N) 8 0) 68 (0,0))):=QLh (by rw[<-hU];exact alloc_new_at _ hlb);have HUH:Hid (HshIs cb L1 U):=QLh (by rw[<-hU];exact HH.out.keep (balloc (Below.refl _ _) _));have HUW:Hid (Below w.heap.size w U):=QLh (by rw[<-hU];exact balloc HVW.out _);have HLB:Hid (w.heap.size<=lb/\cb<lb):=QLh ⟨by rw[<-hlb];exact HVW.out.size,by rw[<-hlb];exact HH.out.lt⟩
   rw[hlb]
   change Code.wp _ _ _ _ (wr.alloc (.cells (filC (num8 N) 8 0) 68))
   rw[hU]
   clear hU hlb hL1 hN c72 q1 HH HVW
   go_wp2
   go_loopg [26,6] 8 (λ g i _ wr=>∃m:Nat,g+m=8/\i=.int .i64 m/\Hid (wr.heap[lb]?=some (.cells (filC (num8 N) 8 m) 68 (0,0)))/\Hid (HshIs cb L1 wr)/\Hid (Below w.heap.size w wr))
   case atStart=>exact⟨0,rfl,rfl,HUB,HUH,HUW⟩
   case round=>
    clear HUB HUH HUW
    obtain⟨m,hm,rfl,HUB,HUH,HUW⟩:=hrel
    by_cases hlt:m<8
    ·have i1:(m:Int)<8:=by omega
     have i2:IntKind.i64.wrap (7 - (m:Int))=7 - (m:Int):=IntWalk.i64_in _ (by omega);have i3:IntKind.i64.wrap (8 * (7 - (m:Int)))=8 * (7 - (m:Int)):=IntWalk.i64_in _ (by omega);have i4:¬8 * (7 - (m:Int))<0:=by omega
     have i5:¬(8:Int)<=(m:Int):=by omega
     obtain⟨W,hW⟩:∃W,wr=W:=⟨_,rfl⟩
     rw[hW]at HUB HUH HUW ⊢
     have c0:W.cell? ⟨lb,m,none⟩=some (byV 0):=by rw[block_cell HUB.out,filC_at _ _ _ hlt (num8_len N)]
     have c1:W.frozen? ⟨lb,m,none⟩=false:=block_free HUB.out m;have c2:lb<W.heap.size:=lt_of_block HUB.out;clear hW
     go_upto_region 13 with fail
     rw[num8_byte N m hlt]
     clear c0 c1 c2 i2 i3 i4 i5;have HU2:Hid ((W.setCell ⟨lb,m,none⟩ (byV ((num8 N).getD m 0))).heap[lb]?=some (.cells (filC (num8 N) 8 (m+1)) 68 (0,0))):=QLh (by
      have:=block_setCell HUB.out (o:=m) (byV ((num8 N).getD m 0))
      rw[filC_set _ _ _ hlt (num8_len N)]at this
      exact this)
     have HU3:Hid (HshIs cb L1 (W.setCell ⟨lb,m,none⟩ (byV ((num8 N).getD m 0)))):=QLh (by
      obtain⟨v9,r9,h1,h2⟩:=HUH.out
      exact⟨v9,r9,h1,block_setCell_ne h2 (show cb≠lb by have:=HLB.out.2;omega) _⟩)
     have HU4:Hid (Below w.heap.size w (W.setCell ⟨lb,m,none⟩ (byV ((num8 N).getD m 0)))):=QLh (bset HUW.out HLB.out.1 _)
     go_wp2
     go_roundg (8 - (m+1))
     case rel=>exact⟨m+1,by omega,by go_num,HU2,HU3,HU4⟩
     case measure=>omega
    ·obtain rfl:m=8:=by omega
     have i1:¬((8:Nat):Int)<8:=by decide
     have HUB:=QLh (by have h:=HUB.out;rw[filC_all _ _ (num8_len N)]at h;exact h);have cv:(convert 41 9 (.slice (some ⟨lb,0,none⟩) 8 8)).run Tryz.prog wr=.ok (.string ⟨(num8 N).toArray⟩) wr:=conv_block wr lb 0 8 8 (num8 N) (num8_len N) (λ i hi=>byV_block HUB.out i (by rw[num8_len];exact hi))
     go_wp2_with fail
     have HV1:=QLh (write_any cb L1 ⟨(num8 N).toArray⟩ wr HUH.out (by rw[HLEN.out];have h1:=HL.out;have h2:=HQ.out;show _+(num8 N).length<=_;rw[num8_len];omega))
     refine HV1.out.mono ?_
     rintro e w3 ⟨rfl,hE,hH⟩
     have HW3:Hid (Below w.heap.size w w3):=QLh (below_own HUW.out HCB.out HUW.out.size hE);have HH3:Hid (HshIs cb (padW L) w3):=QLh (by
      have h1:=HN.out
      rw[len_eq]at h1
      have h2:padW L=L1++num8 N:=by
       rw[padW_parts,<-HL1.out,h1,<-HN8.out,Nat.mod_eq_of_lt (by have:=HL.out;omega),Nat.mul_comm]
      rw[h2]
      exact hH)
     clear hE hH HV1 cv HUB HUH HUW i1
     obtain⟨z,r9,hz,hzb⟩:=HH3.out
     have HZ:=QLh hz;have x0:w3.cell? ⟨cb,0,none⟩=some (.int .u32 (wI z.a)):=by rw[block_cell hzb,hshC_word _ _ _ 0 (by decide)];rfl
     have x1:w3.cell? ⟨cb,1,none⟩=some (.int .u32 (wI z.b)):=by rw[block_cell hzb,hshC_word _ _ _ 1 (by decide)];rfl
     have x2:w3.cell? ⟨cb,2,none⟩=some (.int .u32 (wI z.c)):=by rw[block_cell hzb,hshC_word _ _ _ 2 (by decide)];rfl
     have x3:w3.cell? ⟨cb,3,none⟩=some (.int .u32 (wI z.d)):=by rw[block_cell hzb,hshC_word _ _ _ 3 (by decide)];rfl
     have x4:w3.cell? ⟨cb,4,none⟩=some (.int .u32 (wI z.e)):=by rw[block_cell hzb,hshC_word _ _ _ 4 (by decide)];rfl
     have x5:w3.cell? ⟨cb,5,none⟩=some (.int .u32 (wI z.f)):=by rw[block_cell hzb,hshC_word _ _ _ 5 (by decide)];rfl
     have x6:w3.cell? ⟨cb,6,none⟩=some (.int .u32 (wI z.g)):=by rw[block_cell hzb,hshC_word _ _ _ 6 (by decide)];rfl
     have x7:w3.cell? ⟨cb,7,none⟩=some (.int .u32 (wI z.h)):=by rw[block_cell hzb,hshC_word _ _ _ 7 (by decide)];rfl
     clear hz hzb
     go_upto_region 17 with fail
     rw[show(#[.int .u32 (wI z.a),.int .u32 (wI z.b),.int .u32 (wI z.c),.int .u32 (wI z.d),.int .u32 (wI z.e),.int .u32 (wI z.f),.int .u32 (wI z.g),.int .u32 (wI z.h)]:Array Value)=wsC (stL z)from rfl]
     obtain⟨ZC,hZC⟩:∃ZC,wsC (stL z)=ZC:=⟨_,rfl⟩
     rw[hZC]
     have HZC:=QLh hZC;clear hZC x0 x1 x2 x3 x4 x5 x6 x7
     obtain⟨i0,hi,hz0,hz1,hz2⟩:=info_parts info_b8
     have HZ0:=QLh hz0;clear hz0
     go_loopg [43,7,9] 8 (λ g i o _ wr=>∃m:Nat,g+m=8/\i=.int .i64 m/\Hid (wr.ownsRow w.heap.size 5 1 o (4 * m) ((((stL z).take m).map word4).flatten.map byV))/\Hid (Below w.heap.size w wr))
     case atStart=>exact⟨0,rfl,rfl,QLh (World.ownsRow_nil _ _ _ _),HW3⟩
     case round=>
      clear HW3 HH3
      obtain⟨m,hm,rfl,HO,HW3⟩:=hrel
      by_cases hlt:m<8
      ·have i1:(m:Int)<8:=by omega
       obtain⟨X,hX⟩:∃X,wth (stL z) m=X:=⟨_,rfl⟩
       have hk:∀w',(Instr.index 246 (.agg ZC) (.int .i64 (m:Int))).run Tryz.prog w'=.ok (.int .u32 (wI X)) w':=λ w'=>by rw[<-HZC.out,index_8 z m hlt,hX]
       have HX:=QLh hX
       obtain⟨W,hW⟩:∃W,wr=W:=⟨_,rfl⟩
       rw[hW]at HO HW3 ⊢
       clear hX hW
       go_upto_region 19 with fail
       have hmm:4 * m<=32:=by omega
       go_upto_region 20 with(at_builtin;refine wpList_append_own _ rfl _ _ 41 rfl w.heap.size 5 i0 (.int .u8 0) 1 1 Tryz.underlying41 hi HZ0.out hz1 hz2 rfl (by decide) _ _ _ rfl (HO.out.alloc _) ⟨W.heap.size,0,none⟩ 4 4 [.int .u8 (wI X / 16777216 % 256),.int .u8 (wI X / 65536 % 256),.int .u8 (wI X / 256 % 256),.int .u8 (wI X % 256)] rfl rfl (World.news_of_block (heap_alloc_new _ _)) (by intro u hu;simp at hu;rcases hu with rfl | rfl | rfl | rfl <;> rfl) (by unfold maxLen;omega) (by omega) (by have:=HW3.out.size;simp;omega) ?_;intro v2 w4 hown2 hgrow2 _)
       have HO2:Hid (w4.ownsRow w.heap.size 5 1 v2 (4 * (m+1)) ((((stL z).take (m+1)).map word4).flatten.map byV)):=QLh (by
        rw[outW_snoc z m hlt,HX.out,List.map_append,<-word4_vals]
        exact hown2)
       have HW4:Hid (Below w.heap.size w w4):=QLh (grownBy_below (balloc HW3.out _) hgrow2 (λ k hk'=>(HO.out.lt k hk').1));clear hown2 hgrow2 hk
       go_wp2
       go_roundg (8 - (m+1))
       case rel=>exact⟨m+1,by omega,by go_num,HO2,HW4⟩
       case measure=>omega
      ·obtain rfl:m=8:=by omega
       have i1:¬((8:Nat):Int)<8:=by decide
       have HO2:Hid (wr.ownsRow w.heap.size 5 1 u7 32 ((shaL L).map byV)):=QLh (by
        have h1:=HO.out
        rw[show(stL z).take 8=stL z from rfl,outW_eq,HZ.out.sum]at h1
        exact h1)
       have cv:=conv_own HO2.out (shaL_len L) (by decide)
       go_wp2
       go_ret
       exact⟨rfl,HW3.out⟩
theorem sha_any(s:ByteArray)(w:World)(hl:s.size<=1152921504606846976):Calls Tryz.prog 97 #[.string s] w λ e w'=>e=.returned (.string (shaP s))/\Below w.heap.size w w':=by
 have HL:=QLh hl;clear hl
 go_enter Tryz.func97,Tryz.ntmps97
 go_wp2_with fail
 refine(hnew_any _).mono ?_
 rintro e w1 ⟨b,rfl,hb0,hh,hw1⟩
 have HH:=QLh hh;have HW1:=QLh hw1;have HB0:=QLh hb0;clear hh hw1 hb0
 go_wp2_with fail
 refine(write_any b [] s w1 HH.out (by have:=HL.out;show 0+s.size<=_;omega)).mono ?_
 rintro e w2 ⟨rfl,hE,hH⟩
 have HW2:Hid (Below w.heap.size w w2):=QLh (below_own HW1.out HB0.out HW1.out.size hE);have HH2:=QLh hH;clear hE hH
 go_wp2_with fail
 refine(hsum_any b s.data.toList w2 HH2.out (by rw[len_eq,Array.length_toList];exact HL.out)).mono ?_
 rintro e w3 ⟨rfl,hE⟩
 have HW3:Hid (Below w.heap.size w w3):=QLh (bnext HW2.out hE);clear hE
 go_wp2
 go_ret
 exact⟨rfl,HW3.out⟩
def num8S(n:Nat):ByteArray:=⟨(num8 n).toArray⟩
theorem num8S_size(n:Nat):(num8S n).size=8:=by
 show(num8 n).toArray.size=8
 rw[List.size_toArray,num8_len]
theorem dnum_any(N:Nat)(w:World)(hN:N<18446744073709551616):Calls Tryz.prog 157 #[.int .u64 (N:Nat)] w λ e w'=>e=.returned (.string (num8S N))/\Below w.heap.size w w':=by
 have HNN:=QLh hN;clear hN
 go_enter Tryz.func157,Tryz.ntmps157
 go_upto_region 2 with fail
 obtain⟨lb,hlb⟩:∃lb,w.heap.size=lb:=⟨_,rfl⟩
 obtain⟨U,hU⟩:∃U,w.alloc (.cells (filC (num8 N) 8 0) 68)=U:=⟨_,rfl⟩
 have HUB:Hid (U.heap[lb]?=some (.cells (filC (num8 N) 8 0) 68 (0,0))):=QLh (by rw[<-hU];exact alloc_new_at _ hlb);have HUW:Hid (Below w.heap.size w U):=QLh (by rw[<-hU];exact balloc (Below.refl _ _) _);have HLB:Hid (w.heap.size<=lb):=QLh (Nat.le_of_eq hlb)
 rw[hlb]
 change Code.wp _ _ _ _ (w.alloc (.cells (filC (num8 N) 8 0) 68))
 rw[hU]
 clear hU hlb
 go_wp2
 go_loopg [5,4] 8 (λ g i _ wr=>∃m:Nat,g+m=8/\i=.int .i64 m/\Hid (wr.heap[lb]?=some (.cells (filC (num8 N) 8 m) 68 (0,0)))/\Hid (Below w.heap.size w wr))
 case atStart=>exact⟨0,rfl,rfl,HUB,HUW⟩
 case round=>
  clear HUB HUW
  obtain⟨m,hm,rfl,HUB,HUW⟩:=hrel
  by_cases hlt:m<8
  ·have i1:(m:Int)<8:=by omega
   have i2:IntKind.i64.wrap (7 - (m:Int))=7 - (m:Int):=IntWalk.i64_in _ (by omega);have i3:IntKind.i64.wrap (8 * (7 - (m:Int)))=8 * (7 - (m:Int)):=IntWalk.i64_in _ (by omega);have i4:¬8 * (7 - (m:Int))<0:=by omega
   have i5:¬(8:Int)<=(m:Int):=by omega
   obtain⟨W,hW⟩:∃W,wr=W:=⟨_,rfl⟩
   rw[hW]at HUB HUW ⊢
   have c0:W.cell? ⟨lb,m,none⟩=some (byV 0):=by rw[block_cell HUB.out,filC_at _ _ _ hlt (num8_len N)]
   have c1:W.frozen? ⟨lb,m,none⟩=false:=block_free HUB.out m;have c2:lb<W.heap.size:=lt_of_block HUB.out;clear hW
   go_upto_region 6 with fail
   rw[num8_byte N m hlt]
   clear c0 c1 c2 i2 i3 i4 i5;have HU2:Hid ((W.setCell ⟨lb,m,none⟩ (byV ((num8 N).getD m 0))).heap[lb]?=some (.cells (filC (num8 N) 8 (m+1)) 68 (0,0))):=QLh (by
    have:=block_setCell HUB.out (o:=m) (byV ((num8 N).getD m 0))
    rw[filC_set _ _ _ hlt (num8_len N)]at this
    exact this)
   have HU4:Hid (Below w.heap.size w (W.setCell ⟨lb,m,none⟩ (byV ((num8 N).getD m 0)))):=QLh (bset HUW.out HLB.out _)
   go_wp2
   go_roundg (8 - (m+1))
   case rel=>exact⟨m+1,by omega,by go_num,HU2,HU4⟩
   case measure=>omega
  ·obtain rfl:m=8:=by omega
   have i1:¬((8:Nat):Int)<8:=by decide
   have HUB:=QLh (by have h:=HUB.out;rw[filC_all _ _ (num8_len N)]at h;exact h);have cv:(convert 41 9 (.slice (some ⟨lb,0,none⟩) 8 8)).run Tryz.prog wr=.ok (.string (num8S N)) wr:=conv_block wr lb 0 8 8 (num8 N) (num8_len N) (λ i hi=>byV_block HUB.out i (by rw[num8_len];exact hi))
   go_wp2
   go_ret
   exact⟨rfl,HUW.out⟩
theorem bld_size:(Tryz.prog.info? 172).map (·.size)=some 2:=by kernel_rfl
theorem bld_lies:liesAt Tryz.prog Tryz.prog.depth 172 (2 / Tryz.prog.cellsOf 172) 0 172 1=true:=by kernel_rfl
theorem bld_b8:(Tryz.prog.info? 5).map (λ i=>(i.zero,i.size,i.bytes))=some (some (.int .u8 0),1,1):=by kernel_rfl
theorem bcheck_used(b:Nat)(w:World)(h0:w.cell? ⟨b,0,none⟩=some (.pointer (some ⟨b,0,none⟩))):
  Calls Tryz.prog 193 #[.pointer (some ⟨b,0,none⟩)] w λ e w'=>e=.returned (.tuple #[])/\w'=w:=by
 obtain⟨j,hj,_⟩:=Option.map_eq_some_iff.1 bld_size
 go_enter Tryz.func193,Tryz.ntmps193
 go_wp2
 rw[Lib.run_neq_ptr_same w _ Tryz.underlying170 hj]
 go_wp2
 go_end0
 exact⟨rfl,rfl⟩
theorem bcheck_fresh(b:Nat)(w:World)(h0:w.cell? ⟨b,0,none⟩=some (.pointer none))(hsh:w.shape? b=some (172,2))(hfz:w.frozen? ⟨b,0,none⟩=false):
  Calls Tryz.prog 193 #[.pointer (some ⟨b,0,none⟩)] w λ e w'=>e=.returned (.tuple #[])/\w'=w.setCell ⟨b,0,none⟩ (.pointer (some ⟨b,0,none⟩)):=by
 obtain⟨j,hj,hjs⟩:=Option.map_eq_some_iff.1 bld_size
 go_enter Tryz.func193,Tryz.ntmps193
 go_wp2
 rw[Lib.run_to_unsafe w ⟨b,0,none⟩ Tryz.underlying170 Tryz.underlying297 hj (by rw[hjs];decide) hsh (Nat.zero_lt_succ 1)]
 simp only[Result.andThen]
 rw[Oper.upon_value]
 go_wp2
 rw[run_callFunc_extern Tryz.func259 (by kernel_rfl) (by kernel_rfl) (by kernel_rfl) (e:=Extern.AbiNoEscape.same) (by kernel_rfl)]
 rw[Lib.run_noEscape]
 simp only[Result.andThen]
 rw[Oper.upon_value]
 go_wp2
 rw[Lib.run_from_unsafe w ⟨b,0,none⟩ Tryz.underlying297 Tryz.underlying170 hj hsh bld_lies]
 simp only[Result.andThen]
 rw[Oper.upon_value]
 go_wp2
 go_end0
 exact⟨rfl,rfl⟩
theorem bcheck_any(B b:Nat)(bs:List Value)(w:World)(h:Lib.IsBuilder 172 5 B b bs w):
  Calls Tryz.prog 193 #[.pointer (some ⟨b,0,none⟩)] w λ e w'=>e=.returned (.tuple #[])/\(Lib.BuilderAt 172 5 B b (.pointer (some ⟨b,0,none⟩)) bs w'/\Below B w w'):=by
 rcases h with h | h
 ·refine(bcheck_fresh b w h.cell0 h.shape h.frozen0).mono ?_
  rintro e w' ⟨rfl,rfl⟩
  exact⟨rfl,h.used _,(Below.refl B w).setCell (p:=⟨b,0,none⟩) h.1 _⟩
 ·refine(bcheck_used b w h.cell0).mono ?_
  rintro e w' ⟨rfl,rfl⟩
  exact⟨rfl,h,Below.refl B _⟩
theorem bbyte_any(B b:Nat)(bs:List Value)(c:Int)(w:World)(h:Lib.IsBuilder 172 5 B b bs w)(hlen:bs.length+1<=140737488355328)(hBw:B<=w.heap.size):
  Calls Tryz.prog 155 #[.pointer (some ⟨b,0,none⟩),.int .u8 c] w λ e w'=>e=.returned .nilIface/\(Lib.BuilderAt 172 5 B b (.pointer (some ⟨b,0,none⟩)) (bs++[.int .u8 c]) w'/\Below B w w'):=by
 obtain⟨i0,hi,hz0,hz1,hz2⟩:=info_parts bld_b8
 go_enter Tryz.func155,Tryz.ntmps155
 go_wp2_with fail
 refine(bcheck_any B b bs _ h).mono ?_
 rintro e w1 ⟨rfl,h1,hb1⟩
 obtain⟨hB,v,hbk,hown,hne⟩:=h1
 have c0:w1.cell? ⟨b,0,none⟩=some (.pointer (some ⟨b,0,none⟩)):=by rw[Lib.cell_of_heap hbk];rfl
 have c1:w1.cell? ⟨b,1,none⟩=some v:=by rw[Lib.cell_of_heap hbk];rfl
 go_wp2_with (at_builtin;refine wpList_append_own _ rfl _ _ 41 rfl B 5 i0 (.int .u8 0) 1 1 Tryz.underlying41 hi hz0 hz1 hz2 rfl (by decide) _ _ _ rfl (hown.alloc _) ⟨w1.heap.size,0,none⟩ 1 1 [.int .u8 c] rfl rfl ?c1 ?c2 ?c3 ?c4 ?c5 ?_)
 case c1=>
  intro j u hj
  match j,hj with
  | 0,hj=>simp at hj;subst hj;simp[Addr.add]
 case c2=>intro u hu;simp at hu;subst hu;rfl
 case c3=>unfold maxLen;omega
 case c4=>omega
 case c5=>have:=hb1.size;simp;omega
 intro v' w2 hown' hgrow _
 have hlt:b<w1.heap.size:=lt_of_block hbk;have hb2:w2.heap[b]?=some (.cells #[.pointer (some ⟨b,0,none⟩),v] 172 (0,0)):=by
  rw[hgrow.block b (by simp;omega) (λ e=>hne e.symm),Lib.alloc_old w1 _ b hlt]
  exact hbk
 have d0:w2.cell? ⟨b,0,none⟩=some (.pointer (some ⟨b,0,none⟩)):=by rw[Lib.cell_of_heap hb2];rfl
 have d1:w2.cell? ⟨b,1,none⟩=some v:=by rw[Lib.cell_of_heap hb2];rfl
 have f1:w2.frozen? ⟨b,1,none⟩=false:=Lib.frozen_of_heap hb2 1
 obtain⟨g,cap,rfl⟩:∃g cap,v'=.slice (some ⟨g,0,none⟩) (bs.length+1) cap:=by
  rcases hown'.2 with⟨_,h0⟩ | ⟨g,cap,cur,hv,_⟩
  ·omega
  ·exact⟨g,cap,hv⟩
 go_wp2
 go_ret
 refine⟨rfl,?_,?_⟩
 ·exact Lib.BuilderAt.put (T:=172) (e:=5) hB hb2 (bs':=bs++[.int .u8 c]) (by simpa using hown') (by decide)
 ·exact((hb1.alloc (by have:=hb1.size;omega) _).grown hgrow (by have:=hb1.size;simp;omega) (λ k hk=>(hown.lt k hk).1)).setCell (p:=⟨b,1,none⟩) hB _
theorem bstr_any(B b:Nat)(bs:List Value)(s:ByteArray)(w:World)(h:Lib.IsBuilder 172 5 B b bs w)(hlen:bs.length+s.size<=140737488355328)(hBw:B<=w.heap.size):
  Calls Tryz.prog 144 #[.pointer (some ⟨b,0,none⟩),.string s] w λ e w'=>e=.returned (.tuple #[.int .i64 s.size,.nilIface])/\(Lib.BuilderAt 172 5 B b (.pointer (some ⟨b,0,none⟩)) (bs++Lib.strCells s) w'/\Below B w w'):=by
 obtain⟨i0,hi,hz0,hz1,hz2⟩:=info_parts bld_b8
 go_enter Tryz.func144,Tryz.ntmps144
 go_wp2_with fail
 refine(bcheck_any B b bs _ h).mono ?_
 rintro e w1 ⟨rfl,h1,hb1⟩
 obtain⟨hB,v,hbk,hown,hne⟩:=h1
 have c0:w1.cell? ⟨b,0,none⟩=some (.pointer (some ⟨b,0,none⟩)):=by rw[Lib.cell_of_heap hbk];rfl
 have c1:w1.cell? ⟨b,1,none⟩=some v:=by rw[Lib.cell_of_heap hbk];rfl
 go_wp2_with (at_builtin;refine Lib.wpList_append_own_string _ rfl _ _ 41 9 rfl B 5 i0 Tryz.underlying41 Tryz.underlying9 hi hz0 hz1 hz2 _ _ _ rfl hown s rfl ?c3 ?c4 ?c5 ?_)
 case c3=>unfold maxLen;omega
 case c4=>omega
 case c5=>have:=hb1.size;omega
 intro v' w2 hown' hgrow _
 have hlt:b<w1.heap.size:=lt_of_block hbk;have hb2:w2.heap[b]?=some (.cells #[.pointer (some ⟨b,0,none⟩),v] 172 (0,0)):=by
  rw[hgrow.block b hlt (λ e=>hne e.symm)]
  exact hbk
 have d0:w2.cell? ⟨b,0,none⟩=some (.pointer (some ⟨b,0,none⟩)):=by rw[Lib.cell_of_heap hb2];rfl
 have d1:w2.cell? ⟨b,1,none⟩=some v:=by rw[Lib.cell_of_heap hb2];rfl
 have f1:w2.frozen? ⟨b,1,none⟩=false:=Lib.frozen_of_heap hb2 1
 obtain⟨ao,n',cap,rfl⟩:∃ao n' cap,v'=.slice ao n' cap:=by
  rcases hown'.2 with⟨hv,_⟩ | ⟨g,cap,cur,hv,_⟩
  ·exact⟨_,_,_,hv⟩
  ·exact⟨_,_,_,hv⟩
 go_wp2
 go_ret2
 refine⟨rfl,?_,?_⟩
 ·exact Lib.BuilderAt.put (T:=172) (e:=5) hB hb2 (bs':=bs++Lib.strCells s) (by simpa [Lib.strCells_length] using hown') (by decide)
 ·exact(hb1.grown hgrow (by have:=hb1.size;omega) (λ k hk=>(hown.lt k hk).1)).setCell (p:=⟨b,1,none⟩) hB _
abbrev BlAt(B b:Nat)(L:List UInt8)(w:World):Prop:=Lib.BuilderAt 172 5 B b (.pointer (some ⟨b,0,none⟩)) (Lib.byteCells L) w
theorem bc_app(L M:List UInt8):Lib.byteCells (L++M)=Lib.byteCells L++Lib.byteCells M:=by unfold Lib.byteCells;rw[List.map_append]
theorem bc_len(L:List UInt8):(Lib.byteCells L).length=L.length:=by unfold Lib.byteCells;rw[List.length_map]
def LayIs(B b:Nat)(L:List UInt8)(w:World)(e:Ending)(w':World):Prop:=e=.returned (.tuple #[])/\BlAt B b L w'/\Below B w w'
theorem lay_part(B b:Nat)(L:List UInt8)(p:ByteArray)(w:World)(h:BlAt B b L w)(hl:L.length+(8+p.size)<=140737488355328)(hB:B<=w.heap.size):
  Calls Tryz.prog 156 #[.string p,.pointer (some ⟨b,0,none⟩)] w (LayIs B b (L++partL p) w):=by
 have H:=QLh h;have HL:=QLh hl;have HB:=QLh hB;clear h hl hB;have i1:IntKind.u64.wrap ((p.size:Nat):Int)=((p.size:Nat):Int):=IntWalk.u64_in _ (by have:=HL.out;omega)
 go_enter Tryz.func156,Tryz.ntmps156
 go_wp2_with fail
 refine(dnum_any p.size w (by have:=HL.out;omega)).mono ?_
 rintro e w1 ⟨rfl,hb1⟩
 have HB1:=QLh hb1;have H1:Hid (BlAt B b L w1):=QLh (by
  obtain⟨h1,v,h2,h3,h4⟩:=H.out
  exact⟨h1,v,(hb1.block _ (lt_of_block h2)).trans h2,own_below h3 hb1,h4⟩)
 clear hb1
 go_wp2_with fail
 refine(bstr_any B b _ (num8S p.size) w1 (Or.inr H1.out) (by rw[bc_len,num8S_size];have:=HL.out;omega) (Nat.le_trans HB.out HB1.out.size)).mono ?_
 rintro e w2 ⟨rfl,h2,hb2⟩
 have H2:Hid (BlAt B b (L++num8 p.size) w2):=QLh (by show Lib.BuilderAt _ _ _ _ _ (Lib.byteCells _) _;rw[bc_app];exact h2);have HB2:Hid (Below B w w2):=QLh ((HB1.out.mono HB.out).trans hb2);have HBS:Hid (B<=w2.heap.size):=QLh (Nat.le_trans HB.out HB2.out.size);clear h2 hb2
 go_wp2_with fail
 refine(bstr_any B b _ p w2 (Or.inr H2.out) (by rw[bc_len,List.length_append,num8_len];have:=HL.out;omega) HBS.out).mono ?_
 rintro e w3 ⟨rfl,h3,hb3⟩
 have H3:Hid (BlAt B b (L++partL p) w3):=QLh (by show Lib.BuilderAt _ _ _ _ _ (Lib.byteCells _) _;unfold partL;rw[<-List.append_assoc,bc_app];exact h3);have HB3:Hid (Below B w w3):=QLh (HB2.out.trans hb3);clear h3 hb3
 go_wp2
 go_end0
 exact⟨rfl,H3.out,HB3.out⟩
theorem fullT{t:ByteArray}(h:t.size≠0):t.toList.isEmpty=false:=by
 rw[ByteArray.toList_eq];cases t with | mk d=>simp_all [ByteArray.size]
theorem headL_cells(tag:ByteArray)(h:tag.size<=16):Lib.byteCells (headL tag)=[.int .u8 ((tag.size:Nat):Int)]++Lib.strCells tag:=by
 unfold headL Lib.strCells Lib.byteCells
 rw[List.map_cons]
 congr 1
 rw[UInt8.toNat_ofNat',Nat.mod_eq_of_lt (by omega)]
theorem frame_any(tag:ByteArray)(parts:List ByteArray)(a:Option Addr)(cap:Nat)(w:World)(h1:1<=tag.size)(h2:tag.size<=16)(hp:Txts w a parts)(hs:(partsL parts).length<=140737488355300):
  Calls Tryz.prog 96 #[.string tag,.slice a (len parts) cap] w λ e w'=>e=.returned (.string (frameS tag parts))/\Below w.heap.size w w':=by
 have HP:=QLh hp;have HS:=QLh hs;have HT2:=QLh h2;have HT1:=QLh h1;have HPL:Hid (len parts<=140737488355300):=QLh (by have:=partsL_ge parts;rw[len_eq];omega);have t1:tag.toList.isEmpty=false:=fullT (by omega);have t2:¬(16:Int)<(tag.size:Int):=by omega
 have t3:IntKind.u8.wrap ((tag.size:Nat):Int)=((tag.size:Nat):Int):=IntWalk.u8_in _ (by omega);clear hp hs h1 h2
 go_enter Tryz.func96,Tryz.ntmps96
 go_upto_region 4 with fail
 obtain⟨b,hb⟩:∃b,w.heap.size=b:=⟨_,rfl⟩
 rw[hb]
 obtain⟨V,hV⟩:∃V,w.alloc (.cells #[.pointer none,.slice none 0 0] 172)=V:=⟨_,rfl⟩
 rw[hV]
 have HBW:Hid (w.heap.size<=b):=QLh (Nat.le_of_eq hb);have HI:Hid (Lib.IsBuilder 172 5 b b [] V):=QLh (Or.inl ⟨Nat.le_refl _,_,by rw[<-hV];exact alloc_new_at _ hb,World.ownsRow_nil _ _ _ _,by simp[Value.ownBlock]⟩);have HVW:Hid (Below w.heap.size w V):=QLh (by rw[<-hV];exact balloc (Below.refl _ _) _);have HVS:Hid (b<=V.heap.size):=QLh (by rw[<-hb];exact HVW.out.size);clear hV hb
 go_wp2_with fail
 refine(bbyte_any b b [] _ V HI.out (by decide) HVS.out).mono ?_
 rintro e w1 ⟨rfl,hb1,hB1⟩
 have H1:=QLh hb1;have HS1:Hid (b<=w1.heap.size):=QLh (Nat.le_trans HVS.out hB1.size);have HW1:Hid (Below w.heap.size w w1):=QLh (HVW.out.trans (hB1.mono HBW.out));clear hb1 hB1 t1 t2 t3
 go_wp2_with fail
 refine(bstr_any b b _ tag w1 (Or.inr H1.out) (by have:=HT2.out;show 1+tag.size<=_;omega) HS1.out).mono ?_
 rintro e w2 ⟨rfl,hb2,hB2⟩
 have H2:Hid (BlAt b b (headL tag++partsL (parts.take 0)) w2):=QLh (by
  show Lib.BuilderAt _ _ _ _ _ (Lib.byteCells _) _
  rw[List.take_zero,show partsL []=[]from rfl,List.append_nil,headL_cells tag HT2.out]
  exact hb2)
 have HS2:Hid (b<=w2.heap.size):=QLh (Nat.le_trans HS1.out hB2.size);have HW2:Hid (Below w.heap.size w w2):=QLh (HW1.out.trans (hB2.mono HBW.out));clear hb2 hB2
 go_wp2
 go_loopg [25,8] (len parts) (λ g i _ wr=>∃m:Nat,g+m=len parts/\i=.int .i64 m/\Hid (BlAt b b (headL tag++partsL (parts.take m)) wr)/\Hid (b<=wr.heap.size)/\Hid (Below w.heap.size w wr))
 case atStart=>exact⟨0,rfl,rfl,H2,HS2,HW2⟩
 case round=>
  clear H2 HS2 HW2
  obtain⟨m,hm,rfl,H2,HS2,HW2⟩:=hrel
  have HPB:=HPL.out
  by_cases hlt:m<len parts
  ·have i1:(m:Int)<(len parts:Nat):=by omega
   obtain⟨pb,po,rfl,hpc⟩:=(HP.out.below HW2.out) m hlt
   obtain⟨x,hx⟩:∃x,tth parts m=x:=⟨_,rfl⟩
   rw[hx]at hpc
   have HX:=QLh hx;clear hx
   go_wp2_with fail
   refine(lay_part b b _ x wr H2.out (by
    have h1:=HS.out;have h2:=partsL_le parts (m+1);have h3:=HT2.out
    rw[partsL_snoc _ _ hlt,List.length_append,HX.out,partL_len]at h2
    rw[List.length_append,headL_len]
    omega) HS2.out).mono ?_
   rintro e w3 ⟨rfl,h3,hb3⟩
   have H3:Hid (BlAt b b (headL tag++partsL (parts.take (m+1))) w3):=QLh (by rw[partsL_snoc _ _ hlt,HX.out,<-List.append_assoc];exact h3);have HS3:Hid (b<=w3.heap.size):=QLh (Nat.le_trans HS2.out hb3.size);have HW3:Hid (Below w.heap.size w w3):=QLh (HW2.out.trans (hb3.mono HBW.out));clear h3 hb3 hpc
   go_wp2
   go_roundg (len parts - (m+1))
   case rel=>exact⟨m+1,by omega,by go_num,H3,HS3,HW3⟩
   case measure=>omega
  ·obtain rfl:m=len parts:=by omega
   have i1:¬((len parts:Nat):Int)<(len parts:Nat):=by omega
   have H4:Hid (BlAt b b (framL tag parts) wr):=QLh (by have h:=H2.out;rw[take_len]at h;exact h);clear H2 hm hlt
   go_wp2_with fail
   refine(Tryz.Builder_String_any b b _ wr (Or.inr H4.out) HS2.out).mono ?_
   rintro e w4 ⟨rfl,hB4⟩
   have HW4:Hid (Below w.heap.size w w4):=QLh (HW2.out.trans (hB4.mono HBW.out));clear hB4
   go_wp2
   go_ret
   exact⟨rfl,HW4.out⟩
theorem hash_any(tag:ByteArray)(parts:List ByteArray)(a:Option Addr)(cap:Nat)(w:World)(h1:1<=tag.size)(h2:tag.size<=16)(hp:Txts w a parts)(hs:(partsL parts).length<=140737488355300):
  Calls Tryz.prog 45 #[.string tag,.slice a (len parts) cap] w λ e w'=>e=.returned (.string (hashP tag parts))/\Below w.heap.size w w':=by
 have HF:=QLh (frame_any tag parts a cap w h1 h2 hp hs);have HS:Hid (1<=(frameS tag parts).size/\(frameS tag parts).size<=140737488355328):=QLh (by rw[frameS_size];omega);clear h1 h2 hp hs
 go_enter Tryz.func45,Tryz.ntmps45
 go_wp2_with fail
 refine HF.out.mono ?_
 rintro e w1 ⟨rfl,hb1⟩
 have HB1:=QLh hb1;have t1:(frameS tag parts).toList.isEmpty=false:=fullT (by have:=HS.out;omega);clear hb1
 go_wp2_with fail
 refine(sha_any (frameS tag parts) w1 (by have:=HS.out;omega)).mono ?_
 rintro e w2 ⟨rfl,hb2⟩
 have HB2:Hid (Below w.heap.size w w2):=QLh (bnext HB1.out hb2);clear hb2
 go_wp2
 go_ret
 exact⟨rfl,HB2.out⟩
def NodeAt(b:Nat)(d:ByteArray)(k0 k1:Option Addr)(w:World):Prop:=w.heap[b]?=some (.cells #[.string d,.pointer k0,.pointer k1] 118 (0,0))
theorem NodeAt.below{b:Nat}{d:ByteArray}{k0 k1:Option Addr}{w w':World}(h:NodeAt b d k0 k1 w)(hb:Below w.heap.size w w'):NodeAt b d k0 k1 w':=(hb.block _ (lt_of_block h)).trans h
theorem NodeAt.digest{b:Nat}{d:ByteArray}{k0 k1:Option Addr}{w:World}(h:NodeAt b d k0 k1 w):w.cell? ⟨b,0,none⟩=some (.string d):=by rw[block_cell h];rfl
def LeafIs(d:ByteArray)(w:World)(e:Ending)(w':World):Prop:=∃b,e=.returned (.pointer (some ⟨b,0,none⟩))/\w.heap.size<=b/\NodeAt b d none none w'/\Below w.heap.size w w'
theorem txts_cells{w:World}{g:Nat}{cs:Array Value}{t:TypeId}{fr:Nat × Nat}(h:w.heap[g]?=some (.cells cs t fr))(l:List ByteArray)(hl:∀i,i<len l->cs[i]?=some (.string (tth l i))):Txts w (some ⟨g,0,none⟩) l:=λ i hi=>⟨g,0,rfl,by rw[block_cell h,Nat.zero_add];exact hl i hi⟩
theorem leaf_node(s:ByteArray)(w:World)(hs:s.size<=140737488355200):Calls Tryz.prog 94 #[.string s] w (LeafIs (hashP leafT [s]) w):=by
 have HS:=QLh hs;clear hs
 go_enter Tryz.func94,Tryz.ntmps94
 go_wp2_with fail
 have hw1:Txts (w.alloc (.cells #[.string s] 9)) (some ⟨w.heap.size,0,none⟩) [s]:=txts_cells (heap_alloc_new _ _) [s] (λ i hi=>by
  have:i=0:=by have:i<1:=hi;omega
  subst this;rfl)
 refine(hash_any leafT [s] (some ⟨w.heap.size,0,none⟩) 1 _ (by decide) (by decide) hw1 (by have:=HS.out;show((partL s)++[]).length<=_;rw[List.append_nil,partL_len];omega)).mono ?_
 rintro e w2 ⟨rfl,hb2⟩
 have HB2:Hid (Below w.heap.size w w2):=QLh (bnext (balloc (Below.refl _ _) _) hb2);clear hb2 hw1
 obtain⟨H,hH⟩:∃H,hashP leafT [s]=H:=⟨_,rfl⟩
 rw[hH]
 go_wp2
 go_ret
 exact⟨w2.heap.size,rfl,HB2.out.size,by rw[hH];exact heap_alloc_new _ _,balloc HB2.out _⟩
def OverIs(d:ByteArray)(b0 b1:Nat)(w:World)(e:Ending)(w':World):Prop:=∃b,e=.returned (.pointer (some ⟨b,0,none⟩))/\w.heap.size<=b/\NodeAt b d (some ⟨b0,0,none⟩) (some ⟨b1,0,none⟩) w'/\Below w.heap.size w w'
theorem over_any(b0 b1:Nat)(d0 d1:ByteArray)(w:World)(h0:w.cell? ⟨b0,0,none⟩=some (.string d0))(h1:w.cell? ⟨b1,0,none⟩=some (.string d1))(hs:d0.size<=70000000000000/\d1.size<=70000000000000):
  Calls Tryz.prog 92 #[.pointer (some ⟨b0,0,none⟩),.pointer (some ⟨b1,0,none⟩)] w (OverIs (hashP nodeT [d0,d1]) b0 b1 w):=by
 obtain⟨H,hH⟩:∃H,hashP nodeT [d0,d1]=H:=⟨_,rfl⟩
 rw[hH]
 have HH:Hid (∀(g:Nat) (wv:World),wv.heap[g]?=some (.cells #[.string d0,.string d1] 9 (0,0))->Calls Tryz.prog 45 #[.string ⟨#[110,111,100,101]⟩,.slice (some ⟨g,0,none⟩) 2 2] wv λ e w'=>e=.returned (.string H)/\Below wv.heap.size wv w'):=QLh (λ g wv hg=>by
  rw[<-hH]
  refine hash_any nodeT [d0,d1] (some ⟨g,0,none⟩) 2 wv (by decide) (by decide) (txts_cells hg [d0,d1] (λ i hi=>by
   have:i=0 \/ i=1:=by have:i<2:=hi;omega
   rcases this with rfl | rfl <;> rfl)) ?_
  show((partL d0)++((partL d1)++[])).length<=_
  rw[List.append_nil,List.length_append,partL_len,partL_len]
  omega)
 have c0:=h0;have c1:=h1;clear hH h0 h1 hs
 go_enter Tryz.func92,Tryz.ntmps92
 go_upto_region 1 with fail
 refine wp_region_tail 15 1000 (none) (phis [λ u _=>u=(.pointer (some ⟨b0,0,none⟩)),λ u _=>u=(.pointer (some ⟨b0,0,none⟩)),λ u _=>u=(.pointer (some ⟨b0,0,none⟩)),λ u _=>u=(.string d0),λ u _=>u=(.pointer (some ⟨b1,0,none⟩)),λ u _=>u=(.pointer (some ⟨b1,0,none⟩)),λ u _=>u=(.pointer (some ⟨b1,0,none⟩)),λ u _=>u=(.string d1),λ u w'=>∃g,u=.slice (some ⟨g,0,none⟩) 2 2/\w'.heap[g]?=some (.cells #[.string d0,.string d1] 9 (0,0)),λ u _=>u=(.string H),λ u _=>u=(.pointer (some ⟨b0,0,none⟩)),λ u _=>u=(.pointer (some ⟨b1,0,none⟩)),λ u _=>u=(.agg #[.pointer (some ⟨b0,0,none⟩),.pointer (some ⟨b1,0,none⟩)]),λ u _=>u=(.agg #[.string H,.pointer (some ⟨b0,0,none⟩),.pointer (some ⟨b1,0,none⟩)]),λ u w'=>∃g,u=.pointer (some ⟨g,0,none⟩)/\w.heap.size<=g/\NodeAt g H (some ⟨b0,0,none⟩) (some ⟨b1,0,none⟩) w']) rfl (by kernel_rfl) (by kernel_rfl) (mono_of ⟨mono_eq,mono_eq,mono_eq,mono_eq,mono_eq,mono_eq,mono_eq,mono_eq,?m8,mono_eq,mono_eq,mono_eq,mono_eq,mono_eq,?m14,trivial⟩) (steps_of 15 ⟨?s0,?s1,?s2,?s3,?s4,?s5,?s6,?s7,?s8,?s9,?s10,?s11,?s12,?s13,?s14,trivial⟩) ?_
 case m8=>
  exact⟨λ u w1 w' h ⟨b,h1,hb⟩=>⟨b,h1,ext_block h hb⟩,λ _ u w1 w' h ⟨b,h1,hb⟩=>⟨b,h1,extB_block h (by simp) hb⟩⟩
 case m14=>
  exact⟨λ u w1 w' h ⟨b,h1,h2,hb⟩=>⟨b,h1,h2,ext_block h hb⟩,λ _ u w1 w' h ⟨b,h1,h2,hb⟩=>⟨b,h1,h2,extB_block h (by simp) hb⟩⟩
 case s0=>
  refine qV (λ _=>rfl) rfl λ av wv hE hO hD=>?_
  simp[go_sem,qF av 0 (.pointer (some ⟨b0,0,none⟩)) (hO.2.2 0 rfl)]
 case s1=>
  refine qV (λ _=>rfl) rfl λ av wv hE hO hD=>?_
  simp[go_sem,qE (hD.1 rfl _ rfl)]
 case s2=>
  refine qV (λ _=>rfl) rfl λ av wv hE hO hD=>?_
  simp[go_sem,qE (hD.1 rfl _ rfl)]
 case s3=>
  refine qV (λ _=>rfl) rfl λ av wv hE hO hD=>?_
  simp[go_sem,qE (hD.1 rfl _ rfl),extB_cell hE (by simp) c0,extB_cell hE (by simp) c1]
 case s4=>
  refine qV (λ _=>rfl) rfl λ av wv hE hO hD=>?_
  simp[go_sem,qF av 1 (.pointer (some ⟨b1,0,none⟩)) (hO.2.2 1 rfl)]
 case s5=>
  refine qV (λ _=>rfl) rfl λ av wv hE hO hD=>?_
  simp[go_sem,qE (hD.1 rfl _ rfl)]
 case s6=>
  refine qV (λ _=>rfl) rfl λ av wv hE hO hD=>?_
  simp[go_sem,qE (hD.1 rfl _ rfl)]
 case s7=>
  refine qV (λ _=>rfl) rfl λ av wv hE hO hD=>?_
  simp[go_sem,qE (hD.1 rfl _ rfl),extB_cell hE (by simp) c0,extB_cell hE (by simp) c1]
 case s8=>
  refine step_wp (λ av wv hE hS hO hD=>⟨rfl,?_⟩)
  have f8:=qE (hD.1 rfl _ rfl);have f12:=qE (hD.2.1 rfl _ rfl)
  refine wp_of_run (v:=.slice (some ⟨wv.heap.size,0,none⟩) 2 2) (w':=wv.alloc (.cells #[.string d0,.string d1] 9)) (by simp[go_sem,f8,f12]) ⟨_,rfl,es_of_ext (balloc (Ext_refl _) _),wv.heap.size,rfl,heap_alloc_new _ _⟩
 case s9=>
  refine step_wp (λ av wv hE hS hO hD=>⟨rfl,?_⟩)
  have d13:(λ u w'=>∃g,u=.slice (some ⟨g,0,none⟩) 2 2/\w'.heap[g]?=some (.cells #[.string d0,.string d1] 9 (0,0))) (av.eval (.tmp 13)) wv:=hD.1 rfl _ rfl
  obtain⟨g,h13,hg⟩:=d13
  have f13:=(ev_form av 13).symm.trans h13
  refine wp_of_call (v:=.string H) (by simp[go_sem,f13]) (HH.out g wv hg) (λ w2 hb=>⟨_,rfl,es_of_ext hb,rfl⟩)
 case s10=>
  refine qV (λ _=>rfl) rfl λ av wv hE hO hD=>?_
  simp[go_sem,qF av 0 (.pointer (some ⟨b0,0,none⟩)) (hO.2.2 0 rfl)]
 case s11=>
  refine qV (λ _=>rfl) rfl λ av wv hE hO hD=>?_
  simp[go_sem,qF av 1 (.pointer (some ⟨b1,0,none⟩)) (hO.2.2 1 rfl)]
 case s12=>
  refine qV (λ _=>rfl) rfl λ av wv hE hO hD=>?_
  simp[go_sem,qE (hD.1 rfl _ rfl),qE (hD.2.1 rfl _ rfl)]
 case s13=>
  refine qV (λ _=>rfl) rfl λ av wv hE hO hD=>?_
  simp[go_sem,qE (hD.1 rfl _ rfl),qE (hD.2.1 rfl _ rfl)]
 case s14=>
  refine step_wp (λ av wv hE hS hO hD=>⟨rfl,?_⟩)
  have f18:=qE (hD.1 rfl _ rfl)
  refine wp_of_run (v:=.pointer (some ⟨wv.heap.size,0,none⟩)) (w':=wv.alloc (.cells #[.string H,.pointer (some ⟨b0,0,none⟩),.pointer (some ⟨b1,0,none⟩)] 118)) (by simp[go_sem,f18]) ⟨_,rfl,es_of_ext (balloc (Ext_refl _) _),wv.heap.size,rfl,(by have:=hE.size;simp at this;omega),heap_alloc_new _ _⟩
 intro a' w' hE hO hall
 have hA:=act_of_outer (ds:=[5,6,7,8,9,10,11,12,13,14,15,16,17,18,19]) rfl hO (by kernel_rfl)
 obtain⟨j0,j1,j2,j3,j4,j5,j6,j7,j8,j9,j10,j11,j12,j13,j14,-⟩:=hall
 have e13:(λ u w'=>∃g,u=.slice (some ⟨g,0,none⟩) 2 2/\w'.heap[g]?=some (.cells #[.string d0,.string d1] 9 (0,0))) (a'.eval (.tmp 13)) w':=j8 _ rfl;have e19:(λ u w'=>∃g,u=.pointer (some ⟨g,0,none⟩)/\w.heap.size<=g/\NodeAt g H (some ⟨b0,0,none⟩) (some ⟨b1,0,none⟩) w') (a'.eval (.tmp 19)) w':=j14 _ rfl
 obtain⟨v13,hv13⟩:∃v,a'.eval (.tmp 13)=v:=⟨_,rfl⟩
 rw[hv13]at e13
 obtain⟨v19,hv19⟩:∃v,a'.eval (.tmp 19)=v:=⟨_,rfl⟩
 rw[hv19]at e19
 simp only[List.foldl_cons,List.foldl_nil,Act.put,List.setIfInBounds_toArray,List.set_cons_succ,List.set_cons_zero,qJ 5 (j0 _ rfl),qJ 6 (j1 _ rfl),qJ 7 (j2 _ rfl),qJ 8 (j3 _ rfl),qJ 9 (j4 _ rfl),qJ 10 (j5 _ rfl),qJ 11 (j6 _ rfl),qJ 12 (j7 _ rfl),hv13,qJ 14 (j9 _ rfl),qJ 15 (j10 _ rfl),qJ 16 (j11 _ rfl),qJ 17 (j12 _ rfl),qJ 18 (j13 _ rfl),hv19]at hA
 clear hO j8 j14 j0 j1 j2 j3 j4 j5 j6 j7 hv13 j9 j10 j11 j12 j13 hv19
 subst hA
 obtain⟨g,rfl,hg,hn⟩:=e19
 have HN:=QLh hn;have HG:=QLh hg;have HW:Hid (Below w.heap.size w w'):=QLh (of_drew hE);clear hn hg hE
 go_wp2
 go_ret
 exact⟨g,rfl,HG.out,HN.out,HW.out⟩
def PlaceIs(els:List ByteArray)(d:Nat):Nat->Nat->Nat->World->Prop
 | 0,k,b,w=>NodeAt b (plD els d 0 k) none none w
 | l+1,k,b,w=>∃b0 b1,NodeAt b (plD els d (l+1) k) (some ⟨b0,0,none⟩) (some ⟨b1,0,none⟩) w/\PlaceIs els d l (2 * k) b0 w/\PlaceIs els d l (2 * k+1) b1 w
theorem PlaceIs.below{els:List ByteArray}{d:Nat}:∀{l k b:Nat} {w w':World},PlaceIs els d l k b w->Below w.heap.size w w'->PlaceIs els d l k b w'
 | 0,_,_,_,_,h,hb=>NodeAt.below h hb
 | l+1,_,_,_,_,⟨b0,b1,h,h0,h1⟩,hb=>⟨b0,b1,h.below hb,h0.below hb,h1.below hb⟩
theorem PlaceIs.digest{els:List ByteArray}{d:Nat}:∀{l k b:Nat} {w:World},PlaceIs els d l k b w->w.cell? ⟨b,0,none⟩=some (.string (plD els d l k))
 | 0,_,_,_,h=>NodeAt.digest h
 | l+1,_,_,_,⟨b0,b1,h,_,_⟩=>h.digest
theorem PlaceIs.ext{els:List ByteArray}{d l k b:Nat}{w w':World}(h:PlaceIs els d l k b w)(hb:Ext w w'):PlaceIs els d l k b w':=h.below hb
theorem PlaceIs.extB{els:List ByteArray}{d l k b:Nat}{w w':World}(h:PlaceIs els d l k b w)(hb:ExtB none w w'):PlaceIs els d l k b w':=h.below (extB_none hb)
structure EnvT(els:List ByteArray)(d bF bD bE bN nb:Nat)(a:Option Addr)(cap:Nat)(w:World):Prop where
 f:w.heap[bF]?=some (.cells #[.func (.func 91) #[] #[.pointer (some ⟨bF,0,none⟩),.pointer (some ⟨bD,0,none⟩),.pointer (some ⟨bE,0,none⟩),.pointer (some ⟨bN,0,none⟩)]] 119 (0,0))
 d:w.heap[bD]?=some (.cells #[.int .i64 (d:Nat)] 3 (0,0))
 e:w.heap[bE]?=some (.cells #[.slice a (len els) cap] 36 (0,0))
 n:w.heap[bN]?=some (.cells #[.pointer (some ⟨nb,0,none⟩)] 115 (0,0))
 nb:NodeAt nb (hashP noneT []) none none w
 t:Txts w a els
theorem EnvT.below{els:List ByteArray}{d bF bD bE bN nb:Nat}{a:Option Addr}{cap:Nat}{w w':World}(h:EnvT els d bF bD bE bN nb a cap w)(hb:Below w.heap.size w w'):EnvT els d bF bD bE bN nb a cap w':=
 ⟨(hb.block _ (lt_of_block h.f)).trans h.f,(hb.block _ (lt_of_block h.d)).trans h.d,(hb.block _ (lt_of_block h.e)).trans h.e,(hb.block _ (lt_of_block h.n)).trans h.n,h.nb.below hb,h.t.below hb⟩
def AtIs(els:List ByteArray)(d l k:Nat)(w:World)(e:Ending)(w':World):Prop:=∃g,e=.returned (.pointer (some ⟨g,0,none⟩))/\PlaceIs els d l k g w'/\Below w.heap.size w w'
theorem turned_rev{k d:Nat}(hd:d<=16)(hk:k<2 ^ d):turnedZ (k:Nat) (d:Nat)=((revOf k d:Nat):Int):=by
 unfold turnedZ
 rw[if_pos]
 ·simp
 ·refine⟨by omega,by omega,?_⟩
  rw[Int.toNat_natCast,pow_cast]
  exact_mod_cast hk
theorem pow_le16{d:Nat}(hd:d<=16):2 ^ d<=65536:=Nat.pow_le_pow_right (by decide) hd
theorem at_zero(els:List ByteArray)(d bF bD bE bN nb:Nat)(a:Option Addr)(cap k:Nat)(w:World)(hd:d<=16)(hk:k<2 ^ d)(hn:len els<=65536)(hz:∀i,i<len els->(tth els i).size<=140737488355200)(h:EnvT els d bF bD bE bN nb a cap w):
  Calls Tryz.prog 91 #[.int .i64 0,.int .u64 k,.pointer (some ⟨bF,0,none⟩),.pointer (some ⟨bD,0,none⟩),.pointer (some ⟨bE,0,none⟩),.pointer (some ⟨bN,0,none⟩)] w (AtIs els d 0 k w):=by
 have H:=QLh h;have HK:Hid (k<65536):=QLh (Nat.lt_of_lt_of_le hk (pow_le16 hd));have HN:=QLh hn;have HZ:=QLh hz;have HEL:=QLh (element_any (k:Nat) (d:Nat) w (by omega) (by have:=HK.out;omega))
 rw[turned_rev hd hk]at HEL
 have cd:w.cell? ⟨bD,0,none⟩=some (.int .i64 (d:Nat)):=by rw[block_cell h.d];rfl
 have ce:w.cell? ⟨bE,0,none⟩=some (.slice a (len els) cap):=by rw[block_cell h.e];rfl
 have cn:w.cell? ⟨bN,0,none⟩=some (.pointer (some ⟨nb,0,none⟩)):=by rw[block_cell h.n];rfl
 have HPL:Hid (plD els d 0 k=if revOf k d<len els then hashP leafT [tth els (revOf k d)]else hashP noneT []):=QLh rfl;have HRL:Hid (revOf k d<65536):=QLh (Nat.lt_of_lt_of_le (revOf_lt k d) (pow_le16 hd))
 obtain⟨i,hi⟩:∃i,revOf k d=i:=⟨_,rfl⟩
 rw[hi]at HEL HPL HRL
 clear h hi hd hk hn hz
 go_enter Tryz.func91,Tryz.ntmps91
 go_wp2_with fail
 refine HEL.out.mono ?_
 rintro e w1 ⟨rfl,rfl⟩
 have HNB:=HN.out;have hil:=HRL.out
 by_cases hlt:i<len els
 ·have i1:(i:Int)<(len els:Nat):=by omega
  have i2:IntKind.u64.wrap ((len els:Nat):Int)=((len els:Nat):Int):=IntWalk.u64_in _ (by omega)
  obtain⟨pb,po,rfl,hpc⟩:=H.out.t i hlt
  obtain⟨x,hx⟩:∃x,tth els i=x:=⟨_,rfl⟩
  rw[hx]at hpc
  have HX:=QLh hx;clear hx
  go_wp2_with fail
  refine(leaf_node x w (by rw[<-HX.out];exact HZ.out i hlt)).mono ?_
  rintro e w2 ⟨g,rfl,hg,hn2,hb2⟩
  have HE2:Hid (PlaceIs els d 0 k g w2):=QLh (by
   show NodeAt g (plD els d 0 k) none none w2
   rw[HPL.out,if_pos hlt,HX.out];exact hn2)
  have HB2:=QLh hb2;clear hg hn2 hb2 hpc
  go_wp2
  go_ret
  exact⟨g,rfl,HE2.out,HB2.out⟩
 ·have i1:¬(i:Int)<(len els:Nat):=by omega
  have i2:IntKind.u64.wrap ((len els:Nat):Int)=((len els:Nat):Int):=IntWalk.u64_in _ (by omega);have HE2:Hid (PlaceIs els d 0 k nb w):=QLh (by
   show NodeAt nb (plD els d 0 k) none none w
   rw[HPL.out,if_neg hlt];exact H.out.nb)
  clear hlt
  go_wp2
  go_ret
  exact⟨nb,rfl,HE2.out,Below.refl _ _⟩
theorem at_step(els:List ByteArray)(d bF bD bE bN nb:Nat)(a:Option Addr)(cap l k:Nat)(w:World)(hd:l+1<=16)(hk:k<65536)(h:EnvT els d bF bD bE bN nb a cap w)
  (hr:∀(k':Nat) (wv:World),Below w.heap.size w wv->(k'=2 * k \/ k'=2 * k+1)->Calls Tryz.prog 91 #[.int .i64 (l:Nat),.int .u64 ((k':Nat):Int),.pointer (some ⟨bF,0,none⟩),.pointer (some ⟨bD,0,none⟩),.pointer (some ⟨bE,0,none⟩),.pointer (some ⟨bN,0,none⟩)] wv (AtIs els d l k' wv)):
  Calls Tryz.prog 91 #[.int .i64 ((l+1:Nat):Int),.int .u64 k,.pointer (some ⟨bF,0,none⟩),.pointer (some ⟨bD,0,none⟩),.pointer (some ⟨bE,0,none⟩),.pointer (some ⟨bN,0,none⟩)] w (AtIs els d (l+1) k w):=by
 have HR:=QLh hr;have K1:2 * k=2 * k \/ 2 * k=2 * k+1:=Or.inl rfl;have K2:2 * k+1=2 * k \/ 2 * k+1=2 * k+1:=Or.inr rfl;have cf:w.cell? ⟨bF,0,none⟩=some (.func (.func 91) #[] #[.pointer (some ⟨bF,0,none⟩),.pointer (some ⟨bD,0,none⟩),.pointer (some ⟨bE,0,none⟩),.pointer (some ⟨bN,0,none⟩)]):=by rw[block_cell h.f];rfl
 have l1:(0:Int)<((l+1:Nat):Int):=by omega
 have s1:IntKind.i64.wrap (l:Int)=(l:Int):=IntWalk.i64_in _ (by omega);have m1:IntKind.u64.wrap (2 * (k:Int))=2 * (k:Int):=IntWalk.u64_in _ (by omega);have m2:IntKind.u64.wrap (2 * (k:Int)+1)=2 * (k:Int)+1:=IntWalk.u64_in _ (by omega);clear hr h
 go_enter Tryz.func91,Tryz.ntmps91
 go_upto_region 2 with fail
 refine wp_region_tail 14 1000 (none) (phis [λ u _=>u=(.func (.func 91) #[] #[.pointer (some ⟨bF,0,none⟩),.pointer (some ⟨bD,0,none⟩),.pointer (some ⟨bE,0,none⟩),.pointer (some ⟨bN,0,none⟩)]),λ u _=>u=(.int .i64 ((l+1:Nat):Int)),λ u _=>u=(.int .i64 (l:Nat)),λ u _=>u=(.int .u64 k),λ u _=>u=(.int .u64 ((2 * k:Nat):Int)),λ u w'=>∃g,u=.pointer (some ⟨g,0,none⟩)/\PlaceIs els d l (2 * k) g w',λ u _=>u=(.func (.func 91) #[] #[.pointer (some ⟨bF,0,none⟩),.pointer (some ⟨bD,0,none⟩),.pointer (some ⟨bE,0,none⟩),.pointer (some ⟨bN,0,none⟩)]),λ u _=>u=(.int .i64 ((l+1:Nat):Int)),λ u _=>u=(.int .i64 (l:Nat)),λ u _=>u=(.int .u64 k),λ u _=>u=(.int .u64 ((2 * k:Nat):Int)),λ u _=>u=(.int .u64 ((2 * k+1:Nat):Int)),λ u w'=>∃g,u=.pointer (some ⟨g,0,none⟩)/\PlaceIs els d l (2 * k+1) g w',λ u w'=>∃g,u=.pointer (some ⟨g,0,none⟩)/\PlaceIs els d (l+1) k g w']) rfl (by kernel_rfl) (by kernel_rfl) (mono_of ⟨mono_eq,mono_eq,mono_eq,mono_eq,mono_eq,?m5,mono_eq,mono_eq,mono_eq,mono_eq,mono_eq,mono_eq,?m12,?m13,trivial⟩) (steps_of 14 ⟨?s0,?s1,?s2,?s3,?s4,?s5,?s6,?s7,?s8,?s9,?s10,?s11,?s12,?s13,trivial⟩) ?_
 case m5=>
  exact⟨λ u w1 w' h ⟨b,h1,hb⟩=>⟨b,h1,hb.ext h⟩,λ _ u w1 w' h ⟨b,h1,hb⟩=>⟨b,h1,hb.extB h⟩⟩
 case m12=>
  exact⟨λ u w1 w' h ⟨b,h1,hb⟩=>⟨b,h1,hb.ext h⟩,λ _ u w1 w' h ⟨b,h1,hb⟩=>⟨b,h1,hb.extB h⟩⟩
 case m13=>
  exact⟨λ u w1 w' h ⟨b,h1,hb⟩=>⟨b,h1,hb.ext h⟩,λ _ u w1 w' h ⟨b,h1,hb⟩=>⟨b,h1,hb.extB h⟩⟩
 case s0=>
  refine qV (λ _=>rfl) rfl λ av wv hE hO hD=>?_
  simp[go_sem,qF av 2 (.pointer (some ⟨bF,0,none⟩)) (hO.2.2 2 rfl),extB_cell hE (by simp) cf,s1,m1,m2]
 case s1=>
  refine qV (λ _=>rfl) rfl λ av wv hE hO hD=>?_
  simp[go_sem,qF av 0 (.int .i64 ((l+1:Nat):Int)) (hO.2.2 0 rfl),s1,m1,m2]
 case s2=>
  refine qV (λ _=>rfl) rfl λ av wv hE hO hD=>?_
  simp[go_sem,qE (hD.1 rfl _ rfl),s1,m1,m2]
 case s3=>
  refine qV (λ _=>rfl) rfl λ av wv hE hO hD=>?_
  simp[go_sem,qF av 1 (.int .u64 k) (hO.2.2 1 rfl),s1,m1,m2]
 case s4=>
  refine qV (λ _=>rfl) rfl λ av wv hE hO hD=>?_
  simp[go_sem,qE (hD.1 rfl _ rfl),s1,m1,m2]
 case s5=>
  refine step_wp (λ av wv hE hS hO hD=>⟨rfl,?_⟩)
  have f12:=qE (hD.1 rfl _ rfl);have f14:=qE (hD.2.1 rfl _ rfl);have f16:=qE (hD.2.2.1 rfl _ rfl)
  refine wp_of_callV (R:=λ u w2=>(∃g,u=.pointer (some ⟨g,0,none⟩)/\PlaceIs els d l (2 * k) g w2)/\Below wv.heap.size wv w2) (f:=91) (args:=#[.int .i64 (l:Nat),.int .u64 ((2 * k:Nat):Int),.pointer (some ⟨bF,0,none⟩),.pointer (some ⟨bD,0,none⟩),.pointer (some ⟨bE,0,none⟩),.pointer (some ⟨bN,0,none⟩)]) (by simp[go_sem,f12,f14,f16]) ((HR.out (2 * k) wv (of_drew hE) K1).mono (λ e w2 ⟨g,h1,h2,h3⟩=>⟨_,h1,⟨g,rfl,h2⟩,h3⟩)) (λ u w2 ⟨h1,h2⟩=>⟨_,rfl,es_of_ext h2,h1⟩)
 case s6=>
  refine qV (λ _=>rfl) rfl λ av wv hE hO hD=>?_
  simp[go_sem,qF av 2 (.pointer (some ⟨bF,0,none⟩)) (hO.2.2 2 rfl),extB_cell hE (by simp) cf,s1,m1,m2]
 case s7=>
  refine qV (λ _=>rfl) rfl λ av wv hE hO hD=>?_
  simp[go_sem,qF av 0 (.int .i64 ((l+1:Nat):Int)) (hO.2.2 0 rfl),s1,m1,m2]
 case s8=>
  refine qV (λ _=>rfl) rfl λ av wv hE hO hD=>?_
  simp[go_sem,qE (hD.1 rfl _ rfl),s1,m1,m2]
 case s9=>
  refine qV (λ _=>rfl) rfl λ av wv hE hO hD=>?_
  simp[go_sem,qF av 1 (.int .u64 k) (hO.2.2 1 rfl),s1,m1,m2]
 case s10=>
  refine qV (λ _=>rfl) rfl λ av wv hE hO hD=>?_
  simp[go_sem,qE (hD.1 rfl _ rfl),s1,m1,m2]
 case s11=>
  refine qV (λ _=>rfl) rfl λ av wv hE hO hD=>?_
  simp[go_sem,qE (hD.1 rfl _ rfl),s1,m1,m2]
 case s12=>
  refine step_wp (λ av wv hE hS hO hD=>⟨rfl,?_⟩)
  have f18:=qE (hD.1 rfl _ rfl);have f20:=qE (hD.2.1 rfl _ rfl);have f23:=qE (hD.2.2.1 rfl _ rfl)
  refine wp_of_callV (R:=λ u w2=>(∃g,u=.pointer (some ⟨g,0,none⟩)/\PlaceIs els d l (2 * k+1) g w2)/\Below wv.heap.size wv w2) (f:=91) (args:=#[.int .i64 (l:Nat),.int .u64 ((2 * k+1:Nat):Int),.pointer (some ⟨bF,0,none⟩),.pointer (some ⟨bD,0,none⟩),.pointer (some ⟨bE,0,none⟩),.pointer (some ⟨bN,0,none⟩)]) (by simp[go_sem,f18,f20,f23]) ((HR.out (2 * k+1) wv (of_drew hE) K2).mono (λ e w2 ⟨g,h1,h2,h3⟩=>⟨_,h1,⟨g,rfl,h2⟩,h3⟩)) (λ u w2 ⟨h1,h2⟩=>⟨_,rfl,es_of_ext h2,h1⟩)
 case s13=>
  refine step_wp (λ av wv hE hS hO hD=>⟨rfl,?_⟩)
  have d17:(λ u w'=>∃g,u=.pointer (some ⟨g,0,none⟩)/\PlaceIs els d l (2 * k) g w') (av.eval (.tmp 17)) wv:=hD.1 rfl _ rfl;have d24:(λ u w'=>∃g,u=.pointer (some ⟨g,0,none⟩)/\PlaceIs els d l (2 * k+1) g w') (av.eval (.tmp 24)) wv:=hD.2.1 rfl _ rfl
  obtain⟨g0,h17,hg0⟩:=d17
  obtain⟨g1,h24,hg1⟩:=d24
  have f17:=(ev_form av 17).symm.trans h17;have f24:=(ev_form av 24).symm.trans h24
  refine wp_of_callV (R:=λ u w2=>∃g,u=.pointer (some ⟨g,0,none⟩)/\NodeAt g (plD els d (l+1) k) (some ⟨g0,0,none⟩) (some ⟨g1,0,none⟩) w2/\Below wv.heap.size wv w2) (f:=92) (args:=#[.pointer (some ⟨g0,0,none⟩),.pointer (some ⟨g1,0,none⟩)]) (by simp[go_sem,f17,f24]) ((over_any g0 g1 (plD els d l (2 * k)) (plD els d l (2 * k+1)) wv hg0.digest hg1.digest ⟨by rw[plD_size];decide,by rw[plD_size];decide⟩).mono (λ e w2 ⟨g,h1,_,h2,h3⟩=>⟨_,h1,g,rfl,h2,h3⟩)) (λ u w2 ⟨g,h1,h2,h3⟩=>⟨_,rfl,es_of_ext h3,g,h1,g0,g1,h2,hg0.below h3,hg1.below h3⟩)
 intro a' w' hE hO hall
 have hA:=act_of_outer (ds:=[12,13,14,15,16,17,18,19,20,21,22,23,24,25]) rfl hO (by kernel_rfl)
 obtain⟨j0,j1,j2,j3,j4,j5,j6,j7,j8,j9,j10,j11,j12,j13,-⟩:=hall
 have e17:(λ u w'=>∃g,u=.pointer (some ⟨g,0,none⟩)/\PlaceIs els d l (2 * k) g w') (a'.eval (.tmp 17)) w':=j5 _ rfl;have e24:(λ u w'=>∃g,u=.pointer (some ⟨g,0,none⟩)/\PlaceIs els d l (2 * k+1) g w') (a'.eval (.tmp 24)) w':=j12 _ rfl;have e25:(λ u w'=>∃g,u=.pointer (some ⟨g,0,none⟩)/\PlaceIs els d (l+1) k g w') (a'.eval (.tmp 25)) w':=j13 _ rfl
 obtain⟨v17,hv17⟩:∃v,a'.eval (.tmp 17)=v:=⟨_,rfl⟩
 rw[hv17]at e17
 obtain⟨v24,hv24⟩:∃v,a'.eval (.tmp 24)=v:=⟨_,rfl⟩
 rw[hv24]at e24
 obtain⟨v25,hv25⟩:∃v,a'.eval (.tmp 25)=v:=⟨_,rfl⟩
 rw[hv25]at e25
 simp only[List.foldl_cons,List.foldl_nil,Act.put,List.setIfInBounds_toArray,List.set_cons_succ,List.set_cons_zero,qJ 12 (j0 _ rfl),qJ 13 (j1 _ rfl),qJ 14 (j2 _ rfl),qJ 15 (j3 _ rfl),qJ 16 (j4 _ rfl),hv17,qJ 18 (j6 _ rfl),qJ 19 (j7 _ rfl),qJ 20 (j8 _ rfl),qJ 21 (j9 _ rfl),qJ 22 (j10 _ rfl),qJ 23 (j11 _ rfl),hv24,hv25]at hA
 clear hO j5 j12 j13 j0 j1 j2 j3 j4 hv17 j6 j7 j8 j9 j10 j11 hv24 hv25
 subst hA
 obtain⟨g,rfl,hg⟩:=e25
 have HG:=QLh hg;have HW:Hid (Below w.heap.size w w'):=QLh (of_drew hE);clear hg hE e17 e24
 go_wp2
 go_ret
 exact⟨g,rfl,HG.out,HW.out⟩
theorem at_any(els:List ByteArray)(d bF bD bE bN nb:Nat)(a:Option Addr)(cap:Nat)(hd:d<=16)(hn:len els<=65536)(hz:∀i,i<len els->(tth els i).size<=140737488355200):
  ∀(l k:Nat) (w:World),l<=d->k<2 ^ (d - l)->EnvT els d bF bD bE bN nb a cap w->
  Calls Tryz.prog 91 #[.int .i64 (l:Nat),.int .u64 k,.pointer (some ⟨bF,0,none⟩),.pointer (some ⟨bD,0,none⟩),.pointer (some ⟨bE,0,none⟩),.pointer (some ⟨bN,0,none⟩)] w (AtIs els d l k w)
 | 0,k,w,_,hk,h=>at_zero els d bF bD bE bN nb a cap k w hd (by simpa using hk) hn hz h
 | l+1,k,w,hl,hk,h=>by
  have h2:2 ^ (d - (l+1))<=65536:=Nat.le_trans (Nat.pow_le_pow_right (by decide) (show d - (l+1)<=16 by omega)) (by decide)
  refine at_step els d bF bD bE bN nb a cap l k w (by omega) (by omega) h λ k' wv hb hk'=>?_
  refine at_any els d bF bD bE bN nb a cap hd hn hz l k' wv (by omega) ?_ (h.below hb)
  have:2 ^ (d - l)=2 * 2 ^ (d - (l+1)):=by rw[show d - l=(d - (l+1))+1 by omega,Nat.pow_succ];omega
  rcases hk' with rfl | rfl <;> omega
def depN(els:List ByteArray):Nat:=Lib.bitLen (len els - 1)
theorem depN_le{els:List ByteArray}(h:len els<=65536):depN els<=16:=(depth_bd (len els) h).1
theorem depthZ_len{els:List ByteArray}(h:len els<=65536):depthZ (len els:Nat)=((depN els:Nat):Int):=by
 unfold depthZ depN
 rw[if_neg (by omega),Int.toNat_natCast]
def TreeAt(els:List ByteArray)(b:Nat)(w:World):Prop:=∃p,w.heap[b]?=some (.cells #[.pointer (some ⟨p,0,none⟩),.int .i64 (depN els:Nat),.int .i64 (len els:Nat)] 124 (0,0))/\PlaceIs els (depN els) (depN els) 0 p w
theorem TreeAt.below{els:List ByteArray}{b:Nat}{w w':World}(h:TreeAt els b w)(hb:Below w.heap.size w w'):TreeAt els b w':=by
 obtain⟨p,h1,h2⟩:=h
 exact⟨p,(hb.block _ (lt_of_block h1)).trans h1,h2.below hb⟩
def BuildIs(els:List ByteArray)(w:World)(e:Ending)(w':World):Prop:=∃b,e=.returned (.tuple #[.pointer (some ⟨b,0,none⟩),.int .i64 0])/\w.heap.size<=b/\TreeAt els b w'/\Below w.heap.size w w'
theorem build_any(els:List ByteArray)(a:Option Addr)(cap:Nat)(w:World)(ht:Txts w a els)(hn:len els<=65536)(hz:∀i,i<len els->(tth els i).size<=140737488355200):
  Calls Tryz.prog 42 #[.slice a (len els) cap] w (BuildIs els w):=by
 have HT:=QLh ht;have HN:=QLh hn;have HZ:=QLh hz
 obtain⟨d,hd⟩:∃d,depN els=d:=⟨_,rfl⟩
 have HDD:=QLh hd;have HD16:Hid (d<=16):=QLh (by rw[<-hd];exact depN_le hn);have HDZ:Hid (depthZ (len els:Nat)=((d:Nat):Int)):=QLh (by rw[<-hd];exact depthZ_len hn);have n1:¬(65536:Int)<(len els:Nat):=by omega
 clear ht hz hd
 go_enter Tryz.func42,Tryz.ntmps42
 go_wp2_with fail
 refine(depth_any (len els:Nat) _ (by omega) (by omega)).mono ?_
 rintro e w1 ⟨rfl,rfl⟩
 rw[HDZ.out]
 clear n1 hn
 go_wp2_with fail
 obtain⟨bE,hbE⟩:∃bE,w.heap.size=bE:=⟨_,rfl⟩
 obtain⟨bD,hbD⟩:∃bD,w.heap.size+1=bD:=⟨_,rfl⟩
 rw[hbD,hbE]
 obtain⟨V,hV⟩:∃V,(w.alloc (.cells #[.slice a (len els) cap] 36)).alloc (.cells #[.int .i64 (d:Nat)] 3)=V:=⟨_,rfl⟩
 rw[hV]
 have HVE:Hid (V.heap[bE]?=some (.cells #[.slice a (len els) cap] 36 (0,0))):=QLh (by rw[<-hV];exact block_alloc (alloc_new_at _ hbE) _);have HVD:Hid (V.heap[bD]?=some (.cells #[.int .i64 (d:Nat)] 3 (0,0))):=QLh (by rw[<-hV];exact alloc_new_at _ (by rw[alloc_size _ rfl];exact hbD));have HVW:Hid (Below w.heap.size w V):=QLh (by rw[<-hV];exact balloc (balloc (Below.refl _ _) _) _);clear hV hbE hbD
 refine(hash_any noneT [] none 0 V (by decide) (by decide) (Txts.nil _ _) (by decide)).mono ?_
 rintro e w2 ⟨rfl,hb2⟩
 have H2E:Hid (w2.heap[bE]?=some (.cells #[.slice a (len els) cap] 36 (0,0))):=QLh ((hb2.block _ (lt_of_block HVE.out)).trans HVE.out);have H2D:Hid (w2.heap[bD]?=some (.cells #[.int .i64 (d:Nat)] 3 (0,0))):=QLh ((hb2.block _ (lt_of_block HVD.out)).trans HVD.out);have H2W:Hid (Below w.heap.size w w2):=QLh (bnext HVW.out hb2)
 obtain⟨Hn,hHn⟩:∃Hn,hashP noneT []=Hn:=⟨_,rfl⟩
 rw[hHn]
 have HHN:=QLh hHn;clear hb2 hHn HVE HVD HVW
 go_upto_region 7 with fail
 obtain⟨nb,hnb⟩:∃nb,w2.heap.size=nb:=⟨_,rfl⟩
 obtain⟨bN,hbN⟩:∃bN,w2.heap.size+1=bN:=⟨_,rfl⟩
 obtain⟨bF,hbF⟩:∃bF,w2.heap.size+1+1=bF:=⟨_,rfl⟩
 rw[hbF,hbN,hnb]
 obtain⟨U,hU⟩:∃U,(((w2.alloc (.cells #[.string Hn,.pointer none,.pointer none] 118)).alloc (.cells #[.pointer (some ⟨nb,0,none⟩)] 115)).alloc (.cells #[.func (.func 91) #[] #[.pointer (some ⟨bF,0,none⟩),.pointer (some ⟨bD,0,none⟩),.pointer (some ⟨bE,0,none⟩),.pointer (some ⟨bN,0,none⟩)]] 119))=U:=⟨_,rfl⟩
 rw[hU]
 have HEN:Hid (EnvT els d bF bD bE bN nb a cap U):=QLh (by
  have hbw:Below w.heap.size w U:=by rw[<-hU];exact balloc (balloc (balloc H2W.out _) _) _
  refine⟨?_,?_,?_,?_,?_,HT.out.below hbw⟩
  ·rw[<-hU];exact alloc_new_at _ (by rw[alloc_size _ (alloc_size _ rfl)];exact hbF)
  ·rw[<-hU];exact block_alloc (block_alloc (block_alloc H2D.out _) _) _
  ·rw[<-hU];exact block_alloc (block_alloc (block_alloc H2E.out _) _) _
  ·rw[<-hU];exact block_alloc (alloc_new_at _ (by rw[alloc_size _ rfl];exact hbN)) _
  ·rw[<-hU,HHN.out];exact block_alloc (block_alloc (alloc_new_at _ hnb) _) _)
 have HUW:Hid (Below w.heap.size w U):=QLh (by rw[<-hU];exact balloc (balloc (balloc H2W.out _) _) _);have HVS:Hid (w.heap.size<=U.heap.size):=QLh HUW.out.size;have HA:Hid (∀wv:World,Below U.heap.size U wv->Calls Tryz.prog 91 #[.int .i64 (d:Nat),.int .u64 0,.pointer (some ⟨bF,0,none⟩),.pointer (some ⟨bD,0,none⟩),.pointer (some ⟨bE,0,none⟩),.pointer (some ⟨bN,0,none⟩)] wv (AtIs els d d 0 wv)):=QLh (λ wv hb=>at_any els d bF bD bE bN nb a cap HD16.out HN.out HZ.out d 0 wv (Nat.le_refl _) (Nat.two_pow_pos _) (HEN.out.below hb));have cf:U.cell? ⟨bF,0,none⟩=some (.func (.func 91) #[] #[.pointer (some ⟨bF,0,none⟩),.pointer (some ⟨bD,0,none⟩),.pointer (some ⟨bE,0,none⟩),.pointer (some ⟨bN,0,none⟩)]):=by rw[block_cell HEN.out.f];rfl
 have cd:U.cell? ⟨bD,0,none⟩=some (.int .i64 (d:Nat)):=by rw[block_cell HEN.out.d];rfl
 have ce:U.cell? ⟨bE,0,none⟩=some (.slice a (len els) cap):=by rw[block_cell HEN.out.e];rfl
 clear hU hnb hbN hbF H2D H2E H2W
 refine wp_region_tail 8 1000 (none) (phis [λ u _=>u=(.func (.func 91) #[] #[.pointer (some ⟨bF,0,none⟩),.pointer (some ⟨bD,0,none⟩),.pointer (some ⟨bE,0,none⟩),.pointer (some ⟨bN,0,none⟩)]),λ u _=>u=(.int .i64 (d:Nat)),λ u w'=>∃g,u=.pointer (some ⟨g,0,none⟩)/\PlaceIs els d d 0 g w',λ u _=>u=(.int .i64 (d:Nat)),λ u _=>u=(.slice a (len els) cap),λ u _=>u=(.int .i64 (len els)),λ u w'=>∃g,u=.agg #[.pointer (some ⟨g,0,none⟩),.int .i64 (d:Nat),.int .i64 (len els)]/\PlaceIs els d d 0 g w',λ u w'=>∃b,u=.pointer (some ⟨b,0,none⟩)/\w.heap.size<=b/\TreeAt els b w']) rfl (by kernel_rfl) (by kernel_rfl) (mono_of ⟨mono_eq,mono_eq,?m2,mono_eq,mono_eq,mono_eq,?m6,?m7,trivial⟩) (steps_of 8 ⟨?s0,?s1,?s2,?s3,?s4,?s5,?s6,?s7,trivial⟩) ?_
 case m2=>
  exact⟨λ u w1 w' h ⟨b,h1,hb⟩=>⟨b,h1,hb.ext h⟩,λ _ u w1 w' h ⟨b,h1,hb⟩=>⟨b,h1,hb.extB h⟩⟩
 case m6=>
  exact⟨λ u w1 w' h ⟨b,h1,hb⟩=>⟨b,h1,hb.ext h⟩,λ _ u w1 w' h ⟨b,h1,hb⟩=>⟨b,h1,hb.extB h⟩⟩
 case m7=>
  exact⟨λ u w1 w' h ⟨b,h1,h2,hb⟩=>⟨b,h1,h2,hb.below h⟩,λ _ u w1 w' h ⟨b,h1,h2,hb⟩=>⟨b,h1,h2,hb.below (extB_none h)⟩⟩
 case s0=>
  refine qV (λ _=>rfl) rfl λ av wv hE hO hD=>?_
  simp[go_sem,qF av 6 (.pointer (some ⟨bF,0,none⟩)) (hO.2.2 6 rfl),extB_cell hE (by simp) cf,extB_cell hE (by simp) cd,extB_cell hE (by simp) ce]
 case s1=>
  refine qV (λ _=>rfl) rfl λ av wv hE hO hD=>?_
  simp[go_sem,qF av 4 (.pointer (some ⟨bD,0,none⟩)) (hO.2.2 4 rfl),extB_cell hE (by simp) cf,extB_cell hE (by simp) cd,extB_cell hE (by simp) ce]
 case s2=>
  refine step_wp (λ av wv hE hS hO hD=>⟨rfl,?_⟩)
  have f17:=qE (hD.1 rfl _ rfl);have f18:=qE (hD.2.1 rfl _ rfl)
  refine wp_of_callV (R:=λ u w2=>(∃g,u=.pointer (some ⟨g,0,none⟩)/\PlaceIs els d d 0 g w2)/\Below wv.heap.size wv w2) (f:=91) (args:=#[.int .i64 (d:Nat),.int .u64 0,.pointer (some ⟨bF,0,none⟩),.pointer (some ⟨bD,0,none⟩),.pointer (some ⟨bE,0,none⟩),.pointer (some ⟨bN,0,none⟩)]) (by simp[go_sem,f17,f18]) ((HA.out wv (of_drew hE)).mono (λ e w2 ⟨g,h1,h2,h3⟩=>⟨_,h1,⟨g,rfl,h2⟩,h3⟩)) (λ u w2 ⟨h1,h2⟩=>⟨_,rfl,es_of_ext h2,h1⟩)
 case s3=>
  refine qV (λ _=>rfl) rfl λ av wv hE hO hD=>?_
  simp[go_sem,qF av 4 (.pointer (some ⟨bD,0,none⟩)) (hO.2.2 4 rfl),extB_cell hE (by simp) cf,extB_cell hE (by simp) cd,extB_cell hE (by simp) ce]
 case s4=>
  refine qV (λ _=>rfl) rfl λ av wv hE hO hD=>?_
  simp[go_sem,qF av 1 (.pointer (some ⟨bE,0,none⟩)) (hO.2.2 1 rfl),extB_cell hE (by simp) cf,extB_cell hE (by simp) cd,extB_cell hE (by simp) ce]
 case s5=>
  refine qV (λ _=>rfl) rfl λ av wv hE hO hD=>?_
  simp[go_sem,qE (hD.1 rfl _ rfl)]
 case s6=>
  refine step_wp (λ av wv hE hS hO hD=>⟨rfl,?_⟩)
  have d19:(λ u w'=>∃g,u=.pointer (some ⟨g,0,none⟩)/\PlaceIs els d d 0 g w') (av.eval (.tmp 19)) wv:=hD.1 rfl _ rfl;have f20:=qE (hD.2.1 rfl _ rfl);have f22:=qE (hD.2.2.1 rfl _ rfl)
  obtain⟨g,h19,hg⟩:=d19
  have f19:=(ev_form av 19).symm.trans h19
  exact wp_of_run (v:=.agg #[.pointer (some ⟨g,0,none⟩),.int .i64 (d:Nat),.int .i64 (len els)]) (by simp[go_sem,f19,f20,f22]) ⟨_,rfl,es_of_ext (Ext_refl _),g,rfl,hg⟩
 case s7=>
  refine step_wp (λ av wv hE hS hO hD=>⟨rfl,?_⟩)
  have d23:(λ u w'=>∃g,u=.agg #[.pointer (some ⟨g,0,none⟩),.int .i64 (d:Nat),.int .i64 (len els)]/\PlaceIs els d d 0 g w') (av.eval (.tmp 23)) wv:=hD.1 rfl _ rfl
  obtain⟨g,h23,hg⟩:=d23
  have f23:=(ev_form av 23).symm.trans h23
  refine wp_of_run (v:=.pointer (some ⟨wv.heap.size,0,none⟩)) (w':=wv.alloc (.cells #[.pointer (some ⟨g,0,none⟩),.int .i64 (d:Nat),.int .i64 (len els)] 124)) (by simp[go_sem,f23]) ⟨_,rfl,es_of_ext (balloc (Ext_refl _) _),wv.heap.size,rfl,(by have:=hE.size;have:=HVS.out;simp at *;omega),g,?_,?_⟩
  ·rw[HDD.out];exact heap_alloc_new _ _
  ·rw[HDD.out];exact hg.below (balloc (Below.refl _ _) _)
 intro a' w' hE hO hall
 have hA:=act_of_outer (ds:=[17,18,19,20,21,22,23,24]) rfl hO (by kernel_rfl)
 obtain⟨j0,j1,j2,j3,j4,j5,j6,j7,-⟩:=hall
 have e19:(λ u w'=>∃g,u=.pointer (some ⟨g,0,none⟩)/\PlaceIs els d d 0 g w') (a'.eval (.tmp 19)) w':=j2 _ rfl;have e23:(λ u w'=>∃g,u=.agg #[.pointer (some ⟨g,0,none⟩),.int .i64 (d:Nat),.int .i64 (len els)]/\PlaceIs els d d 0 g w') (a'.eval (.tmp 23)) w':=j6 _ rfl;have e24:(λ u w'=>∃b,u=.pointer (some ⟨b,0,none⟩)/\w.heap.size<=b/\TreeAt els b w') (a'.eval (.tmp 24)) w':=j7 _ rfl
 obtain⟨v19,hv19⟩:∃v,a'.eval (.tmp 19)=v:=⟨_,rfl⟩
 rw[hv19]at e19
 obtain⟨v23,hv23⟩:∃v,a'.eval (.tmp 23)=v:=⟨_,rfl⟩
 rw[hv23]at e23
 obtain⟨v24,hv24⟩:∃v,a'.eval (.tmp 24)=v:=⟨_,rfl⟩
 rw[hv24]at e24
 simp only[List.foldl_cons,List.foldl_nil,Act.put,List.setIfInBounds_toArray,List.set_cons_succ,List.set_cons_zero,qJ 17 (j0 _ rfl),qJ 18 (j1 _ rfl),hv19,qJ 20 (j3 _ rfl),qJ 21 (j4 _ rfl),qJ 22 (j5 _ rfl),hv23,hv24]at hA
 clear hO j2 j6 j7 j0 j1 hv19 j3 j4 j5 hv23 hv24
 subst hA
 obtain⟨g,rfl,hg,ht⟩:=e24
 have HG:Hid (w.heap.size<=g):=QLh hg;have HT2:=QLh ht;have HW:Hid (Below w.heap.size w w'):=QLh (bnext HUW.out (of_drew hE));clear hg ht hE e19 e23
 go_wp2
 go_ret2
 exact⟨g,rfl,HG.out,HT2.out,HW.out⟩
theorem root_any(els:List ByteArray)(b:Nat)(w:World)(h:TreeAt els b w):Calls Tryz.prog 43 #[.pointer (some ⟨b,0,none⟩)] w λ e w'=>e=.returned (.string (plD els (depN els) (depN els) 0))/\w=w':=by
 obtain⟨p,h1,h2⟩:=h
 have c0:w.cell? ⟨b,0,none⟩=some (.pointer (some ⟨p,0,none⟩)):=by rw[block_cell h1];rfl
 have c1:=h2.digest;clear h1 h2
 go_enter Tryz.func43,Tryz.ntmps43
 go_wp2
 go_ret
 exact⟨rfl,rfl⟩
theorem tdepth_any(els:List ByteArray)(b:Nat)(w:World)(h:TreeAt els b w):Calls Tryz.prog 66 #[.pointer (some ⟨b,0,none⟩)] w λ e w'=>e=.returned (.int .i64 (depN els:Nat))/\w=w':=by
 obtain⟨p,h1,h2⟩:=h
 have c0:w.cell? ⟨b,1,none⟩=some (.int .i64 (depN els:Nat)):=by rw[block_cell h1];rfl
 clear h1 h2
 go_enter Tryz.func66,Tryz.ntmps66
 go_wp2
 go_ret
 exact⟨rfl,rfl⟩
theorem tlen_any(els:List ByteArray)(b:Nat)(w:World)(h:TreeAt els b w):Calls Tryz.prog 99 #[.pointer (some ⟨b,0,none⟩)] w λ e w'=>e=.returned (.int .i64 (len els:Nat))/\w=w':=by
 obtain⟨p,h1,h2⟩:=h
 have c0:w.cell? ⟨b,2,none⟩=some (.int .i64 (len els:Nat)):=by rw[block_cell h1];rfl
 clear h1 h2
 go_enter Tryz.func99,Tryz.ntmps99
 go_wp2
 go_ret
 exact⟨rfl,rfl⟩
theorem mem_flatFrom:∀(s:Nat) (rs:List (List Int)) (x:Int × Int),x ∈ flatFrom s rs->∃j,j<rs.length/\∃k ∈ rnth rs j,x=(((s+j:Nat):Int),k)
 | _,[],x,h=>by simp[flatFrom]at h
 | s,r :: rs,x,h=>by
  rw[flatFrom,List.mem_append]at h
  rcases h with h | h
  ·obtain⟨k,hk,rfl⟩:=List.mem_map.1 h
   exact⟨0,by simp,k,by simpa [rnth] using hk,rfl⟩
  ·obtain⟨j,hj,k,hk,rfl⟩:=mem_flatFrom (s+1) rs x h
   refine⟨j+1,by simp;omega,k,by simpa [rnth] using hk,?_⟩
   rw[show s+1+j=s+(j+1)by omega]
theorem sib_bd{k:Int}{e:Nat}(h0:0<=k)(h1:k<2 ^ (e+1)):0<=sib k/\sib k<2 ^ (e+1):=by
 have h2:(2:Int) ^ (e+1)=2 * 2 ^ e:=by rw[Int.pow_succ];omega
 rw[h2]at h1 ⊢
 generalize (2:Int) ^ e=p at h1 ⊢
 unfold sib
 split <;> omega
theorem half_bd{y:Int}{d i:Nat}(h0:0<=y)(h1:y<2 ^ d)(hi:i<=d):0<=y / 2 ^ i/\y / 2 ^ i<2 ^ (d - i):=by
 obtain⟨n,rfl⟩:=Int.eq_ofNat_of_zero_le h0
 rw[pow_cast]at h1
 have h3:n<2 ^ d:=by exact_mod_cast h1
 have h4:n / 2 ^ i<2 ^ (d - i):=by
  apply Nat.div_lt_of_lt_mul
  rw[<-Nat.pow_add,show i+(d - i)=d by omega]
  exact h3
 rw[pow_cast,pow_cast]
 constructor
 ·exact Int.ediv_nonneg h0 (Int.natCast_nonneg _)
 ·exact_mod_cast h4
theorem plc_bd{leaves:List Int}{d:Nat}(hd:d<=16)(h:∀y ∈ leaves,0<=y/\y<2 ^ d):∀x ∈ flatLv (needsL leaves (d:Nat)),∃i k:Nat,x=((i:Int),(k:Int))/\i<d/\k<2 ^ (d - i):=by
 intro x hx
 obtain⟨i,hi,k,hk,rfl⟩:=mem_flatFrom 0 _ x hx
 unfold needsL at hi hk
 split at hi
 ·rename_i hc
  rw[if_pos hc,Int.toNat_natCast]at hk
  rw[Int.toNat_natCast]at hi
  unfold rowsOf at hi hk
  rw[List.length_map,List.length_range]at hi
  rw[rnth_eq _ i (by simpa using hi)]at hk
  simp only[List.getElem_map,List.getElem_range]at hk
  unfold rowK at hk
  rw[srt_mem,needK_mem]at hk
  obtain⟨⟨j,hj,rfl⟩,_⟩:=hk
  rw[(insAll_all _).2.1,List.mem_map]at hj
  obtain⟨y,hy,rfl⟩:=hj
  have h1:=half_bd (h y hy).1 (h y hy).2 (Nat.le_of_lt hi)
  obtain⟨e,he⟩:∃e,d - i=e+1:=⟨d - i - 1,by omega⟩
  rw[he]at h1
  have h2:=sib_bd h1.1 h1.2
  refine⟨i,(sib (y / 2 ^ i)).toNat,?_,hi,?_⟩
  ·rw[Int.toNat_of_nonneg h2.1,Nat.zero_add]
  ·rw[he]
   have h3:=h2.2
   rw[pow_cast]at h3
   exact(Int.toNat_lt h2.1).2 h3
 ·simp at hi
theorem leaves_in{l:List Int}{d:Nat}(hd:d<=16):∀y ∈ leavesL l (d:Nat),0<=y/\y<2 ^ d:=by
 intro y hy
 obtain⟨k,_,rfl⟩:=List.mem_map.1 hy
 unfold turnedZ
 split
 ·have:=revOf_lt k.toNat ((d:Nat):Int).toNat
  rw[Int.toNat_natCast]at this ⊢
  rw[pow_cast]
  omega
 ·rw[pow_cast]
  have:=Nat.two_pow_pos d
  omega
def dgsL(els:List ByteArray)(L:List (Int × Int)):List ByteArray:=L.map λ x=>plD els (depN els) x.1.toNat x.2.toNat
theorem dgsL_snoc(els:List ByteArray)(L:List (Int × Int))(x:Int × Int):dgsL els (L++[x])=dgsL els L++[plD els (depN els) x.1.toNat x.2.toNat]:=by unfold dgsL;rw[List.map_append];rfl
theorem row_litE{ks l m:List Int}(h:needK ks=l)(hm:m.Pairwise (λ x y=>x<y))(he:∀k,k ∈ l ↔ k ∈ m):rowK ks=m:=by
 unfold rowK
 exact srt_of (needK_nodup ks) hm (λ k=>by rw[h];exact he k)
theorem tat_any(els:List ByteArray)(b l k:Nat)(w:World)(h:TreeAt els b w)(hn:len els<=65536)(hl:l<=depN els)(hk:k<2 ^ (depN els - l)):
  Calls Tryz.prog 100 #[.pointer (some ⟨b,0,none⟩),.int .i64 (l:Nat),.int .u64 (k:Nat)] w λ e w'=>e=.returned (.tuple #[.string (plD els (depN els) l k),.bool true])/\Below w.heap.size w w':=by
 obtain⟨p0,h1,h2⟩:=h
 have hd16:=depN_le hn
 obtain⟨d,hd⟩:∃d,depN els=d:=⟨_,rfl⟩
 rw[hd]at h1 h2 hl hk hd16 ⊢
 have c0:w.cell? ⟨b,0,none⟩=some (.pointer (some ⟨p0,0,none⟩)):=by rw[block_cell h1];rfl
 have c1:w.cell? ⟨b,1,none⟩=some (.int .i64 (d:Nat)):=by rw[block_cell h1];rfl
 have HP:Hid (PlaceIs els d (l+(d - l)) (k / 2 ^ (d - l)) p0 w):=QLh (by rw[Nat.div_eq_of_lt hk,show l+(d - l)=d by omega];exact h2);have HK:Hid (k<65536):=QLh (Nat.lt_of_lt_of_le hk (pow_le16 (by omega)));have a2:¬((d:Nat):Int)<((l:Nat):Int):=by omega
 obtain⟨e,he⟩:∃e,d - l=e:=⟨_,rfl⟩
 rw[he]at HP hk
 have a3:IntKind.i64.wrap ((d:Int) - (l:Int))=((e:Nat):Int):=by rw[IntWalk.i64_in _ (by omega)];omega
 have a5:¬(e:Int)<0:=by omega
 have a4:((k:Nat):Int) / 2 ^ e=0:=by
  rw[pow_cast]
  have:k / 2 ^ e=0:=Nat.div_eq_of_lt hk
  exact_mod_cast this
 have a6:IntKind.i64.wrap ((e:Int) - 1)=(e:Int) - 1:=IntWalk.i64_in _ (by omega);have a1:¬((l:Nat):Int)<0:=by omega
 have a7:min e 64=e:=by omega
 have HE:Hid (e<=16):=QLh (by omega);clear h1 h2 hd hk he hl hd16
 go_enter Tryz.func100,Tryz.ntmps100
 go_upto_region 5 with fail
 clear c0 c1 a1 a2 a3 a4 a5 a6 a7
 go_loopg [9,8] e (λ g i p wr=>∃(t q:Nat),g=t/\i=.int .i64 ((t:Int) - 1)/\p=.pointer (some ⟨q,0,none⟩)/\t<=16/\Hid (PlaceIs els d (l+t) (k / 2 ^ t) q wr)/\Hid (Below w.heap.size w wr))
 case atStart=>exact⟨e,p0,rfl,rfl,rfl,HE.out,HP,QLh (Below.refl _ _)⟩
 case round=>
  clear HP
  obtain⟨t,q,hgt,rfl,rfl,ht,HP,HW⟩:=hrel
  have HGT:=QLh hgt;clear hgt
  cases t with
  | zero=>
   have i1:¬(0:Int)<=((0:Nat):Int) - 1:=by decide
   have cq:wr.cell? ⟨q,0,none⟩=some (.string (plD els d l k)):=by
    have:=HP.out.digest
    rwa [Nat.add_zero,Nat.pow_zero,Nat.div_one]at this
   go_wp2
   go_ret2
   exact⟨rfl,HW.out⟩
  | succ t=>
   rw[show((t+1:Nat):Int) - 1=((t:Nat):Int)by omega]
   have i1:(0:Int)<=((t:Nat):Int):=by omega
   obtain⟨W,hW⟩:∃W,wr=W:=⟨_,rfl⟩
   rw[hW]at HP HW ⊢
   clear hW
   obtain⟨b0,b1,hn9,h0,h1⟩:=HP.out
   obtain⟨x,hx⟩:∃x,k / 2 ^ t=x:=⟨_,rfl⟩
   obtain⟨y,hy⟩:∃y,x % 2=y:=⟨_,rfl⟩
   have hxx:k / 2 ^ (t+1)=x / 2:=by rw[<-hx,Nat.div_div_eq_div_mul,Nat.pow_succ]
   have hx6:x<65536:=by rw[<-hx];exact Nat.lt_of_le_of_lt (Nat.div_le_self _ _) HK.out
   rw[hxx]at h0 h1
   obtain⟨q2,hq2⟩:∃q2,(if y=0 then b0 else b1)=q2:=⟨_,rfl⟩
   have cq:W.cell? ⟨q,1+y,none⟩=some (.pointer (some ⟨q2,0,none⟩)):=by
    rw[block_cell hn9,<-hq2]
    by_cases hy0:y=0
    ·rw[if_pos hy0,hy0];rfl
    ·rw[if_neg hy0,show y=1 by omega];rfl
   have HP2:Hid (PlaceIs els d (l+t) (k / 2 ^ t) q2 W):=QLh (by
    rw[hx,<-hq2]
    by_cases hy0:y=0
    ·rw[if_pos hy0,show x=2 * (x / 2)by omega];exact h0
    ·rw[if_neg hy0,show x=2 * (x / 2)+1 by omega];exact h1)
   have s1:min t 64=t:=by omega
   have s2:((k:Nat):Int) / 2 ^ t=((x:Nat):Int):=by rw[pow_cast,<-hx];rfl
   have s3:bits .and .u64 ((x:Nat):Int) 1=((y:Nat):Int):=by
    rw[show(1:Int)=((1:Nat):Int)from rfl,u64_and_nat _ _ (by omega) (by omega),Nat.and_one_is_mod,hy]
   have s4:¬(2:Int)<=((y:Nat):Int):=by omega
   have s5:¬((t:Nat):Int)<0:=by omega
   clear hx hy hxx hx6 hn9 h0 h1 hq2
   go_upto_region 7 with fail
   refine wp_region_tail 9 1000 (none) (phis (List.map qv [.pointer (some ⟨q,0,none⟩),.int .u64 (k:Nat),.int .i64 (t:Nat),.int .u64 (x:Nat),.int .u64 (y:Nat),.pointer (some ⟨q,0,none⟩),.pointer (some ⟨q,1,none⟩),.pointer (some ⟨q,1+y,none⟩),.pointer (some ⟨q2,0,none⟩)])) rfl (by kernel_rfl) (by kernel_rfl) (mono_of mono_qv) (steps_of 9 ⟨?s0,?s1,?s2,?s3,?s4,?s5,?s6,?s7,?s8,trivial⟩) ?_
   case s0=>
    refine qV (λ _=>rfl) rfl λ av wv hE hO hD=>?_
    simp[go_sem,qF av 8 (.pointer (some ⟨q,0,none⟩)) (hO.2.2 8 rfl),s1,s2,s3,s4,s5]
   case s1=>
    refine qV (λ _=>rfl) rfl λ av wv hE hO hD=>?_
    simp[go_sem,qF av 2 (.int .u64 (k:Nat)) (hO.2.2 2 rfl),s1,s2,s3,s4,s5]
   case s2=>
    refine qV (λ _=>rfl) rfl λ av wv hE hO hD=>?_
    simp[go_sem,qF av 9 (.int .i64 (t:Nat)) (hO.2.2 9 rfl),s1,s2,s3,s4,s5]
   case s3=>
    refine qV (λ _=>rfl) rfl λ av wv hE hO hD=>?_
    simp[go_sem,qE (hD.1 rfl _ rfl),qE (hD.2.1 rfl _ rfl),s1,s2,s3,s4,s5]
   case s4=>
    refine qV (λ _=>rfl) rfl λ av wv hE hO hD=>?_
    simp[go_sem,qE (hD.1 rfl _ rfl),s1,s2,s3,s4,s5]
   case s5=>
    refine qV (λ _=>rfl) rfl λ av wv hE hO hD=>?_
    simp[go_sem,qE (hD.1 rfl _ rfl),s1,s2,s3,s4,s5]
   case s6=>
    refine qV (λ _=>rfl) rfl λ av wv hE hO hD=>?_
    simp[go_sem,qE (hD.1 rfl _ rfl),s1,s2,s3,s4,s5]
   case s7=>
    refine qV (λ _=>rfl) rfl λ av wv hE hO hD=>?_
    simp[go_sem,qE (hD.1 rfl _ rfl),qE (hD.2.1 rfl _ rfl),s1,s2,s3,s4,s5]
   case s8=>
    refine qV (λ _=>rfl) rfl λ av wv hE hO hD=>?_
    simp[go_sem,qE (hD.1 rfl _ rfl),extB_cell hE (by simp) cq,s1,s2,s3,s4,s5]
   intro a' w' hE hO hall
   have hA:=act_of_outer (ds:=[50,51,52,53,54,55,56,57,58]) rfl hO (by kernel_rfl)
   obtain⟨j0,j1,j2,j3,j4,j5,j6,j7,j8,-⟩:=hall
   simp only[List.foldl_cons,List.foldl_nil,Act.put,List.setIfInBounds_toArray,List.set_cons_succ,List.set_cons_zero,qJ 50 (j0 _ rfl),qJ 51 (j1 _ rfl),qJ 52 (j2 _ rfl),qJ 53 (j3 _ rfl),qJ 54 (j4 _ rfl),qJ 55 (j5 _ rfl),qJ 56 (j6 _ rfl),qJ 57 (j7 _ rfl),qJ 58 (j8 _ rfl)]at hA
   clear hO j0 j1 j2 j3 j4 j5 j6 j7 j8
   subst hA
   have HW2:Hid (Below w.heap.size w w'):=QLh (bnext HW.out (of_drew hE));have HP3:Hid (PlaceIs els d (l+t) (k / 2 ^ t) q2 w'):=QLh (HP2.out.below (of_drew hE));have a6:IntKind.i64.wrap (((t:Nat):Int) - 1)=((t:Nat):Int) - 1:=IntWalk.i64_in _ (by omega);clear hE cq s1 s2 s3 s4 s5
   go_wp2
   go_roundg t
   case rel=>exact⟨t,q2,rfl,rfl,rfl,by omega,HP3,HW2⟩
   case measure=>have:=HGT.out;omega
section
open Go.RowKit Go.ChangeMaps
attribute [local go_sem] Oper.semAt_some
theorem info_str:(Tryz.prog.info? 9).map (λ i=>(i.zero,i.size,i.bytes))=some (some (.string ⟨#[]⟩),1,16):=by kernel_rfl
def ProofIs(l:List ByteArray)(er:Int)(w:World)(e:Ending)(w':World):Prop:=∃v,e=.returned (.tuple #[v,.int .i64 er])/\w'.ownsRow w.heap.size 9 1 v (len l) (l.map Value.string)/\Below w.heap.size w w'
theorem exists_sub{α:Type}(P:α->Prop):∀(l:List α),(∀x ∈ l,P x)->∃L:List { x // P x },L.map Subtype.val=l
 | [],_=>⟨[],rfl⟩
 | x :: l,h=>by
  obtain⟨L,hL⟩:=exists_sub P l (λ y hy=>h y (List.mem_cons_of_mem _ hy))
  exact⟨⟨x,h x List.mem_cons_self⟩ :: L,by rw[List.map_cons,hL]⟩
abbrev PlX(d:Nat):={ x:Int × Int // ∃i k:Nat,x=((i:Int),(k:Int))/\i<d/\k<2 ^ (d - i) }
theorem kpo_append{o base k:Nat}{W w4:World}{tmp:Obj}{v v':Value}{xs:List Value}(hrow:W.ownsRow base 9 1 v k xs)(hg:(W.alloc tmp).grownBy w4 v.ownBlock):KpO o W (w4.setCell ⟨o,0,none⟩ v'):=by
 have hs:=hg.size
 refine⟨by simp at hs;simp[World.setCell];omega,λ b cs t fr hb ht hc=>?_⟩
 have hlt:=lt_of_block hc
 refine(Below.heap_setCell _ _ _ _ (λ e=>hb e)).trans ?_
 refine(hg.block b (by simp;omega) (λ e=>?_)).trans (block_alloc hc _)
 rcases hrow.2 with⟨rfl,_⟩ | ⟨g,cap,cur,rfl,_,hgb,_⟩
 ·simp[Value.ownBlock]at e
 ·simp[Value.ownBlock]at e
  subst e
  rw[hgb]at hc
  cases hc
  exact ht rfl
theorem prove_ok(els:List ByteArray)(b:Nat)(l:List Int)(a:Option Addr)(cap:Nat)(w:World)(ht:TreeAt els b w)(hn:len els<=65536)(h:U64s w a l)(hl:len l<=12)(hu:∀k ∈ l,U64 k)(hb:MayOk (len els:Nat) l):
  Calls Tryz.prog 46 #[.pointer (some ⟨b,0,none⟩),.slice a (len l) cap] w (ProofIs (dgsL els (plcL (len els:Nat) l)) 0 w):=by
 have HT:=QLh ht;have HN:=QLh hn;have HM:=QLh (mmay_any (len els:Nat) l a cap w h (by omega) (by omega) (by omega))
 rw[decide_eq_true hb]at HM
 have HLN:=QLh (tlen_any els b w ht);have H:=QLh h;have HU:=QLh hu
 obtain⟨d,hd⟩:∃d,depN els=d:=⟨_,rfl⟩
 have HDD:=QLh hd;have HD16:Hid (d<=16):=QLh (by rw[<-hd];exact depN_le hn);have HPL:Hid (plcL (len els:Nat) l=flatLv (needsL (leavesL l d) d)):=QLh (by unfold plcL;rw[depthZ_len hn,hd]);clear ht hn h hu hb hd
 obtain⟨i0,hi,hz0,hz1,hz2⟩:=info_parts info_str
 have HZ:=QLh hz0;clear hz0
 refine(callsIn_wide (n:=9)).1 ?_
 refine callsIn_of_wp_marks Tryz.func46 rfl trivial ?_ rfl
 simp only[Tryz.ntmps46,List.size_toArray,List.length_cons,List.length_nil,Nat.reduceAdd,Nat.reduceSub,Array.replicate_succ,Array.replicate_zero,List.push_toArray,List.append_toArray,List.nil_append,List.cons_append]
 gi_wp2_with fail
 refine⟨trivial,(callsIn_wide.2 HLN.out).mono ?_⟩
 rintro e w1 ⟨rfl,rfl⟩
 gi_wp2_with fail
 refine⟨trivial,(callsIn_wide.2 HM.out).mono ?_⟩
 rintro e w1 ⟨rfl,hb1⟩
 have HB1:=QLh hb1;have HT1:=QLh (HT.out.below hb1);clear hb1 HM HLN
 obtain⟨ab,hab⟩:∃ab,w1.heap.size=ab:=⟨_,rfl⟩
 gi_wp2_with fail
 obtain⟨o,ho⟩:∃o,ab+1=o:=⟨_,rfl⟩
 rw[ho]
 obtain⟨V,hV⟩:∃V,((w1.alloc (.cells #[.func (.func 100) #[.pointer (some ⟨b,0,none⟩)] #[]] 128)).alloc (.cells #[.slice none 0 0] 36))=V:=⟨_,rfl⟩
 rw[hV]
 have V1:Hid (V.heap[ab]?=some (.cells #[.func (.func 100) #[.pointer (some ⟨b,0,none⟩)] #[]] 128 (0,0))):=QLh (by rw[<-hV];exact block_alloc (alloc_new_at _ hab) _);have V2:Hid (Boxed V o 36 (.slice none 0 0)):=QLh (by rw[<-hV];exact alloc_new_at _ (by rw[alloc_size _ rfl];omega));have VB:Hid (Below w.heap.size w V):=QLh (by rw[<-hV];exact balloc (balloc HB1.out _) _);have VS:Hid (w.heap.size<=ab/\ab<o):=QLh ⟨by rw[<-hab];exact HB1.out.size,by omega⟩;have HDP:=QLh (tdepth_any els b V (HT.out.below VB.out))
 rw[HDD.out]at HDP
 clear hV hab ho HT1
 refine⟨trivial,(callsIn_wide.2 HDP.out).mono ?_⟩
 rintro e w2 ⟨rfl,rfl⟩
 gi_wp2_with fail
 refine⟨trivial,(callsIn_wide.2 (places_any a cap (len l) (d:Nat) _)).mono ?_⟩
 rintro e w3 ⟨rfl,hw3⟩
 obtain⟨s1,hs1⟩:∃s1,V.heap.size=s1:=⟨_,rfl⟩
 rw[hs1]
 have Z1:Hid (w3.heap[ab]?=some (.cells #[.func (.func 100) #[.pointer (some ⟨b,0,none⟩)] #[]] 128 (0,0))):=QLh (by rw[hw3];exact block_alloc (block_alloc V1.out _) _);have Z0:Hid (Boxed w3 o 36 (.slice none 0 0)):=QLh (by rw[hw3];exact block_alloc (block_alloc V2.out _) _);have Z2:Hid (w3.heap[s1]?=some (.cells #[.int .i64 (d:Nat)] 3 (0,0))):=QLh (by rw[hw3];exact block_alloc (alloc_new_at _ hs1) _);have Z3:Hid (w3.heap[s1+1]?=some (.cells #[.slice a (len l) cap] 64 (0,0))):=QLh (by rw[hw3];exact alloc_new_at _ (by rw[alloc_size _ rfl,hs1]));have ZB:Hid (Below w.heap.size w w3):=QLh (by rw[hw3];exact balloc (balloc VB.out _) _);have ZS:Hid (o<w3.heap.size):=QLh (Z0.out.lt);clear hw3 hs1 V1 V2 HDP
 obtain⟨L,hL⟩:∃L:List (PlX d),L.map Subtype.val=flatLv (needsL (leavesL l d) d):=exists_sub _ _ (plc_bd HD16.out (leaves_in HD16.out))
 have HLL:=QLh hL;have HLB:Hid (L.length<=1600):=QLh (by
  have h1:=flat_bd (leavesL l d) d (by rw[leavesL_len];omega)
  rw[<-hL,List.length_map]at h1
  exact h1)
 gi_wp2_with fail
 refine wpIn_rangeFunc_ownF rfl (by omega) (gf:=163) (lb:=#[.pointer (some ⟨s1+1,0,none⟩),.pointer (some ⟨s1,0,none⟩)]) rfl trivial (enters_of Tryz.func163 (by kernel_rfl) rfl)
  (places_seq (Subtype.val:PlX d->Int × Int) L 8 (by omega) o (s1+1) s1 a cap l d w3 (by rw[block_cell Z3.out];rfl) (by rw[block_cell Z2.out];rfl) (H.out.below ZB.out) hl HD16.out HU.out ZS.out hL)
  KpO.trans (λ W l9 x x' _ hl hx _=>KpO.putObj o W l9 x x' hl hx) (Below.refl _ _) (λ _=>rfl)
  (λ pre W=>(∃v,Boxed W o 36 v/\W.ownsRow w.heap.size 9 1 v (len (dgsL els (pre.map Subtype.val))) ((dgsL els (pre.map Subtype.val)).map Value.string)/\True)/\W.heap[ab]?=some (.cells #[.func (.func 100) #[.pointer (some ⟨b,0,none⟩)] #[]] 128 (0,0))/\Below w.heap.size w W) (λ _ _ _=>False)
  (OwnFrom.and (Own.from (holdsRow_own w.heap.size o 36 9 1 (λ pre:List (PlX d)=>len (dgsL els (pre.map Subtype.val))) (λ pre=>(dgsL els (pre.map Subtype.val)).map Value.string) (λ _ _=>True)) _) (OwnFrom.and (own_one _ ab 128 (λ _:List (PlX d)=>.func (.func 100) #[.pointer (some ⟨b,0,none⟩)] #[])) (ownFrom_below (Nat.le_refl _) ZB.out.size))) (λ _ _ _ _ _ h _ _=>h)
  ⟨⟨_,Z0.out,World.ownsRow_nil _ _ _ _,trivial⟩,Z1.out,ZB.out⟩ ?a1 ?assign ?body ?done ?stop
 case assign=>
  intro l9 x W K hK
  gi_wp2
  exact hK
 case body=>
  rintro l9 pre ⟨x,i,k,rfl,hi9,hk9⟩ W ⟨⟨v,hv,hrow,-⟩,hO,hB⟩ hlt
  have ca:W.cell? ⟨ab,0,none⟩=some (.func (.func 100) #[.pointer (some ⟨b,0,none⟩)] #[]):=by rw[block_cell hO];rfl
  have HV:=QLh hv;have HRW:=QLh hrow;have HO:=QLh hO;have HB:=QLh hB;have HAT:=QLh (tat_any els b i k W (HT.out.below hB) HN.out (by rw[HDD.out];omega) (by rw[HDD.out];exact hk9))
  rw[HDD.out]at HAT
  have HPB:Hid (len (dgsL els (pre.map Subtype.val))<=1600):=QLh (by unfold dgsL;rw[len_eq,List.length_map,List.length_map];have:=HLB.out;omega);have HSN:Hid (dgsL els ((pre++[(⟨((i:Int),(k:Int)),i,k,rfl,hi9,hk9⟩:PlX d)]).map Subtype.val)=dgsL els (pre.map Subtype.val)++[plD els d i k]):=QLh (by
   rw[List.map_append]
   show dgsL els (pre.map Subtype.val++[((i:Int),(k:Int))])=_
   rw[dgsL_snoc,HDD.out]
   simp)
  obtain⟨P9,hP9⟩:∃P9,dgsL els (pre.map Subtype.val)=P9:=⟨_,rfl⟩
  rw[hP9]at HRW HPB HSN
  obtain⟨X9,hX9⟩:∃X9,plD els d i k=X9:=⟨_,rfl⟩
  rw[hX9]at HAT HSN
  clear hv hrow hO hB hlt hP9 hX9
  dsimp only
  gi_wp2_with fail
  refine⟨trivial,(CallsIn.inRound l9 (callsIn_wide.2 HAT.out)).mono ?_⟩
  rintro e W2 ⟨rfl,hb2⟩
  have HV2:Hid (Boxed W2 o 36 v):=QLh ((hb2.block _ HV.out.lt).trans HV.out);have HR2:Hid (W2.ownsRow w.heap.size 9 1 v (len P9) (P9.map Value.string)):=QLh (own_below HRW.out hb2);have HO2:Hid (W2.heap[ab]?=some (.cells #[.func (.func 100) #[.pointer (some ⟨b,0,none⟩)] #[]] 128 (0,0))):=QLh ((hb2.block _ (lt_of_block HO.out)).trans HO.out);have HB2:Hid (Below w.heap.size w W2):=QLh (bnext HB.out hb2);have HWW:=QLh hb2;have hc:=HV2.out.cell;have hpb:=HPB.out;clear hb2 ca HAT
  gi_wp2_with (gi_at_builtin;refine wpListIn_append_own _ rfl _ _ 36 rfl w.heap.size 9 i0 (.string ⟨#[]⟩) 1 16 Tryz.underlying36 hi HZ.out hz1 hz2 rfl (by decide) _ _ _ rfl (HR2.out.alloc _) ⟨W2.heap.size,0,none⟩ 1 1 [.string X9] rfl rfl (World.news_of_block (heap_alloc_new _ _)) (by intro u hu9;simp at hu9;subst hu9;rfl) (by unfold maxLen;omega) (by omega) (by have:=HB2.out.size;simp;omega) ?_;intro v' w4 hown' hgrow _;obtain⟨g',cap',rfl⟩:=ownsRow_succ hown';obtain⟨hv1,hv2,hr2,hk2,hb3⟩:=HV2.out.appended (by decide) HR2.out HB2.out.size (by have:=VS.out;omega) hown' hgrow;have hc1:=hv1.cell;have hf1:=hv1.frozen;have HQ1:=QLh hv2;have HQ2:=QLh hr2;have HQ3:=QLh hk2;have HQ4:=QLh hb3;have HQ5:=QLh (kpo_append (o:=o) (v':=.slice (some ⟨g',0,none⟩) (len P9+1) cap') HR2.out hgrow);clear hv2 hr2 hk2 hb3 hown' hgrow)
  have HKO:Hid (KeepsOthers W W2):=QLh (KeepsOthers.of_grownBy (below_grown HWW.out) (λ j o h=>by cases h));have HKP:Hid (KpO o W W2):=QLh ⟨HWW.out.size,λ b9 cs t fr _ _ hc9=>(HWW.out.block _ (lt_of_block hc9)).trans hc9⟩
  refine⟨HKO.out.trans HQ3.out,HKP.out.trans HQ5.out,⟨_,HQ1.out,?_,trivial⟩,?_,HB2.out.trans HQ4.out⟩
  ·have e9:len (P9++[X9])=len P9+1:=by rw[len_eq,List.length_append];rfl
   rw[HSN.out,List.map_append,e9]
   exact HQ2.out
  ·exact HQ5.out.same _ _ _ _ (by have:=VS.out;omega) (by decide) HO2.out
 case done=>
  rintro D ys W hD rfl ⟨⟨v,hv,hrow,-⟩,hO,hB⟩ hK
  have hc:=hv.cell
  rw[HLL.out]at hrow
  have HR:=QLh (ownsRow_putObj hrow (.deferred none) hK rfl);have HB:Hid (Below w.heap.size w (W.putObj D (.deferred none))):=QLh (hB.trans (belowK_b (w:=w) (Nat.le_refl _) W D _ _ (Nat.le_trans ZB.out.size hD) hK rfl rfl));have HK:=QLh hK;clear hO hB hrow
  gi_wp2
  refine⟨by simp,.inl ⟨_,_,rfl,run_takeDeferred HK.out,?_⟩⟩
  refine⟨_,results_tmp2 rfl _ _ _,v,rfl,?_,HB.out⟩
  rw[HPL.out]
  exact HR.out
 case stop=>
  intro D c pre W _ _ h _
  exact h.elim
end
theorem own_txts{w:World}{base n:Nat}{v:Value}{l:List ByteArray}(h:w.ownsRow base 9 1 v n (l.map Value.string)):∃a cap,v=.slice a (len l) cap/\Txts w a l:=by
 have hn:len l=n:=by have:=h.1;rw[len_eq];simpa using this
 rcases h.2 with⟨rfl,h2⟩ | ⟨g,cap,cur,rfl,hg,hh,hc1,hc2,hc3,hc4⟩
 ·obtain rfl:l=[]:=List.eq_nil_of_length_eq_zero (by rw[<-len_eq];omega)
  exact⟨none,0,rfl,Txts.nil _ _⟩
 ·refine⟨some ⟨g,0,none⟩,cap,by rw[hn],λ i hi=>⟨g,0,rfl,?_⟩⟩
  have:=h.cellAt i (by omega);have hi2:i<l.length:=hi
  rw[Nat.zero_add,this,List.getElem?_map,List.getElem?_eq_getElem hi2,tth_eq l i hi];rfl
theorem str_beq(a b:ByteArray):(a.toList == b.toList)=decide (a=b):=by
 rw[ByteArray.toList_eq,ByteArray.toList_eq]
 by_cases h:a=b
 ·subst h;simp
 ·rw[decide_eq_false h]
  rw[beq_eq_false_iff_ne]
  intro h2
  exact h (ByteArray.ext (Array.ext' h2))
theorem hash1_any(tag s:ByteArray)(w:World)(h1:1<=tag.size)(h2:tag.size<=16)(hs:s.size<=1000000):Calls Tryz.prog 45 #[.string tag,.slice (some ⟨w.heap.size,0,none⟩) 1 1] (w.alloc (.cells #[.string s] 9)) λ e w'=>e=.returned (.string (hashP tag [s]))/\Below w.heap.size w w':=by
 have hw1:Txts (w.alloc (.cells #[.string s] 9)) (some ⟨w.heap.size,0,none⟩) [s]:=txts_cells (heap_alloc_new _ _) [s] (λ i hi=>by
  have:i=0:=by have:i<1:=hi;omega
  subst this;rfl)
 refine(hash_any tag [s] (some ⟨w.heap.size,0,none⟩) 1 _ h1 h2 hw1 (by show((partL s)++[]).length<=_;rw[List.append_nil,partL_len];omega)).mono ?_
 rintro e w2 ⟨rfl,hb2⟩
 exact⟨rfl,bnext (balloc (Below.refl _ _) _) hb2⟩
theorem hash2_any(tag s t:ByteArray)(w:World)(h1:1<=tag.size)(h2:tag.size<=16)(hs:s.size<=1000000)(ht:t.size<=1000000):Calls Tryz.prog 45 #[.string tag,.slice (some ⟨w.heap.size,0,none⟩) 2 2] (w.alloc (.cells #[.string s,.string t] 9)) λ e w'=>e=.returned (.string (hashP tag [s,t]))/\Below w.heap.size w w':=by
 have hw1:Txts (w.alloc (.cells #[.string s,.string t] 9)) (some ⟨w.heap.size,0,none⟩) [s,t]:=txts_cells (heap_alloc_new _ _) [s,t] (λ i hi=>by
  have:i=0 \/ i=1:=by have:i<2:=hi;omega
  rcases this with rfl | rfl <;> rfl)
 refine(hash_any tag [s,t] (some ⟨w.heap.size,0,none⟩) 2 _ h1 h2 hw1 (by show((partL s)++((partL t)++[])).length<=_;rw[List.append_nil,List.length_append,partL_len,partL_len];omega)).mono ?_
 rintro e w2 ⟨rfl,hb2⟩
 exact⟨rfl,bnext (balloc (Below.refl _ _) _) hb2⟩
theorem tth_ext{la lb:List ByteArray}(hl:len la=len lb)(h:∀i,i<len la->tth la i=tth lb i):la=lb:=by
 apply List.ext_getElem hl
 intro i h1 h2
 have:=h i h1
 rwa [tth_eq la i h1,tth_eq lb i h2]at this
theorem pmay_any(n:Int)(l:List Int)(a:Option Addr)(cap:Nat)(w:World)(h:U64s w a l)(hn:len l<=1000000000)(h0:-9223372036854775808<=n)(h1:n<=9223372036854775807):Calls Tryz.prog 166 #[.int .i64 n,.slice a (len l) cap] w λ e w'=>e=.returned (.bool (decide (SizeOk n l)))/\Below w.heap.size w w':=by
 have H:=QLh h;have HN:=QLh hn
 by_cases c1:n<0
 ·have E:Hid (decide (SizeOk n l)=false):=QLh (decide_eq_false (λ h9=>by have:=h9.1;omega))
  clear h hn h0 h1
  go_enter Tryz.func166,Tryz.ntmps166
  go_wp2
  go_ret
  exact⟨by(rw[E.out];try rfl),Below.refl _ _⟩
 ·by_cases c2:65536<n
  ·have E:Hid (decide (SizeOk n l)=false):=QLh (decide_eq_false (λ h9=>by have:=h9.2.1;omega))
   clear h hn h0 h1
   go_enter Tryz.func166,Tryz.ntmps166
   go_wp2
   go_ret
   exact⟨by(rw[E.out];try rfl),Below.refl _ _⟩
  ·by_cases c3:len l=0
   ·have E:Hid (decide (SizeOk n l)=false):=QLh (decide_eq_false (λ h9=>by have:=h9.2.2.1;omega))
    have z1:((len l:Nat):Int)=0:=by omega
    clear h hn h0 h1 c3
    go_enter Tryz.func166,Tryz.ntmps166
    go_wp2
    go_ret
    exact⟨by(rw[E.out];try rfl),Below.refl _ _⟩
   ·have z1:¬((len l:Nat):Int)=0:=by omega
    have n1:IntKind.u64.wrap n=n:=IntWalk.u64_in _ (by omega);have HC:=QLh (And.intro c1 (And.intro c2 c3));clear h hn h0 h1 c3
    go_enter Tryz.func166,Tryz.ntmps166
    go_upto_region 4 with fail
    clear c1 c2 z1
    go_loopg [20] (len l) (λ g i wr=>∃m:Nat,g+m=len l/\i=.int .i64 m/\Hid (MayT n l m)/\Hid (Below w.heap.size w wr))
    case atStart=>exact⟨0,rfl,rfl,QLh (λ i hi=>by omega),QLh (Below.refl _ _)⟩
    case round=>
     obtain⟨m,hm,rfl,HR,HW⟩:=hrel
     have HNN:=HN.out
     by_cases hlt:m<len l
     ·have b0:(m:Int)<len l:=by omega
      obtain⟨b,off,hra,e1⟩:=(H.out.below HW.out) m hlt
      subst hra
      have l1:=lt_of_cell e1
      cases hge:decide (n<=nth l m)with
      | true=>
       have HGE:=QLh hge
       go_wp2
       go_ret
       refine⟨?_,HW.out⟩
       have:¬SizeOk n l:=λ h9=>by
        have h1:=(h9.2.2.2 m hlt).1;have h2:=of_decide_eq_true HGE.out
        omega
       rw[decide_eq_false this];try rfl
      | false=>
       have HGE:=QLh hge
       cases m with
       | zero=>
        have e1:wr.cell? ⟨b,off,none⟩=some (.int .u64 (nth l 0)):=e1;have hge0:decide (n<=nth l 0)=false:=HGE.out
        go_wp2
        go_roundg (len l - 1)
        case rel=>exact⟨1,by omega,by go_num,QLh (HR.out.next (by have:=of_decide_eq_false HGE.out;omega) (λ h=>by omega)),HW⟩
        case measure=>omega
       | succ n3=>
        obtain⟨b6,off6,hpa6,e2⟩:=(H.out.below HW.out) n3 (by omega)
        cases hpa6
        cases hris:decide (nth l (n3+1)<=nth l n3)with
        | true=>
         have HRIS:=QLh hris;have i1:IntKind.i64.wrap (n3:Int)=n3:=(IntWalk.i64_in _ (by omega));have i2:0<=(n3:Int)+1:=(by omega);have i3:((n3:Int)+1).toNat=n3+1:=(by omega)
         go_wp2
         clear i1 i2 i3
         go_ret
         refine⟨?_,HW.out⟩
         have:¬SizeOk n l:=λ h9=>by
          have h1:=(h9.2.2.2 (n3+1) hlt).2 (by omega);have h2:=of_decide_eq_true HRIS.out
          rw[Nat.add_sub_cancel]at h1
          omega
         rw[decide_eq_false this];try rfl
        | false=>
         have HRIS:=QLh hris;have i1:IntKind.i64.wrap (n3:Int)=n3:=(IntWalk.i64_in _ (by omega));have i2:0<=(n3:Int)+1:=(by omega);have i3:((n3:Int)+1).toNat=n3+1:=(by omega)
         go_wp2
         clear i1 i2 i3
         go_roundg (len l - (n3+1+1))
         case rel=>exact⟨n3+1+1,by omega,by go_num,QLh (HR.out.next (by have:=of_decide_eq_false HGE.out;omega) (λ _=>by
          have h2:=of_decide_eq_false HRIS.out
          rw[Nat.add_sub_cancel]
          omega)),HW⟩
         case measure=>omega
     ·obtain rfl:m=len l:=by omega
      have b0:¬((len l:Nat):Int)<len l:=by omega
      have E:Hid (decide (SizeOk n l)=true):=QLh (decide_eq_true ⟨by have:=HC.out.1;omega,by have:=HC.out.2.1;omega,by have:=HC.out.2.2;omega,HR.out⟩)
      go_wp2
      go_ret
      exact⟨by(rw[E.out];try rfl),HW.out⟩
def badB(ds:List ByteArray):Bool:=decide (∃d ∈ ds,d.size≠32)
theorem len32_any(s:ByteArray)(w:World):Calls Tryz.prog 168 #[.string s] w λ e w'=>e=.returned (.bool (!decide ((s.size:Int)=32)))/\w=w':=by
 go_enter Tryz.func168,Tryz.ntmps168
 go_wp2
 go_ret
 exact⟨by first | rfl | simp,rfl⟩
def BadIs(ds:List ByteArray)(w:World)(e:Ending)(w':World):Prop:=∃j:Int,e=.returned (.int .i64 j)/\(0<=j ↔ ∃d ∈ ds,d.size≠32)/\w=w'
theorem badidx_any(a:Option Addr)(cap:Nat)(ds:List ByteArray)(w:World)(hl:Txts w a ds)(hlen:len ds<=9223372036854775807):
  Calls Tryz.prog 227 #[.slice a (len ds) cap,.func (.func 168) #[] #[]] w (BadIs ds w):=by
 have HL:=QLh hl;clear hl
 go_enter Tryz.func227,Tryz.ntmps227
 go_wp2
 go_loop [8] (λ i=>∃m:Nat,m<=len ds/\i=.int .i64 m/\Hid (∀j,j<m->(tth ds j).size=32)) (λ i=>len ds - (intOf i).toNat)
 case atStart=>exact⟨0,Nat.zero_le _,rfl,λ j hj=>by omega⟩
 case round=>
  obtain⟨m,hm,rfl,hn⟩:=hrel
  by_cases hlt:m<len ds
  ·obtain⟨b,off,rfl,hcell⟩:=HL.out m hlt
   have b0:(m:Int)<len ds:=by omega
   obtain⟨s,hs⟩:∃s,tth ds m=s:=⟨_,rfl⟩
   rw[hs]at hcell
   have HS:=QLh hs;have HM:Hid (s ∈ ds):=QLh (by rw[<-hs,tth_eq ds m hlt];exact List.getElem_mem _);clear hs
   go_wp2_with fail
   refine(len32_any s w).mono ?_
   rintro e w' ⟨rfl,rfl⟩
   by_cases hf:s.size=32
   ·have HF:=QLh hf
    rw[decide_eq_true (show((s.size:Nat):Int)=32 by omega)]
    clear hf hcell
    go_wp2
    go_round
    case rel=>exact⟨m+1,by omega,by go_num,λ j hj=>by
     by_cases e:j=m
     ·subst e;rw[HS.out];exact HF.out
     ·exact hn.out j (by omega)⟩
    case measure=>simp[intOf];omega
   ·have HF:=QLh hf
    rw[decide_eq_false (show ¬((s.size:Nat):Int)=32 by omega)]
    clear hf hcell
    go_wp2
    go_ret
    exact⟨m,rfl,⟨λ _=>⟨s,HM.out,HF.out⟩,λ _=>by omega⟩,rfl⟩
  ·obtain rfl:m=len ds:=by omega
   go_wp2
   go_ret
   refine⟨-1,rfl,⟨λ h=>by omega,fun ⟨k,hk,hf⟩=>?_⟩,rfl⟩
   obtain⟨j,hj,rfl⟩:=List.getElem_of_mem hk
   have h1:=hn.out j hj
   rw[tth_eq ds j hj]at h1
   exact absurd h1 hf
theorem bad_any(a:Option Addr)(cap:Nat)(ds:List ByteArray)(w:World)(hl:Txts w a ds)(hlen:len ds<=9223372036854775807):
  Calls Tryz.prog 167 #[.slice a (len ds) cap,.func (.func 168) #[] #[]] w λ e w'=>e=.returned (.bool (badB ds))/\w=w':=by
 have HL:=QLh hl;clear hl
 go_enter Tryz.func167,Tryz.ntmps167
 go_wp2_with fail
 refine(badidx_any a cap ds w HL.out hlen).mono ?_
 rintro e w' ⟨j,rfl,hj,rfl⟩
 have HJ:=QLh hj;clear hj
 by_cases h:0<=j
 ·have E:Hid (badB ds=true):=QLh (decide_eq_true (HJ.out.1 h))
  go_wp2
  go_ret
  exact⟨by(rw[E.out];try rfl),rfl⟩
 ·have E:Hid (badB ds=false):=QLh (decide_eq_false (λ hh=>h (HJ.out.2 hh)))
  go_wp2
  go_ret
  exact⟨ret_bool (by rw[E.out];simp;omega),rfl⟩
theorem rMay_any(n:Int)(l:List Int)(a:Option Addr)(cap:Nat)(w:World)(h:U64s w a l)(hn:len l<=1000000000)(h0:-9223372036854775808<=n)(h1:n<=9223372036854775807):Calls Tryz.prog 242 #[.int .i64 n,.slice a (len l) cap] w λ e w'=>e=.returned (.bool (decide (SizeOk n l)))/\Below w.heap.size w w':=by
 have H:=QLh h;have HN:=QLh hn
 by_cases c1:n<0
 ·have E:Hid (decide (SizeOk n l)=false):=QLh (decide_eq_false (λ h9=>by have:=h9.1;omega))
  clear h hn h0 h1
  go_enter Tryz.func242,Tryz.ntmps242
  go_wp2
  go_ret
  exact⟨by(rw[E.out];try rfl),Below.refl _ _⟩
 ·by_cases c2:65536<n
  ·have E:Hid (decide (SizeOk n l)=false):=QLh (decide_eq_false (λ h9=>by have:=h9.2.1;omega))
   clear h hn h0 h1
   go_enter Tryz.func242,Tryz.ntmps242
   go_wp2
   go_ret
   exact⟨by(rw[E.out];try rfl),Below.refl _ _⟩
  ·have HC:Hid (0<=n/\n<=65536):=QLh (by omega)
   have n1:IntKind.u64.wrap n=n:=IntWalk.u64_in _ (by omega);clear h hn h0 h1
   go_enter Tryz.func242,Tryz.ntmps242
   go_upto_region 4 with fail
   clear c1 c2
   go_loopg [5] (len l) (λ g i wr=>∃m:Nat,g+m=len l/\i=.int .i64 m/\Hid (MayT n l m)/\Hid (Below w.heap.size w wr))
   case atStart=>exact⟨0,rfl,rfl,QLh (λ i hi=>by omega),QLh (Below.refl _ _)⟩
   case round=>
    obtain⟨m,hm,rfl,HR,HW⟩:=hrel
    have HNN:=HN.out
    by_cases hlt:m<len l
    ·have b0:(m:Int)<len l:=by omega
     obtain⟨b,off,hra,e1⟩:=(H.out.below HW.out) m hlt
     subst hra
     have l1:=lt_of_cell e1
     cases hge:decide (n<=nth l m)with
     | true=>
      have HGE:=QLh hge
      go_wp2
      go_quiet (fail)
      go_wp2
      go_ret
      refine⟨?_,bnext HW.out (by(repeat (first | exact Below.refl _ _ | assumption | (refine bdrew ?_) | (refine bdrewN ?_ _) | (refine balloc ?_ _) | (refine bset ?_ (by first | omega | (simp;done) | (simp;omega)) _) | (refine bnext ?_ (by assumption)))))⟩
      have:¬SizeOk n l:=λ h8=>by
       have h9:=h8.2.2;have h1:=(h9.2 m hlt).1;have h2:=of_decide_eq_true HGE.out
       omega
      rw[decide_eq_false this];try rfl
     | false=>
      have HGE:=QLh hge
      cases m with
      | zero=>
       have e1:wr.cell? ⟨b,off,none⟩=some (.int .u64 (nth l 0)):=e1;have hge0:decide (n<=nth l 0)=false:=HGE.out
       go_wp2
       go_quiet (fail)
       go_wp2
       go_roundg (len l - 1)
       case rel=>exact⟨1,by omega,by go_num,QLh (HR.out.next (by have:=of_decide_eq_false HGE.out;omega) (λ h=>by omega)),by(repeat (first | exact Below.refl _ _ | assumption | (refine bdrew ?_) | (refine bdrewN ?_ _) | (refine balloc ?_ _) | (refine bset ?_ (by first | omega | (simp;done) | (simp;omega)) _) | (refine bnext ?_ (by assumption))))⟩
       case measure=>omega
      | succ n3=>
       obtain⟨b6,off6,hpa6,e2⟩:=(H.out.below HW.out) n3 (by omega)
       cases hpa6
       cases hris:decide (nth l (n3+1)<=nth l n3)with
       | true=>
        have HRIS:=QLh hris
        go_wp2
        have i1:IntKind.i64.wrap (n3:Int)=n3:=(IntWalk.i64_in _ (by omega));have i2:0<=(n3:Int)+1:=(by omega);have i3:((n3:Int)+1).toNat=n3+1:=(by omega)
        go_quiet (fail)
        clear i1 i2 i3
        go_wp2
        go_ret
        refine⟨?_,bnext HW.out (by(repeat (first | exact Below.refl _ _ | assumption | (refine bdrew ?_) | (refine bdrewN ?_ _) | (refine balloc ?_ _) | (refine bset ?_ (by first | omega | (simp;done) | (simp;omega)) _) | (refine bnext ?_ (by assumption)))))⟩
        have:¬SizeOk n l:=λ h8=>by
         have h9:=h8.2.2;have h1:=(h9.2 (n3+1) hlt).2 (by omega);have h2:=of_decide_eq_true HRIS.out
         rw[Nat.add_sub_cancel]at h1
         omega
        rw[decide_eq_false this];try rfl
       | false=>
        have HRIS:=QLh hris
        go_wp2
        have i1:IntKind.i64.wrap (n3:Int)=n3:=(IntWalk.i64_in _ (by omega));have i2:0<=(n3:Int)+1:=(by omega);have i3:((n3:Int)+1).toNat=n3+1:=(by omega)
        go_quiet (fail)
        clear i1 i2 i3
        go_wp2
        go_roundg (len l - (n3+1+1))
        case rel=>exact⟨n3+1+1,by omega,by go_num,QLh (HR.out.next (by have:=of_decide_eq_false HGE.out;omega) (λ _=>by
         have h2:=of_decide_eq_false HRIS.out
         rw[Nat.add_sub_cancel]
         omega)),by(repeat (first | exact Below.refl _ _ | assumption | (refine bdrew ?_) | (refine bdrewN ?_ _) | (refine balloc ?_ _) | (refine bset ?_ (by first | omega | (simp;done) | (simp;omega)) _) | (refine bnext ?_ (by assumption))))⟩
        case measure=>omega
    ·obtain rfl:m=len l:=by omega
     have b0:¬((len l:Nat):Int)<len l:=by omega
     go_wp2
     go_ret
     refine⟨?_,HW.out⟩
     rw[show decide (SizeOk n l)=decide (0<len l)from decide_eq_decide.2 ⟨λ h=>h.2.2.1,λ h=>⟨HC.out.1,HC.out.2,h,HR.out⟩⟩]
     simp
theorem rowK_nodup(ks:List Int):(rowK ks).Nodup:=by
 unfold rowK srt
 exact(List.mergeSort_perm _ _).nodup_iff.2 (needK_nodup ks)
theorem rowK_mem(ks:List Int)(k:Int):k ∈ rowK ks ↔ (∃j ∈ ks,k=sib j)/\k ∉ ks:=by
 unfold rowK
 rw[srt_mem,needK_mem]
theorem rowK_len(ks:List Int):(rowK ks).length=(needK ks).length:=by
 unfold rowK srt
 exact(List.mergeSort_perm _ _).length_eq
theorem sib_ne(y:Int):sib y≠y:=by unfold sib;split <;> omega
theorem rowK_single(y:Int):(rowK [y]).length=1:=by
 rw[rowK_len]
 unfold needK
 have h:([y].map sib).filter (λ s=>!decide (s ∈ [y]))=[sib y]:=by
  simp[sib_ne y]
 rw[h]
 rfl
theorem rows_get(L:List Int)(d i:Nat)(hi:i<d):rnth (rowsOf L d) i=rowK (insAll (L.map (· / 2 ^ i))):=by
 rw[rnth_eq _ i (by unfold rowsOf;simpa using hi)]
 unfold rowsOf
 simp only[List.getElem_map,List.getElem_range]
theorem rows_len(L:List Int)(d:Nat):(rowsOf L d).length=d:=by unfold rowsOf;simp
theorem needs_rows{l:List Int}{d:Nat}(hd:d<=16)(h0:0<len l):needsL (leavesL l (d:Nat)) (d:Nat)=rowsOf (leavesL l (d:Nat)) d:=by
 unfold needsL
 rw[Int.toNat_natCast,if_pos]
 refine⟨by omega,by omega,by rw[leavesL_len];exact h0,?_⟩
 unfold farB
 rw[decide_eq_false]
 rintro⟨k,hk,h9⟩
 have:=(leaves_in hd k hk).2
 omega
theorem flat_len1:∀(s:Nat) (c:List (List Int)),(∀i,i<c.length->(rnth c i).length=1)->(flatFrom s c).length=c.length
 | _,[],_=>rfl
 | s,z :: c,h=>by
  have h1:=flat_len1 (s+1) c (λ i hi=>by
   have:=h (i+1) (by simp;omega)
   simpa [rnth] using this)
  have h2:=h 0 (by simp)
  simp only[rnth,List.getD_cons_zero]at h2
  simp only[flatFrom,List.length_append,List.length_map,List.length_cons]
  omega
theorem plcL_rows{n:Int}{l:List Int}{d:Nat}(hd:depthZ n=(d:Nat))(hd16:d<=16)(h0:0<len l):plcL n l=flatLv (rowsOf (leavesL l (d:Nat)) d):=by
 unfold plcL
 rw[hd,needs_rows hd16 h0]
theorem plc_one{n:Int}{d:Nat}{x:Int}(hd:depthZ n=(d:Nat))(hd16:d<=16):(plcL n [x]).length=d:=by
 rw[plcL_rows (l:=[x]) hd hd16 (show 0<len [x]from Nat.zero_lt_one)]
 have h:=flat_len1 0 (rowsOf (leavesL [x] (d:Nat)) d) (λ i hi=>by
  rw[rows_len]at hi
  rw[rows_get _ _ _ hi]
  exact rowK_single _)
 rw[rows_len]at h
 exact h
theorem dgs_len(els:List ByteArray)(L:List (Int × Int)):len (dgsL els L)=L.length:=by unfold dgsL;rw[len_eq,List.length_map]
theorem addF_some:∀(ks:List Int) (g:KnF) (ds:List ByteArray) (k:Int),(addF g ks ds k).isSome ↔ (g k).isSome \/ k ∈ ks
 | [],g,ds,k=>by simp[addF]
 | x :: ks,g,ds,k=>by
  show(addF (putF g x (tth ds 0)) ks (ds.drop 1) k).isSome ↔ _
  rw[addF_some ks]
  by_cases e:k=x
  ·subst e;rw[putF_same];simp
  ·rw[putF_other g _ e,List.mem_cons];simp[e]
theorem overF_some(g:KnF)(p:Int):(overF g p).isSome ↔ (g (2 * p)).isSome \/ (g (2 * p+1)).isSome:=by
 unfold overF
 by_cases e:(g (2 * p)).isSome \/ (g (2 * p+1)).isSome
 ·rw[if_pos e];simp[e]
 ·rw[if_neg e];simp only[e];simp
def SmF(g:KnF):Prop:=∀k d,g k=some d->d.size<=1000
theorem SmF.no:SmF noF:=λ k d h=>by cases h
theorem SmF.put{g:KnF}(h:SmF g)(k:Int)(d:ByteArray)(hd:d.size<=1000):SmF (putF g k d):=λ j x hx=>by
 by_cases e:j=k
 ·subst e;rw[putF_same]at hx;cases hx;exact hd
 ·rw[putF_other g d e]at hx;exact h j x hx
theorem SmF.over(g:KnF):SmF (overF g):=λ k d hx=>by
 by_cases e:(g (2 * k)).isSome \/ (g (2 * k+1)).isSome
 ·have:overF g k=some (hashP nodeT [kidF g (2 * k),kidF g (2 * k+1)]):=over_some e
  rw[this]at hx;cases hx
  rw[hashP_size];omega
 ·exact absurd ((overF_some g k).1 (by rw[hx];rfl)) e
def leafD(es:List ByteArray):List ByteArray:=es.map λ s=>hashP leafT [s]
theorem leafD_at(es:List ByteArray)(i:Nat)(h:i<len es):tth (leafD es) i=hashP leafT [tth es i]:=by
 have h2:i<es.length:=h
 rw[tth_eq es i h]
 unfold tth leafD
 rw[List.getD_eq_getElem?_getD,List.getElem?_map,List.getElem?_eq_getElem h2]
 rfl
def g0F(lv:List Int)(es:List ByteArray):KnF:=addF noF lv (leafD es)
theorem g0F_some(lv:List Int)(es:List ByteArray)(k:Int):(g0F lv es k).isSome ↔ k ∈ lv:=by
 unfold g0F
 rw[addF_some]
 simp[noF]
theorem rowsOf_at(lv:List Int)(d i:Nat)(h:i<d):rnth (rowsOf lv d) i=rowK (insAll (lv.map (· / 2 ^ i))):=by
 rw[rnth_eq _ i (by unfold rowsOf;simpa using h)]
 unfold rowsOf
 simp
theorem rowsOf_len(lv:List Int)(d:Nat):len (rowsOf lv d)=d:=by unfold rowsOf;rw[len_eq];simp
theorem row_mem(lv:List Int)(d i:Nat)(h:i<d)(k:Int):k ∈ rnth (rowsOf lv d) i ↔ (∃y ∈ lv,k=sib (y / 2 ^ i))/\¬∃y ∈ lv,k=y / 2 ^ i:=by
 rw[rowsOf_at lv d i h,rowK_mem]
 have e:∀j,j ∈ insAll (lv.map (· / 2 ^ i)) ↔ ∃y ∈ lv,j=y / 2 ^ i:=λ j=>by
  rw[(insAll_all _).2.1,List.mem_map]
  constructor
  ·rintro⟨y,h1,rfl⟩;exact⟨y,h1,rfl⟩
  ·rintro⟨y,h1,rfl⟩;exact⟨y,h1,rfl⟩
 rw[e]
 constructor
 ·rintro⟨⟨j,hj,rfl⟩,h2⟩
  obtain⟨y,hy,rfl⟩:=(e j).1 hj
  exact⟨⟨y,hy,rfl⟩,h2⟩
 ·rintro⟨⟨y,hy,rfl⟩,h2⟩
  exact⟨⟨_,(e _).2 ⟨y,hy,rfl⟩,rfl⟩,h2⟩
theorem sib_half(k:Int):sib k / 2=k / 2:=by unfold sib;split <;> omega
theorem root_keys(lv:List Int)(d:Nat)(g:KnF)(ds:List ByteArray)(hg:∀k,(g k).isSome ↔ k ∈ lv):∀i,i<=d->∀k,(rootT g (rowsOf lv d) ds i k).isSome ↔ ∃y ∈ lv,k=y / 2 ^ i
 | 0,_,k=>by
  show(g k).isSome ↔ _
  rw[hg]
  constructor
  ·intro h;exact⟨k,h,by simp⟩
  ·rintro⟨y,h,rfl⟩;simpa using h
 | i+1,hi,p=>by
  have IH:=root_keys lv d g ds hg i (by omega)
  rw[rootT_next _ _ _ _ (by rw[rowsOf_len];omega),overF_some,addF_some,addF_some,IH,IH,row_mem lv d i (by omega),row_mem lv d i (by omega)]
  have half:∀y:Int,y / 2 ^ (i+1)=y / 2 ^ i / 2:=λ y=>by
   rw[Int.pow_succ,Int.ediv_ediv_of_nonneg (Int.le_of_lt (Int.pow_pos (by decide)))]
  constructor
  ·rintro((⟨y,hy,e⟩ | ⟨⟨y,hy,e⟩,_⟩) | (⟨y,hy,e⟩ | ⟨⟨y,hy,e⟩,_⟩))
   ·exact⟨y,hy,by rw[half];omega⟩
   ·exact⟨y,hy,by rw[half,<-sib_half,<-e];omega⟩
   ·exact⟨y,hy,by rw[half];omega⟩
   ·exact⟨y,hy,by rw[half,<-sib_half,<-e];omega⟩
  ·rintro⟨y,hy,rfl⟩
   rw[half]
   by_cases e:y / 2 ^ i % 2=0
   ·exact .inl (.inl ⟨y,hy,by omega⟩)
   ·exact .inr (.inl ⟨y,hy,by omega⟩)
theorem nth_take_not{l:List Int}(hn:l.Nodup){m:Nat}(h:m<len l):nth l m ∉ l.take m:=λ hm=>by
 have h2:m<l.length:=h
 rw[nth_eq l m h2]at hm
 obtain⟨i,hi,e⟩:=List.getElem_of_mem hm
 rw[List.length_take]at hi
 rw[List.getElem_take]at e
 have:=nodup_inj hn e
 omega
theorem none_of{o:Option ByteArray}(h:¬o.isSome):o=none:=by simpa using h
theorem fresh_row(lv:List Int)(d:Nat)(g:KnF)(ds ds2:List ByteArray)(hg:∀k,(g k).isSome ↔ k ∈ lv)(i:Nat)(hi:i<d)(m:Nat)(hm:m<len (rnth (rowsOf lv d) i)):
  addF (rootT g (rowsOf lv d) ds i) ((rnth (rowsOf lv d) i).take m) ds2 (nth (rnth (rowsOf lv d) i) m)=none:=by
 apply none_of
 rw[addF_some,root_keys lv d g ds hg i (by omega)]
 have h1:=(row_mem lv d i hi _).1 (mem_nth hm);have hn:(rnth (rowsOf lv d) i).Nodup:=by rw[rowsOf_at lv d i hi];exact rowK_nodup _
 have h2:=nth_take_not hn hm
 rintro(h3 | h3)
 ·exact h1.2 h3
 ·exact h2 h3
theorem fresh_leaf{lv:List Int}(hn:lv.Nodup)(ds:List ByteArray)(m:Nat)(hm:m<len lv):addF noF (lv.take m) ds (nth lv m)=none:=by
 apply none_of
 rw[addF_some]
 rintro(h | h)
 ·simp[noF]at h
 ·exact nth_take_not hn hm h
theorem turnedP_rev{k:Int}{d n:Nat}(hd:d<=16)(h0:0<=k)(hk:k<n)(hn:n<=2 ^ d):turnedZ k d=((revOf k.toNat d:Nat):Int):=by
 unfold turnedZ
 rw[if_pos ⟨by omega,by omega,by rw[Int.toNat_natCast,pow_cast];omega⟩,Int.toNat_natCast]
theorem leaves_nodup{ps:List Int}{d n:Nat}(hd:d<=16)(hn:n<=2 ^ d)(hu:∀k ∈ ps,U64 k)(h:MayOk n ps):(leavesL ps (d:Nat)).Nodup:=by
 have hb:∀i,i<len ps->0<=nth ps i/\nth ps i<n:=λ i hi=>⟨(hu _ (mem_nth hi)).1,(h.2 i hi).1⟩;have hr:Rises ps:=λ i hi h0=>(h.2 i hi).2 h0
 unfold leavesL
 rw[List.Nodup,List.pairwise_map,List.pairwise_iff_getElem]
 intro i j hi hj hij e
 have hi2:=hb i hi;have hj2:=hb j hj
 rw[nth_eq ps i hi]at hi2
 rw[nth_eq ps j hj]at hj2
 rw[turnedP_rev hd hi2.1 hi2.2 hn,turnedP_rev hd hj2.1 hj2.2 hn]at e
 have e2:revOf ps[i].toNat d=revOf ps[j].toNat d:=by exact_mod_cast e
 have hl:∀k:Int,0<=k->k<n->k.toNat<2 ^ d:=λ k h1 h2=>by omega
 have e3:ps[i].toNat=ps[j].toNat:=by rw[<-revOf_revOf (hl _ hi2.1 hi2.2),<-revOf_revOf (hl _ hj2.1 hj2.2),e2]
 have hjl:j<len ps:=hj;have h3:=Rises.le hr (i+1) j (by omega) hjl;have h4:=hr (i+1) (by omega) (by omega)
 rw[Nat.add_sub_cancel,nth_eq ps i hi]at h4
 rw[nth_eq ps j hj]at h3
 omega
theorem needsP_rows{ps:List Int}{d n:Nat}(hd:d<=16)(h:MayOk n ps):needsL (leavesL ps (d:Nat)) (d:Nat)=rowsOf (leavesL ps (d:Nat)) d:=needs_rows hd h.1
def rowsP(n:Int)(ps:List Int):List (List Int):=needsL (leavesL ps (depthZ n)) (depthZ n)
def neededP(n:Int)(ps:List Int):Nat:=usedR (rowsP n ps) (len (rowsP n ps))
def digP(n:Int)(ps:List Int)(es ds:List ByteArray):ByteArray:=kidF (rootG (g0F (leavesL ps (depthZ n)) es) (rowsP n ps) ds) 0
def ArgOk(n:Int)(ps:List Int)(es:List ByteArray):Prop:=SizeOk n ps/\len es=len ps
instance (n:Int) (ps:List Int) (es:List ByteArray):Decidable (ArgOk n ps es):=by unfold ArgOk;exact inferInstance
def rootE(n:Int)(ps:List Int)(es ds:List ByteArray):Int:=
 if ¬ArgOk n ps es then 2 else if badB ds=true then 5 else if len ds<neededP n ps then 4 else if neededP n ps<len ds then 3 else 0
def rootS(n:Int)(ps:List Int)(es ds:List ByteArray):ByteArray:=if rootE n ps es ds=0 then digP n ps es ds else⟨#[]⟩
def RootIs(n:Int)(ps:List Int)(es ds:List ByteArray)(w:World)(e:Ending)(w':World):Prop:=e=.returned (.tuple #[.string (rootS n ps es ds),.int .i64 (rootE n ps es ds)])/\Below w.heap.size w w'
def memB(k:Int)(l:List Int):Bool:=decide (k ∈ l)
theorem memB_true{k:Int}{l:List Int}{n:Nat}(h:n<len l)(e:nth l n=k):memB k l=true:=by
 unfold memB;rw[nth_eq l n h]at e;simp only[<-e,decide_eq_true_eq];exact List.getElem_mem _
theorem memB_false{k:Int}{l:List Int}(h:∀j,j<len l->nth l j≠k):memB k l=false:=by
 unfold memB
 simp only[decide_eq_false_iff_not]
 intro hm
 obtain⟨i,hi,e⟩:=List.getElem_of_mem hm
 exact h i hi (by rw[nth_eq l i hi];exact e)
theorem has_any(a:Option Addr)(cap:Nat)(k:Int)(l:List Int)(w:World)(hlen:len l<=9223372036854775807)(hc:U64s w a l):
  Calls Tryz.prog 231 #[.slice a (len l) cap,.int .u64 k] w λ e w'=>e=.returned (.bool (memB k l))/\w'=w:=by
 have HC:=QLh hc;clear hc
 go_enter Tryz.func231,Tryz.ntmps231
 go_wp2
 go_loop [5] (λ i=>∃n:Nat,n<=len l/\i=.int .i64 n/\Hid (∀j,j<n->nth l j≠k)) (λ i=>len l - (intOf i).toNat)
 case atStart=>exact⟨0,Nat.zero_le _,rfl,λ j hj=>by omega⟩
 case round=>
  obtain⟨n,hn,rfl,hk⟩:=hrel
  by_cases hlt:n<len l
  ·obtain⟨b,off,rfl,hcell⟩:=HC.out n hlt
   by_cases hh:nth l n=k
   ·have hh':(nth l n == k)=true:=by simpa using hh
    have HH:=QLh hh;clear hh
    go_wp2
    go_ret
    exact⟨ret_bool (memB_true hlt HH.out).symm,rfl⟩
   ·have hh':(nth l n == k)=false:=by simpa using hh
    have HH:=QLh hh;clear hh
    go_wp2
    go_round
    case rel=>exact⟨n+1,by omega,by go_num,λ j hj=>by
     by_cases e:j=n
     ·subst e;exact HH.out
     ·exact hk.out j (by omega)⟩
    case measure=>simp[intOf];omega
  ·go_wp2
   go_ret
   exact⟨ret_bool (memB_false (λ j hj=>hk.out j (by omega))).symm,rfl⟩
abbrev Rising(l:List Int):Prop:=l.Pairwise (λ x y=>x<y)
theorem put_rising{l:List Int}{k:Int}{m:Nat}(hr:Rising l)(h1:∀j,j<m->nth l j<k)(hm:m<=len l)(h2:m<len l->k<nth l m):Rising (l.take m++[k]++l.drop m):=by
 have h3:∀x ∈ l.take m,x<k:=by
  intro x hx
  obtain⟨i,hi,rfl⟩:=List.getElem_of_mem hx
  have hi':i<m:=by simp at hi;omega
  have:=h1 i hi'
  rw[nth_eq l i (by rw[len_eq]at hm;omega)]at this
  simpa using this
 have h4:∀x ∈ l.drop m,k<x:=by
  intro x hx
  by_cases hlt:m<len l
  ·have hlt':m<l.length:=hlt
   rw[List.drop_eq_getElem_cons hlt']at hx
   have h5:=h2 hlt
   rw[nth_eq l m hlt']at h5
   rcases List.mem_cons.1 hx with rfl | hx
   ·exact h5
   ·have h6:(l.drop m).Pairwise (λ x y=>x<y):=List.Pairwise.drop hr
    rw[List.drop_eq_getElem_cons hlt',List.pairwise_cons]at h6
    have:=h6.1 x hx
    omega
  ·rw[List.drop_eq_nil_of_le (by rw[<-len_eq];omega)]at hx;cases hx
 refine List.pairwise_append.2 ⟨List.pairwise_append.2 ⟨hr.take,List.pairwise_singleton ..,λ x hx y hy=>?_⟩,hr.drop,λ x hx y hy=>?_⟩
 ·rw[List.mem_singleton]at hy;subst hy;exact h3 x hx
 ·rcases List.mem_append.1 hx with hx | hx
  ·have:=h3 x hx;have:=h4 y hy;omega
  ·rw[List.mem_singleton]at hx;subst hx;exact h4 y hy
theorem put_mem(l:List Int)(k:Int)(m:Nat)(x:Int):x ∈ l.take m++[k]++l.drop m ↔ x ∈ l \/ x=k:=by
 have h:x ∈ l ↔ x ∈ l.take m \/ x ∈ l.drop m:=by
  rw[<-List.mem_append,List.take_append_drop]
 rw[h,List.mem_append,List.mem_append,List.mem_singleton]
 constructor
 ·rintro((h | h) | h)
  ·exact .inl (.inl h)
  ·exact .inr h
  ·exact .inl (.inr h)
 ·rintro((h | h) | h)
  ·exact .inl (.inl h)
  ·exact .inr h
  ·exact .inl (.inr h)
theorem put_len(l:List Int)(k:Int)(m:Nat):len (l.take m++[k]++l.drop m)=len l+1:=by
 rw[len_eq,len_eq];simp;omega
def PutIs(base:Nat)(l:List Int)(k:Int)(w:World)(e:Ending)(w':World):Prop:=
 ∃(v:Value) (l':List Int),e=.returned v/\Rising l'/\(∀x,x ∈ l' ↔ x ∈ l \/ x=k)/\len l'<=len l+1/\w'.ownsRow base 23 1 v (len l') (l'.map (Value.int .u64))/\Below w.heap.size w w'
theorem own_lower{w:World}{base b' e size n:Nat}{v:Value}{xs:List Value}(h:w.ownsRow base e size v n xs)(hb:b'<=base):w.ownsRow b' e size v n xs:=
 ownsRow_later h (Below.refl _ _) hb
theorem part_len(l:List Int)(a n:Nat)(h:a+n<=len l):(((l.drop a).take n).map (Value.int .u64)).length=n:=by
 have:l.length=len l:=rfl
 simp;omega
theorem part_one(l:List Int):∀u ∈ l.map (Value.int .u64),u.oneCell'=true:=by
 intro u hu
 obtain⟨x,_,rfl⟩:=List.mem_map.1 hu
 rfl
theorem part_news(w:World)(g:Nat)(l:List Int)(h:∀j,j<len l->w.cell? ⟨g,j,none⟩=some (.int .u64 (nth l j)))(a n:Nat)(han:a+n<=len l):∀j u,(((l.drop a).take n).map (Value.int .u64))[j]?=some u->w.cell? ((⟨g,a,none⟩:Addr).add j)=some u:=by
 intro j u hu
 have hj:j<n:=by
  have h1:=(List.getElem?_eq_some_iff.1 hu).1
  rw[part_len l a n han]at h1;exact h1
 have hjl:a+j<l.length:=by have:l.length=len l:=rfl;omega
 rw[List.getElem?_map,List.getElem?_take_of_lt hj,List.getElem?_drop,List.getElem?_eq_getElem hjl]at hu
 cases hu
 have h2:=h (a+j) hjl
 rw[nth_eq l (a+j) hjl]at h2
 have h3:(⟨g,a,none⟩:Addr).add j=⟨g,a+j,none⟩:=by
  by_cases hj0:j=0
  ·subst hj0;rfl
  ·simp[Addr.add,hj0]
 rw[h3];exact h2
theorem one_news(w:World)(v:Value)(t:TypeId):∀j u,[v][j]?=some u->(w.alloc (.cells #[v] t)).cell? ((⟨w.heap.size,0,none⟩:Addr).add j)=some u:=by
 intro j u hu
 cases j with
 | zero=>simp at hu;subst hu;exact block_cell (heap_alloc_new _ _) 0
 | succ j=>simp at hu
theorem put_xs1(l:List Int)(k:Int)(m:Nat)(h:len l - m=0):List.take m (l.map (Value.int .u64))++[.int .u64 k]=(l.take m++[k]++l.drop m).map (Value.int .u64):=by
 rw[List.drop_eq_nil_of_le (by rw[<-len_eq];omega)];simp
theorem put_xs2(l:List Int)(k:Int)(m:Nat):List.take m (l.map (Value.int .u64))++.int .u64 k :: List.take (len l - m) (List.drop m (l.map (Value.int .u64)))=(l.take m++[k]++l.drop m).map (Value.int .u64):=by
 rw[List.take_of_length_le (l:=List.drop m _) (by rw[List.length_drop,List.length_map];exact Nat.le_refl _)]
 simp
theorem put_end{base:Nat}{l:List Int}{k:Int}{m n:Nat}{w w':World}{v:Value}(hm:m<=len l)(hr:Rising l)(hk:∀j,j<m->nth l j<k)(h2:m<len l->k<nth l m)(hbase:base<=w.heap.size)
  {xs:List Value} (hx:xs=(l.take m++[k]++l.drop m).map (Value.int .u64)) (hown:w'.ownsRow w.heap.size 23 1 v n xs) (hb:Below w.heap.size w w'):PutIs base l k w (.returned v) w':=by
 subst hx
 have hn:n=len (l.take m++[k]++l.drop m):=by
  have:=hown.1
  rw[List.length_map,Nat.mul_one]at this
  rw[len_eq];exact this.symm
 subst hn
 exact⟨v,_,rfl,put_rising hr hk hm h2,put_mem l k m,by rw[put_len];exact Nat.le_refl _,own_lower hown hbase,hb⟩
theorem put_any(base:Nat)(v0:Value)(l:List Int)(k:Int)(w:World)(hown:w.ownsRow base 23 1 v0 (len l) (l.map (Value.int .u64)))(hr:Rising l)(hlen:len l<=1000)(hbase:base<=w.heap.size):
  Calls Tryz.prog 229 #[v0,.int .u64 k] w (PutIs base l k w):=by
 obtain⟨i0,hi,hz0,hz1,hz2⟩:=info_parts info_u64
 have HR:=QLh hr;have HOWN:=QLh hown;clear hr
 rcases hown.2 with⟨rfl,h2⟩ | ⟨g,cap,cur,rfl,hg,hh,hc1,hc2,hc3,hc4⟩
 ·obtain rfl:l=[]:=List.eq_nil_of_length_eq_zero (by rw[<-len_eq];omega)
  clear hown h2;have W0:w.ownsRow w.heap.size 23 1 (.slice none 0 0) 0 []:=World.ownsRow_nil _ _ _ _;have HW0:=QLh W0;clear W0
  show Calls Tryz.prog 229 #[.slice none 0 0,.int .u64 k] w _
  have l0:len ([]:List Int)=0:=rfl
  go_enter Tryz.func229,Tryz.ntmps229
  go_wp2_with fail
  refine wp_loop_rounds 1 ?_
  rw[rounds_succ]
  go_wp2_with (first | (at_builtin;refine wpList_append_own_none rfl _ _ 64 rfl w.heap.size 23 i0 1 Tryz.underlying64 hi _ _ _ rfl HW0.out rfl ?_) | (at_builtin;refine wpList_append_own _ rfl _ _ 64 rfl w.heap.size 23 i0 (.int .u64 0) 1 8 Tryz.underlying64 hi hz0 hz1 hz2 rfl (by decide) _ _ _ rfl (HW0.out.alloc _) ⟨w.heap.size,0,none⟩ 1 1 [.int .u64 k] rfl rfl ?c1 ?c2 ?c3 ?c4 ?c5 ?_))
  case c1=>
   intro j u hu
   cases j with
   | zero=>simp at hu;subst hu;exact block_cell (heap_alloc_new _ _) 0
   | succ j=>simp at hu
  case c2=>intro u hu;simp at hu;subst hu;rfl
  case c3=>unfold maxLen;omega
  case c4=>omega
  case c5=>simp
  intro v' w2 hown' hgrow _
  have hb2:Below w.heap.size w w2:=grownBy_below (balloc (Below.refl _ _) _) hgrow (λ k hk'=>by simp[Value.ownBlock]at hk')
  obtain⟨g',cap',rfl⟩:=ownsRow_succ hown'
  have HO2:=QLh hown';clear hown' hgrow
  go_wp2_with (at_builtin;refine wpList_append_own_none rfl _ _ 64 rfl w.heap.size 23 i0 1 Tryz.underlying64 hi _ _ _ rfl HO2.out rfl ?_)
  go_wp2
  go_ret
  exact⟨_,[k],rfl,List.pairwise_singleton ..,λ x=>by simp,Nat.le_refl _,own_lower HO2.out hbase,hb2⟩
 ·have hlc:len l<=cap:=by omega
  have HC:Hid (∀j,j<len l->w.cell? ⟨g,j,none⟩=some (.int .u64 (nth l j))):=QLh (λ j hj=>by
   have:=hown.cellAt j (by omega)
   rw[this,List.getElem?_map,List.getElem?_eq_getElem (by simpa [len_eq] using hj),nth_eq l j (by simpa [len_eq] using hj)];rfl)
  have hgl:g<w.heap.size:=(Array.getElem?_eq_some_iff.1 hh).1;clear hown hh hc3 hc4 hc1;have W0:w.ownsRow w.heap.size 23 1 (.slice none 0 0) 0 []:=World.ownsRow_nil _ _ _ _;have HW0:=QLh W0;clear W0;have HZ:=QLh hz0
  go_enter Tryz.func229,Tryz.ntmps229
  go_wp2
  go_loopg [5] (len l) (λ g i wr=>∃m:Nat,g+m=len l/\i=.int .i64 m/\Hid (∀j,j<m->nth l j<k)/\w=wr)
  case atStart=>exact⟨0,rfl,rfl,λ j hj=>by omega,rfl⟩
  case round=>
   obtain⟨m,hm,rfl,hk,rfl⟩:=hrel
   by_cases hlt:m<len l
   ·have hcell:=HC.out m hlt
    by_cases h1:nth l m<k
    ·go_wp2
     go_roundg (len l - (m+1))
     case rel=>exact⟨m+1,by omega,by go_num,QLh (λ j hj=>by
      by_cases e:j=m
      ·subst e;exact h1
      ·exact hk.out j (by omega)),rfl⟩
     case measure=>omega
    ·by_cases h3:nth l m=k
     ·have h3':(nth l m == k)=true:=by simpa using h3
      have H3:=QLh h3;clear h3
      go_wp2
      go_ret
      exact⟨_,l,rfl,HR.out,λ x=>⟨.inl,λ h=>by
       rcases h with h | h
       ·exact h
       ·rw[h,<-H3.out,nth_eq l m hlt];exact List.getElem_mem _⟩,by omega,HOWN.out,Below.refl _ _⟩
     ·have h3':(nth l m == k)=false:=by simpa using h3
      have H4:Hid (m<len l->k<nth l m):=QLh (λ _=>by omega);have HK:=QLh hk.out;clear h3 hk;have hmc:m<=cap:=by omega
      have hml:m<=len l:=by omega
      go_wp2_with (at_builtin;refine wpList_append_own _ rfl _ _ 64 rfl w.heap.size 23 i0 (.int .u64 0) 1 8 Tryz.underlying64 hi HZ.out hz1 hz2 rfl (by decide) _ _ _ rfl HW0.out ⟨g,0,none⟩ _ _ (((l.drop 0).take m).map (Value.int .u64)) rfl (by rw[part_len l 0 m (by omega)];simp) (part_news w g l HC.out 0 m (by omega)) (part_one _) (by unfold maxLen;omega) (by omega) (Nat.le_refl _) ?_)
      intro v1 w1 hown1 hgrow1 _
      have HB1:Hid (Below w.heap.size w w1):=QLh (grownBy_below (Below.refl _ _) hgrow1 (λ k hk'=>by simp[Value.ownBlock]at hk'));have HO1:=QLh hown1;clear hown1 hgrow1
      go_wp2_with (at_builtin;refine wpList_append_own _ rfl _ _ 64 rfl w.heap.size 23 i0 (.int .u64 0) 1 8 Tryz.underlying64 hi HZ.out hz1 hz2 rfl (by decide) _ _ _ rfl (HO1.out.alloc _) ⟨w1.heap.size,0,none⟩ 1 1 [.int .u64 k] rfl rfl (one_news _ _ _) (by intro u hu;simp at hu;subst hu;rfl) (by unfold maxLen;omega) (by omega) (by have:=HB1.out.size;simp;omega) ?_)
      intro v2 w2 hown2 hgrow2 _
      have HB2:Hid (Below w.heap.size w w2):=QLh (grownBy_below (balloc HB1.out _) hgrow2 (λ k hk'=>(HO1.out.lt k hk').1));have HO2:=QLh hown2;clear hown2 hgrow2;have HC2:Hid (∀j,j<len l->w2.cell? ⟨g,j,none⟩=some (.int .u64 (nth l j))):=QLh (λ j hj=>by rw[HB2.out.cell (p:=⟨g,j,none⟩) hgl];exact HC.out j hj);have HE:Hid (PutIs base l k w=PutIs base l k w):=QLh rfl
      by_cases hcm:cap=m
      ·have hz:len l - m=0:=by omega
       go_wp2_with (at_builtin;refine wpList_append_own _ rfl _ _ 64 rfl w.heap.size 23 i0 (.int .u64 0) 1 8 Tryz.underlying64 hi HZ.out hz1 hz2 rfl (by decide) _ _ _ rfl HO2.out _ _ _ (((l.drop m).take (len l - m)).map (Value.int .u64)) rfl (by rw[part_len l m (len l - m) (by omega)];omega) (by intro j u hu;rw[hz]at hu;simp at hu) (part_one _) (by unfold maxLen;omega) (by omega) HB2.out.size ?_)
       intro v3 w3 hown3 hgrow3 _
       have HB3:Hid (Below w.heap.size w w3):=QLh (grownBy_below HB2.out hgrow3 (λ k hk'=>(HO2.out.lt k hk').1));have HO3:=QLh hown3;clear hown3 hgrow3
       go_wp2
       go_ret
       exact put_end hml HR.out HK.out H4.out hbase (put_xs1 l k m hz) HO3.out HB3.out
      ·have hcm2:m<cap:=by omega
       go_wp2_with (at_builtin;refine wpList_append_own _ rfl _ _ 64 rfl w.heap.size 23 i0 (.int .u64 0) 1 8 Tryz.underlying64 hi HZ.out hz1 hz2 rfl (by decide) _ _ _ rfl HO2.out ⟨g,m,none⟩ _ _ (((l.drop m).take (len l - m)).map (Value.int .u64)) rfl (by rw[part_len l m (len l - m) (by omega)];omega) (part_news w2 g l HC2.out m (len l - m) (by omega)) (part_one _) (by unfold maxLen;omega) (by omega) HB2.out.size ?_)
       intro v3 w3 hown3 hgrow3 _
       have HB3:Hid (Below w.heap.size w w3):=QLh (grownBy_below HB2.out hgrow3 (λ k hk'=>(HO2.out.lt k hk').1));have HO3:=QLh hown3;clear hown3 hgrow3
       go_wp2
       go_ret
       exact put_end hml HR.out HK.out H4.out hbase (put_xs2 l k m) HO3.out HB3.out
   ·have H4:Hid (m<len l->k<nth l m):=QLh (λ h=>absurd h hlt)
    have HK:=QLh hk.out;clear hk;have hmc:m<=cap:=by omega
    have hml:m<=len l:=by omega
    go_wp2_with (at_builtin;refine wpList_append_own _ rfl _ _ 64 rfl w.heap.size 23 i0 (.int .u64 0) 1 8 Tryz.underlying64 hi HZ.out hz1 hz2 rfl (by decide) _ _ _ rfl HW0.out ⟨g,0,none⟩ _ _ (((l.drop 0).take m).map (Value.int .u64)) rfl (by rw[part_len l 0 m (by omega)];simp) (part_news w g l HC.out 0 m (by omega)) (part_one _) (by unfold maxLen;omega) (by omega) (Nat.le_refl _) ?_)
    intro v1 w1 hown1 hgrow1 _
    have HB1:Hid (Below w.heap.size w w1):=QLh (grownBy_below (Below.refl _ _) hgrow1 (λ k hk'=>by simp[Value.ownBlock]at hk'));have HO1:=QLh hown1;clear hown1 hgrow1
    go_wp2_with (at_builtin;refine wpList_append_own _ rfl _ _ 64 rfl w.heap.size 23 i0 (.int .u64 0) 1 8 Tryz.underlying64 hi HZ.out hz1 hz2 rfl (by decide) _ _ _ rfl (HO1.out.alloc _) ⟨w1.heap.size,0,none⟩ 1 1 [.int .u64 k] rfl rfl (one_news _ _ _) (by intro u hu;simp at hu;subst hu;rfl) (by unfold maxLen;omega) (by omega) (by have:=HB1.out.size;simp;omega) ?_)
    intro v2 w2 hown2 hgrow2 _
    have HB2:Hid (Below w.heap.size w w2):=QLh (grownBy_below (balloc HB1.out _) hgrow2 (λ k hk'=>(HO1.out.lt k hk').1));have HO2:=QLh hown2;clear hown2 hgrow2;have HC2:Hid (∀j,j<len l->w2.cell? ⟨g,j,none⟩=some (.int .u64 (nth l j))):=QLh (λ j hj=>by rw[HB2.out.cell (p:=⟨g,j,none⟩) hgl];exact HC.out j hj);have HE:Hid (PutIs base l k w=PutIs base l k w):=QLh rfl
    by_cases hcm:cap=m
    ·have hz:len l - m=0:=by omega
     go_wp2_with (at_builtin;refine wpList_append_own _ rfl _ _ 64 rfl w.heap.size 23 i0 (.int .u64 0) 1 8 Tryz.underlying64 hi HZ.out hz1 hz2 rfl (by decide) _ _ _ rfl HO2.out _ _ _ (((l.drop m).take (len l - m)).map (Value.int .u64)) rfl (by rw[part_len l m (len l - m) (by omega)];omega) (by intro j u hu;rw[hz]at hu;simp at hu) (part_one _) (by unfold maxLen;omega) (by omega) HB2.out.size ?_)
     intro v3 w3 hown3 hgrow3 _
     have HB3:Hid (Below w.heap.size w w3):=QLh (grownBy_below HB2.out hgrow3 (λ k hk'=>(HO2.out.lt k hk').1));have HO3:=QLh hown3;clear hown3 hgrow3
     go_wp2
     go_ret
     exact put_end hml HR.out HK.out H4.out hbase (put_xs1 l k m hz) HO3.out HB3.out
    ·have hcm2:m<cap:=by omega
     go_wp2_with (at_builtin;refine wpList_append_own _ rfl _ _ 64 rfl w.heap.size 23 i0 (.int .u64 0) 1 8 Tryz.underlying64 hi HZ.out hz1 hz2 rfl (by decide) _ _ _ rfl HO2.out ⟨g,m,none⟩ _ _ (((l.drop m).take (len l - m)).map (Value.int .u64)) rfl (by rw[part_len l m (len l - m) (by omega)];omega) (part_news w2 g l HC2.out m (len l - m) (by omega)) (part_one _) (by unfold maxLen;omega) (by omega) HB2.out.size ?_)
     intro v3 w3 hown3 hgrow3 _
     have HB3:Hid (Below w.heap.size w w3):=QLh (grownBy_below HB2.out hgrow3 (λ k hk'=>(HO2.out.lt k hk').1));have HO3:=QLh hown3;clear hown3 hgrow3
     go_wp2
     go_ret
     exact put_end hml HR.out HK.out H4.out hbase (put_xs2 l k m) HO3.out HB3.out
def Kn(W:World)(base:Nat)(v:Value)(l:List Int):Prop:=Rising l/\W.ownsRow base 23 1 v (len l) (l.map (Value.int .u64))
theorem Kn.nil(W:World)(base:Nat):Kn W base (.slice none 0 0) []:=⟨List.Pairwise.nil,World.ownsRow_nil _ _ _ _⟩
theorem Kn.below{W W':World}{base:Nat}{v:Value}{l:List Int}(h:Kn W base v l)(hb:Below W.heap.size W W'):Kn W' base v l:=⟨h.1,own_below h.2 hb⟩
theorem Kn.shape{W:World}{base:Nat}{v:Value}{l:List Int}(h:Kn W base v l):∃a cap,v=.slice a (len l) cap/\U64s W a l:=by
 obtain⟨a,cap,h1,h2,_⟩:=own_u64 h.2;exact⟨a,cap,h1,h2⟩
theorem putk_any(base:Nat)(v0:Value)(l:List Int)(k:Int)(w:World)(h:Kn w base v0 l)(hlen:len l<=1000)(hbase:base<=w.heap.size):
  Calls Tryz.prog 229 #[v0,.int .u64 k] w λ e w'=>∃v l',e=.returned v/\Kn w' base v l'/\(∀x,x ∈ l' ↔ x ∈ l \/ x=k)/\len l'<=len l+1/\Below w.heap.size w w':=
 (put_any base v0 l k w h.2 h.1 hlen hbase).mono (λ e w' ⟨v,l',h1,h2,h3,h4,h5,h6⟩=>⟨v,l',h1,⟨h2,h5⟩,h3,h4,h6⟩)
theorem has_one(a:Option Addr)(cap:Nat)(k:Int)(l:List Int)(w:World)(hlen:len l<=9223372036854775807)(hc:U64s w a l):
  Calls Tryz.prog 231 #[.slice a (len l) cap,.int .u64 k] w λ e w'=>e=.returned (.bool (memB k l))/\w=w':=
 (has_any a cap k l w hlen hc).mono (λ e w' h=>⟨h.1,h.2.symm⟩)
theorem take_mem_succ{l:List Int}{m:Nat}(h:m<len l)(x:Int):x ∈ l.take (m+1) ↔ x ∈ l.take m \/ x=nth l m:=by
 have h':m<l.length:=h
 rw[List.take_succ_eq_append_getElem h',List.mem_append,List.mem_singleton,nth_eq l m h']
theorem take_all(l:List Int):l.take (len l)=l:=List.take_length
def Fill(kn nd nx:List Int)(m:Nat):Prop:=(∀x,x ∈ nd ↔ (∃j ∈ kn.take m,x=sib j)/\x ∉ kn)/\(∀x,x ∈ nx ↔ ∃j ∈ kn.take m,x=j / 2)/\len nd<=m/\len nx<=m
theorem Fill.start(kn:List Int):Fill kn [] [] 0:=⟨λ x=>by simp,λ x=>by simp,Nat.le_refl _,Nat.le_refl _⟩
theorem Fill.step{kn nd nx nd' nx':List Int}{m:Nat}(h:Fill kn nd nx m)(hm:m<len kn)(h1:∀x,x ∈ nd' ↔ x ∈ nd \/ (x=sib (nth kn m)/\x ∉ kn))(h2:∀x,x ∈ nx' ↔ x ∈ nx \/ x=nth kn m / 2)(l1:len nd'<=len nd+1)(l2:len nx'<=len nx+1):Fill kn nd' nx' (m+1):=by
 refine⟨λ x=>?_,λ x=>?_,by have:=h.2.2.1;omega,by have:=h.2.2.2;omega⟩
 ·rw[h1,h.1]
  constructor
  ·rintro(⟨⟨j,hj,e⟩,hx⟩ | ⟨e,hx⟩)
   ·exact⟨⟨j,(take_mem_succ hm j).2 (.inl hj),e⟩,hx⟩
   ·exact⟨⟨_,(take_mem_succ hm _).2 (.inr rfl),e⟩,hx⟩
  ·rintro⟨⟨j,hj,e⟩,hx⟩
   rcases(take_mem_succ hm j).1 hj with hj | rfl
   ·exact .inl ⟨⟨j,hj,e⟩,hx⟩
   ·exact .inr ⟨e,hx⟩
 ·rw[h2,h.2.1]
  constructor
  ·rintro(⟨j,hj,e⟩ | e)
   ·exact⟨j,(take_mem_succ hm j).2 (.inl hj),e⟩
   ·exact⟨_,(take_mem_succ hm _).2 (.inr rfl),e⟩
  ·rintro⟨j,hj,e⟩
   rcases(take_mem_succ hm j).1 hj with hj | rfl
   ·exact .inl ⟨j,hj,e⟩
   ·exact .inr e
theorem Fill.row{kn nd nx:List Int}(h:Fill kn nd nx (len kn))(hr:Rising nd):nd=rowK kn:=by
 refine rising_eq hr (srt_rising (needK_nodup kn)) (λ k=>?_)
 rw[h.1,take_all]
 unfold rowK
 rw[srt_mem,needK_mem]
def At(leaves:List Int)(lv:Nat)(kn:List Int):Prop:=∀x,x ∈ kn ↔ ∃j ∈ leaves,x=j / 2 ^ lv
theorem At.row{leaves kn:List Int}{lv:Nat}(h:At leaves lv kn):rowK kn=rowK (insAll (leaves.map (· / 2 ^ lv))):=rowK_same (λ k=>by
 rw[h k,(insAll_all _).2.1,List.mem_map]
 constructor
 ·rintro⟨j,hj,e⟩;exact⟨j,hj,e.symm⟩
 ·rintro⟨j,hj,e⟩;exact⟨j,hj,e.symm⟩)
theorem At.next{leaves kn nd nx:List Int}{lv:Nat}(h:At leaves lv kn)(hf:Fill kn nd nx (len kn)):At leaves (lv+1) nx:=λ x=>by
 have hp:∀j:Int,j / 2 ^ lv / 2=j / 2 ^ (lv+1):=λ j=>by
  rw[Int.pow_succ,Int.ediv_ediv_of_nonneg (Int.pow_nonneg (by decide))]
 rw[hf.2.1,take_all]
 constructor
 ·rintro⟨j,hj,rfl⟩
  obtain⟨i,hi,rfl⟩:=(h j).1 hj
  exact⟨i,hi,hp i⟩
 ·rintro⟨i,hi,rfl⟩
  exact⟨i / 2 ^ lv,(h _).2 ⟨i,hi,rfl⟩,(hp i).symm⟩
theorem At.u64{leaves kn:List Int}{lv:Nat}(h:At leaves lv kn)(hu:∀k ∈ leaves,U64 k):∀k ∈ kn,U64 k:=by
 intro k hk
 obtain⟨j,hj,rfl⟩:=(h k).1 hk
 have:=hu j hj
 unfold U64 at this ⊢
 have hp:(0:Int)<2 ^ lv:=Int.pow_pos (by decide)
 exact⟨Int.ediv_nonneg this.1 (by omega),Int.le_trans (Int.ediv_le_self _ this.1) this.2⟩
theorem rowsOf_succ(leaves:List Int)(lv:Nat):rowsOf leaves (lv+1)=rowsOf leaves lv++[rowK (insAll (leaves.map (· / 2 ^ lv)))]:=by
 simp[rowsOf,List.range_succ]
theorem kn_grow{W X w1:World}{base b2 n:Nat}{v vo:Value}{l:List Int}{xs:List Value}(h:Kn W base v l)(hb:Below W.heap.size W X)(hq:X.ownsRow b2 64 1 vo n xs)(hg:X.grownBy w1 vo.ownBlock):Kn w1 base v l:=
 ⟨h.1,(own_below h.2 hb).kept hg (own_apart (own_below h.2 hb) hq (by decide))⟩
theorem rows_grow{X w1:World}{base b2 n:Nat}{vo:Value}{xs vals:List Value}{rs:List (List Int)}(h:RowsAre X base vals rs)(hq:X.ownsRow b2 64 1 vo n xs)(hg:X.grownBy w1 vo.ownBlock):RowsAre w1 base vals rs:=
 h.kept hg (λ i u hu=>by
  rcases hq.2 with⟨e,_⟩ | ⟨g,cap,cur,e,_,hgb,_⟩
  ·rw[e];cases h:u.ownBlock <;> simp[Value.ownBlock]
  ·rw[e];exact h.apart hgb (by decide) i u hu)
def Laid8(W:World)(base:Nat)(v:Value)(rs:List (List Int)):Prop:=∃vals:List Value,W.ownsRow base 64 1 v vals.length vals/\RowsAre W base vals rs
theorem Laid8.nil(W:World)(base:Nat):Laid8 W base (.slice none 0 0) []:=⟨[],World.ownsRow_nil _ _ _ _,RowsAre.nil _ _⟩
theorem Laid8.below{W W':World}{base:Nat}{v:Value}{rs:List (List Int)}(h:Laid8 W base v rs)(hb:Below W.heap.size W W'):Laid8 W' base v rs:=by
 obtain⟨vals,h1,h2⟩:=h;exact⟨vals,own_below h1 hb,h2.below hb⟩
def Lev8(leaves:List Int)(w:World)(lv:Nat)(vk vo:Value)(wr:World):Prop:=∃kn,Kn wr w.heap.size vk kn/\At leaves lv kn/\len kn<=100/\Laid8 wr w.heap.size vo (rowsOf leaves lv)/\Below w.heap.size w wr
def In8(w W:World)(kn:List Int)(m:Nat)(vd vx:Value)(wr:World):Prop:=∃nd nx,Kn wr w.heap.size vd nd/\Kn wr w.heap.size vx nx/\Fill kn nd nx m/\Below W.heap.size W wr
theorem refNeeds_any(a:Option Addr)(cap:Nat)(leaves:List Int)(d:Int)(w:World)(hl:U64s w a leaves)(hlen:len leaves<=100)(hu:∀k ∈ leaves,U64 k):
  Calls Tryz.prog 172 #[.slice a (len leaves) cap,.int .i64 d] w (NeedsIs (needsL leaves d) w):=by
 have HL:=QLh hl;have HU:=QLh hu;clear hl hu
 by_cases hd:d<0 \/ 16<d \/ len leaves=0
 ·have E:Hid (needsL leaves d=[]):=QLh (by unfold needsL;rw[if_neg (λ h=>by have:=h.1;have:=h.2.1;have:=h.2.2.1;omega)])
  by_cases h1:d<0
  ·have e1:decide (d<0)=true:=decide_eq_true h1
   go_enter Tryz.func172,Tryz.ntmps172
   go_wp2
   go_ret
   exact needsIs_nil E.out (Below.refl _ _)
  ·by_cases h2:16<d
   ·have e1:decide (d<0)=false:=decide_eq_false h1
    have e2:decide (16<d)=true:=decide_eq_true h2
    go_enter Tryz.func172,Tryz.ntmps172
    go_wp2
    go_ret
    exact needsIs_nil E.out (Below.refl _ _)
   ·have e1:decide (d<0)=false:=decide_eq_false h1
    have e2:decide (16<d)=false:=decide_eq_false h2;have e3:((len leaves:Int) == 0)=true:=by simp;omega
    go_enter Tryz.func172,Tryz.ntmps172
    go_wp2
    go_ret
    exact needsIs_nil E.out (Below.refl _ _)
 obtain⟨e,rfl⟩:=Int.eq_ofNat_of_zero_le (a:=d) (by omega)
 have he16:e<=16:=by omega
 have hl0:0<len leaves:=by omega
 have p16:2 ^ e<=65536:=Nat.pow_le_pow_right (n:=2) (by decide) he16;have e1:decide ((e:Int)<0)=false:=decide_eq_false (by omega);have e2:decide ((16:Int)<(e:Int))=false:=decide_eq_false (by omega);have e3:((len leaves:Int) == 0)=false:=by simp;omega
 have N1:Hid (farB leaves e=true->needsL leaves e=[]):=QLh (λ h=>by unfold needsL;rw[Int.toNat_natCast,if_neg (λ hh=>by rw[h]at hh;exact absurd hh.2.2.2 (by decide))]);have N2:Hid (farB leaves e=false->needsL leaves e=rowsOf leaves e):=QLh (λ h=>by unfold needsL;rw[Int.toNat_natCast,if_pos ⟨by omega,by omega,hl0,h⟩]);have F1:Hid ((∃k ∈ leaves,((2 ^ e:Nat):Int)<=k)->farB leaves e=true):=QLh (fun ⟨k,hk,h⟩=>decide_eq_true ⟨k,hk,by rw[pow_cast];exact h⟩);have F2:Hid ((∀k ∈ leaves,k<((2 ^ e:Nat):Int))->farB leaves e=false):=QLh (λ h=>decide_eq_false (fun ⟨k,hk,h2⟩=>by rw[pow_cast]at h2;have:=h k hk;omega))
 obtain⟨p,hp⟩:∃p:Nat,2 ^ e=p:=⟨_,rfl⟩
 have hw:IntKind.u64.wrap ((2:Int) ^ e)=(p:Int):=by rw[pow_cast,IntKind.wrap_u64,hp];omega
 rw[hp]at p16 F1 F2
 clear hp hd
 go_enter Tryz.func172,Tryz.ntmps172
 go_wp2
 go_loopg [5,6] (len leaves) (λ g v i wr=>∃m:Nat,g+m=len leaves/\i=.int .i64 m/\Below w.heap.size w wr/\Hid (∃kn,Kn wr w.heap.size v kn/\(∀x,x ∈ kn ↔ x ∈ leaves.take m)/\len kn<=m/\∀x ∈ leaves.take m,x<(p:Int)))
 case atStart=>exact⟨0,rfl,rfl,Below.refl _ _,⟨[],Kn.nil _ _,λ x=>by simp,Nat.le_refl _,λ x h=>by simp at h⟩⟩
 case round=>
  obtain⟨m,hm,rfl,hb,hk⟩:=hrel
  by_cases hlt:m<len leaves
  ·obtain⟨b,off,rfl,hcell⟩:=(HL.out.below hb) m hlt
   have hmem:nth leaves m ∈ leaves:=by rw[nth_eq leaves m hlt];exact List.getElem_mem _
   by_cases hf:(p:Int)<=nth leaves m
   ·have hf':decide ((p:Int)<=nth leaves m)=true:=decide_eq_true hf
    have E:Hid (needsL leaves e=[]):=QLh (N1.out (F1.out ⟨_,hmem,hf⟩));clear hmem
    go_wp2_with fail
    go_quiet (fail)
    go_wp2
    go_ret
    exact needsIs_nil E.out (by(repeat (first | exact Below.refl _ _ | assumption | (refine bdrew ?_) | (refine bdrewN ?_ _) | (refine balloc ?_ _) | (refine bset ?_ (by first | omega | (simp;done) | (simp;omega)) _) | (refine bnext ?_ (by assumption)))))
   ·have hf':decide ((p:Int)<=nth leaves m)=false:=decide_eq_false hf
    have HF:=QLh hf;clear hmem hf
    go_upto_region 9 with(go_quiet (fail))
    obtain⟨kn,h1,h2,h3,h4⟩:=hk.out
    clear hk;have hdw:=λ n=>Kn.below h1 (below_drewN (Below.refl _ wr) n)
    go_wp2_with fail
    refine(putk_any w.heap.size _ kn (nth leaves m) _ (by first | exact h1 | exact hdw _ | exact Kn.below h1 (by(repeat (first | exact Below.refl _ _ | assumption | (refine bdrew ?_) | (refine bdrewN ?_ _) | (refine balloc ?_ _) | (refine bset ?_ (by first | omega | (simp;done) | (simp;omega)) _) | (refine bnext ?_ (by assumption)))))) (by omega) (by first | exact hb.size | (have:=hb.size;simp;omega))).mono ?_
    rintro x w1 ⟨v1,kn1,rfl,k1,k2,k3,k4⟩
    have B1:Hid (Below w.heap.size w w1):=QLh (bnext (by(repeat (first | exact Below.refl _ _ | assumption | (refine bdrew ?_) | (refine bdrewN ?_ _) | (refine balloc ?_ _) | (refine bset ?_ (by first | omega | (simp;done) | (simp;omega)) _) | (refine bnext ?_ (by assumption))))) k4)
    have K1:Hid (∃kn,Kn w1 w.heap.size v1 kn/\(∀x,x ∈ kn ↔ x ∈ leaves.take (m+1))/\len kn<=m+1/\∀x ∈ leaves.take (m+1),x<(p:Int)):=QLh ⟨kn1,k1,λ x=>by rw[k2,h2,take_mem_succ hlt],by omega,λ x hx=>by
     rcases(take_mem_succ hlt x).1 hx with hx | rfl
     ·exact h4 x hx
     ·have:=HF.out;omega⟩
    clear k1 k2 k3 k4 h1 h2 h3 h4 hdw
    go_wp2
    go_roundg (len leaves - (m+1))
    case rel=>exact⟨m+1,by omega,by go_num,B1.out,K1.out⟩
    case measure=>omega
  ·obtain rfl:m=len leaves:=by omega
   obtain⟨kn,h1,h2,h3,h4⟩:=hk.out
   have K:=QLh (show _/\At leaves 0 kn/\len kn<=100 from⟨h1,λ x=>by rw[h2,take_all];simp,by omega⟩);have E:Hid (needsL leaves e=rowsOf leaves e):=QLh (N2.out (F2.out (by intro k hk2;exact h4 k (by rw[take_all];exact hk2))));clear h1 h2 h3 h4 hk hw N1 N2 F1 F2
   go_wp2
   go_loopg [5,7,8] e (λ g vk vo i wx=>∃lv:Nat,g+lv=e/\i=.int .i64 lv/\Hid (Lev8 leaves w lv vk vo wx))
   case atStart=>exact⟨0,rfl,rfl,⟨kn,K.out.1,K.out.2.1,K.out.2.2,Laid8.nil _ _,hb⟩⟩
   case round=>
    clear K
    obtain⟨lv,hlv,rfl,hk⟩:=hrel
    obtain⟨kn,k1,k2,k3,k4,k5⟩:=hk.out
    by_cases hle:lv<e
    ·obtain⟨GK,hGK⟩:∃G,G=gk:=⟨_,rfl⟩
     subst hGK
     obtain⟨W1,hW1⟩:∃W,W=wr:=⟨_,rfl⟩
     subst hW1
     obtain⟨ak,ck,hvk,hku⟩:=k1.shape
     subst hvk
     have K1:=QLh k1;have K2:=QLh k2;have K4:=QLh k4;have K5:=QLh k5;have KU:=QLh hku;have KI:=QLh (k2.u64 HU.out);clear k1 k2 k4 k5 hk hku
     go_wp2
     go_loopg [9,10,11] (len kn) (λ g vd vx i wy=>∃m:Nat,g+m=len kn/\i=.int .i64 m/\Hid (In8 w W1 kn m vd vx wy))
     case atStart=>exact⟨0,rfl,rfl,⟨[],[],Kn.nil _ _,Kn.nil _ _,Fill.start kn,Below.refl _ _⟩⟩
     case round=>
      obtain⟨m,hm2,rfl,hin⟩:=hrel
      obtain⟨nd,nx,n1,n2,n3,n4⟩:=hin.out
      have M1:=QLh n1;have M2:=QLh n2;have M3:=QLh n3;have M4:=QLh n4;clear hin n1 n2 n3 n4
      by_cases hltm:m<len kn
      ·obtain⟨bk,ok,rfl,hcellk⟩:=(KU.out.below M4.out) m hltm
       have hu:=KI.out (nth kn m) (by rw[nth_eq kn m hltm];exact List.getElem_mem _)
       obtain⟨x,hx⟩:=Int.eq_ofNat_of_zero_le hu.1
       have hx1:(x:Int)<=18446744073709551615:=by rw[<-hx];exact hu.2
       rw[hx]at hcellk
       have HX:=QLh hx;have HCK:=QLh hcellk;clear hx hu
       go_wp2_with fail
       refine(refSibling_any (x:Int) _ (by omega) hx1).mono ?_
       rintro y w' ⟨rfl,rfl⟩
       go_wp2_with fail
       refine(has_one (some ⟨bk,ok,none⟩) ck (sib (x:Int)) kn _ (by omega) (KU.out.below M4.out)).mono ?_
       rintro y w' ⟨rfl,rfl⟩
       have ML3:len nd<=100:=by have:=M3.out.2.2.1;omega
       have ML4:len nx<=100:=by have:=M3.out.2.2.2;omega
       have HS2:w.heap.size<=wr.heap.size:=by have:=M4.out.size;have:=K5.out.size;omega
       by_cases hmem:sib (x:Int) ∈ kn
       ·rw[show memB (sib (x:Int)) kn=true from decide_eq_true hmem]
        have HM:=QLh hmem;clear hmem
        go_wp2_with fail
        refine(putk_any w.heap.size _ nx ((x:Int) / 2) _ M2.out (by omega) HS2).mono ?_
        rintro y w1 ⟨v1,nx1,rfl,t1,t2,t3,t4⟩
        have R:Hid (In8 w W1 kn (m+1) _ v1 w1):=QLh ⟨nd,nx1,M1.out.below t4,t1,M3.out.step hltm (λ y=>⟨.inl,λ h=>by
         rcases h with h | ⟨h,h2⟩
         ·exact h
         ·rw[HX.out]at h;rw[h]at h2;exact absurd HM.out h2⟩) (λ y=>by rw[t2,HX.out]) (by omega) t3,bnext M4.out t4⟩
        clear t1 t2 t3 t4
        go_wp2
        go_roundg (len kn - (m+1))
        case rel=>exact⟨m+1,by omega,by go_num,R.out⟩
        case measure=>omega
       ·rw[show memB (sib (x:Int)) kn=false from decide_eq_false hmem]
        have HM:=QLh hmem;clear hmem
        go_wp2_with fail
        refine(putk_any w.heap.size _ nd (sib (x:Int)) _ M1.out (by omega) HS2).mono ?_
        rintro y w1 ⟨v1,nd1,rfl,t1,t2,t3,t4⟩
        have T1:=QLh t1;have T2:=QLh t2;have T3:=QLh t3;have T4:=QLh t4;have hcell1:w1.cell? ⟨bk,ok+m,none⟩=some (.int .u64 (x:Int)):=by
         rw[t4.cell (p:=⟨bk,ok+m,none⟩) (lt_of_cell HCK.out)];exact HCK.out
        have HS3:w.heap.size<=w1.heap.size:=by have:=t4.size;omega
        clear t1 t2 t3 t4 hcellk
        go_wp2_with fail
        refine(putk_any w.heap.size _ nx ((x:Int) / 2) _ (M2.out.below T4.out) (by omega) HS3).mono ?_
        rintro y w2 ⟨v2,nx1,rfl,t1,t2,t3,t4⟩
        have R:Hid (In8 w W1 kn (m+1) v1 v2 w2):=QLh ⟨nd1,nx1,T1.out.below t4,t1,M3.out.step hltm (λ y=>by
         rw[T2.out,HX.out]
         constructor
         ·rintro(h | rfl)
          ·exact .inl h
          ·exact .inr ⟨rfl,HM.out⟩
         ·rintro(h | ⟨h,_⟩)
          ·exact .inl h
          ·exact .inr h) (λ y=>by rw[t2,HX.out]) T3.out t3,bnext (bnext M4.out T4.out) t4⟩
        clear t1 t2 t3 t4
        go_wp2
        go_roundg (len kn - (m+1))
        case rel=>exact⟨m+1,by omega,by go_num,R.out⟩
        case measure=>omega
      ·obtain rfl:m=len kn:=by omega
       obtain⟨vals,q1,q2⟩:=K4.out.below M4.out
       have hlv:vals.length=lv:=by rw[q2.1];simp[rowsOf]
       have Q1:=QLh q1;have Q2:=QLh q2;have hrow:=M3.out.row M1.out.1;have RW:Hid (rowsOf leaves (lv+1)=rowsOf leaves lv++[nd]):=QLh (by rw[rowsOf_succ,hrow,K2.out.row]);have HLV:=QLh hlv;have BY:Hid (Below w.heap.size w wr):=QLh (bnext K5.out M4.out);have ML4:len nx<=100:=by have:=M3.out.2.2.2;omega
       obtain⟨ad,cd,hvd,hud⟩:=M1.out.shape
       subst hvd
       clear q1 q2 hrow hlv hud
       obtain⟨i0,hi,hz0,hz1,hz2⟩:=info_parts info_rows
       go_wp2_with (at_builtin;refine wpList_append_own _ rfl _ _ 196 rfl w.heap.size 64 i0 (.slice none 0 0) 1 24 Tryz.underlying196 hi hz0 hz1 hz2 rfl (by decide) _ vals.length vals rfl (Q1.out.alloc _) ⟨wr.heap.size,0,none⟩ 1 1 [.slice ad (len nd) cd] rfl rfl (one_news _ _ _) (by intro u hu;simp at hu;subst hu;rfl) (by have:=HLV.out;unfold maxLen;omega) (by have:=HLV.out;omega) (by have:=BY.out.size;simp;omega) ?_)
       intro v' w1 hown' hgrow _
       have B1:Hid (Below w.heap.size w w1):=QLh (grownBy_below (balloc BY.out _) hgrow (λ k hk=>(Q1.out.lt k hk).1));have X1:=QLh (kn_grow M2.out (balloc (Below.refl _ _) _) (Q1.out.alloc _) hgrow);have X2:Hid (RowsAre w1 w.heap.size (vals++[.slice ad (len nd) cd]) (rowsOf leaves (lv+1))):=QLh (by
        rw[RW.out]
        exact rows_grow ((Q2.out.below (balloc (Below.refl _ _) _)).snoc (own_below M1.out.2 (balloc (Below.refl _ _) _))) (Q1.out.alloc _) hgrow)
       have X3:=QLh hown';clear hown' hgrow hi hz0 hz1 hz2
       go_wp2
       go_roundg (e - (lv+1))
       case rel=>exact⟨lv+1,by omega,by go_num,⟨nx,X1.out,K2.out.next M3.out,ML4,⟨_,by simpa using X3.out,X2.out⟩,B1.out⟩⟩
       case measure=>omega
    ·obtain rfl:lv=e:=by omega
     have K:=QLh k4;have K5:=QLh k5;clear k1 k2 k3 k4 k5 hk
     go_wp2
     go_ret
     obtain⟨vals,q1,q2⟩:=K.out
     exact⟨_,vals,rfl,q1,by rw[E.out];exact q2,K5.out⟩
section
open Go.RowKit Go.ChangeMaps
def LeavesIs(l:List Int)(d:Int)(w:World)(e:Ending)(w':World):Prop:=∃a c,e=.returned (.slice a (len l) c)/\U64s w' a (leavesL l d)/\Below w.heap.size w w'
theorem rleaves_any(l:List Int)(a:Option Addr)(cap:Nat)(d:Int)(w:World)(hl:U64s w a l)(hn:len l<=1000000)(hu:∀k ∈ l,U64 k)(hd64:-9223372036854775808<=d)(hd65:d<=9223372036854775807):
  Calls Tryz.prog 173 #[.slice a (len l) cap,.int .i64 d] w (LeavesIs l d w):=by
 have HL:=QLh hl;have HU:=QLh hu;have HN:=QLh hn;have HD1:=QLh hd64;have HD2:=QLh hd65
 obtain⟨i0,hi,hz0,hz1,hz2⟩:=info_parts info_u64
 have HZ:=QLh hz0;clear hl hn hu hz0 hd64 hd65
 go_enter Tryz.func173,Tryz.ntmps173
 go_wp2
 go_loopg [6,5] (len l) (λ g i v wr=>∃m:Nat,g+m=len l/\i=.int .i64 m/\Hid (wr.ownsRow w.heap.size 23 1 v m ((leavesL (l.take m) d).map (Value.int .u64)))/\Hid (Below w.heap.size w wr))
 case atStart=>exact⟨0,rfl,rfl,QLh (World.ownsRow_nil _ _ _ _),QLh (Below.refl _ _)⟩
 case round=>
  obtain⟨m,hm,rfl,HR,HB⟩:=hrel
  have HNN:=HN.out
  by_cases hlt:m<len l
  ·obtain⟨b,off,rfl,hcell⟩:=HL.out.below HB.out m hlt
   have b0:(m:Int)<len l:=by omega
   obtain⟨k,hk⟩:∃k,nth l m=k:=⟨_,rfl⟩
   have hku:U64 k:=by rw[<-hk];exact HU.out _ (mem_nth hlt)
   rw[hk]at hcell
   have HK:=QLh hk;have HLF:=QLh (refLeaf_any k d wr hku.1 hku.2 HD1.out HD2.out);clear hk hku
   go_wp2_with fail
   refine HLF.out.mono ?_
   rintro e w1 ⟨rfl,rfl⟩
   go_wp2_with (at_builtin;refine wpList_append_own _ rfl _ _ 64 rfl w.heap.size 23 i0 (.int .u64 0) 1 8 Tryz.underlying64 hi HZ.out hz1 hz2 rfl (by decide) _ _ _ rfl (HR.out.alloc _) ⟨wr.heap.size,0,none⟩ 1 1 [.int .u64 (turnedZ k d)] rfl rfl (World.news_of_block (heap_alloc_new _ _)) (by intro u hu9;simp at hu9;subst hu9;rfl) (by unfold maxLen;omega) (by omega) (by have:=HB.out.size;simp;omega) ?_;intro v2 w4 hown2 hgrow2 _)
   have HO2:Hid (w4.ownsRow w.heap.size 23 1 v2 (m+1) ((leavesL (l.take (m+1)) d).map (Value.int .u64))):=QLh (by
    rw[leavesL_snoc l d m hlt,HK.out,List.map_append]
    exact hown2)
   have HB2:Hid (Below w.heap.size w w4):=QLh (grownBy_below (balloc HB.out _) hgrow2 (λ k hk'=>(HR.out.lt k hk').1));clear hown2 hgrow2 HLF hcell
   go_wp2
   go_roundg (len l - (m+1))
   case rel=>exact⟨m+1,by omega,by go_num,HO2,HB2⟩
   case measure=>omega
  ·obtain rfl:m=len l:=by omega
   have b0:¬((len l:Nat):Int)<len l:=by omega
   have HR2:Hid (wr.ownsRow w.heap.size 23 1 u5 (len l) ((leavesL l d).map (Value.int .u64))):=QLh (by have h:=HR.out;rw[take_len]at h;exact h)
   obtain⟨a2,cap2,hv,hL2,hc2,hc3⟩:=own_u64 HR2.out
   rw[leavesL_len]at hv
   subst hv
   have HL2:=QLh hL2;clear hL2 hc2 hc3 HR2 HR hlt
   go_wp2
   go_ret
   exact⟨a2,cap2,rfl,HL2.out,HB.out⟩
theorem flat_row_len(rs:List (List Int))(i:Nat)(hi:i<len rs):(flatAt rs (i+1) 0).length=(flatAt rs i 0).length+len (rnth rs i):=by
 rw[<-flatAt_row rs i hi]
 unfold flatAt
 rw[take_len,List.take_zero,List.map_nil,List.append_nil,List.length_append,List.length_map]
 rfl
end
def AtK(lv:List Int)(i:Nat)(k:Int):Prop:=∃y ∈ lv,k=y / 2 ^ i
instance (lv:List Int) (i:Nat) (k:Int):Decidable (AtK lv i k):=by unfold AtK;exact List.decidableBEx _ _
def trF(els:List ByteArray)(d:Nat)(lv:List Int)(i:Nat):KnF:=λ k=>if AtK lv i k then some (plD els d i k.toNat)else none
theorem trF_in{els:List ByteArray}{d:Nat}{lv:List Int}{i:Nat}{k:Int}(h:AtK lv i k):trF els d lv i k=some (plD els d i k.toNat):=by unfold trF;rw[if_pos h]
theorem trF_out{els:List ByteArray}{d:Nat}{lv:List Int}{i:Nat}{k:Int}(h:¬AtK lv i k):trF els d lv i k=none:=by unfold trF;rw[if_neg h]
theorem atK_half{lv:List Int}{i:Nat}(p:Int):AtK lv (i+1) p ↔ AtK lv i (2 * p) \/ AtK lv i (2 * p+1):=by
 have half:∀y:Int,y / 2 ^ (i+1)=y / 2 ^ i / 2:=λ y=>by
  rw[Int.pow_succ,Int.ediv_ediv_of_nonneg (Int.le_of_lt (Int.pow_pos (by decide)))]
 constructor
 ·rintro⟨y,hy,rfl⟩
  rw[half]
  by_cases e:y / 2 ^ i % 2=0
  ·exact .inl ⟨y,hy,by omega⟩
  ·exact .inr ⟨y,hy,by omega⟩
 ·rintro(⟨y,hy,e⟩ | ⟨y,hy,e⟩)
  ·exact⟨y,hy,by rw[half];omega⟩
  ·exact⟨y,hy,by rw[half];omega⟩
theorem plD_up(els:List ByteArray)(d i:Nat)(p:Nat):plD els d (i+1) p=hashP nodeT [plD els d i (2 * p),plD els d i (2 * p+1)]:=rfl
theorem row_memK(lv:List Int)(d i:Nat)(h:i<d)(k:Int):k ∈ rnth (rowsOf lv d) i ↔ AtK lv i (sib k)/\¬AtK lv i k:=by
 rw[row_mem lv d i h]
 have ss:∀x,sib (sib x)=x:=λ x=>by unfold sib;split <;> split <;> omega
 constructor
 ·rintro⟨⟨y,hy,rfl⟩,h2⟩
  exact⟨⟨y,hy,by rw[ss]⟩,h2⟩
 ·rintro⟨⟨y,hy,e⟩,h2⟩
  exact⟨⟨y,hy,by rw[<-e,ss]⟩,h2⟩
theorem flat_used(rs:List (List Int)):∀i,i<=len rs->(flatAt rs i 0).length=usedR rs i
 | 0,_=>rfl
 | i+1,hi=>by rw[flat_row_len rs i (by omega),flat_used rs i (by omega),usedR_next rs i (by omega)]
theorem flat_used2(rs:List (List Int))(i:Nat)(hi:i<len rs):∀j,j<=len (rnth rs i)->(flatAt rs i j).length=usedR rs i+j
 | 0,_=>flat_used rs i (by omega)
 | j+1,hj=>by rw[flatAt_next rs i j (by omega),List.length_append,flat_used2 rs i hi j (by omega)];rfl
theorem dgs_at(els:List ByteArray)(rs:List (List Int))(i j:Nat)(hi:i<len rs)(hj:j<len (rnth rs i)):tth (dgsL els (flatLv rs)) (usedR rs i+j)=plD els (depN els) i (nth (rnth rs i) j).toNat:=by
 have h:=flat_at rs i j hi hj
 rw[flat_used2 rs i hi j (by omega)]at h
 unfold dgsL tth
 rw[List.getD_eq_getElem?_getD,List.getElem?_map,h]
 simp
theorem dgs_all(els:List ByteArray)(rs:List (List Int)):len (dgsL els (flatLv rs))=usedR rs (len rs):=by
 unfold dgsL
 rw[len_eq,List.length_map,<-flatAt_end,flat_used rs (len rs) (Nat.le_refl _)]
theorem bad_no{ds:List ByteArray}(h:∀d ∈ ds,d.size=32):badB ds=false:=decide_eq_false (by rintro⟨d,hd,h9⟩;exact h9 (h d hd))
theorem rootE_ok{n:Int}{ps:List Int}{es ds:List ByteArray}(h1:ArgOk n ps es)(h2:badB ds=false)(h3:len ds=neededP n ps):rootE n ps es ds=0/\rootS n ps es ds=digP n ps es ds:=by
 have h9:rootE n ps es ds=0:=by
  unfold rootE
  rw[if_neg (λ h=>h h1),if_neg (by rw[h2];simp),if_neg (by omega),if_neg (by omega)]
 exact⟨h9,by unfold rootS;rw[if_pos h9]⟩
structure Agree(els own:List ByteArray)(ps:List Int):Prop where
 len_:len own=len els
 off:∀i:Nat,((i:Nat):Int) ∉ ps->tth els i=tth own i
theorem Agree.refl(els:List ByteArray)(ps:List Int):Agree els els ps:=⟨rfl,λ _ _=>rfl⟩
theorem plD_same{els own:List ByteArray}{d:Nat}(hl:len own=len els):∀(i k:Nat),i<=d->k<2 ^ (d - i)->(∀j,j<2 ^ d->j / 2 ^ i=k->tth els (revOf j d)=tth own (revOf j d))->plD els d i k=plD own d i k
 | 0,k,_,hk,h=>by
  have h1:=h k (by simpa using hk) (by simp)
  show(if revOf k d<len els then hashP leafT [tth els (revOf k d)]else hashP noneT [])=(if revOf k d<len own then hashP leafT [tth own (revOf k d)]else hashP noneT [])
  rw[h1,hl]
 | i+1,k,hi,hk,h=>by
  have hp:2 ^ (d - i)=2 * 2 ^ (d - (i+1)):=by rw[show d - i=d - (i+1)+1 by omega,Nat.pow_succ];omega
  have half:∀j,j / 2 ^ (i+1)=j / 2 ^ i / 2:=λ j=>by rw[Nat.pow_succ,Nat.div_div_eq_div_mul]
  rw[plD_up,plD_up,plD_same hl i (2 * k) (by omega) (by omega) (λ j hj e=>h j hj (by rw[half];omega)),plD_same hl i (2 * k+1) (by omega) (by omega) (λ j hj e=>h j hj (by rw[half];omega))]
theorem row_same{els own:List ByteArray}{ps:List Int}{d n i:Nat}{x:Int}(hd:d<=16)(hn:n<=2 ^ d)(hu:∀k ∈ ps,U64 k)(hm:MayOk n ps)(ha:Agree els own ps)(hi:i<d)(hx:x ∈ rnth (rowsOf (leavesL ps (d:Nat)) d) i):plD els d i x.toNat=plD own d i x.toNat:=by
 have h1:=(row_memK _ d i hi x).1 hx
 obtain⟨⟨y,hy,e⟩,_⟩:=(row_mem _ d i hi x).1 hx
 have hb:=leaves_in hd y hy;have h3:=half_bd hb.1 hb.2 (Nat.le_of_lt hi)
 obtain⟨q,hq⟩:∃q,d - i=q+1:=⟨d - i - 1,by omega⟩
 have h4:0<=x/\x<2 ^ (q+1):=by rw[e];rw[hq]at h3;exact sib_bd h3.1 h3.2
 obtain⟨xn,rfl⟩:=Int.eq_ofNat_of_zero_le h4.1
 refine plD_same ha.len_ i xn (by omega) (by rw[hq];have:=h4.2;rw[pow_cast]at this;omega) (λ j hj hjx=>ha.off _ (λ hp=>h1.2 ?_))
 have hk:=hu _ hp
 obtain⟨m,hml,hme⟩:=List.getElem_of_mem hp
 have hr:((revOf j d:Nat):Int)<n:=by
  have:=(hm.2 m hml).1
  rw[nth_eq ps m hml,hme]at this
  exact this
 refine⟨((j:Nat):Int),?_,?_⟩
 ·unfold leavesL
  refine List.mem_map.2 ⟨_,hp,?_⟩
  rw[turnedP_rev hd (Int.natCast_nonneg _) hr hn,Int.toNat_natCast,revOf_revOf hj]
 ·rw[pow_cast,<-hjx]
  exact(Int.natCast_ediv j (2 ^ i))
theorem addF_all(g:KnF)(ks:List Int)(ds:List ByteArray)(f:Int->ByteArray):∀m,m<=len ks->(∀j,j<m->tth ds j=f (nth ks j))->∀k,addF g (ks.take m) ds k=if k ∈ ks.take m then some (f k)else g k
 | 0,_,_,k=>by simp[addF]
 | m+1,hm,h,k=>by
  have hm2:m<ks.length:=hm;have hs:ks.take (m+1)=ks.take m++[nth ks m]:=by rw[List.take_succ_eq_append_getElem hm2,nth_eq ks m hm2]
  rw[addF_take g ks ds m hm]
  by_cases e:k=nth ks m
  ·subst e
   rw[putF_same,h m (Nat.lt_succ_self m),hs,if_pos (by simp)]
  ·rw[putF_other _ _ e,addF_all g ks ds f m (by omega) (λ j hj=>h j (by omega)) k,hs]
   by_cases e2:k ∈ ks.take m
   ·rw[if_pos e2,if_pos (by simp[e2])]
   ·rw[if_neg e2,if_neg (by simp[e2,e])]
theorem addF_full(g:KnF)(ks:List Int)(ds:List ByteArray)(f:Int->ByteArray)(h:∀j,j<len ks->tth ds j=f (nth ks j))(k:Int):addF g ks ds k=if k ∈ ks then some (f k)else g k:=by
 have:=addF_all g ks ds f (len ks) (Nat.le_refl _) h k
 rw[take_len]at this
 exact this
theorem root_back{els own es:List ByteArray}{ps:List Int}{d:Nat}(hdd:depN els=d)(hd:d<=16)(hn:len els<=2 ^ d)(hu:∀k ∈ ps,U64 k)(hm:MayOk (len els:Nat) ps)(ha:Agree els own ps)
  (hel:len es=len ps) (hes:∀m,m<len ps->tth es m=tth own (nth ps m).toNat):∀i,i<=d->
  rootT (g0F (leavesL ps (d:Nat)) es) (rowsOf (leavesL ps (d:Nat)) d) (dgsL els (flatLv (rowsOf (leavesL ps (d:Nat)) d))) i=trF own d (leavesL ps (d:Nat)) i
 | 0,_=>by
  funext k
  show g0F (leavesL ps (d:Nat)) es k=_
  unfold g0F
  rw[addF_full noF _ _ (λ k=>plD own d 0 k.toNat) (λ m hm2=>?_) k]
  ·unfold trF noF
   by_cases e:k ∈ leavesL ps (d:Nat)
   ·rw[if_pos e,if_pos ⟨k,e,by simp⟩]
   ·rw[if_neg e,if_neg]
    rintro⟨y,hy,rfl⟩
    exact e (by simpa using hy)
  ·rw[leavesL_len]at hm2
   rw[leafD_at es m (by omega),hes m hm2]
   have h1:=(hm.2 m hm2).1;have h2:=(hu _ (mem_nth hm2)).1;have h3:nth (leavesL ps (d:Nat)) m=turnedZ (nth ps m) (d:Nat):=by
    have h9:m<ps.length:=hm2
    unfold leavesL nth
    simp[h9]
   rw[h3,turnedP_rev hd h2 h1 hn]
   show _=plD own d 0 (((revOf (nth ps m).toNat d:Nat):Int).toNat)
   rw[Int.toNat_natCast]
   show _=(if revOf (revOf (nth ps m).toNat d) d<len own then hashP leafT [tth own (revOf (revOf (nth ps m).toNat d) d)]else hashP noneT [])
   rw[revOf_revOf (show(nth ps m).toNat<2 ^ d by omega),if_pos (by rw[ha.len_];omega)]
 | i+1,hi=>by
  have IH:=root_back hdd hd hn hu hm ha hel hes i (by omega);have hil:i<len (rowsOf (leavesL ps (d:Nat)) d):=by rw[rowsOf_len];omega
  rw[rootT_next _ _ _ i hil,IH]
  have hH:∀k,addF (trF own d (leavesL ps (d:Nat)) i) (rnth (rowsOf (leavesL ps (d:Nat)) d) i) ((dgsL els (flatLv (rowsOf (leavesL ps (d:Nat)) d))).drop (usedR (rowsOf (leavesL ps (d:Nat)) d) i)) k=if AtK (leavesL ps (d:Nat)) i k \/ k ∈ rnth (rowsOf (leavesL ps (d:Nat)) d) i then some (plD own d i k.toNat)else none:=λ k=>by
   rw[addF_full _ _ _ (λ k=>plD els d i k.toNat) (λ j hj=>by rw[tth_drop,dgs_at els _ i j hil hj,hdd]) k]
   by_cases e:k ∈ rnth (rowsOf (leavesL ps (d:Nat)) d) i
   ·rw[if_pos e,if_pos (.inr e),row_same hd hn hu hm ha (by omega) e]
   ·rw[if_neg e]
    by_cases e2:AtK (leavesL ps (d:Nat)) i k
    ·rw[trF_in e2,if_pos (.inl e2)]
    ·rw[trF_out e2,if_neg (λ h9=>h9.elim e2 e)]
  funext p
  by_cases hp:AtK (leavesL ps (d:Nat)) (i+1) p
  ·rw[trF_in hp]
   have hk:=(atK_half p).1 hp;have s0:sib (2 * p)=2 * p+1:=by unfold sib;split <;> omega
   have s1:sib (2 * p+1)=2 * p:=by unfold sib;split <;> omega
   have h0:AtK (leavesL ps (d:Nat)) i (2 * p) \/ 2 * p ∈ rnth (rowsOf (leavesL ps (d:Nat)) d) i:=by
    by_cases e:AtK (leavesL ps (d:Nat)) i (2 * p)
    ·exact .inl e
    ·exact .inr ((row_memK _ d i (by omega) _).2 ⟨by rw[s0];exact hk.resolve_left e,e⟩)
   have h1:AtK (leavesL ps (d:Nat)) i (2 * p+1) \/ 2 * p+1 ∈ rnth (rowsOf (leavesL ps (d:Nat)) d) i:=by
    by_cases e:AtK (leavesL ps (d:Nat)) i (2 * p+1)
    ·exact .inl e
    ·exact .inr ((row_memK _ d i (by omega) _).2 ⟨by rw[s1];exact hk.resolve_right e,e⟩)
   have hp0:0<=p:=by
    obtain⟨y,hy,rfl⟩:=hp
    exact Int.ediv_nonneg (leaves_in hd y hy).1 (Int.le_of_lt (Int.pow_pos (by decide)))
   rw[over_some (show prIs _ p from .inl (by rw[hH,if_pos h0];rfl))]
   unfold kidF
   rw[hH,hH,if_pos h0,if_pos h1]
   show some (hashP nodeT [plD own d i (2 * p).toNat,plD own d i (2 * p+1).toNat])=some (plD own d (i+1) p.toNat)
   rw[plD_up,show(2 * p).toNat=2 * p.toNat by omega,show(2 * p+1).toNat=2 * p.toNat+1 by omega]
  ·rw[trF_out hp]
   have hk:¬(AtK (leavesL ps (d:Nat)) i (2 * p) \/ AtK (leavesL ps (d:Nat)) i (2 * p+1)):=λ h9=>hp ((atK_half p).2 h9)
   rw[not_or]at hk
   have s0:sib (2 * p)=2 * p+1:=by unfold sib;split <;> omega
   have s1:sib (2 * p+1)=2 * p:=by unfold sib;split <;> omega
   have n0:¬(AtK (leavesL ps (d:Nat)) i (2 * p) \/ 2 * p ∈ rnth (rowsOf (leavesL ps (d:Nat)) d) i):=by
    rintro(h | h)
    ·exact hk.1 h
    ·exact hk.2 (by have:=((row_memK _ d i (by omega) _).1 h).1;rw[s0]at this;exact this)
   have n1:¬(AtK (leavesL ps (d:Nat)) i (2 * p+1) \/ 2 * p+1 ∈ rnth (rowsOf (leavesL ps (d:Nat)) d) i):=by
    rintro(h | h)
    ·exact hk.2 h
    ·exact hk.1 (by have:=((row_memK _ d i (by omega) _).1 h).1;rw[s1]at this;exact this)
   have g0:=(hH (2 * p)).trans (if_neg n0);have g1:=(hH (2 * p+1)).trans (if_neg n1)
   unfold overF
   rw[g0,g1]
   simp
theorem back_root{els own es:List ByteArray}{ps:List Int}(hn:len els<=65536)(hu:∀k ∈ ps,U64 k)(hm:MayOk (len els:Nat) ps)(ha:Agree els own ps)
  (hel:len es=len ps) (hes:∀m,m<len ps->tth es m=tth own (nth ps m).toNat):
  rootE (len els:Nat) ps es (dgsL els (plcL (len els:Nat) ps))=0/\rootS (len els:Nat) ps es (dgsL els (plcL (len els:Nat) ps))=plD own (depN own) (depN own) 0:=by
 obtain⟨d,hdd⟩:∃d,depN els=d:=⟨_,rfl⟩
 have hd:d<=16:=by rw[<-hdd];exact depN_le hn
 have hdz:depthZ (len els:Nat)=((d:Nat):Int):=by rw[depthZ_len hn,hdd]
 have hn2:len els<=2 ^ d:=by rw[<-hdd];exact(depth_bd (len els) hn).2.1
 have hdo:depN own=d:=by unfold depN;rw[ha.len_];exact hdd
 have hrw:rowsP (len els:Nat) ps=rowsOf (leavesL ps (d:Nat)) d:=by unfold rowsP;rw[hdz,needs_rows hd hm.1]
 have hpl:plcL (len els:Nat) ps=flatLv (rowsOf (leavesL ps (d:Nat)) d):=by unfold plcL;rw[hdz,needs_rows hd hm.1]
 have hA:ArgOk (len els:Nat) ps es:=⟨⟨by omega,by omega,hm⟩,hel⟩;have hB:badB (dgsL els (plcL (len els:Nat) ps))=false:=bad_no (λ x hx=>by
  unfold dgsL at hx
  obtain⟨y,_,rfl⟩:=List.mem_map.1 hx
  exact plD_size _ _ _ _)
 have hN:len (dgsL els (plcL (len els:Nat) ps))=neededP (len els:Nat) ps:=by
  unfold neededP
  rw[hrw,hpl,dgs_all]
 have h:=rootE_ok hA hB hN
 refine⟨h.1,h.2.trans ?_⟩
 unfold digP
 rw[hrw,hpl,hdz,hdo]
 have hr:=root_back hdd hd hn2 hu hm ha hel hes d (Nat.le_refl _)
 unfold rootT at hr
 rw[List.take_of_length_le (by have:=rowsOf_len (leavesL ps (d:Nat)) d;rw[len_eq]at this;omega)]at hr
 rw[hr]
 have hk:AtK (leavesL ps (d:Nat)) d 0:=by
  have h1:0<(leavesL ps (d:Nat)).length:=by have h5:(leavesL ps (d:Nat)).length=len ps:=leavesL_len ps (d:Nat);have h6:=hm.1;omega
  refine⟨(leavesL ps (d:Nat))[0],List.getElem_mem h1,?_⟩
  have h2:=leaves_in hd _ (List.getElem_mem h1)
  exact(Int.ediv_eq_zero_of_lt h2.1 h2.2).symm
 unfold kidF
 rw[trF_in hk]
 rfl
section
open Go.RowKit Go.ChangeMaps
def keysOf(L:List (Int × Value)):List Int:=L.map (·.1)
theorem keysOf_len(L:List (Int × Value)):(keysOf L).length=L.length:=by simp[keysOf]
theorem keysOf_get(L:List (Int × Value))(i:Nat)(h:i<L.length):(keysOf L)[i]'(by rw[keysOf_len];exact h)=L[i].1:=by simp[keysOf]
theorem Come.snoc{L:List (Int × Value)}{nb:Nat}{seen:Array Nat}{pre:List Int}(h:Come (keysOf L) nb seen pre)(hn:(L.map (·.1)).Nodup){i:Nat}(hi:i<L.length)(hs:¬nb+i ∈ seen):Come (keysOf L) nb (seen.push (nb+i)) (pre++[L[i].1]):=by
 have:=(h.next hn (i:=i) (by rw[keysOf_len];exact hi) hs).2
 rw[keysOf_get L i hi]at this
 exact this
theorem Come.fin{L:List (Int × Value)}{nb:Nat}{seen:Array Nat}{pre:List Int}(h:Come (keysOf L) nb seen pre)(ha:∀i,i<L.length->nb+i ∈ seen):∀k,k ∈ pre ↔ k ∈ L.map (·.1):=λ k=>by
 rw[h.2]
 constructor
 ·rintro⟨i,hi,_,e⟩;exact e ▸ List.getElem_mem hi
 ·intro hk
  obtain⟨i,hi,e⟩:=List.getElem_of_mem hk
  exact⟨i,hi,ha i (by simpa using hi),e⟩
theorem Ranging.keep{w w':World}{b r n:Nat}{q:IntKind}{l:List (Int × Value)}{seen:Array Nat}(h:Ranging w b r q n l seen)(h1:w'.heap[b]?=w.heap[b]?)(h2:w'.heap[r]?=w.heap[r]?):Ranging w' b r q n l seen:=⟨h1.trans h.map,h2.trans h.iter⟩
def KnownAt(b n:Nat)(g:KnF)(w:World):Prop:=∃L,w.heap[b]?=some (mObj .u64 n L)/\MapF L g
def KoverIs(g:KnF)(w:World)(e:Ending)(w':World):Prop:=∃b,e=.returned (.map (some b))/\KnownAt b 0 (overF g) w'/\w.heap.size<=b/\Below w.heap.size w w'
theorem kover_any(b n:Nat)(g:KnF)(w:World)(h:KnownAt b n g w)(hz:∀k d,g k=some d->d.size<=1000):
  Calls Tryz.prog 170 #[.map (some b)] w (KoverIs g w):=by
 obtain⟨L,hb,hm⟩:=h
 have HL:=QLh hb;have HM:=QLh hm;have HZ:=QLh hz;have HBL:Hid (b<w.heap.size):=QLh (lt_of_block hb);have hmm:=@run_makeMap Tryz.prog;clear hb hm hz
 go_enter Tryz.func170,Tryz.ntmps170
 go_upto_region 2 with fail
 clear hmm
 obtain⟨pb,hpb⟩:∃pb,w.heap.size=pb:=⟨_,rfl⟩
 obtain⟨V,hV⟩:∃V,w.alloc (Obj.map #[] 0)=V:=⟨_,rfl⟩
 have HVP:Hid (V.heap[pb]?=some (mObj .u64 0 [])):=QLh (by rw[<-hV];exact alloc_new_at _ hpb);have HVL:Hid (V.heap[b]?=some (mObj .u64 n L)):=QLh (by rw[<-hV];exact block_alloc HL.out _);have HVW:Hid (Below w.heap.size w V):=QLh (by rw[<-hV];exact balloc (Below.refl _ _) _);have HBP:Hid (b<pb/\w.heap.size<=pb):=QLh ⟨by have:=HBL.out;omega,by omega⟩
 rw[hV,hpb]
 clear hV hpb HL
 go_wp2_with (at_range;refine wpList_range_m rfl _ 200 23 9 .u64 rfl Tryz.underlying200 b n _ rfl HVL.out ?_;intro hrg)
 go_frame
 obtain⟨r,hr⟩:∃r,V.heap.size=r:=⟨_,rfl⟩
 obtain⟨U,hU⟩:∃U,V.alloc (.mapIter (some b) (n+L.length) #[] (n+L.length))=U:=⟨_,rfl⟩
 rw[hr,hU]at hrg ⊢
 have HR:=QLh hrg;have HUP:Hid (U.heap[pb]?=some (mObj .u64 0 [])):=QLh (by rw[<-hU];exact block_alloc HVP.out _);have HUW:Hid (Below w.heap.size w U):=QLh (by rw[<-hU];exact balloc HVW.out _);have HRP:Hid (pb<r):=QLh (by rw[<-hr];exact lt_of_block HVP.out);clear hU hr hrg HVL HVP HVW
 go_loopw [4,5,6] (λ _ _ _ wr=>∃(seen:Array Nat) (pre:List Int) (QL:List (Int × Value)),Hid (Ranging wr b r .u64 n L seen)/\Hid (Come (keysOf L) n seen pre)/\Hid (wr.heap[pb]?=some (mObj .u64 0 QL))/\Hid (PairF QL (resF g pre))/\Hid (Below w.heap.size w wr)) (λ _ _ _ wr=>rLeft wr r (n+L.length))
 case atStart=>exact⟨#[],[],[],HR,QLh (Come.start _ _),HUP,QLh (by rw[resF_nil];exact PairF.nil),HUW⟩
 case round=>
  clear HR HUP HUW
  obtain⟨seen,pre,QL,HR,HC,HP,HF,HW⟩:=hrel
  go_wp2_with (at_next;refine wpList_next_m rfl _ rfl b r .u64 n _ seen rfl HR.out ?_ ?_)
  ·intro hall
   have HALL:=QLh hall;clear hall;have HQA:Hid (PairF QL g):=QLh (by
    have h1:=HF.out
    rw[resF_all (g:=g) (pre:=pre) (λ k hk=>(HC.out.fin HALL.out k).2 (HM.out.keys hk))]at h1
    exact h1)
   clear HALL HC HF HR;have hmm:=@run_makeMap Tryz.prog
   go_upto_region 9 with fail
   clear hmm
   obtain⟨ob,hob⟩:∃ob,wr.heap.size=ob:=⟨_,rfl⟩
   obtain⟨V,hV⟩:∃V,wr.alloc (Obj.map #[] 0)=V:=⟨_,rfl⟩
   have HVO:Hid (V.heap[ob]?=some (mObj .u64 0 [])):=QLh (by rw[<-hV];exact alloc_new_at _ hob);have HVP:Hid (V.heap[pb]?=some (mObj .u64 0 QL)):=QLh (by rw[<-hV];exact block_alloc HP.out _);have HVW:Hid (Below w.heap.size w V):=QLh (by rw[<-hV];exact balloc HW.out _);have HOP:Hid (pb<ob/\w.heap.size<=ob):=QLh ⟨by rw[<-hob];exact lt_of_block HP.out,by rw[<-hob];exact HW.out.size⟩
   rw[hV,hob]
   clear hV hob HP HW
   obtain⟨zn,hzn⟩:∃zn:Nat,0=zn:=⟨_,rfl⟩
   have HVP:=QLh (by have h:=HVP.out;rw[hzn]at h;exact h);clear hzn
   go_wp2_with (at_range;refine wpList_range_m rfl _ 263 23 265 .u64 rfl Tryz.underlying263 pb zn _ rfl HVP.out ?_;intro hrg)
   go_frame
   obtain⟨r2,hr2⟩:∃r2,V.heap.size=r2:=⟨_,rfl⟩
   obtain⟨U2,hU2⟩:∃U2,V.alloc (.mapIter (some pb) (zn+QL.length) #[] (zn+QL.length))=U2:=⟨_,rfl⟩
   rw[hr2,hU2]at hrg ⊢
   have HR:=QLh hrg;have HUO:Hid (U2.heap[ob]?=some (mObj .u64 0 [])):=QLh (by rw[<-hU2];exact block_alloc HVO.out _);have HUW:Hid (Below w.heap.size w U2):=QLh (by rw[<-hU2];exact balloc HVW.out _);have HRO:Hid (ob<r2):=QLh (by rw[<-hr2];exact lt_of_block HVO.out);clear hU2 hr2 hrg HVO HVP HVW
   go_loopw [8,9] (λ _ _ wr=>∃(seen:Array Nat) (pre:List Int) (OL:List (Int × Value)),Hid (Ranging wr pb r2 .u64 zn QL seen)/\Hid (Come (keysOf QL) zn seen pre)/\Hid (wr.heap[ob]?=some (mObj .u64 0 OL))/\Hid (MapF OL (resF (overF g) pre))/\Hid (Below w.heap.size w wr)) (λ _ _ wr=>rLeft wr r2 (zn+QL.length))
   case atStart=>exact⟨#[],[],[],HR,QLh (Come.start _ _),HUO,QLh (by rw[resF_nil];exact MapF.nil),HUW⟩
   case round=>
    clear HR HUO HUW
    obtain⟨seen,pre,OL,HR,HC,HO,HF,HW⟩:=hrel
    go_wp2_with (at_next;refine wpList_next_m rfl _ rfl pb r2 .u64 zn _ seen rfl HR.out ?_ ?_)
    ·intro hall
     have HALL:=QLh hall;clear hall;have HOA:Hid (MapF OL (overF g)):=QLh (by
      have h1:=HF.out
      rw[resF_all (g:=overF g) (pre:=pre) (λ k hk=>(HC.out.fin HALL.out k).2 (HQA.out.keys hk))]at h1
      exact h1)
     clear HALL HC HF HR
     go_wp2
     go_ret
     exact⟨ob,rfl,⟨OL,HO.out,HOA.out⟩,HOP.out.2,HW.out⟩
    ·intro i hi w1 hns hr1 hlt hb1 hsz hoth hen
     have HR1:=QLh hr1;have HRX9:=QLh hr1;have HLT:=QLh hlt;have HC1:Hid (Come (keysOf QL) zn (seen.push (zn+i)) (pre++[QL[i].1])):=QLh (HC.out.snoc HQA.out.nodup hi hns);have HO1:Hid (w1.heap[ob]?=some (mObj .u64 0 OL)):=QLh ((hoth ob (by have:=HRO.out;omega)).trans HO.out);have HW1:Hid (Below w.heap.size w w1):=QLh (HW.out.trans (hb1 _ (by have:=HRO.out;have:=HOP.out;omega)))
     obtain⟨hd,hpi⟩:=HQA.out.at i hi
     have hku:=HQA.out.u64 _ (List.getElem_mem hi)
     obtain⟨k,hk⟩:∃k,QL[i].1=k:=⟨_,rfl⟩
     rw[hk]at hku hen HC1 hd hpi ⊢
     obtain⟨x0,hx0⟩:∃x0,kidF g (2 * k)=x0:=⟨_,rfl⟩
     obtain⟨x1,hx1⟩:∃x1,kidF g (2 * k+1)=x1:=⟨_,rfl⟩
     have hd2:QL[i].2=.agg #[.string x0,.string x1]:=by rw[hd,<-hx0,<-hx1];rfl
     rw[hd2]at hen ⊢
     have hov:overF g k=some (hashP nodeT [x0,x1]):=by rw[<-hx0,<-hx1];exact over_some hpi
     have HOV:=QLh hov;have HKU:=QLh hku;have HXZ:Hid (x0.size<=1000000/\x1.size<=1000000):=QLh (by
      have hkz:∀j,(kidF g j).size<=1000000:=λ j=>by
       unfold kidF
       cases hg:g j with
       | none=>show(0:Nat)<=_;omega
       | some d=>have:=HZ.out j d hg;show d.size<=_;omega
      rw[<-hx0,<-hx1]
      exact⟨hkz _,hkz _⟩)
     clear hd hd2 hku hk hns hr1 hlt hb1 hsz hoth hx0 hx1 hov hpi
     go_upto_region 12 with fail
     obtain⟨q,hq⟩:∃q,w1.heap.size=q:=⟨_,rfl⟩
     obtain⟨X,hX⟩:∃X,w1.alloc (Obj.cells #[.string x0,.string x1] 265)=X:=⟨_,rfl⟩
     have HQ0:Hid (X.heap[q]?=some (.cells #[.string x0,.string x1] 265 (0,0))):=QLh (by rw[<-hX];exact alloc_new_at _ hq);have HRX:Hid (Ranging X pb r2 .u64 zn QL (seen.push (zn+i))):=QLh (HR1.out.keep (by rw[<-hX];exact Below.heap_alloc _ _ _ (lt_of_block HR1.out.map)) (by rw[<-hX];exact Below.heap_alloc _ _ _ (lt_of_block HR1.out.iter)));have HOX:Hid (X.heap[ob]?=some (mObj .u64 0 OL)):=QLh (by rw[<-hX];exact block_alloc HO1.out _);have HWX:Hid (Below w.heap.size w X):=QLh (by rw[<-hX];exact balloc HW1.out _)
     rw[hq,hX]
     clear hq hX HR1 HO1 HW1 HR HC HO HW;have c0:X.cell? ⟨q,0,none⟩=some (.string x0):=by rw[block_cell HQ0.out];rfl
     have c1:X.cell? ⟨q,1,none⟩=some (.string x1):=by rw[block_cell HQ0.out];rfl
     have c2:q<X.heap.size:=lt_of_block HQ0.out
     go_wp2_with fail
     clear c0 c1 c2
     refine(hash2_any nodeT x0 x1 X (by decide) (by decide) HXZ.out.1 HXZ.out.2).mono ?_
     rintro e w' ⟨rfl,hXd⟩
     have HRZ:Hid (Ranging w' pb r2 .u64 zn QL (seen.push (zn+i))):=QLh (HRX.out.keep (hXd.block _ (lt_of_block HRX.out.map)) (hXd.block _ (lt_of_block HRX.out.iter)));have HOZ:Hid (w'.heap[ob]?=some (mObj .u64 0 OL)):=QLh ((hXd.block _ (lt_of_block HOX.out)).trans HOX.out);have HWZ:Hid (Below w.heap.size w w'):=QLh (bnext HWX.out hXd)
     obtain⟨D,hD⟩:∃D,hashP nodeT [x0,x1]=D:=⟨_,rfl⟩
     rw[hD]at HOV ⊢
     clear hXd HRX HOX HWX HQ0 hD
     go_wp2_with (at_mapUpdate;refine wpList_mapUpdate_m rfl _ _ _ 200 23 9 .u64 rfl Tryz.underlying200 Tryz.underlying23 ob 0 _ rfl HOZ.out _ _ rfl rfl ?_)
     have HPP:Hid ((setBlock w' ob (mObj .u64 0 (mPut OL k (.string D)))).heap[ob]?=some (mObj .u64 0 (mPut OL k (.string D)))):=QLh (setBlock_same HOZ.out);have HFF:Hid (MapF (mPut OL k (.string D)) (resF (overF g) (pre++[k]))):=QLh (by
      rw[resF_snoc pre HOV.out]
      exact HF.out.put _ D HKU.out)
     have HRR:Hid (Ranging (setBlock w' ob (mObj .u64 0 (mPut OL k (.string D)))) pb r2 .u64 zn QL (seen.push (zn+i))):=QLh (HRZ.out.keep (setBlock_other (by have:=HOP.out;omega)) (setBlock_other (by have:=HRO.out;omega)));have HWW:Hid (Below w.heap.size w (setBlock w' ob (mObj .u64 0 (mPut OL k (.string D))))):=QLh (setBlock_below HWZ.out HOP.out.2);have HLL:Hid (rLeft (setBlock w' ob (mObj .u64 0 (mPut OL k (.string D)))) r2 (zn+QL.length)<rLeft wr r2 (zn+QL.length)):=QLh (by have:=HLT.out;rw[HRX9.out.left]at this;rw[HRR.out.left];exact this)
     go_roundw
     case rel=>
      (repeat apply Exists.intro)
      exact⟨⟨_,_,_,HRR,HC1,HPP,HFF,HWW⟩,rfl⟩
     case measure=>exact HLL.out
  ·intro i hi w1 hns hr1 hlt hb1 hsz hoth hen
   have HR1:=QLh hr1;have HRX9:=QLh hr1;have HLT:=QLh hlt;have HC1:Hid (Come (keysOf L) n (seen.push (n+i)) (pre++[L[i].1])):=QLh (HC.out.snoc HM.out.nodup hi hns);have HP1:Hid (w1.heap[pb]?=some (mObj .u64 0 QL)):=QLh ((hoth pb (by have:=HRP.out;omega)).trans HP.out);have HW1:Hid (Below w.heap.size w w1):=QLh (HW.out.trans (hb1 _ (by have:=HRP.out;have:=HBP.out;omega)))
   obtain⟨d,hd,hg⟩:=HM.out.at i hi
   have hku:=HM.out.u64 _ (List.getElem_mem hi)
   obtain⟨k,hk⟩:∃k,L[i].1=k:=⟨_,rfl⟩
   obtain⟨kn,rfl⟩:∃kn:Nat,k=(kn:Nat):=⟨k.toNat,by unfold U64 at hku;omega⟩
   rw[hk]at hg hku hen HC1 ⊢
   rw[hd]at hen ⊢
   have HG:=QLh hg;have hk1:kn<18446744073709551616:=by unfold U64 at hku;omega
   have HKU:=QLh hku;clear hd hg hku hk hns hr1 hlt hb1 hsz hoth
   obtain⟨y,hy⟩:∃y,kn % 2=y:=⟨_,rfl⟩
   have s3:bits .and .u64 ((kn:Nat):Int) 1=((y:Nat):Int):=by
    rw[show(1:Int)=((1:Nat):Int)from rfl,u64_and_nat _ _ hk1 (by omega),Nat.and_one_is_mod,hy]
   have HPA:Hid (∀w9,Calls Tryz.prog 228 #[.int .u64 ((kn:Nat):Int)] w9 λ e w'=>e=.returned (.int .u64 (((kn:Nat):Int) / 2))/\w9=w'):=QLh (λ w9=>(parent_any ((kn:Nat):Int) w9 (by omega) (by omega)).mono (λ e w' h9=>⟨h9.1,h9.2.symm⟩))
   go_wp2_with fail
   refine(HPA.out w1).mono ?_
   rintro e w2 ⟨rfl,rfl⟩
   obtain⟨ph,hph⟩:∃ph:Int,((kn:Nat):Int) / 2=ph:=⟨_,rfl⟩
   have HPH:=QLh hph
   obtain⟨x0,hx0⟩:∃x0,kidF (resF g pre) (2 * ph)=x0:=⟨_,rfl⟩
   obtain⟨x1,hx1⟩:∃x1,kidF (resF g pre) (2 * ph+1)=x1:=⟨_,rfl⟩
   have HLK:Hid ((mGet QL ph).getD (.agg #[.string ⟨#[]⟩,.string ⟨#[]⟩])=.agg #[.string x0,.string x1]):=QLh (by rw[<-hx0,<-hx1];exact HF.out.look ph);have HX0:=QLh hx0;have HX1:=QLh hx1
   rw[hph]at HPA ⊢
   clear hph hx0 hx1
   go_upto_region 6 with(at_lookup;refine wpList_lookup_m rfl _ _ 263 23 265 .u64 rfl Tryz.underlying263 Tryz.underlying23 (.agg #[.string ⟨#[]⟩,.string ⟨#[]⟩]) (Tryz.zeroValue265 _) pb 0 _ rfl HP1.out _ rfl ?_;rw[HLK.out])
   obtain⟨q,hq⟩:∃q,w1.heap.size=q:=⟨_,rfl⟩
   obtain⟨X,hX⟩:∃X,w1.alloc (Obj.cells #[.string x0,.string x1] 265)=X:=⟨_,rfl⟩
   have HQ0:Hid (X.heap[q]?=some (.cells #[.string x0,.string x1] 265 (0,0))):=QLh (by rw[<-hX];exact alloc_new_at _ hq);have HRX:Hid (Ranging X b r .u64 n L (seen.push (n+i))):=QLh (HR1.out.keep (by rw[<-hX];exact Below.heap_alloc _ _ _ (lt_of_block HR1.out.map)) (by rw[<-hX];exact Below.heap_alloc _ _ _ (lt_of_block HR1.out.iter)));have HPX:Hid (X.heap[pb]?=some (mObj .u64 0 QL)):=QLh (by rw[<-hX];exact block_alloc HP1.out _);have HWX:Hid (Below w.heap.size w X):=QLh (by rw[<-hX];exact balloc HW1.out _);have HQL:Hid (r<q/\b<q/\pb<q):=QLh ⟨by rw[<-hq];exact lt_of_block HR1.out.iter,by rw[<-hq];exact lt_of_block HR1.out.map,by rw[<-hq];exact lt_of_block HP1.out⟩
   rw[hq,hX]
   clear hq hX HR1 HP1 HW1 HR HC HP HW;have hy2:y<2:=by omega
   obtain⟨v0,hv0⟩:∃v0,(#[Value.string x0,.string x1]:Array Value)[y]?=some v0:=by
    rcases(by omega:y=0 \/ y=1)with rfl | rfl <;> exact⟨_,rfl⟩
   have c0:X.cell? ⟨q,y,none⟩=some v0:=by rw[block_cell HQ0.out,hv0]
   have c1:X.frozen? ⟨q,y,none⟩=false:=block_free HQ0.out y;have c2:q<X.heap.size:=lt_of_block HQ0.out;have b1:¬2<=y:=by omega
   have b2:¬(2:Int)<=(y:Int):=by omega
   obtain⟨z0,hz0⟩:∃z0,(if y=0 then d else x0)=z0:=⟨_,rfl⟩
   obtain⟨z1,hz1⟩:∃z1,(if y=0 then x1 else d)=z1:=⟨_,rfl⟩
   have HZS:Hid ((#[Value.string x0,.string x1]:Array Value).setIfInBounds y (.string d)=#[.string z0,.string z1]):=QLh (by
    rw[<-hz0,<-hz1]
    rcases(by omega:y=0 \/ y=1)with rfl | rfl <;> rfl)
   have HZP:Hid (prPut (resF g pre) ((kn:Nat):Int) d=.agg #[.string z0,.string z1]):=QLh (by
    unfold prPut
    rw[HPH.out,HX0.out,HX1.out,<-hz0,<-hz1]
    rcases(by omega:y=0 \/ y=1)with rfl | rfl
    ·rw[if_pos (show((kn:Nat):Int) % 2=0 by omega)];rfl
    ·rw[if_neg (show ¬((kn:Nat):Int) % 2=0 by omega)];rfl)
   clear hv0 hy hy2 hz0 hz1
   go_upto_region 7 with fail
   clear c0 c1 c2 b1 b2 s3
   obtain⟨Y,hY⟩:∃Y,X.setCell ⟨q,y,none⟩ (.string d)=Y:=⟨_,rfl⟩
   have HQB:Hid (Y.heap[q]?=some (.cells #[.string z0,.string z1] 265 (0,0))):=QLh (by rw[<-hY,<-HZS.out];exact block_setCell HQ0.out _);have HRY:Hid (Ranging Y b r .u64 n L (seen.push (n+i))):=QLh (HRX.out.keep (by rw[<-hY];exact Below.heap_setCell _ _ _ _ (show b≠q by have:=HQL.out;omega)) (by rw[<-hY];exact Below.heap_setCell _ _ _ _ (show r≠q by have:=HQL.out;omega)));have HPY:Hid (Y.heap[pb]?=some (mObj .u64 0 QL)):=QLh (by rw[<-hY];exact(Below.heap_setCell _ _ _ _ (show pb≠q by have:=HQL.out;omega)).trans HPX.out);have HWY:Hid (Below w.heap.size w Y):=QLh (by rw[<-hY];exact bset HWX.out (show w.heap.size<=q by have:=HQL.out;have:=HBP.out;omega) _)
   rw[hY]
   clear hY HQ0 HRX HPX HWX HZS;have HPB:Hid (∀w9,Calls Tryz.prog 228 #[.int .u64 ((kn:Nat):Int)] w9 λ e w'=>e=.returned (.int .u64 ph)/\Below w9.heap.size w9 w'):=QLh (λ w9=>(HPA.out w9).mono (λ e w' h9=>⟨h9.1,by rw[<-h9.2];exact Below.refl _ _⟩));have HI2:Hid ((Tryz.prog.info? 265).map (·.size)=some (#[Value.string z0,.string z1]:Array Value).size):=QLh (by kernel_rfl)
   refine wp_region_tail 4 1000 (none) (phis (List.map qv [.map (some pb),.int .u64 (kn:Nat),.int .u64 ph,.agg #[.string z0,.string z1]])) rfl (by kernel_rfl) (by kernel_rfl) (mono_of mono_qv) (steps_of 4 ⟨?s0,?s1,?s2,?s3,trivial⟩) ?_
   case s0=>
    refine qV (λ _=>rfl) rfl λ av wv hE hO hD=>?_
    simp[go_sem,qF av 3 (.map (some pb)) (hO.2.2 3 rfl)]
   case s1=>
    refine qV (λ _=>rfl) rfl λ av wv hE hO hD=>?_
    simp[go_sem,qF av 4 (.int .u64 (kn:Nat)) (hO.2.2 4 rfl)]
   case s2=>
    refine step_wp (λ av wv hE hS hO hD=>⟨rfl,?_⟩)
    have f27:=qE (hD.1 rfl _ rfl)
    refine wp_of_call (v:=.int .u64 ph) (by simp[go_sem,f27]) (HPB.out wv) (λ w2 hb=>⟨_,rfl,es_of_ext hb,rfl⟩)
   case s3=>
    refine step_wp (λ av wv hE hS hO hD=>⟨rfl,?_⟩)
    have h6:av.eval (.tmp 6)=(.pointer (some ⟨q,0,none⟩)):=hO.2.2 6 rfl
    exact wp_load_row 265 _ rfl q h6 265 #[.string z0,.string z1] (0,0) _ (extB_block hE (by simp) HQB.out) Tryz.underlying265 rfl HI2.out ⟨_,rfl,es_of_ext (Ext_refl _),rfl⟩
   intro a' w' hE hO hall
   have hA:=act_of_outer (ds:=[26,27,28,29]) rfl hO (by kernel_rfl)
   obtain⟨j0,j1,j2,j3,-⟩:=hall
   simp only[List.foldl_cons,List.foldl_nil,Act.put,List.setIfInBounds_toArray,List.set_cons_succ,List.set_cons_zero,qJ 26 (j0 _ rfl),qJ 27 (j1 _ rfl),qJ 28 (j2 _ rfl),qJ 29 (j3 _ rfl)]at hA
   clear hO j0 j1 j2 j3
   subst hA
   have hXd:=of_drew hE;have HRZ:Hid (Ranging w' b r .u64 n L (seen.push (n+i))):=QLh (HRY.out.keep (hXd.block _ (lt_of_block HRY.out.map)) (hXd.block _ (lt_of_block HRY.out.iter)));have HPZ:Hid (w'.heap[pb]?=some (mObj .u64 0 QL)):=QLh ((hXd.block _ (lt_of_block HPY.out)).trans HPY.out);have HWZ:Hid (Below w.heap.size w w'):=QLh (bnext HWY.out hXd);clear hE hXd HPB HI2 HQB HRY HPY HWY
   simp only[List.drop_succ_cons,List.drop_zero]
   go_wp2_with (at_mapUpdate;refine wpList_mapUpdate_m rfl _ _ _ 263 23 265 .u64 rfl Tryz.underlying263 Tryz.underlying23 pb 0 _ rfl HPZ.out _ _ rfl rfl ?_)
   have HPP:Hid ((setBlock w' pb (mObj .u64 0 (mPut QL ph (.agg #[.string z0,.string z1])))).heap[pb]?=some (mObj .u64 0 (mPut QL ph (.agg #[.string z0,.string z1])))):=QLh (setBlock_same HPZ.out);have HFF:Hid (PairF (mPut QL ph (.agg #[.string z0,.string z1])) (resF g (pre++[((kn:Nat):Int)]))):=QLh (by
    rw[resF_snoc pre HG.out,<-HZP.out,<-HPH.out]
    exact HF.out.put _ d HKU.out)
   have HRR:Hid (Ranging (setBlock w' pb (mObj .u64 0 (mPut QL ph (.agg #[.string z0,.string z1])))) b r .u64 n L (seen.push (n+i))):=QLh (HRZ.out.keep (setBlock_other (by have:=HBP.out;omega)) (setBlock_other (by have:=HRP.out;omega)));have HWW:Hid (Below w.heap.size w (setBlock w' pb (mObj .u64 0 (mPut QL ph (.agg #[.string z0,.string z1]))))):=QLh (setBlock_below HWZ.out HBP.out.2);have HLL:Hid (rLeft (setBlock w' pb (mObj .u64 0 (mPut QL ph (.agg #[.string z0,.string z1])))) r (n+L.length)<rLeft wr r (n+L.length)):=QLh (by have:=HLT.out;rw[HRX9.out.left]at this;rw[HRR.out.left];exact this)
   go_roundw
   case rel=>
    (repeat apply Exists.intro)
    exact⟨⟨_,_,_,HRR,HC1,HPP,HFF,HWW⟩,rfl⟩
   case measure=>exact HLL.out
end
section
open Go.RowKit Go.ChangeMaps
theorem proot_arg(n:Int)(ps:List Int)(es ds:List ByteArray)(pa ea da:Option Addr)(pc ec dc:Nat)(w:World)(hp:U64s w pa ps)(hl:len ps<=100)(h0:-9223372036854775808<=n)(h1:n<=9223372036854775807)(hb:¬ArgOk n ps es)(hle:len es<=1000000):
  Calls Tryz.prog 102 #[.int .i64 n,.slice pa (len ps) pc,.slice ea (len es) ec,.slice da (len ds) dc] w (RootIs n ps es ds w):=by
 have HE:Hid (rootE n ps es ds=2/\rootS n ps es ds=⟨#[]⟩):=QLh (by
  have h9:rootE n ps es ds=2:=by unfold rootE;rw[if_pos hb]
  exact⟨h9,by unfold rootS;rw[h9];rfl⟩)
 have HM:=QLh (λ w9 hb9=>pmay_any n ps pa pc w9 (hp.below hb9) (by omega) h0 h1)
 by_cases hs:SizeOk n ps
 ·have hne:¬len es=len ps:=λ h9=>hb ⟨hs,h9⟩
  have z1:¬((len es:Nat):Int)=((len ps:Nat):Int):=by omega
  rw[decide_eq_true hs]at HM
  clear hb hs hp hl h0 h1 hne hle
  go_enter Tryz.func102,Tryz.ntmps102
  go_wp2_with fail
  refine(HM.out _ (balloc (Below.refl _ _) _)).mono ?_
  rintro e w1 ⟨rfl,hb1⟩
  have HB1:Hid (Below w.heap.size w w1):=QLh (bnext (balloc (Below.refl _ _) _) hb1);clear hb1
  go_wp2
  go_ret2
  exact⟨by rw[HE.out.1,HE.out.2];rfl,HB1.out⟩
 ·rw[decide_eq_false hs]at HM
  clear hb hs hp hl h0 h1 hle
  go_enter Tryz.func102,Tryz.ntmps102
  go_wp2_with fail
  refine(HM.out _ (balloc (Below.refl _ _) _)).mono ?_
  rintro e w1 ⟨rfl,hb1⟩
  have HB1:Hid (Below w.heap.size w w1):=QLh (bnext (balloc (Below.refl _ _) _) hb1);clear hb1
  go_wp2
  go_ret2
  exact⟨by rw[HE.out.1,HE.out.2];rfl,HB1.out⟩
theorem proot_form(n:Int)(ps:List Int)(es ds:List ByteArray)(pa ea da:Option Addr)(pc ec dc:Nat)(w:World)(hp:U64s w pa ps)(hd:Txts w da ds)(hl:len ps<=100)(hld:len ds<=1000000)(h0:-9223372036854775808<=n)(h1:n<=9223372036854775807)(hb:ArgOk n ps es)(hbad:badB ds=true):
  Calls Tryz.prog 102 #[.int .i64 n,.slice pa (len ps) pc,.slice ea (len es) ec,.slice da (len ds) dc] w (RootIs n ps es ds w):=by
 have HE:Hid (rootE n ps es ds=5/\rootS n ps es ds=⟨#[]⟩):=QLh (by
  have h9:rootE n ps es ds=5:=by unfold rootE;rw[if_neg (λ h=>h hb),if_pos hbad]
  exact⟨h9,by unfold rootS;rw[h9];rfl⟩)
 have HM:=QLh (λ w9 hb9=>pmay_any n ps pa pc w9 (hp.below hb9) (by omega) h0 h1)
 rw[decide_eq_true hb.1]at HM
 have hel:=hb.2;have HBD:=QLh (λ w9 hb9=>bad_any da dc ds w9 (hd.below hb9) (by omega))
 rw[hbad]at HBD
 clear hb hp hl h0 h1 hbad hld hd
 go_enter Tryz.func102,Tryz.ntmps102
 rw[hel]
 go_upto_region 1 with fail
 obtain⟨pb,hpb⟩:∃pb,w.heap.size=pb:=⟨_,rfl⟩
 obtain⟨V,hV⟩:∃V,w.alloc (.cells #[.slice da (len ds) dc] 36)=V:=⟨_,rfl⟩
 have HVP:Hid (V.heap[pb]?=some (.cells #[.slice da (len ds) dc] 36 (0,0))):=QLh (by rw[<-hV];exact alloc_new_at _ hpb);have HVW:Hid (Below w.heap.size w V):=QLh (by rw[<-hV];exact balloc (Below.refl _ _) _)
 rw[hpb,hV]
 clear hV hpb
 go_wp2_with fail
 refine(HM.out _ HVW.out).mono ?_
 rintro e w1 ⟨rfl,hb1⟩
 have HP1:Hid (w1.heap[pb]?=some (.cells #[.slice da (len ds) dc] 36 (0,0))):=QLh ((hb1.block _ (lt_of_block HVP.out)).trans HVP.out);have HB1:Hid (Below w.heap.size w w1):=QLh (bnext HVW.out hb1);clear hb1;have c0:w1.cell? ⟨pb,0,none⟩=some (.slice da (len ds) dc):=by rw[block_cell HP1.out];rfl
 have c2:pb<w1.heap.size:=lt_of_block HP1.out
 go_wp2_with fail
 refine(HBD.out w1 HB1.out).mono ?_
 rintro e w2 ⟨rfl,rfl⟩
 clear c0 c2
 go_wp2
 go_ret2
 exact⟨by rw[HE.out.1,HE.out.2];rfl,HB1.out⟩
end
section
open Go.RowKit Go.ChangeMaps
def NextIs(pb:Nat)(a:Option Addr)(ds:List ByteArray)(w:World)(e:Ending)(w':World):Prop:=∃a' c',e=.returned (.string (tth ds 0))/\w'=w.setCell ⟨pb,0,none⟩ (.slice a' (len ds - 1) c')/\len ds - 1<=c'/\(∀w9,Txts w9 a ds->Txts w9 a' (ds.drop 1))
theorem txts_drop1{w:World}{b off:Nat}{ds:List ByteArray}(h:Txts w (some ⟨b,off,none⟩) ds):Txts w (some ⟨b,off+1,none⟩) (ds.drop 1):=λ i hi=>by
 have h1:i<(ds.drop 1).length:=hi
 rw[List.length_drop]at h1
 obtain⟨b2,off2,e,hc⟩:=h (i+1) (by omega:i+1<ds.length)
 cases e
 refine⟨b,off+1,rfl,?_⟩
 rw[tth_drop,Nat.add_assoc,Nat.add_comm 1 i]
 exact hc
theorem nextd_any(pb:Nat)(a:Option Addr)(c:Nat)(ds:List ByteArray)(w:World)(hb:w.heap[pb]?=some (.cells #[.slice a (len ds) c] 36 (0,0)))(ht:Txts w a ds)(h0:0<len ds)(hc:len ds<=c):
  Calls Tryz.prog 169 #[.pointer (some ⟨pb,0,none⟩)] w (NextIs pb a ds w):=by
 obtain⟨b,off,rfl,hcell⟩:=ht 0 h0
 have c0:w.cell? ⟨pb,0,none⟩=some (.slice (some ⟨b,off,none⟩) (len ds) c):=by rw[block_cell hb];rfl
 have c1:w.frozen? ⟨pb,0,none⟩=false:=block_free hb 0;have c2:pb<w.heap.size:=lt_of_block hb;have l1:=lt_of_cell hcell;have z0:(0:Int)<(len ds:Int):=by omega
 have z1:¬len ds<=0:=by omega
 rw[Nat.add_zero]at hcell
 clear hb ht
 go_enter Tryz.func169,Tryz.ntmps169
 go_wp2_with fail
 ·skip
  go_ret
  refine⟨_,_,rfl,rfl,by omega,λ w9 h9=>?_⟩
  rw[show ds.drop 1=[]from List.drop_eq_nil_of_le (by have:len ds=ds.length:=rfl;omega)]
  exact Txts.nil _ _
 ·skip
  go_ret
  exact⟨_,_,rfl,rfl,by omega,λ w9 h9=>txts_drop1 h9⟩
end
section
open Go.RowKit Go.ChangeMaps
theorem leaves_nth(ps:List Int)(d:Int)(m:Nat)(h:m<len ps):nth (leavesL ps d) m=turnedZ (nth ps m) d:=by
 have h2:m<ps.length:=h
 unfold leavesL nth
 simp[h2]
structure LvAt(mb:Nat)(g:KnF)(w:World):Prop where
 at_:KnownAt mb 0 g w
 small:SmF g
theorem LvAt.keep{mb:Nat}{g:KnF}{w w':World}(h:LvAt mb g w)(hk:w'.heap[mb]?=w.heap[mb]?):LvAt mb g w':=by
 obtain⟨⟨L,h1,h2⟩,h3⟩:=h
 exact⟨⟨L,hk.trans h1,h2⟩,h3⟩
theorem LvAt.lt{mb:Nat}{g:KnF}{w:World}(h:LvAt mb g w):mb<w.heap.size:=by
 obtain⟨⟨L,h1,h2⟩,h3⟩:=h
 exact lt_of_block h1
theorem own_keeps{wr W4:World}{T:TypeId}{base b n size:Nat}{v:Value}{xs:List Value}(h:wr.ownsRow base T size v n xs)(hg:wr.grownBy W4 v.ownBlock)(hb:b<base)(hl:b<wr.heap.size):W4.heap[b]?=wr.heap[b]?:=
 hg.block b hl (λ e=>by have:=(h.lt b e.symm).1;omega)
theorem take_snoc_nth{l:List Int}{m:Nat}(h:m<len l):l.take (m+1)=l.take m++[nth l m]:=by
 have h2:m<l.length:=h
 rw[List.take_succ_eq_append_getElem h2,nth_eq l m h2]
theorem own_setBlock{w:World}{base n:Nat}{T:TypeId}{size:Nat}{v:Value}{xs:List Value}{p:Nat}(h:w.ownsRow base T size v n xs)(hp:p<base)(o:Obj):(setBlock w p o).ownsRow base T size v n xs:=by
 refine⟨h.1,?_⟩
 rcases h.2 with h2 | ⟨g,cap,cur,rfl,hg,hgb,h3⟩
 ·exact .inl h2
 ·exact .inr ⟨g,cap,cur,rfl,hg,(setBlock_other (by omega)).trans hgb,h3⟩
def RowsU(B:Nat)(w:World)(a:Option Addr)(rs:List (List Int)):Prop:=
 ∀m,m<len rs->∃rb ro ra rc,a=some ⟨rb,ro,none⟩/\B<=rb/\w.cell? ⟨rb,ro+m,none⟩=some (.slice ra (len (rnth rs m)) rc)/\∀q,q<len (rnth rs m)->∃ub uo,ra=some ⟨ub,uo,none⟩/\B<=ub/\w.cell? ⟨ub,uo+q,none⟩=some (.int .u64 (nth (rnth rs m) q))
theorem rowsU_of{w:World}{B:Nat}{v:Value}{vals:List Value}{rs:List (List Int)}(h:w.ownsRow B 64 1 v vals.length vals)(hr:RowsAre w B vals rs):∃a cap,v=.slice a (len rs) cap/\RowsU B w a rs:=by
 have hl:vals.length=len rs:=hr.1
 rcases h.2 with⟨rfl,h2⟩ | ⟨g,cap,cur,rfl,hg,hgb,_⟩
 ·exact⟨none,0,by rw[<-hl,h2],λ m hm=>by omega⟩
 ·refine⟨some ⟨g,0,none⟩,cap,by rw[hl],λ m hm=>?_⟩
  have hm2:m<rs.length:=hm
  obtain⟨u,h1,h2⟩:=hr.2 m hm2
  have hc:=h.cellAt m (by omega)
  rw[h1]at hc
  rw[<-rnth_eq rs m hm2]at h2
  obtain⟨ra,rc,rfl,hU,_,_⟩:=own_u64 h2
  refine⟨g,0,ra,rc,rfl,hg,by rw[Nat.zero_add];exact hc,λ q hq=>?_⟩
  obtain⟨ub,uo,rfl,hcq⟩:=hU q hq
  refine⟨ub,uo,rfl,?_,hcq⟩
  exact(h2.lt ub rfl).1
def Upper(B:Nat)(w w':World):Prop:=∀b,B<=b->b<w.heap.size->w'.heap[b]?=w.heap[b]?
theorem Upper.refl(B:Nat)(w:World):Upper B w w:=λ b _ _=>rfl
theorem Upper.cell{B:Nat}{w w':World}(h:Upper B w w'){b o:Nat}{v:Value}(hb:B<=b)(hc:w.cell? ⟨b,o,none⟩=some v):w'.cell? ⟨b,o,none⟩=some v:=
 (World.cell?_of_block (w:=w) (h b hb (lt_of_cell hc))).trans hc
theorem Upper.bel{B:Nat}{w w' w2:World}(h:Upper B w w')(hs:w.heap.size<=w'.heap.size)(hb:Below w'.heap.size w' w2):Upper B w w2:=λ b h1 h2=>(hb.block b (by omega)).trans (h b h1 h2)
theorem Upper.set{B:Nat}{w w':World}(h:Upper B w w'){p:Nat}(hp:p<B)(k:Nat)(v:Value):Upper B w (w'.setCell ⟨p,k,none⟩ v):=λ b h1 h2=>(Below.heap_setCell _ _ _ _ (by omega:b≠p)).trans (h b h1 h2)
theorem Upper.map{B:Nat}{w w':World}(h:Upper B w w'){p:Nat}(hp:p<B \/ w.heap.size<=p)(o:Obj):Upper B w (setBlock w' p o):=λ b h1 h2=>(setBlock_other (by omega)).trans (h b h1 h2)
theorem usedR_bd{rs:List (List Int)}(h:∀i,len (rnth rs i)<=100):∀m,m<=len rs->usedR rs m<=100 * m
 | 0,_=>Nat.le_refl _
 | m+1,hm=>by
  rw[usedR_next rs m (by omega)]
  have:=usedR_bd h m (by omega);have:=h m
  omega
theorem LvAt.put{mb:Nat}{g:KnF}{w:World}{L:List (Int × Value)}(hl:w.heap[mb]?=some (mObj .u64 0 L))(hm:MapF L g)(hs:SmF g){t:Int}{D:ByteArray}(ht:U64 t)(hd:D.size<=1000):LvAt mb (putF g t D) (setBlock w mb (mObj .u64 0 (mPut L t (.string D)))):=
 ⟨⟨_,setBlock_same hl,hm.put t D ht⟩,hs.put t D hd⟩
theorem row_u64{ps:List Int}{d i:Nat}{t:Int}(hd:d<=16)(hi:i<d)(h:t ∈ rnth (rowsOf (leavesL ps (d:Nat)) d) i):U64 t:=by
 obtain⟨⟨y,hy,rfl⟩,_⟩:=(row_mem _ d i hi t).1 h
 obtain⟨h1,h2⟩:=leaves_in hd y hy
 have h3:=half_bd h1 h2 (Nat.le_of_lt hi)
 obtain⟨e,he⟩:∃e,d - i=e+1:=⟨d - i - 1,by omega⟩
 rw[he]at h3
 have h4:=sib_bd h3.1 h3.2;have h5:(2:Int) ^ (e+1)<=65536:=by
  rw[pow_cast]
  have:2 ^ (e+1)<=65536:=Nat.pow_le_pow_right (n:=2) (by decide) (by omega:e+1<=16)
  omega
 unfold U64
 omega
theorem proot_main(nn:Nat)(ps:List Int)(es ds:List ByteArray)(pa ea da:Option Addr)(pc ec dc:Nat)(w:World)(hp:U64s w pa ps)(he:Txts w ea es)(hd:Txts w da ds)(hl:len ps<=12)(hu:∀k ∈ ps,U64 k)(hld:len ds<=1000000)(hdc:len ds<=dc)(hez:∀i,i<len es->(tth es i).size<=1000000)(hb:ArgOk (nn:Nat) ps es)(hbad:badB ds=false):
  Calls Tryz.prog 102 #[.int .i64 (nn:Nat),.slice pa (len ps) pc,.slice ea (len es) ec,.slice da (len ds) dc] w (RootIs (nn:Nat) ps es ds w):=by
 have hn16:nn<=65536:=by have:=hb.1.2.1;omega
 obtain⟨d,hdd⟩:∃d:Nat,Lib.bitLen (nn - 1)=d:=⟨_,rfl⟩
 have hdz:depthZ (nn:Nat)=(d:Nat):=by unfold depthZ;rw[if_neg (by omega),Int.toNat_natCast,hdd]
 have hdb:=depth_bd nn hn16
 rw[hdd]at hdb
 have HD16:Hid (d<=16):=QLh hdb.1
 obtain⟨lv,hlv⟩:∃lv,leavesL ps (d:Nat)=lv:=⟨_,rfl⟩
 have HLN:Hid (len lv=len ps):=QLh (by rw[<-hlv,leavesL_len]);have HLU:Hid (∀k ∈ lv,U64 k):=QLh (by rw[<-hlv];exact leavesL_u64 ps _)
 obtain⟨rs,hrs⟩:∃rs,rowsOf lv d=rs:=⟨_,rfl⟩
 have HNR:Hid (needsL lv (d:Nat)=rs):=QLh (by rw[<-hrs,<-hlv];exact needsP_rows hdb.1 hb.1.2.2);have HRL:Hid (len rs=d):=QLh (by rw[<-hrs,rowsOf_len]);have HLV:=QLh hlv;have HRS:=QLh hrs;have HNM:Hid ((∀i,len (rnth rs i)<=100)/\(flatLv rs).length<=1600):=QLh (by
  rw[<-HNR.out]
  exact⟨rnth_nl _ _ (by rw[HLN.out];omega),flat_bd _ _ (by rw[HLN.out];omega)⟩)
 have HRP:Hid (rowsP (nn:Nat) ps=rs):=QLh (by unfold rowsP;rw[hdz,hlv];exact HNR.out);have HDP:Hid (digP (nn:Nat) ps es ds=kidF (rootG (g0F lv es) rs ds) 0):=QLh (by unfold digP;rw[HRP.out,hdz,hlv]);have HNP:Hid (neededP (nn:Nat) ps=usedR rs (len rs)):=QLh (by unfold neededP;rw[HRP.out]);have HM:=QLh (λ w9 hb9=>pmay_any (nn:Nat) ps pa pc w9 (hp.below hb9) (by omega) (by omega) (by omega))
 rw[decide_eq_true hb.1]at HM
 have hel:=hb.2;have HBD:=QLh (λ w9 hb9=>bad_any da dc ds w9 (hd.below hb9) (by omega))
 rw[hbad]at HBD
 have HDE:=QLh (λ w9=>depth_any (nn:Nat) w9 (by omega) (by omega))
 rw[hdz]at HDE
 have HLF:=QLh (λ k (hk:U64 k) w9=>leaf_any k (d:Nat) w9 hk.1 hk.2);have HP:=QLh hp;have HES:=QLh he;have HDS:=QLh hd;have HU:=QLh hu;have HL100:=QLh hl;have HEZ:=QLh hez;have HEL:=QLh hel;have HLD:=QLh hld;have HDC:=QLh hdc;have HARG:=QLh hb;have HBADF:=QLh hbad
 obtain⟨i0,hi,hz0,hz1,hz2⟩:=info_parts info_u64
 have HZ0:=QLh hz0;clear hp he hd hl hu hld hdc hez hb hbad hn16 hdd hdz hdb hlv hrs hel hz0
 go_enter Tryz.func102,Tryz.ntmps102
 rw[HEL.out]
 go_upto_region 1 with fail
 obtain⟨pb,hpb⟩:∃pb,w.heap.size=pb:=⟨_,rfl⟩
 obtain⟨V,hV⟩:∃V,w.alloc (.cells #[.slice da (len ds) dc] 36)=V:=⟨_,rfl⟩
 have HVP:Hid (V.heap[pb]?=some (.cells #[.slice da (len ds) dc] 36 (0,0))):=QLh (by rw[<-hV];exact alloc_new_at _ hpb);have HVW:Hid (Below w.heap.size w V):=QLh (by rw[<-hV];exact balloc (Below.refl _ _) _);have HPB:Hid (w.heap.size<=pb):=QLh (Nat.le_of_eq hpb)
 rw[hpb,hV]
 clear hV hpb
 go_wp2_with fail
 refine(HM.out _ HVW.out).mono ?_
 rintro e w1 ⟨rfl,hb1⟩
 have HP1:Hid (w1.heap[pb]?=some (.cells #[.slice da (len ds) dc] 36 (0,0))):=QLh ((hb1.block _ (lt_of_block HVP.out)).trans HVP.out);have HB1:Hid (Below w.heap.size w w1):=QLh (bnext HVW.out hb1);clear hb1 HVP HVW HM;have c0:w1.cell? ⟨pb,0,none⟩=some (.slice da (len ds) dc):=by rw[block_cell HP1.out];rfl
 have c2:pb<w1.heap.size:=lt_of_block HP1.out
 go_wp2_with fail
 refine(HBD.out w1 HB1.out).mono ?_
 rintro e w2 ⟨rfl,rfl⟩
 clear c0 c2 HBD
 go_wp2_with fail
 refine(HDE.out w1).mono ?_
 rintro e w2 ⟨rfl,rfl⟩
 have hmm:=@run_makeMap Tryz.prog
 go_upto_region 9 with fail
 clear hmm HDE
 obtain⟨mb,hmb⟩:∃mb,w1.heap.size=mb:=⟨_,rfl⟩
 obtain⟨V,hV⟩:∃V,w1.alloc (Obj.map #[] 0)=V:=⟨_,rfl⟩
 have HVM:Hid (LvAt mb (addF noF (lv.take 0) (leafD es)) V):=QLh ⟨⟨[],by rw[<-hV];exact alloc_new_at _ hmb,by rw[List.take_zero];exact MapF.nil⟩,by rw[List.take_zero];exact SmF.no⟩;have HVP:Hid (V.heap[pb]?=some (.cells #[.slice da (len ds) dc] 36 (0,0))):=QLh (by rw[<-hV];exact block_alloc HP1.out _);have HVW:Hid (Below w.heap.size w V):=QLh (by rw[<-hV];exact balloc HB1.out _);have HMB:Hid (pb<mb/\w.heap.size<=mb):=QLh ⟨by rw[<-hmb];exact lt_of_block HP1.out,by rw[<-hmb];exact HB1.out.size⟩
 obtain⟨B,hB⟩:∃B,V.heap.size=B:=⟨_,rfl⟩
 have HBM:Hid (mb<B):=QLh (by rw[<-hB];exact HVM.out.lt);have HVB:Hid (B<=V.heap.size):=QLh (Nat.le_of_eq hB.symm)
 rw[hmb,hV]
 clear hV hmb HB1 HP1 hB
 go_loopg [45,12] (len ps) (λ g i v wr=>∃m:Nat,g+m=len ps/\i=.int .i64 m/\Hid (wr.ownsRow B 23 1 v m ((lv.take m).map (Value.int .u64)))/\Hid (LvAt mb (addF noF (lv.take m) (leafD es)) wr)/\Hid (wr.heap[pb]?=some (.cells #[.slice da (len ds) dc] 36 (0,0)))/\Hid (Below w.heap.size w wr)/\Hid (B<=wr.heap.size))
 case atStart=>exact⟨0,rfl,rfl,QLh (World.ownsRow_nil _ _ _ _),HVM,HVP,HVW,HVB⟩
 case round=>
  clear HVM HVP HVW HVB
  obtain⟨m,hm,rfl,HO,HG,HPX,HW,HBS⟩:=hrel
  have HNN:=HL100.out
  by_cases hlt:m<len ps
  ·have b0:(m:Int)<len ps:=by omega
   have b1:¬len ps<=m:=by omega
   obtain⟨b,off,hra,hcell⟩:=HP.out.below HW.out m hlt
   subst hra
   obtain⟨eb,eo,hea,hcel⟩:=HES.out.below HW.out m (by rw[HEL.out];exact hlt)
   subst hea
   obtain⟨k,hk⟩:∃k,nth ps m=k:=⟨_,rfl⟩
   have hku:U64 k:=by rw[<-hk];exact HU.out _ (mem_nth hlt)
   obtain⟨s,hs⟩:∃s,tth es m=s:=⟨_,rfl⟩
   have HSZ:Hid (s.size<=1000000):=QLh (by rw[<-hs];exact HEZ.out m (by rw[HEL.out];exact hlt))
   obtain⟨t,ht⟩:∃t,turnedZ k (d:Nat)=t:=⟨_,rfl⟩
   have HSS:=QLh hs;have HTN:Hid (nth lv m=t):=QLh (by rw[<-HLV.out,leaves_nth ps _ m hlt,hk,ht]);have HTU:Hid (U64 t):=QLh (by rw[<-HTN.out];exact HLU.out _ (mem_nth (by rw[HLN.out];exact hlt)));have HLK:=QLh (HLF.out k hku wr)
   rw[ht]at HLK
   have HLD9:Hid (tth (leafD es) m=hashP leafT [s]):=QLh (by rw[leafD_at es m (by rw[HEL.out];exact hlt),hs])
   rw[hk]at hcell
   rw[hs]at hcel
   have l1:=lt_of_cell hcell;have HCE:=QLh hcel;clear hk hku hs ht hcel
   go_upto_region 11 with fail
   clear hcell l1
   go_wp2_with fail
   refine HLK.out.mono ?_
   rintro e w2 ⟨rfl,rfl⟩
   go_upto_region 13 with(at_builtin;refine wpList_append_own _ rfl _ _ 64 rfl B 23 i0 (.int .u64 0) 1 8 Tryz.underlying64 hi HZ0.out hz1 hz2 rfl (by decide) _ _ _ rfl (HO.out.alloc _) ⟨wr.heap.size,0,none⟩ 1 1 [.int .u64 t] rfl rfl (World.news_of_block (heap_alloc_new _ _)) (by intro u hu9;simp at hu9;subst hu9;rfl) (by unfold maxLen;omega) (by omega) (by have:=HBS.out;simp;omega) ?_;intro v2 w4 hown2 hgrow2 _)
   have HX9:Hid (Below wr.heap.size wr (wr.alloc (.cells #[.int .u64 t] 23))):=QLh (balloc (Below.refl _ _) _);have HO4:Hid (w4.ownsRow B 23 1 v2 (m+1) ((lv.take (m+1)).map (Value.int .u64))):=QLh (by
    rw[take_snoc_nth (by rw[HLN.out];exact hlt),HTN.out,List.map_append]
    exact hown2)
   have HG4:Hid (LvAt mb (addF noF (lv.take m) (leafD es)) w4):=QLh (HG.out.keep ((own_keeps (HO.out.alloc _) hgrow2 HBM.out (by have:=HG.out.lt;simp;omega)).trans (HX9.out.block _ HG.out.lt)));have HP4:Hid (w4.heap[pb]?=some (.cells #[.slice da (len ds) dc] 36 (0,0))):=QLh (((own_keeps (HO.out.alloc _) hgrow2 (by have:=HBM.out;have:=HMB.out;omega) (by have:=lt_of_block HPX.out;simp;omega)).trans (HX9.out.block _ (lt_of_block HPX.out))).trans HPX.out);have HW4:Hid (Below w.heap.size w w4):=QLh (grownBy_below (balloc HW.out _) hgrow2 (λ k hk'=>Nat.le_trans (Nat.le_trans HMB.out.2 (Nat.le_of_lt HBM.out)) (HO.out.lt k hk').1));have HB4:Hid (B<=w4.heap.size):=QLh (by have h9:=hgrow2.size;have:=HBS.out;simp at h9;omega);clear hown2 hgrow2 HX9 HO HG HPX HW HBS HLK HCE
   obtain⟨eb2,eo2,he2,hcel2⟩:=HES.out.below HW4.out m (by rw[HEL.out];exact hlt)
   cases he2
   rw[HSS.out]at hcel2
   have l2:=lt_of_cell hcel2;have HELL:=HEL.out;have b3:(m:Int)<(len es:Int):=by omega
   have b4:¬len es<=m:=by omega
   go_wp2_with fail
   refine(hash1_any leafT s w4 (by decide) (by decide) HSZ.out).mono ?_
   rintro e w5 ⟨rfl,hb5⟩
   clear hcel2 l2 b3 b4 HELL;have HO5:Hid (w5.ownsRow B 23 1 v2 (m+1) ((lv.take (m+1)).map (Value.int .u64))):=QLh (own_below HO4.out hb5);have HG5:Hid (LvAt mb (addF noF (lv.take m) (leafD es)) w5):=QLh (HG4.out.keep (hb5.block _ HG4.out.lt));have HP5:Hid (w5.heap[pb]?=some (.cells #[.slice da (len ds) dc] 36 (0,0))):=QLh ((hb5.block _ (lt_of_block HP4.out)).trans HP4.out);have HW5:Hid (Below w.heap.size w w5):=QLh (bnext HW4.out hb5);have HB5:Hid (B<=w5.heap.size):=QLh (Nat.le_trans HB4.out hb5.size)
   obtain⟨⟨L,hL,hmf⟩,hsm⟩:=HG5.out
   have HLL:=QLh hL;have HMF:=QLh hmf;have HSM:=QLh hsm
   obtain⟨D,hD⟩:∃D,hashP leafT [s]=D:=⟨_,rfl⟩
   have HDZ9:Hid (D.size<=1000):=QLh (by rw[<-hD,hashP_size];omega);have HAF:Hid (addF noF (lv.take (m+1)) (leafD es)=putF (addF noF (lv.take m) (leafD es)) t D):=QLh (by rw[addF_take _ _ _ m (by rw[HLN.out];exact hlt),HTN.out,HLD9.out,hD])
   rw[hD]
   clear hb5 hL hmf hsm hD HO4 HG4 HP4 HW4 HB4 HG5
   go_upto_region 14 with(at_mapUpdate;refine wpList_mapUpdate_m rfl _ _ _ 200 23 9 .u64 rfl Tryz.underlying200 Tryz.underlying23 mb 0 _ rfl HLL.out t (.string D) rfl rfl ?_)
   obtain⟨U,hU⟩:∃U,setBlock w5 mb (mObj .u64 0 (mPut L t (.string D)))=U:=⟨_,rfl⟩
   have HG6:Hid (LvAt mb (addF noF (lv.take (m+1)) (leafD es)) U):=QLh (by rw[HAF.out,<-hU];exact LvAt.put HLL.out HMF.out HSM.out HTU.out HDZ9.out);have HO6:Hid (U.ownsRow B 23 1 v2 (m+1) ((lv.take (m+1)).map (Value.int .u64))):=QLh (by rw[<-hU];exact own_setBlock HO5.out HBM.out _);have HP6:Hid (U.heap[pb]?=some (.cells #[.slice da (len ds) dc] 36 (0,0))):=QLh (by rw[<-hU];exact(setBlock_other (by have:=HMB.out;omega)).trans HP5.out);have HW6:Hid (Below w.heap.size w U):=QLh (by rw[<-hU];exact setBlock_below HW5.out HMB.out.2);have HB6:Hid (B<=U.heap.size):=QLh (by rw[<-hU,setBlock_size];exact HB5.out)
   rw[hU]
   clear hU HO5 HP5 HW5 HB5 HLL
   go_wp2
   go_roundg (len ps - (m+1))
   case rel=>exact⟨m+1,by omega,by go_num,HO6,HG6,HP6,HW6,HB6⟩
   case measure=>omega
  ·obtain rfl:m=len ps:=by omega
   have b0:¬((len ps:Nat):Int)<len ps:=by omega
   have HGZ:Hid (LvAt mb (g0F lv es) wr):=QLh (by
    have h9:=HG.out
    rw[show lv.take (len ps)=lv by rw[<-HLN.out,take_len]]at h9
    exact h9)
   have HOZ:Hid (wr.ownsRow B 23 1 u12 (len ps) (lv.map (Value.int .u64))):=QLh (by
    have h9:=HO.out
    rw[show lv.take (len ps)=lv by rw[<-HLN.out,take_len]]at h9
    exact h9)
   obtain⟨al,cl,rfl,hUl,_,_⟩:=own_u64 HOZ.out
   have HND:=QLh (needs_any al cl lv (d:Nat) wr hUl (by rw[HLN.out];exact HL100.out) HLU.out)
   rw[HNR.out]at HND
   clear hUl HO HG HOZ hm
   go_wp2_with fail
   refine HND.out.mono ?_
   rintro e w3 ⟨v,vals,rfl,hr1,hr2,hb3⟩
   obtain⟨a3,cap3,rfl,hRU⟩:=rowsU_of hr1 hr2
   have HRU:=QLh hRU
   obtain⟨B2,hB2⟩:∃B2,wr.heap.size=B2:=⟨_,rfl⟩
   rw[hB2]at HRU
   have HB2:Hid (mb<B2/\pb<B2):=QLh ⟨by rw[<-hB2];exact HGZ.out.lt,by rw[<-hB2];exact lt_of_block HPX.out⟩;have HG3:Hid (LvAt mb (g0F lv es) w3):=QLh (HGZ.out.keep (hb3.block _ HGZ.out.lt));have HP3:Hid (w3.heap[pb]?=some (.cells #[.slice da (len ds) dc] 36 (0,0))):=QLh ((hb3.block _ (lt_of_block HPX.out)).trans HPX.out);have HW3:Hid (Below w.heap.size w w3):=QLh (bnext HW.out hb3);have HB23:Hid (B2<=w3.heap.size):=QLh (by rw[<-hB2];exact hb3.size);clear hr1 hr2 hRU hB2 hb3 HND HGZ HPX HW HBS
   go_upto_region 18 with fail
   go_loopg [71,17] (len rs) (λ g i v wr=>∃m:Nat,g+m=len rs/\i=.int .i64 m/\v=.int .i64 (usedR rs m:Nat)/\wr=w3)
   case atStart=>exact⟨0,rfl,rfl,rfl,rfl⟩
   case round=>
    obtain⟨m,hm,rfl,rfl,rfl⟩:=hrel
    have hr16:len rs<=16:=by have:=HRL.out;have:=HD16.out;omega
    by_cases hlt:m<len rs
    ·have b1:(m:Int)<len rs:=by omega
     have b2:¬len rs<=m:=by omega
     obtain⟨rb,ro,ra,rc,hra3,_,hrc,_⟩:=HRU.out m hlt
     subst hra3
     have l1:=lt_of_cell hrc;have HN9:Hid (usedR rs (m+1)=usedR rs m+len (rnth rs m)):=QLh (usedR_next rs m hlt);have hub:usedR rs m+len (rnth rs m)<=1600:=by
      rw[<-usedR_next rs m hlt]
      have:=usedR_bd HNM.out.1 (m+1) (by omega)
      omega
     obtain⟨u,hu⟩:∃u,usedR rs m=u:=⟨_,rfl⟩
     obtain⟨q,hq⟩:∃q,len (rnth rs m)=q:=⟨_,rfl⟩
     rw[hu,hq]at hub HN9
     rw[hq]at hrc
     rw[hu]
     clear hu hq
     go_wp2
     go_roundg (len rs - (m+1))
     case rel=>exact⟨m+1,by omega,by go_num,by rw[HN9.out];go_num,rfl⟩
     case measure=>omega
    ·obtain rfl:m=len rs:=by omega
     have b1:¬((len rs:Nat):Int)<len rs:=by omega
     have hub:usedR rs (len rs)<=1600:=by
      have:=usedR_bd HNM.out.1 (len rs) (Nat.le_refl _)
      omega
     obtain⟨N,hN⟩:∃N,usedR rs (len rs)=N:=⟨_,rfl⟩
     have HNN:=QLh hN
     rw[hN]at hub HNP ⊢
     have HUB:=QLh hub;clear hN hub hm hr16;have c0:wr.cell? ⟨pb,0,none⟩=some (.slice da (len ds) dc):=by rw[block_cell HP3.out];rfl
     have c2:pb<wr.heap.size:=lt_of_block HP3.out
     by_cases hlt4:len ds<N
     ·have z1:((len ds:Nat):Int)<((N:Nat):Int):=by omega
      have HE:Hid (rootE (nn:Nat) ps es ds=4/\rootS (nn:Nat) ps es ds=⟨#[]⟩):=QLh (by
       have h9:rootE (nn:Nat) ps es ds=4:=by unfold rootE;rw[if_neg (λ h=>h HARG.out),if_neg (by rw[HBADF.out];simp),HNP.out,if_pos hlt4]
       exact⟨h9,by unfold rootS;rw[h9];rfl⟩)
      clear hlt4
      go_wp2
      go_ret2
      exact⟨by rw[HE.out.1,HE.out.2];rfl,HW3.out⟩
     ·have z1:¬((len ds:Nat):Int)<((N:Nat):Int):=by omega
      by_cases hlt3:N<len ds
      ·have z2:((N:Nat):Int)<((len ds:Nat):Int):=by omega
       have HE:Hid (rootE (nn:Nat) ps es ds=3/\rootS (nn:Nat) ps es ds=⟨#[]⟩):=QLh (by
        have h9:rootE (nn:Nat) ps es ds=3:=by unfold rootE;rw[if_neg (λ h=>h HARG.out),if_neg (by rw[HBADF.out];simp),HNP.out,if_neg hlt4,if_pos hlt3]
        exact⟨h9,by unfold rootS;rw[h9];rfl⟩)
       clear hlt4 hlt3
       go_wp2
       go_ret2
       exact⟨by rw[HE.out.1,HE.out.2];rfl,HW3.out⟩
      ·have z2:¬((N:Nat):Int)<((len ds:Nat):Int):=by omega
       have HEQ:Hid (len ds=N):=QLh (by omega);have HE:Hid (rootE (nn:Nat) ps es ds=0/\rootS (nn:Nat) ps es ds=kidF (rootG (g0F lv es) rs ds) 0):=QLh (by
        have h9:rootE (nn:Nat) ps es ds=0:=by unfold rootE;rw[if_neg (λ h=>h HARG.out),if_neg (by rw[HBADF.out];simp),HNP.out,if_neg hlt4,if_neg hlt3]
        exact⟨h9,by unfold rootS;rw[h9,if_pos rfl];exact HDP.out⟩)
       clear hlt4 hlt3
       go_upto_region 28 with fail
       clear z1 z2 c0 c2
       obtain⟨W3,hW3⟩:∃W3,W3=wr:=⟨_,rfl⟩
       subst hW3
       have HG9:Hid (LvAt mb (rootT (g0F lv es) rs ds 0) W3):=HG3;have HBX9:Hid (∃a' c',W3.heap[pb]?=some (.cells #[.slice a' (len (ds.drop (usedR rs 0))) c'] 36 (0,0))/\len (ds.drop (usedR rs 0))<=c'/\∀w9,Txts w9 da ds->Txts w9 a' (ds.drop (usedR rs 0))):=QLh ⟨da,dc,HP3.out,HDC.out,λ _ h9=>h9⟩;clear HG3 HP3
       go_loopg [93,11] (len rs) (λ g i v wz=>∃m kb:Nat,g+m=len rs/\i=.int .i64 m/\v=.map (some kb)/\Hid (LvAt kb (rootT (g0F lv es) rs ds m) wz)/\Hid (∃a' c',wz.heap[pb]?=some (.cells #[.slice a' (len (ds.drop (usedR rs m))) c'] 36 (0,0))/\len (ds.drop (usedR rs m))<=c'/\∀w9,Txts w9 da ds->Txts w9 a' (ds.drop (usedR rs m)))/\Hid (Below w.heap.size w wz)/\Hid (Upper B2 W3 wz)/\Hid (pb<kb/\w.heap.size<=kb/\(kb<B2 \/ W3.heap.size<=kb)/\W3.heap.size<=wz.heap.size))
       case atStart=>exact⟨0,mb,rfl,rfl,rfl,HG9,HBX9,HW3,QLh (Upper.refl _ _),QLh ⟨HMB.out.1,HMB.out.2,.inl HB2.out.1,Nat.le_refl _⟩⟩
       case round=>
        clear HG9 HBX9
        obtain⟨m,kb,hm,rfl,rfl,HG,HBX,HWZ,HUP,HKB⟩:=hrel
        obtain⟨wz,hwz⟩:∃wz,wz=wr:=⟨_,rfl⟩
        subst hwz
        have hr16:len rs<=16:=by have:=HRL.out;have:=HD16.out;omega
        by_cases hlt:m<len rs
        ·have b1:(m:Int)<len rs:=by omega
         have b2:¬len rs<=m:=by omega
         obtain⟨rb,ro,ra,rc,hra3,hrb,hrc,hrq⟩:=HRU.out m hlt
         subst hra3
         have hrc2:=HUP.out.cell hrb hrc;have l1:=lt_of_cell hrc2
         obtain⟨row,hrow⟩:∃row,rnth rs m=row:=⟨_,rfl⟩
         have HROW:=QLh hrow
         rw[hrow]at hrc2 hrq
         have HRQ:=QLh hrq;have HRLN:Hid (len row<=100):=QLh (by rw[<-hrow];exact HNM.out.1 m);have HHM:=QLh hm;have HHL:=QLh hlt
         obtain⟨u,hu⟩:∃u,usedR rs m=u:=⟨_,rfl⟩
         have HUU:Hid (usedR rs m=u):=QLh hu;have HUT:Hid (u+len row<=len ds):=QLh (by
          have h1:=usedR_next rs m hlt;have h2:=usedR_le rs (m+1)
          rw[hrow,hu]at h1
          rw[HEQ.out,<-HNN.out]
          omega)
         obtain⟨GT,hGT⟩:∃GT,rootT (g0F lv es) rs ds m=GT:=⟨_,rfl⟩
         have HGT:=QLh hGT
         rw[hGT]at HG
         rw[hu]at HBX
         have HG0:Hid (LvAt kb (addF GT (row.take 0) (ds.drop u)) wz):=QLh (by rw[List.take_zero];exact HG.out);have HBX0:Hid (∃a' c',wz.heap[pb]?=some (.cells #[.slice a' (len (ds.drop (u+0))) c'] 36 (0,0))/\len (ds.drop (u+0))<=c'/\∀w9,Txts w9 da ds->Txts w9 a' (ds.drop (u+0))):=HBX
         obtain⟨GK,hGK⟩:∃G,G=gk:=⟨_,rfl⟩
         subst hGK
         clear hrc hrq hrow hu hGT HG HBX hm hlt hr16
         go_upto_region 31 with fail
         clear hrc2 l1 b1 b2
         go_loopg [99] (len row) (λ g j wy=>∃q:Nat,g+q=len row/\j=.int .i64 q/\Hid (LvAt kb (addF GT (row.take q) (ds.drop u)) wy)/\Hid (∃a' c',wy.heap[pb]?=some (.cells #[.slice a' (len (ds.drop (u+q))) c'] 36 (0,0))/\len (ds.drop (u+q))<=c'/\∀w9,Txts w9 da ds->Txts w9 a' (ds.drop (u+q)))/\Hid (Below w.heap.size w wy)/\Hid (Upper B2 W3 wy)/\Hid (W3.heap.size<=wy.heap.size))
         case atStart=>exact⟨0,rfl,rfl,HG0,HBX0,HWZ,HUP,QLh HKB.out.2.2.2⟩
         case round=>
          clear HG0 HBX0 HWZ HUP
          obtain⟨q,hq,rfl,HG,HBX,HWZ,HUP,HSZ⟩:=hrel
          obtain⟨wy,hwy⟩:∃wy,wy=wr:=⟨_,rfl⟩
          subst hwy
          have hr100:=HRLN.out
          by_cases hlq:q<len row
          ·have b1:(q:Int)<len row:=by omega
           have b2:¬len row<=q:=by omega
           obtain⟨ub,uo,hua,hub,huc⟩:=HRQ.out q hlq
           subst hua
           have huc2:=HUP.out.cell hub huc;have l2:=lt_of_cell huc2
           obtain⟨t,ht⟩:∃t,nth row q=t:=⟨_,rfl⟩
           rw[ht]at huc2
           have HTU:Hid (U64 t):=QLh (by
            have h1:t ∈ rnth rs m:=by rw[HROW.out,<-ht];exact mem_nth hlq
            rw[<-HRS.out,<-HLV.out]at h1
            exact row_u64 HD16.out (by rw[<-HRL.out];exact HHL.out) h1)
           obtain⟨a9,c9,hbx,hc9,hta⟩:=HBX.out
           have HTN:Hid (addF GT (row.take (q+1)) (ds.drop u)=putF (addF GT (row.take q) (ds.drop u)) t (tth ds (u+q))):=QLh (by rw[addF_take _ _ _ q hlq,ht,tth_drop]);have hdl:len (ds.drop (u+q))=len ds - (u+q):=by rw[len_eq,List.length_drop];rfl
           have hut:=HUT.out;have HNX:=QLh (nextd_any pb a9 c9 (ds.drop (u+q)) wy hbx (hta _ (HDS.out.below HWZ.out)) (by omega) hc9);have HDD:Hid ((tth ds (u+q)).size<=1000):=QLh (by
            have h1:=of_decide_eq_false HBADF.out;have h2:u+q<ds.length:=by have:len ds=ds.length:=rfl;omega
            apply Classical.byContradiction
            intro h3
            exact h1 ⟨ds[u+q],List.getElem_mem h2,λ h4=>h3 (by rw[tth_eq ds (u+q) h2,h4];omega)⟩)
           have HC9:Hid (len (ds.drop (u+q)) - 1<=c9):=QLh (by omega);have HBQ:=QLh hbx;have HDL1:Hid (len (ds.drop (u+(q+1)))=len (ds.drop (u+q)) - 1):=QLh (by rw[len_eq,List.length_drop,hdl];have:len ds=ds.length:=rfl;omega)
           obtain⟨⟨L,hL,hmf⟩,hsm⟩:=HG.out
           have HLW:=QLh hL;have HMF:=QLh hmf;have HSM:=QLh hsm
           obtain⟨D,hD⟩:∃D,tth ds (u+q)=D:=⟨_,rfl⟩
           have HT0:Hid (tth (ds.drop (u+q)) 0=D):=QLh (by rw[tth_drop,Nat.add_zero,hD])
           rw[hD]at HDD HTN
           clear hbx hc9 hut hdl hL hmf hsm hD huc ht
           go_wp2_with fail
           refine HNX.out.mono ?_
           rintro e w2 ⟨a',c',rfl,hw2,hc',hta'⟩
           rw[HT0.out]
           have HCC:=QLh hc';have HTA:=QLh hta';have HKP:Hid (pb≠kb):=QLh (by have:=HKB.out.1;omega);have HL2:Hid (w2.heap[kb]?=some (mObj .u64 0 L)):=QLh (by rw[hw2];exact(Below.heap_setCell _ _ _ _ (show kb≠pb by have:=HKP.out;omega)).trans HLW.out);have HP2:Hid (w2.heap[pb]?=some (.cells #[.slice a' (len (ds.drop (u+q)) - 1) c'] 36 (0,0))):=QLh (by rw[hw2];exact block_setCell HBQ.out _);have HW2:Hid (Below w.heap.size w w2):=QLh (by rw[hw2];exact bset HWZ.out HPB.out _);have HU2:Hid (Upper B2 W3 w2):=QLh (by rw[hw2];exact HUP.out.set HB2.out.2 _ _);have HS2:Hid (W3.heap.size<=w2.heap.size):=QLh (by rw[hw2];have:=HSZ.out;simp[World.setCell];exact this);clear hw2 hc' hta' HLW HBQ HBX HWZ HUP HSZ HNX huc2 l2 b2
           go_upto_region 34 with(at_mapUpdate;refine wpList_mapUpdate_m rfl _ _ _ 200 23 9 .u64 rfl Tryz.underlying200 Tryz.underlying23 kb 0 _ rfl HL2.out t (.string D) rfl rfl ?_)
           obtain⟨U,hU⟩:∃U,setBlock w2 kb (mObj .u64 0 (mPut L t (.string D)))=U:=⟨_,rfl⟩
           have HG6:Hid (LvAt kb (addF GT (row.take (q+1)) (ds.drop u)) U):=QLh (by rw[HTN.out,<-hU];exact LvAt.put HL2.out HMF.out HSM.out HTU.out HDD.out);have HBX6:Hid (∃a' c',U.heap[pb]?=some (.cells #[.slice a' (len (ds.drop (u+(q+1)))) c'] 36 (0,0))/\len (ds.drop (u+(q+1)))<=c'/\∀w9,Txts w9 da ds->Txts w9 a' (ds.drop (u+(q+1)))):=QLh (by
            rw[HDL1.out,<-hU]
            refine⟨a',c',(setBlock_other HKP.out).trans HP2.out,HCC.out,λ w9 h9=>?_⟩
            have h8:=HTA.out w9 (hta w9 h9)
            rw[List.drop_drop]at h8
            exact h8)
           have HW6:Hid (Below w.heap.size w U):=QLh (by rw[<-hU];exact setBlock_below HW2.out HKB.out.2.1);have HU6:Hid (Upper B2 W3 U):=QLh (by rw[<-hU];exact HU2.out.map HKB.out.2.2.1 _);have HS6:Hid (W3.heap.size<=U.heap.size):=QLh (by rw[<-hU,setBlock_size];exact HS2.out)
           rw[hU]
           clear hU HL2 HP2 HW2 HU2 HS2
           go_wp2
           go_roundg (len row - (q+1))
           case rel=>exact⟨q+1,by omega,by go_num,HG6,HBX6,HW6,HU6,HS6⟩
           case measure=>omega
          ·obtain rfl:q=len row:=by omega
           have b1:¬((len row:Nat):Int)<len row:=by omega
           have HOV:=QLh (kover_any kb 0 _ wy HG.out.at_ HG.out.small);have hm:=HHM.out;have hlt:=HHL.out;have hr16:len rs<=16:=by have:=HRL.out;have:=HD16.out;omega
           have HRT:Hid (rootT (g0F lv es) rs ds (m+1)=overF (addF GT (row.take (len row)) (ds.drop u))):=QLh (by rw[rootT_next _ _ _ m hlt,HGT.out,HROW.out,HUU.out,take_len]);have HUN:Hid (usedR rs (m+1)=u+len row):=QLh (by rw[usedR_next rs m hlt,HUU.out,HROW.out]);have HPLT:Hid (pb<wy.heap.size):=QLh (by obtain⟨a9,c9,hbx,_⟩:=HBX.out;exact lt_of_block hbx)
           go_wp2_with fail
           refine HOV.out.mono ?_
           rintro e w2 ⟨b9,rfl,hk9,hb9,hbel⟩
           have HG6:Hid (LvAt b9 (rootT (g0F lv es) rs ds (m+1)) w2):=QLh (by rw[HRT.out];exact⟨hk9,SmF.over _⟩);have HBX6:Hid (∃a' c',w2.heap[pb]?=some (.cells #[.slice a' (len (ds.drop (usedR rs (m+1)))) c'] 36 (0,0))/\len (ds.drop (usedR rs (m+1)))<=c'/\∀w9,Txts w9 da ds->Txts w9 a' (ds.drop (usedR rs (m+1)))):=QLh (by
            rw[HUN.out]
            obtain⟨a9,c9,hbx,h2,h3⟩:=HBX.out
            exact⟨a9,c9,(hbel.block _ (lt_of_block hbx)).trans hbx,h2,h3⟩)
           have HW6:Hid (Below w.heap.size w w2):=QLh (bnext HWZ.out hbel);have HUP6:Hid (Upper B2 W3 w2):=QLh (HUP.out.bel HSZ.out hbel);have HKB6:Hid (pb<b9/\w.heap.size<=b9/\(b9<B2 \/ W3.heap.size<=b9)/\W3.heap.size<=w2.heap.size):=QLh (by
            have h1:=HPLT.out;have h2:=HSZ.out;have h3:=hbel.size;have h4:=HWZ.out.size
            exact⟨by omega,by omega,.inr (by omega),by omega⟩)
           clear hk9 hb9 hbel
           go_wp2
           go_roundg (len rs - (m+1))
           case rel=>exact⟨m+1,b9,by omega,by go_num,rfl,HG6,HBX6,HW6,HUP6,HKB6⟩
           case measure=>omega
        ·obtain rfl:m=len rs:=by omega
         have b1:¬((len rs:Nat):Int)<len rs:=by omega
         obtain⟨⟨L,hL,hmf⟩,_⟩:=HG.out
         have HLL:=QLh hL;have HLK:Hid ((mGet L 0).getD (.string ⟨#[]⟩)=.string (rootS (nn:Nat) ps es ds)):=QLh (by
          have h1:=hmf.look 0
          rw[HE.out.2]
          unfold rootT at h1
          rw[take_len]at h1
          exact h1)
         clear hL hmf
         go_wp2_with (at_lookup;refine wpList_lookup_m rfl _ _ 200 23 9 .u64 rfl Tryz.underlying200 Tryz.underlying23 (.string ⟨#[]⟩) (Tryz.zeroValue9 _) kb 0 _ rfl HLL.out 0 rfl ?_;rw[HLK.out])
         go_ret2
         exact⟨by rw[HE.out.1];rfl,HWZ.out⟩
end
structure Plc where
 K:Int
 d:ByteArray
abbrev Plc.val(r:Plc):Value:=.agg #[.int .u64 r.K,.string r.d]
def Plc.cells(r:Plc):List Value:=[.int .u64 r.K,.string r.d]
theorem Plc.cells_len(r:Plc):r.cells.length=2:=rfl
def Plc.zero:Plc:=⟨0,ByteArray.empty⟩
def plth(l:List Plc)(i:Nat):Plc:=l.getD i Plc.zero
theorem plth_eq(l:List Plc)(i:Nat)(h:i<l.length):plth l i=l[i]:=by unfold plth;rw[List.getD_eq_getElem?_getD,List.getElem?_eq_getElem h];rfl
structure PlcAt(w:World)(b o:Nat)(r:Plc):Prop where
 c0:w.cell? ⟨b,o,none⟩=some (.int .u64 r.K)
 c1:w.cell? ⟨b,o+1,none⟩=some (.string r.d)
theorem PlcAt.below{w w':World}{b o:Nat}{r:Plc}(h:PlcAt w b o r)(hb:Below w.heap.size w w'):PlcAt w' b o r:=by
 have hl:=lt_of_cell h.c0;have e:∀q,w'.cell? ⟨b,q,none⟩=w.cell? ⟨b,q,none⟩:=λ q=>hb.cell (p:=⟨b,q,none⟩) hl
 obtain⟨c0,c1⟩:=h
 constructor <;> (rw[e];assumption)
def Plcs(w:World)(a:Option Addr)(l:List Plc):Prop:=∀i,i<len l->∃b off,a=some ⟨b,off,none⟩/\PlcAt w b (off+i * 2) (plth l i)
theorem Plcs.nil(w:World)(a:Option Addr):Plcs w a []:=λ i hi=>absurd hi (by simp[len])
theorem Plcs.below{w w':World}{a:Option Addr}{l:List Plc}(h:Plcs w a l)(hb:Below w.heap.size w w'):Plcs w' a l:=λ i hi=>by
 obtain⟨b,off,rfl,hc⟩:=h i hi
 exact⟨b,off,rfl,hc.below hb⟩
theorem Plcs.own{w:World}{base e n:Nat}{v:Value}{l:List Plc}(h:w.ownsRow base e 2 v n (l.flatMap Plc.cells)):∃a cap,v=.slice a (len l) cap/\Plcs w a l/\len l<=cap:=by
 have hn:len l=n:=by have:=h.1;rw[flat_length Plc.cells 2 Plc.cells_len]at this;rw[len_eq];omega
 obtain⟨h1,h2⟩:=h
 rcases h2 with⟨rfl,h2⟩ | ⟨g,cap,cur,rfl,hg,hh,hc1,hc2,hc3,hc4⟩
 ·obtain rfl:l=[]:=List.eq_nil_of_length_eq_zero (by rw[<-len_eq];omega)
  exact⟨none,0,rfl,Plcs.nil _ _,Nat.le_refl _⟩
 ·refine⟨some ⟨g,0,none⟩,cap,by rw[hn],λ i hi=>⟨g,0,rfl,?_⟩,by omega⟩
  have hown:w.ownsRow base e 2 (.slice (some ⟨g,0,none⟩) n cap) n (l.flatMap Plc.cells):=⟨h1,.inr ⟨g,cap,cur,rfl,hg,hh,hc1,hc2,hc3,hc4⟩⟩;have key:∀r,r<2->w.cell? ⟨g,0+i * 2+r,none⟩=(plth l i).cells[r]?:=λ r hr=>by
   have:=hown.cellAt (i * 2+r) (by rw[<-hn];omega)
   rw[Nat.zero_add,this,flat_get Plc.cells 2 Plc.cells_len l i r hi hr,plth_eq l i hi]
  exact⟨key 0 (by decide),key 1 (by decide)⟩
theorem info_plc:(Tryz.prog.info? 279).map (λ i=>(i.zero,i.size,i.bytes))=some (some Plc.zero.val,2,24):=by kernel_rfl
def fndF(l:List Plc):KnF:=λ k=>(l.find? (λ x=>x.K == k)).map (·.d)
theorem fndF_cons(x:Plc)(l:List Plc)(k:Int):fndF (x :: l) k=if x.K=k then some x.d else fndF l k:=by
 unfold fndF
 rw[List.find?_cons]
 by_cases h:x.K=k
 ·simp[h]
 ·have:(x.K == k)=false:=by simpa using h
  simp[this,h]
theorem fndF_none:∀(l:List Plc) (k:Int),(∀j,j<len l->(plth l j).K≠k)->fndF l k=none
 | [],k,_=>rfl
 | x :: l,k,h=>by
  rw[fndF_cons,if_neg (show ¬x.K=k from h 0 (show 0<(x :: l).length by simp))]
  exact fndF_none l k (λ j hj=>h (j+1) (show j+1<(x :: l).length by simp;exact hj))
theorem fndF_at:∀(l:List Plc) (k:Int) (m:Nat),m<len l->(∀j,j<m->(plth l j).K≠k)->(plth l m).K=k->fndF l k=some (plth l m).d
 | x :: l,k,0,_,_,h=>by rw[fndF_cons];exact if_pos h
 | x :: l,k,m+1,hm,hn,h=>by
  rw[fndF_cons,if_neg (show ¬x.K=k from hn 0 (Nat.succ_pos _))]
  exact fndF_at l k m (Nat.lt_of_succ_lt_succ hm) (λ j hj=>hn (j+1) (Nat.succ_lt_succ hj)) h
theorem fndF_snoc:∀(l:List Plc) (x:Plc),fndF l x.K=none->fndF (l++[x])=putF (fndF l) x.K x.d
 | [],x,_=>by
  funext k
  show fndF [x] k=_
  rw[fndF_cons]
  unfold putF
  by_cases h:x.K=k
  ·rw[if_pos h,if_pos h.symm]
  ·rw[if_neg h,if_neg (λ e=>h e.symm)]
 | y :: l,x,h=>by
  rw[fndF_cons]at h
  by_cases e:y.K=x.K
  ·rw[if_pos e]at h;cases h
  ·rw[if_neg e]at h
   have ih:=fndF_snoc l x h
   funext k
   show fndF (y :: (l++[x])) k=_
   rw[fndF_cons,ih]
   by_cases e2:y.K=k
   ·rw[if_pos e2,putF_other _ _ (λ e3=>e (e2.trans e3)),fndF_cons,if_pos e2]
   ·rw[if_neg e2]
    by_cases e3:k=x.K
    ·subst e3;rw[putF_same,putF_same]
    ·rw[putF_other _ _ e3,putF_other _ _ e3,fndF_cons,if_neg e2]
theorem find_any(l:List Plc)(k:Int)(a:Option Addr)(cap:Nat)(w:World)(h:Plcs w a l)(hn:len l<=1000000):
  Calls Tryz.prog 243 #[.slice a (len l) cap,.int .u64 k] w λ e w'=>e=.returned (.string (kidF (fndF l) k))/\Below w.heap.size w w':=by
 have H:=QLh h;have HN:=QLh hn;clear h hn
 go_enter Tryz.func243,Tryz.ntmps243
 go_wp2
 go_loopg [5] (len l) (λ g i wr=>∃m:Nat,g+m=len l/\i=.int .i64 m/\Hid (∀j,j<m->(plth l j).K≠k)/\Hid (Below w.heap.size w wr))
 case atStart=>exact⟨0,rfl,rfl,QLh (λ j hj=>by omega),QLh (Below.refl _ _)⟩
 case round=>
  obtain⟨m,hm,rfl,HE,HW⟩:=hrel
  have hnn:=HN.out
  by_cases hlt:m<len l
  ·have b0:(m:Int)<len l:=by omega
   have b2:¬len l<=m:=by omega
   obtain⟨b,off,rfl,hc⟩:=(H.out.below HW.out) m hlt
   have c0:=hc.c0;have c1:=hc.c1;have l1:=lt_of_cell c0;have HLT:=QLh hlt
   obtain⟨x,hx⟩:∃x,plth l m=x:=⟨_,rfl⟩
   have HX:=QLh hx
   rw[hx]at c0 c1
   clear hx hc
   by_cases e:x.K=k
   ·have HEQ:=QLh e
    have d0:(x.K == k)=true:=by simpa using e
    clear e
    go_wp2
    go_ret
    refine⟨?_,HW.out⟩
    have h1:=fndF_at l k m HLT.out HE.out (by rw[HX.out];exact HEQ.out)
    unfold kidF
    rw[h1,HX.out]
    rfl
   ·have HNE:=QLh e
    have d0:(x.K == k)=false:=by simpa using e
    clear e
    go_wp2
    go_roundg (len l - (m+1))
    case rel=>exact⟨m+1,by omega,by go_num,QLh (λ j hj=>by
     by_cases e:j=m
     ·subst e;rw[HX.out];exact HNE.out
     ·exact HE.out j (by omega)),HW⟩
    case measure=>omega
  ·obtain rfl:m=len l:=by omega
   have b0:¬((len l:Nat):Int)<len l:=by omega
   go_wp2
   go_ret
   refine⟨?_,HW.out⟩
   have h1:=fndF_none l k HE.out
   unfold kidF
   rw[h1]
   rfl
theorem rturned_any(x:W32)(n:Nat)(w:World)(h1:1<=n)(h2:n<=31):Calls Tryz.prog 257 #[.int .u32 (wI x),.int .i64 (n:Nat)] w λ e w'=>e=.returned (.int .u32 (wI (rotr x n)))/\Drew w w':=by
 have s1:=bv_shrm x n;have s2:=bv_shlm x (32 - n);have s3:bits .or .u32 (wI (x >>> n)) (wI (x <<< (32 - n)))=wI (rotr x n):=by rw[bv_or];rfl
 have m1:min n 32=n:=by omega
 have m2:min (32 - n) 32=32 - n:=by omega
 have a1:¬((n:Nat):Int)<0:=by omega
 have a2:¬(32:Int) - ((n:Nat):Int)<0:=by omega
 have a3:IntKind.i64.wrap (32 - ((n:Nat):Int))=32 - ((n:Nat):Int):=IntWalk.i64_in _ (by omega);have a4:((32:Int) - ((n:Nat):Int)).toNat=32 - n:=by omega
 go_enter Tryz.func257,Tryz.ntmps257
 go_wp2
 go_quiet (fail)
 go_wp2
 go_ret
 exact⟨rfl,_,rfl⟩
theorem app_data(a b:ByteArray):(a++b).data.toList=a.data.toList++b.data.toList:=by rw[ByteArray.data_append,Array.toList_append]
theorem data_size(a:ByteArray):a.data.toList.length=a.size:=by rw[Array.length_toList];rfl
theorem ba_eq{a:ByteArray}{L:List UInt8}(h:a.data.toList=L):a=⟨L.toArray⟩:=by
 refine ByteArray.ext (Array.ext' ?_)
 rw[h]
def padS(s:ByteArray):ByteArray:=⟨(padW s.data.toList).toArray⟩
theorem rpadded_any(s:ByteArray)(w:World)(hs:s.size<=1152921504606846976):Calls Tryz.prog 187 #[.string s] w λ e w'=>e=.returned (.string (padS s))/\Below w.heap.size w w':=by
 obtain⟨n,hn⟩:∃n,s.size=n:=⟨_,rfl⟩
 have HN:=QLh hn
 rw[hn]at hs
 have HS:=QLh hs;have HL:Hid (s.data.toList.length=n):=QLh (by rw[data_size,hn]);have u1:IntKind.u64.wrap ((n:Nat):Int)=(n:Int):=IntWalk.u64_in _ (by omega);have u2:IntKind.u64.wrap (8 * ((n:Nat):Int))=8 * (n:Int):=IntWalk.u64_in _ (by omega);have hn2:((s.size:Nat):Int)=(n:Int):=by omega
 have q0:s.size+1<=9223372036854775807:=by omega
 clear hs
 go_enter Tryz.func187,Tryz.ntmps187
 go_upto_region 3 with fail
 obtain⟨N,hN⟩:∃N:Nat,8 * n=N:=⟨_,rfl⟩
 have HN8:=QLh hN
 rw[show 8 * ((n:Nat):Int)=((N:Nat):Int)by omega]
 obtain⟨X0,hX0⟩:∃X0,s++(⟨#[128]⟩:ByteArray)=X0:=⟨_,rfl⟩
 rw[hX0]
 have HX0:Hid (X0.data.toList=s.data.toList++[128]++List.replicate 0 0):=QLh (by rw[<-hX0,app_data];simp);clear hX0 hN u1 u2 hn2 hn q0
 go_loopg [0] (zerosW n) (λ g x wr=>∃(m:Nat) (X:ByteArray),g+m=zerosW n/\x=.string X/\Hid (X.data.toList=s.data.toList++[128]++List.replicate m 0)/\Hid (Below w.heap.size w wr))
 case atStart=>exact⟨0,X0,rfl,rfl,HX0,QLh (Below.refl _ _)⟩
 case round=>
  clear HX0
  obtain⟨m,X,hm,rfl,HX,HW⟩:=hrel
  have hz:=zerosW_le n;have HSZ:Hid (X.size=n+1+m):=QLh (by
   have h1:=congrArg List.length HX.out
   rw[data_size]at h1
   simp only[List.length_append,List.length_replicate,List.length_singleton]at h1
   have:=HL.out
   omega)
  by_cases hlt:m<zerosW n
  ·have q1:¬((X.size:Nat):Int) % 64=56:=by have:=zerosW_not n m hlt;have:=HSZ.out;omega
   have q2:X.size+1<=9223372036854775807:=by have:=HSZ.out;have:=HS.out;omega
   have HX2:Hid ((X++(⟨#[0]⟩:ByteArray)).data.toList=s.data.toList++[128]++List.replicate (m+1) 0):=QLh (by
    rw[app_data,HX.out,List.replicate_succ',List.append_assoc (s.data.toList++[128])])
   go_wp2
   go_roundg (zerosW n - (m+1))
   case rel=>exact⟨m+1,_,by omega,rfl,HX2,HW⟩
   case measure=>omega
  ·obtain rfl:m=zerosW n:=by omega
   have q1:((X.size:Nat):Int) % 64=56:=by have:=zerosW_end n;have:=HSZ.out;omega
   clear hz hlt hm
   go_upto_region 6 with fail
   have HX0:Hid (X.data.toList=(s.data.toList++[128]++List.replicate (zerosW n) 0)++(num8 N).take 0):=QLh (by rw[List.take_zero,List.append_nil];exact HX.out)
   go_loopg [4,0] 8 (λ g i x wr=>∃(m:Nat) (X:ByteArray),g+m=8/\i=.int .i64 (56 - 8 * (m:Int))/\x=.string X/\Hid (X.data.toList=(s.data.toList++[128]++List.replicate (zerosW n) 0)++(num8 N).take m)/\Hid (Below w.heap.size w wr))
   case atStart=>exact⟨0,X,rfl,rfl,rfl,HX0,HW⟩
   case round=>
    clear HX HX0 HW HSZ q1
    obtain⟨m,X,hm,rfl,rfl,HX,HW⟩:=hrel
    by_cases hlt:m<8
    ·obtain⟨e,he⟩:∃e:Nat,56 - 8 * m=e:=⟨_,rfl⟩
     rw[show(56:Int) - 8 * (m:Int)=((e:Nat):Int)by omega]
     have a1:(0:Int)<=((e:Nat):Int):=by omega
     have a2:¬((e:Nat):Int)<0:=by omega
     have a3:min e 64=e:=by omega
     have a4:IntKind.i64.wrap (((e:Nat):Int) - 8)=((e:Nat):Int) - 8:=IntWalk.i64_in _ (by omega);have HB9:Hid (Value.int .u8 ((N:Int) / 2 ^ e % 256)=byV ((num8 N).getD m 0)):=QLh (by
      have:=num8_byte N m hlt
      rw[show 8 * (7 - m)=e by omega]at this
      exact this)
     obtain⟨b9,hb9⟩:∃b9,(num8 N).getD m 0=b9:=⟨_,rfl⟩
     rw[hb9]at HB9
     have cv:(convert 41 9 (.slice (some ⟨wr.heap.size,0,none⟩) 1 1)).run Tryz.prog (wr.alloc (.cells #[.int .u8 ((N:Int) / 2 ^ e % 256)] 5))=.ok (.string ⟨#[b9]⟩) (wr.alloc (.cells #[.int .u8 ((N:Int) / 2 ^ e % 256)] 5)):=by
      rw[HB9.out]
      exact conv_new wr 5 1 1 [b9] rfl
     have HX2:Hid ((X++(⟨#[b9]⟩:ByteArray)).data.toList=(s.data.toList++[128]++List.replicate (zerosW n) 0)++(num8 N).take (m+1)):=QLh (by
      have h8:m<(num8 N).length:=by rw[num8_len];exact hlt
      rw[app_data,HX.out,List.take_succ_eq_append_getElem h8,List.append_assoc]
      congr 2
      rw[<-hb9,List.getD_eq_getElem?_getD,List.getElem?_eq_getElem h8]
      rfl)
     have q2:X.size+1<=9223372036854775807:=by
      have h1:=congrArg List.length HX.out
      rw[data_size]at h1
      simp only[List.length_append,List.length_replicate,List.length_singleton,List.length_take]at h1
      have:=HL.out;have:=HS.out;have:=zerosW_le n
      omega
     have HE:=QLh he;clear he hb9
     go_wp2
     go_roundg (8 - (m+1))
     case rel=>exact⟨m+1,_,by omega,by have:=HE.out;congr 1;omega,rfl,HX2,by(repeat (first | exact Below.refl _ _ | assumption | (refine bdrew ?_) | (refine bdrewN ?_ _) | (refine balloc ?_ _) | (refine bset ?_ (by first | omega | (simp;done) | (simp;omega)) _) | (refine bnext ?_ (by assumption))))⟩
     case measure=>omega
    ·obtain rfl:m=8:=by omega
     have a1:¬(0:Int)<=56 - 8 * ((8:Nat):Int):=by decide
     have HF:Hid (X=padS s):=QLh (ba_eq (by
      rw[HX.out,padW_parts,HL.out,HN8.out,Nat.mod_eq_of_lt (by have:=HN8.out;have:=HS.out;omega),List.take_of_length_le (by rw[num8_len];exact Nat.le_refl _)]))
     go_wp2
     go_ret
     exact⟨by rw[HF.out];rfl,HW.out⟩
theorem still_of_quiet{P:Program}{ops:Array Oper}{w:World}{Q:Act->Prop}:∀(l:List Oper) (a:Act),wpQuiet P ops (λ u=>u=w) Q l a->wpStill P ops w Q l a
 | [],_,h=>h
 | o :: rest,a,h=>by
  unfold wpQuiet at h
  unfold wpStill
  by_cases hw:Region.wanted o (yielded ops a.tmps)=true
  ·rw[if_pos hw]at h ⊢
   obtain⟨v,h1,h2⟩:=h
   have h3:=h1 w rfl;have h4:=still_of_quiet rest _ h2
   unfold Oper.quietAt at h3
   unfold Oper.still
   generalize (execOp a.eval o).run P w=r at h3 ⊢
   cases r with
   | ok n w'=>
    cases n <;> simp only[Oper.quietUpon]at h3 <;> simp only[Oper.stillUpon]
    case value u=>exact⟨h3.1,by rw[h3.2];exact h4⟩
    case skip=>exact⟨h3.1,by rw[<-h3.2];exact h4⟩
    case enter f args=>exact⟨h3.1,v,h3.2,h4⟩
   | halt x w'=>simp only[Oper.quietUpon]at h3
  ·rw[if_neg hw]at h ⊢
   exact still_of_quiet rest _ h
theorem wp_region_qt{P:Program}{id:Nat}{Q:Exit->Act->World->Prop}{a:Act}{w:World}{l:List Oper}(n:Nat)(hm:P.follows .mixedOrders=true)(hB:Region.lexTailB .any l.toArray n=true)
  (h:∀w',ExtB none w.drew w'->wpQuiet P l.toArray (λ u=>u=w') (λ a'=>wpList P l.toArray Q (l.drop n) a' w') (l.take n) a):(Code.region id l.toArray true).wp P Q a w:=
 wp_region_still_tail n hm hB (still_of_quiet _ _ (h _ (ExtB_refl _ _)))
theorem wp_region_qa{P:Program}{id:Nat}{Q:Exit->Act->World->Prop}{a:Act}{w:World}{l:List Oper}(hm:P.follows .mixedOrders=true)(hB:Region.lexB .any l.toArray=true)
  (h:∀w',ExtB none w.drew w'->wpQuiet P l.toArray (λ u=>u=w') (λ a'=>Q .normal a' w') l a):(Code.region id l.toArray true).wp P Q a w:=
 wp_region_still_lit hm hB (still_of_quiet _ _ (h _ (ExtB_refl _ _)))
end Go.Proofs.YtpobhbdomldecaaGreatDoor

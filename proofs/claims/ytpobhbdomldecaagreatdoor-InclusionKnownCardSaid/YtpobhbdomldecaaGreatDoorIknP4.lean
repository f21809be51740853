/- Parts of the proof, one behind the other. -/
import Derived.Test.YtpobhbdomldecaaGreatDoorIknP3
import Derived.Laws.EntriesVeiled
import Derived.BigQuiet
import Derived.Laws.AppendOwnNone
import Derived.Carry
import Derived.Lib.Strings
import Derived.Great.Walk
import Derived.Laws.AppendOwn
import Derived.Laws.MakeOwn
import Derived.Maps.AppendAt
import Derived.ArgAppend
import Derived.ProofKit
import Derived.OpenShut
import Derived.ShutString
import Derived.ChangeOld
import Derived.Deep.Slices
import Derived.Deep.Fields
import Derived.ChangeMaps5
import Derived.WideShapes
import Derived.StillTailTactics
import Derived.Defers
import Derived.Recover
namespace Go.Proofs.YtpobhbdomldecaaGreatDoor
open Go.RowKit
set_option linter.unusedSimpArgs false
set_option linter.unusedVariables false
theorem bld_size:(Tryz.prog.info? 172).map (·.size)=some 2:=by kernel_rfl
theorem bld_lies:liesAt Tryz.prog Tryz.prog.depth 172 (2 / Tryz.prog.cellsOf 172) 0 172 1=true:=by kernel_rfl
theorem bld_b8:(Tryz.prog.info? 5).map (λ i=>(i.zero,i.size,i.bytes))=some (some (.int .u8 0),1,1):=by kernel_rfl
set_option maxHeartbeats 1000000 in
set_option maxRecDepth 100000 in
theorem bcheck_used(b:Nat)(w:World)(h0:w.cell? ⟨b,0,none⟩=some (.pointer (some ⟨b,0,none⟩))):
  Calls Tryz.prog 193 #[.pointer (some ⟨b,0,none⟩)] w λ e w'=>e=.returned (.tuple #[])∧w'=w:=by
 obtain⟨j,hj,_⟩:=Option.map_eq_some_iff.1 bld_size
 go_enter Tryz.func193,Tryz.ntmps193
 go_wp2
 rw[Lib.run_neq_ptr_same w _ Tryz.underlying170 hj]
 go_wp2
 go_end0
 exact⟨rfl,rfl⟩
set_option maxHeartbeats 1000000 in
set_option maxRecDepth 100000 in
theorem bcheck_fresh(b:Nat)(w:World)(h0:w.cell? ⟨b,0,none⟩=some (.pointer none))(hsh:w.shape? b=some (172,2))(hfz:w.frozen? ⟨b,0,none⟩=false):
  Calls Tryz.prog 193 #[.pointer (some ⟨b,0,none⟩)] w λ e w'=>e=.returned (.tuple #[])∧w'=w.setCell ⟨b,0,none⟩ (.pointer (some ⟨b,0,none⟩)):=by
 obtain⟨j,hj,hjs⟩:=Option.map_eq_some_iff.1 bld_size
 go_enter Tryz.func193,Tryz.ntmps193
 go_wp2
 rw[Lib.run_to_unsafe w ⟨b,0,none⟩ Tryz.underlying170 Tryz.underlying297 hj (by rw[hjs];decide) hsh (Nat.zero_lt_succ 1)]
 simp only[Result.andThen]
 rw[Oper.upon_value]
 go_wp2
 rw[run_callFunc_extern Tryz.func259 (by kernel_rfl) (by kernel_rfl) (by kernel_rfl) (e:=Extern.AbiNoEscape.same) (by kernel_rfl)]
 rw[Lib.run_noEscape]
 simp only[Result.andThen]
 rw[Oper.upon_value]
 go_wp2
 rw[Lib.run_from_unsafe w ⟨b,0,none⟩ Tryz.underlying297 Tryz.underlying170 hj hsh bld_lies]
 simp only[Result.andThen]
 rw[Oper.upon_value]
 go_wp2
 go_end0
 exact⟨rfl,rfl⟩
theorem bcheck_any(B b:Nat)(bs:List Value)(w:World)(h:Lib.IsBuilder 172 5 B b bs w):
  Calls Tryz.prog 193 #[.pointer (some ⟨b,0,none⟩)] w λ e w'=>e=.returned (.tuple #[])∧(Lib.BuilderAt 172 5 B b (.pointer (some ⟨b,0,none⟩)) bs w'∧Below B w w'):=by
 rcases h with h | h
 ·refine(bcheck_fresh b w h.cell0 h.shape h.frozen0).mono ?_
  rintro e w' ⟨rfl,rfl⟩
  exact⟨rfl,h.used _,(Below.refl B w).setCell (p:=⟨b,0,none⟩) h.1 _⟩
 ·refine(bcheck_used b w h.cell0).mono ?_
  rintro e w' ⟨rfl,rfl⟩
  exact⟨rfl,h,Below.refl B _⟩
set_option maxHeartbeats 2000000 in
set_option maxRecDepth 100000 in
theorem bbyte_any(B b:Nat)(bs:List Value)(c:Int)(w:World)(h:Lib.IsBuilder 172 5 B b bs w)(hlen:bs.length+1≤140737488355328)(hBw:B≤w.heap.size):
  Calls Tryz.prog 155 #[.pointer (some ⟨b,0,none⟩),.int .u8 c] w λ e w'=>e=.returned .nilIface∧(Lib.BuilderAt 172 5 B b (.pointer (some ⟨b,0,none⟩)) (bs++[.int .u8 c]) w'∧Below B w w'):=by
 obtain⟨i0,hi,hz0,hz1,hz2⟩:=info_parts bld_b8
 go_enter Tryz.func155,Tryz.ntmps155
 go_wp2_with fail
 refine(bcheck_any B b bs _ h).mono ?_
 rintro e w1 ⟨rfl,h1,hb1⟩
 obtain⟨hB,v,hbk,hown,hne⟩:=h1
 have c0:w1.cell? ⟨b,0,none⟩=some (.pointer (some ⟨b,0,none⟩)):=by rw[Lib.cell_of_heap hbk];rfl
 have c1:w1.cell? ⟨b,1,none⟩=some v:=by rw[Lib.cell_of_heap hbk];rfl
 go_wp2_with (at_builtin;refine wpList_append_own _ rfl _ _ 41 rfl B 5 i0 (.int .u8 0) 1 1 Tryz.underlying41 hi hz0 hz1 hz2 rfl (by decide) _ _ _ rfl (hown.alloc _) ⟨w1.heap.size,0,none⟩ 1 1 [.int .u8 c] rfl rfl ?c1 ?c2 ?c3 ?c4 ?c5 ?_)
 case c1=>
  intro j u hj
  match j,hj with
  | 0,hj=>simp at hj;subst hj;simp[Addr.add]
 case c2=>intro u hu;simp at hu;subst hu;rfl
 case c3=>unfold maxLen;omega
 case c4=>omega
 case c5=>have:=hb1.size;simp;omega
 intro v' w2 hown' hgrow _
 have hlt:b<w1.heap.size:=lt_of_block hbk;have hb2:w2.heap[b]?=some (.cells #[.pointer (some ⟨b,0,none⟩),v] 172 (0,0)):=by
  rw[hgrow.block b (by simp;omega) (λ e=>hne e.symm),Lib.alloc_old w1 _ b hlt]
  exact hbk
 have d0:w2.cell? ⟨b,0,none⟩=some (.pointer (some ⟨b,0,none⟩)):=by rw[Lib.cell_of_heap hb2];rfl
 have d1:w2.cell? ⟨b,1,none⟩=some v:=by rw[Lib.cell_of_heap hb2];rfl
 have f1:w2.frozen? ⟨b,1,none⟩=false:=Lib.frozen_of_heap hb2 1
 obtain⟨g,cap,rfl⟩:∃g cap,v'=.slice (some ⟨g,0,none⟩) (bs.length+1) cap:=by
  rcases hown'.2 with⟨_,h0⟩ | ⟨g,cap,cur,hv,_⟩
  ·omega
  ·exact⟨g,cap,hv⟩
 go_wp2
 go_ret
 refine⟨rfl,?_,?_⟩
 ·exact Lib.BuilderAt.put (T:=172) (e:=5) hB hb2 (bs':=bs++[.int .u8 c]) (by simpa using hown') (by decide)
 ·exact((hb1.alloc (by have:=hb1.size;omega) _).grown hgrow (by have:=hb1.size;simp;omega) (λ k hk=>(hown.lt k hk).1)).setCell (p:=⟨b,1,none⟩) hB _
set_option maxHeartbeats 2000000 in
set_option maxRecDepth 100000 in
theorem bstr_any(B b:Nat)(bs:List Value)(s:ByteArray)(w:World)(h:Lib.IsBuilder 172 5 B b bs w)(hlen:bs.length+s.size≤140737488355328)(hBw:B≤w.heap.size):
  Calls Tryz.prog 144 #[.pointer (some ⟨b,0,none⟩),.string s] w λ e w'=>e=.returned (.tuple #[.int .i64 s.size,.nilIface])∧(Lib.BuilderAt 172 5 B b (.pointer (some ⟨b,0,none⟩)) (bs++Lib.strCells s) w'∧Below B w w'):=by
 obtain⟨i0,hi,hz0,hz1,hz2⟩:=info_parts bld_b8
 go_enter Tryz.func144,Tryz.ntmps144
 go_wp2_with fail
 refine(bcheck_any B b bs _ h).mono ?_
 rintro e w1 ⟨rfl,h1,hb1⟩
 obtain⟨hB,v,hbk,hown,hne⟩:=h1
 have c0:w1.cell? ⟨b,0,none⟩=some (.pointer (some ⟨b,0,none⟩)):=by rw[Lib.cell_of_heap hbk];rfl
 have c1:w1.cell? ⟨b,1,none⟩=some v:=by rw[Lib.cell_of_heap hbk];rfl
 go_wp2_with (at_builtin;refine Lib.wpList_append_own_string _ rfl _ _ 41 9 rfl B 5 i0 Tryz.underlying41 Tryz.underlying9 hi hz0 hz1 hz2 _ _ _ rfl hown s rfl ?c3 ?c4 ?c5 ?_)
 case c3=>unfold maxLen;omega
 case c4=>omega
 case c5=>have:=hb1.size;omega
 intro v' w2 hown' hgrow _
 have hlt:b<w1.heap.size:=lt_of_block hbk;have hb2:w2.heap[b]?=some (.cells #[.pointer (some ⟨b,0,none⟩),v] 172 (0,0)):=by
  rw[hgrow.block b hlt (λ e=>hne e.symm)]
  exact hbk
 have d0:w2.cell? ⟨b,0,none⟩=some (.pointer (some ⟨b,0,none⟩)):=by rw[Lib.cell_of_heap hb2];rfl
 have d1:w2.cell? ⟨b,1,none⟩=some v:=by rw[Lib.cell_of_heap hb2];rfl
 have f1:w2.frozen? ⟨b,1,none⟩=false:=Lib.frozen_of_heap hb2 1
 obtain⟨ao,n',cap,rfl⟩:∃ao n' cap,v'=.slice ao n' cap:=by
  rcases hown'.2 with⟨hv,_⟩ | ⟨g,cap,cur,hv,_⟩
  ·exact⟨_,_,_,hv⟩
  ·exact⟨_,_,_,hv⟩
 go_wp2
 go_ret2
 refine⟨rfl,?_,?_⟩
 ·exact Lib.BuilderAt.put (T:=172) (e:=5) hB hb2 (bs':=bs++Lib.strCells s) (by simpa [Lib.strCells_length] using hown') (by decide)
 ·exact(hb1.grown hgrow (by have:=hb1.size;omega) (λ k hk=>(hown.lt k hk).1)).setCell (p:=⟨b,1,none⟩) hB _
end Go.Proofs.YtpobhbdomldecaaGreatDoor
namespace Go.Proofs.YtpobhbdomldecaaGreatDoor
open Go.RowKit
set_option linter.unusedSimpArgs false
set_option linter.unusedVariables false
abbrev BlAt(B b:Nat)(L:List UInt8)(w:World):Prop:=Lib.BuilderAt 172 5 B b (.pointer (some ⟨b,0,none⟩)) (Lib.byteCells L) w
theorem bc_app(L M:List UInt8):Lib.byteCells (L++M)=Lib.byteCells L++Lib.byteCells M:=by unfold Lib.byteCells;rw[List.map_append]
theorem bc_len(L:List UInt8):(Lib.byteCells L).length=L.length:=by unfold Lib.byteCells;rw[List.length_map]
def LayIs(B b:Nat)(L:List UInt8)(w:World)(e:Ending)(w':World):Prop:=e=.returned (.tuple #[])∧BlAt B b L w'∧Below B w w'
set_option maxRecDepth 100000 in
set_option maxHeartbeats 4000000 in
theorem lay_part(B b:Nat)(L:List UInt8)(p:ByteArray)(w:World)(h:BlAt B b L w)(hl:L.length+(8+p.size)≤140737488355328)(hB:B≤w.heap.size):
  Calls Tryz.prog 156 #[.string p,.pointer (some ⟨b,0,none⟩)] w (LayIs B b (L++partL p) w):=by
 have H:=Lib.hid h;have HL:=Lib.hid hl;have HB:=Lib.hid hB;clear h hl hB;have i1:IntKind.u64.wrap ((p.size:Nat):Int)=((p.size:Nat):Int):=IntWalk.u64_in _ (by have:=HL.out;omega)
 go_enter Tryz.func156,Tryz.ntmps156
 go_wp2_with fail
 refine(dnum_any p.size w (by have:=HL.out;omega)).mono ?_
 rintro e w1 ⟨rfl,hb1⟩
 have HB1:=Lib.hid hb1;have H1:Hid (BlAt B b L w1):=Lib.hid (by
  obtain⟨h1,v,h2,h3,h4⟩:=H.out
  exact⟨h1,v,(hb1.block _ (lt_of_block h2)).trans h2,own_below h3 hb1,h4⟩)
 clear hb1
 go_wp2_with fail
 refine(bstr_any B b _ (num8S p.size) w1 (Or.inr H1.out) (by rw[bc_len,num8S_size];have:=HL.out;omega) (Nat.le_trans HB.out HB1.out.size)).mono ?_
 rintro e w2 ⟨rfl,h2,hb2⟩
 have H2:Hid (BlAt B b (L++num8 p.size) w2):=Lib.hid (by show Lib.BuilderAt _ _ _ _ _ (Lib.byteCells _) _;rw[bc_app];exact h2);have HB2:Hid (Below B w w2):=Lib.hid ((HB1.out.mono HB.out).trans hb2);have HBS:Hid (B≤w2.heap.size):=Lib.hid (Nat.le_trans HB.out HB2.out.size);clear h2 hb2
 go_wp2_with fail
 refine(bstr_any B b _ p w2 (Or.inr H2.out) (by rw[bc_len,List.length_append,num8_len];have:=HL.out;omega) HBS.out).mono ?_
 rintro e w3 ⟨rfl,h3,hb3⟩
 have H3:Hid (BlAt B b (L++partL p) w3):=Lib.hid (by show Lib.BuilderAt _ _ _ _ _ (Lib.byteCells _) _;unfold partL;rw[←List.append_assoc,bc_app];exact h3);have HB3:Hid (Below B w w3):=Lib.hid (HB2.out.trans hb3);clear h3 hb3
 go_wp2
 go_end0
 exact⟨rfl,H3.out,HB3.out⟩
theorem fullT{t:ByteArray}(h:t.size≠0):t.toList.isEmpty=false:=by
 rw[ByteArray.toList_eq];cases t with | mk d=>simp_all [ByteArray.size]
theorem headL_cells(tag:ByteArray)(h:tag.size≤16):Lib.byteCells (headL tag)=[.int .u8 ((tag.size:Nat):Int)]++Lib.strCells tag:=by
 unfold headL Lib.strCells Lib.byteCells
 rw[List.map_cons]
 congr 1
 rw[UInt8.toNat_ofNat',Nat.mod_eq_of_lt (by omega)]
set_option maxRecDepth 100000 in
set_option maxHeartbeats 4000000 in
theorem frame_any(tag:ByteArray)(parts:List ByteArray)(a:Option Addr)(cap:Nat)(w:World)(h1:1≤tag.size)(h2:tag.size≤16)(hp:Txts w a parts)(hs:(partsL parts).length≤140737488355300):
  Calls Tryz.prog 96 #[.string tag,.slice a (len parts) cap] w λ e w'=>e=.returned (.string (frameS tag parts))∧Below w.heap.size w w':=by
 have HP:=Lib.hid hp;have HS:=Lib.hid hs;have HT2:=Lib.hid h2;have HT1:=Lib.hid h1;have HPL:Hid (len parts≤140737488355300):=Lib.hid (by have:=partsL_ge parts;rw[len_eq];omega);have t1:tag.toList.isEmpty=false:=fullT (by omega);have t2:¬(16:Int)<(tag.size:Int):=by omega
 have t3:IntKind.u8.wrap ((tag.size:Nat):Int)=((tag.size:Nat):Int):=IntWalk.u8_in _ (by omega);clear hp hs h1 h2
 go_enter Tryz.func96,Tryz.ntmps96
 go_upto_region 4 with fail
 obtain⟨b,hb⟩:∃b,w.heap.size=b:=⟨_,rfl⟩
 rw[hb]
 obtain⟨V,hV⟩:∃V,w.alloc (.cells #[.pointer none,.slice none 0 0] 172)=V:=⟨_,rfl⟩
 rw[hV]
 have HBW:Hid (w.heap.size≤b):=Lib.hid (Nat.le_of_eq hb);have HI:Hid (Lib.IsBuilder 172 5 b b [] V):=Lib.hid (Or.inl ⟨Nat.le_refl _,_,by rw[←hV];exact alloc_new_at _ hb,World.ownsRow_nil _ _ _ _,by simp[Value.ownBlock]⟩);have HVW:Hid (Below w.heap.size w V):=Lib.hid (by rw[←hV];exact balloc (Below.refl _ _) _);have HVS:Hid (b≤V.heap.size):=Lib.hid (by rw[←hb];exact HVW.out.size);clear hV hb
 go_wp2_with fail
 refine(bbyte_any b b [] _ V HI.out (by decide) HVS.out).mono ?_
 rintro e w1 ⟨rfl,hb1,hB1⟩
 have H1:=Lib.hid hb1;have HS1:Hid (b≤w1.heap.size):=Lib.hid (Nat.le_trans HVS.out hB1.size);have HW1:Hid (Below w.heap.size w w1):=Lib.hid (HVW.out.trans (hB1.mono HBW.out));clear hb1 hB1 t1 t2 t3
 go_wp2_with fail
 refine(bstr_any b b _ tag w1 (Or.inr H1.out) (by have:=HT2.out;show 1+tag.size≤_;omega) HS1.out).mono ?_
 rintro e w2 ⟨rfl,hb2,hB2⟩
 have H2:Hid (BlAt b b (headL tag++partsL (parts.take 0)) w2):=Lib.hid (by
  show Lib.BuilderAt _ _ _ _ _ (Lib.byteCells _) _
  rw[List.take_zero,show partsL []=[]from rfl,List.append_nil,headL_cells tag HT2.out]
  exact hb2)
 have HS2:Hid (b≤w2.heap.size):=Lib.hid (Nat.le_trans HS1.out hB2.size);have HW2:Hid (Below w.heap.size w w2):=Lib.hid (HW1.out.trans (hB2.mono HBW.out));clear hb2 hB2
 go_wp2
 go_loopg [25,8] (len parts) (λ g i _ wr=>∃m:Nat,g+m=len parts∧i=.int .i64 m∧Hid (BlAt b b (headL tag++partsL (parts.take m)) wr)∧Hid (b≤wr.heap.size)∧Hid (Below w.heap.size w wr))
 case atStart=>exact⟨0,rfl,rfl,H2,HS2,HW2⟩
 case round=>
  clear H2 HS2 HW2
  obtain⟨m,hm,rfl,H2,HS2,HW2⟩:=hrel
  have HPB:=HPL.out
  by_cases hlt:m<len parts
  ·have i1:(m:Int)<(len parts:Nat):=by omega
   obtain⟨pb,po,rfl,hpc⟩:=(HP.out.below HW2.out) m hlt
   obtain⟨x,hx⟩:∃x,tth parts m=x:=⟨_,rfl⟩
   rw[hx]at hpc
   have HX:=Lib.hid hx;clear hx
   go_wp2_with fail
   refine(lay_part b b _ x wr H2.out (by
    have h1:=HS.out;have h2:=partsL_le parts (m+1);have h3:=HT2.out
    rw[partsL_snoc _ _ hlt,List.length_append,HX.out,partL_len]at h2
    rw[List.length_append,headL_len]
    omega) HS2.out).mono ?_
   rintro e w3 ⟨rfl,h3,hb3⟩
   have H3:Hid (BlAt b b (headL tag++partsL (parts.take (m+1))) w3):=Lib.hid (by rw[partsL_snoc _ _ hlt,HX.out,←List.append_assoc];exact h3);have HS3:Hid (b≤w3.heap.size):=Lib.hid (Nat.le_trans HS2.out hb3.size);have HW3:Hid (Below w.heap.size w w3):=Lib.hid (HW2.out.trans (hb3.mono HBW.out));clear h3 hb3 hpc
   go_wp2
   go_roundg (len parts - (m+1))
   case rel=>exact⟨m+1,by omega,by go_num,H3,HS3,HW3⟩
   case measure=>omega
  ·obtain rfl:m=len parts:=by omega
   have i1:¬((len parts:Nat):Int)<(len parts:Nat):=by omega
   have H4:Hid (BlAt b b (framL tag parts) wr):=Lib.hid (by have h:=H2.out;rw[take_len]at h;exact h);clear H2 hm hlt
   go_wp2_with fail
   refine(Tryz.Builder_String_any b b _ wr (Or.inr H4.out) HS2.out).mono ?_
   rintro e w4 ⟨rfl,hB4⟩
   have HW4:Hid (Below w.heap.size w w4):=Lib.hid (HW2.out.trans (hB4.mono HBW.out));clear hB4
   go_wp2
   go_ret
   exact⟨rfl,HW4.out⟩
set_option maxRecDepth 100000 in
set_option maxHeartbeats 4000000 in
theorem hash_any(tag:ByteArray)(parts:List ByteArray)(a:Option Addr)(cap:Nat)(w:World)(h1:1≤tag.size)(h2:tag.size≤16)(hp:Txts w a parts)(hs:(partsL parts).length≤140737488355300):
  Calls Tryz.prog 45 #[.string tag,.slice a (len parts) cap] w λ e w'=>e=.returned (.string (hashP tag parts))∧Below w.heap.size w w':=by
 have HF:=Lib.hid (frame_any tag parts a cap w h1 h2 hp hs);have HS:Hid (1≤(frameS tag parts).size∧(frameS tag parts).size≤140737488355328):=Lib.hid (by rw[frameS_size];omega);clear h1 h2 hp hs
 go_enter Tryz.func45,Tryz.ntmps45
 go_wp2_with fail
 refine HF.out.mono ?_
 rintro e w1 ⟨rfl,hb1⟩
 have HB1:=Lib.hid hb1;have t1:(frameS tag parts).toList.isEmpty=false:=fullT (by have:=HS.out;omega);clear hb1
 go_wp2_with fail
 refine(sha_any (frameS tag parts) w1 (by have:=HS.out;omega)).mono ?_
 rintro e w2 ⟨rfl,hb2⟩
 have HB2:Hid (Below w.heap.size w w2):=Lib.hid (bnext HB1.out hb2);clear hb2
 go_wp2
 go_ret
 exact⟨rfl,HB2.out⟩
end Go.Proofs.YtpobhbdomldecaaGreatDoor
namespace Go.Proofs.YtpobhbdomldecaaGreatDoor
open Go.RowKit
set_option linter.unusedSimpArgs false
set_option linter.unusedVariables false
def NodeAt(b:Nat)(d:ByteArray)(k0 k1:Option Addr)(w:World):Prop:=w.heap[b]?=some (.cells #[.string d,.pointer k0,.pointer k1] 118 (0,0))
theorem NodeAt.below{b:Nat}{d:ByteArray}{k0 k1:Option Addr}{w w':World}(h:NodeAt b d k0 k1 w)(hb:Below w.heap.size w w'):NodeAt b d k0 k1 w':=(hb.block _ (lt_of_block h)).trans h
theorem NodeAt.digest{b:Nat}{d:ByteArray}{k0 k1:Option Addr}{w:World}(h:NodeAt b d k0 k1 w):w.cell? ⟨b,0,none⟩=some (.string d):=by rw[block_cell h];rfl
def LeafIs(d:ByteArray)(w:World)(e:Ending)(w':World):Prop:=∃b,e=.returned (.pointer (some ⟨b,0,none⟩))∧w.heap.size≤b∧NodeAt b d none none w'∧Below w.heap.size w w'
theorem txts_cells{w:World}{g:Nat}{cs:Array Value}{t:TypeId}{fr:Nat × Nat}(h:w.heap[g]?=some (.cells cs t fr))(l:List ByteArray)(hl:∀i,i<len l→cs[i]?=some (.string (tth l i))):Txts w (some ⟨g,0,none⟩) l:=λ i hi=>⟨g,0,rfl,by rw[block_cell h,Nat.zero_add];exact hl i hi⟩
set_option maxRecDepth 100000 in
set_option maxHeartbeats 4000000 in
theorem leaf_node(s:ByteArray)(w:World)(hs:s.size≤140737488355200):Calls Tryz.prog 94 #[.string s] w (LeafIs (hashP leafT [s]) w):=by
 have HS:=Lib.hid hs;clear hs
 go_enter Tryz.func94,Tryz.ntmps94
 go_wp2_with fail
 have hw1:Txts (w.alloc (.cells #[.string s] 9)) (some ⟨w.heap.size,0,none⟩) [s]:=txts_cells (heap_alloc_new _ _) [s] (λ i hi=>by
  have:i=0:=by have:i<1:=hi;omega
  subst this;rfl)
 refine(hash_any leafT [s] (some ⟨w.heap.size,0,none⟩) 1 _ (by decide) (by decide) hw1 (by have:=HS.out;show((partL s)++[]).length≤_;rw[List.append_nil,partL_len];omega)).mono ?_
 rintro e w2 ⟨rfl,hb2⟩
 have HB2:Hid (Below w.heap.size w w2):=Lib.hid (bnext (balloc (Below.refl _ _) _) hb2);clear hb2 hw1
 obtain⟨H,hH⟩:∃H,hashP leafT [s]=H:=⟨_,rfl⟩
 rw[hH]
 go_wp2
 go_ret
 exact⟨w2.heap.size,rfl,HB2.out.size,by rw[hH];exact heap_alloc_new _ _,balloc HB2.out _⟩
def OverIs(d:ByteArray)(b0 b1:Nat)(w:World)(e:Ending)(w':World):Prop:=∃b,e=.returned (.pointer (some ⟨b,0,none⟩))∧w.heap.size≤b∧NodeAt b d (some ⟨b0,0,none⟩) (some ⟨b1,0,none⟩) w'∧Below w.heap.size w w'
set_option maxRecDepth 100000 in
set_option maxHeartbeats 4000000 in
theorem over_any(b0 b1:Nat)(d0 d1:ByteArray)(w:World)(h0:w.cell? ⟨b0,0,none⟩=some (.string d0))(h1:w.cell? ⟨b1,0,none⟩=some (.string d1))(hs:d0.size≤70000000000000∧d1.size≤70000000000000):
  Calls Tryz.prog 92 #[.pointer (some ⟨b0,0,none⟩),.pointer (some ⟨b1,0,none⟩)] w (OverIs (hashP nodeT [d0,d1]) b0 b1 w):=by
 obtain⟨H,hH⟩:∃H,hashP nodeT [d0,d1]=H:=⟨_,rfl⟩
 rw[hH]
 have HH:Hid (∀(g:Nat) (wv:World),wv.heap[g]?=some (.cells #[.string d0,.string d1] 9 (0,0))→Calls Tryz.prog 45 #[.string ⟨#[110,111,100,101]⟩,.slice (some ⟨g,0,none⟩) 2 2] wv λ e w'=>e=.returned (.string H)∧Below wv.heap.size wv w'):=Lib.hid (λ g wv hg=>by
  rw[←hH]
  refine hash_any nodeT [d0,d1] (some ⟨g,0,none⟩) 2 wv (by decide) (by decide) (txts_cells hg [d0,d1] (λ i hi=>by
   have:i=0 ∨ i=1:=by have:i<2:=hi;omega
   rcases this with rfl | rfl <;> rfl)) ?_
  show((partL d0)++((partL d1)++[])).length≤_
  rw[List.append_nil,List.length_append,partL_len,partL_len]
  omega)
 have c0:=h0;have c1:=h1;clear hH h0 h1 hs
 go_enter Tryz.func92,Tryz.ntmps92
 go_upto_region 1 with fail
 refine wp_region_tail 15 1000 (none) (phis [λ u _=>u=(.pointer (some ⟨b0,0,none⟩)),λ u _=>u=(.pointer (some ⟨b0,0,none⟩)),λ u _=>u=(.pointer (some ⟨b0,0,none⟩)),λ u _=>u=(.string d0),λ u _=>u=(.pointer (some ⟨b1,0,none⟩)),λ u _=>u=(.pointer (some ⟨b1,0,none⟩)),λ u _=>u=(.pointer (some ⟨b1,0,none⟩)),λ u _=>u=(.string d1),λ u w'=>∃g,u=.slice (some ⟨g,0,none⟩) 2 2∧w'.heap[g]?=some (.cells #[.string d0,.string d1] 9 (0,0)),λ u _=>u=(.string H),λ u _=>u=(.pointer (some ⟨b0,0,none⟩)),λ u _=>u=(.pointer (some ⟨b1,0,none⟩)),λ u _=>u=(.agg #[.pointer (some ⟨b0,0,none⟩),.pointer (some ⟨b1,0,none⟩)]),λ u _=>u=(.agg #[.string H,.pointer (some ⟨b0,0,none⟩),.pointer (some ⟨b1,0,none⟩)]),λ u w'=>∃g,u=.pointer (some ⟨g,0,none⟩)∧w.heap.size≤g∧NodeAt g H (some ⟨b0,0,none⟩) (some ⟨b1,0,none⟩) w']) rfl (by kernel_rfl) (by kernel_rfl) (mono_of ⟨mono_eq,mono_eq,mono_eq,mono_eq,mono_eq,mono_eq,mono_eq,mono_eq,?m8,mono_eq,mono_eq,mono_eq,mono_eq,mono_eq,?m14,trivial⟩) (steps_of 15 ⟨?s0,?s1,?s2,?s3,?s4,?s5,?s6,?s7,?s8,?s9,?s10,?s11,?s12,?s13,?s14,trivial⟩) ?_
 case m8=>
  exact⟨λ u w1 w' h ⟨b,h1,hb⟩=>⟨b,h1,ext_block h hb⟩,λ _ u w1 w' h ⟨b,h1,hb⟩=>⟨b,h1,extB_block h (by simp) hb⟩⟩
 case m14=>
  exact⟨λ u w1 w' h ⟨b,h1,h2,hb⟩=>⟨b,h1,h2,ext_block h hb⟩,λ _ u w1 w' h ⟨b,h1,h2,hb⟩=>⟨b,h1,h2,extB_block h (by simp) hb⟩⟩
 case s0=>
  refine qV (λ _=>rfl) rfl λ av wv hE hO hD=>?_
  simp[go_sem,qF av 0 (.pointer (some ⟨b0,0,none⟩)) (hO.2.2 0 rfl)]
 case s1=>
  refine qV (λ _=>rfl) rfl λ av wv hE hO hD=>?_
  simp[go_sem,qE (hD.1 rfl _ rfl)]
 case s2=>
  refine qV (λ _=>rfl) rfl λ av wv hE hO hD=>?_
  simp[go_sem,qE (hD.1 rfl _ rfl)]
 case s3=>
  refine qV (λ _=>rfl) rfl λ av wv hE hO hD=>?_
  simp[go_sem,qE (hD.1 rfl _ rfl),extB_cell hE (by simp) c0,extB_cell hE (by simp) c1]
 case s4=>
  refine qV (λ _=>rfl) rfl λ av wv hE hO hD=>?_
  simp[go_sem,qF av 1 (.pointer (some ⟨b1,0,none⟩)) (hO.2.2 1 rfl)]
 case s5=>
  refine qV (λ _=>rfl) rfl λ av wv hE hO hD=>?_
  simp[go_sem,qE (hD.1 rfl _ rfl)]
 case s6=>
  refine qV (λ _=>rfl) rfl λ av wv hE hO hD=>?_
  simp[go_sem,qE (hD.1 rfl _ rfl)]
 case s7=>
  refine qV (λ _=>rfl) rfl λ av wv hE hO hD=>?_
  simp[go_sem,qE (hD.1 rfl _ rfl),extB_cell hE (by simp) c0,extB_cell hE (by simp) c1]
 case s8=>
  refine step_wp (λ av wv hE hS hO hD=>⟨rfl,?_⟩)
  have f8:=qE (hD.1 rfl _ rfl);have f12:=qE (hD.2.1 rfl _ rfl)
  refine wp_of_run (v:=.slice (some ⟨wv.heap.size,0,none⟩) 2 2) (w':=wv.alloc (.cells #[.string d0,.string d1] 9)) (by simp[go_sem,f8,f12]) ⟨_,rfl,es_of_ext (balloc (Ext_refl _) _),wv.heap.size,rfl,heap_alloc_new _ _⟩
 case s9=>
  refine step_wp (λ av wv hE hS hO hD=>⟨rfl,?_⟩)
  have d13:(λ u w'=>∃g,u=.slice (some ⟨g,0,none⟩) 2 2∧w'.heap[g]?=some (.cells #[.string d0,.string d1] 9 (0,0))) (av.eval (.tmp 13)) wv:=hD.1 rfl _ rfl
  obtain⟨g,h13,hg⟩:=d13
  have f13:=(ev_form av 13).symm.trans h13
  refine wp_of_call (v:=.string H) (by simp[go_sem,f13]) (HH.out g wv hg) (λ w2 hb=>⟨_,rfl,es_of_ext hb,rfl⟩)
 case s10=>
  refine qV (λ _=>rfl) rfl λ av wv hE hO hD=>?_
  simp[go_sem,qF av 0 (.pointer (some ⟨b0,0,none⟩)) (hO.2.2 0 rfl)]
 case s11=>
  refine qV (λ _=>rfl) rfl λ av wv hE hO hD=>?_
  simp[go_sem,qF av 1 (.pointer (some ⟨b1,0,none⟩)) (hO.2.2 1 rfl)]
 case s12=>
  refine qV (λ _=>rfl) rfl λ av wv hE hO hD=>?_
  simp[go_sem,qE (hD.1 rfl _ rfl),qE (hD.2.1 rfl _ rfl)]
 case s13=>
  refine qV (λ _=>rfl) rfl λ av wv hE hO hD=>?_
  simp[go_sem,qE (hD.1 rfl _ rfl),qE (hD.2.1 rfl _ rfl)]
 case s14=>
  refine step_wp (λ av wv hE hS hO hD=>⟨rfl,?_⟩)
  have f18:=qE (hD.1 rfl _ rfl)
  refine wp_of_run (v:=.pointer (some ⟨wv.heap.size,0,none⟩)) (w':=wv.alloc (.cells #[.string H,.pointer (some ⟨b0,0,none⟩),.pointer (some ⟨b1,0,none⟩)] 118)) (by simp[go_sem,f18]) ⟨_,rfl,es_of_ext (balloc (Ext_refl _) _),wv.heap.size,rfl,(by have:=hE.size;simp at this;omega),heap_alloc_new _ _⟩
 intro a' w' hE hO hall
 have hA:=act_of_outer (ds:=[5,6,7,8,9,10,11,12,13,14,15,16,17,18,19]) rfl hO (by kernel_rfl)
 obtain⟨j0,j1,j2,j3,j4,j5,j6,j7,j8,j9,j10,j11,j12,j13,j14,-⟩:=hall
 have e13:(λ u w'=>∃g,u=.slice (some ⟨g,0,none⟩) 2 2∧w'.heap[g]?=some (.cells #[.string d0,.string d1] 9 (0,0))) (a'.eval (.tmp 13)) w':=j8 _ rfl;have e19:(λ u w'=>∃g,u=.pointer (some ⟨g,0,none⟩)∧w.heap.size≤g∧NodeAt g H (some ⟨b0,0,none⟩) (some ⟨b1,0,none⟩) w') (a'.eval (.tmp 19)) w':=j14 _ rfl
 obtain⟨v13,hv13⟩:∃v,a'.eval (.tmp 13)=v:=⟨_,rfl⟩
 rw[hv13]at e13
 obtain⟨v19,hv19⟩:∃v,a'.eval (.tmp 19)=v:=⟨_,rfl⟩
 rw[hv19]at e19
 simp only[List.foldl_cons,List.foldl_nil,Act.put,List.setIfInBounds_toArray,List.set_cons_succ,List.set_cons_zero,qJ 5 (j0 _ rfl),qJ 6 (j1 _ rfl),qJ 7 (j2 _ rfl),qJ 8 (j3 _ rfl),qJ 9 (j4 _ rfl),qJ 10 (j5 _ rfl),qJ 11 (j6 _ rfl),qJ 12 (j7 _ rfl),hv13,qJ 14 (j9 _ rfl),qJ 15 (j10 _ rfl),qJ 16 (j11 _ rfl),qJ 17 (j12 _ rfl),qJ 18 (j13 _ rfl),hv19]at hA
 clear hO j8 j14 j0 j1 j2 j3 j4 j5 j6 j7 hv13 j9 j10 j11 j12 j13 hv19
 subst hA
 obtain⟨g,rfl,hg,hn⟩:=e19
 have HN:=Lib.hid hn;have HG:=Lib.hid hg;have HW:Hid (Below w.heap.size w w'):=Lib.hid (of_drew hE);clear hn hg hE
 go_wp2
 go_ret
 exact⟨g,rfl,HG.out,HN.out,HW.out⟩
end Go.Proofs.YtpobhbdomldecaaGreatDoor
namespace Go.Proofs.YtpobhbdomldecaaGreatDoor
open Go.RowKit
set_option linter.unusedSimpArgs false
set_option linter.unusedVariables false
def PlaceIs(els:List ByteArray)(d:Nat):Nat→Nat→Nat→World→Prop
 | 0,k,b,w=>NodeAt b (plD els d 0 k) none none w
 | l+1,k,b,w=>∃b0 b1,NodeAt b (plD els d (l+1) k) (some ⟨b0,0,none⟩) (some ⟨b1,0,none⟩) w∧PlaceIs els d l (2 * k) b0 w∧PlaceIs els d l (2 * k+1) b1 w
theorem PlaceIs.below{els:List ByteArray}{d:Nat}:∀{l k b:Nat} {w w':World},PlaceIs els d l k b w→Below w.heap.size w w'→PlaceIs els d l k b w'
 | 0,_,_,_,_,h,hb=>NodeAt.below h hb
 | l+1,_,_,_,_,⟨b0,b1,h,h0,h1⟩,hb=>⟨b0,b1,h.below hb,h0.below hb,h1.below hb⟩
theorem PlaceIs.digest{els:List ByteArray}{d:Nat}:∀{l k b:Nat} {w:World},PlaceIs els d l k b w→w.cell? ⟨b,0,none⟩=some (.string (plD els d l k))
 | 0,_,_,_,h=>NodeAt.digest h
 | l+1,_,_,_,⟨b0,b1,h,_,_⟩=>h.digest
theorem PlaceIs.ext{els:List ByteArray}{d l k b:Nat}{w w':World}(h:PlaceIs els d l k b w)(hb:Ext w w'):PlaceIs els d l k b w':=h.below hb
theorem PlaceIs.extB{els:List ByteArray}{d l k b:Nat}{w w':World}(h:PlaceIs els d l k b w)(hb:ExtB none w w'):PlaceIs els d l k b w':=h.below (extB_none hb)
structure EnvT(els:List ByteArray)(d bF bD bE bN nb:Nat)(a:Option Addr)(cap:Nat)(w:World):Prop where
 f:w.heap[bF]?=some (.cells #[.func (.func 91) #[] #[.pointer (some ⟨bF,0,none⟩),.pointer (some ⟨bD,0,none⟩),.pointer (some ⟨bE,0,none⟩),.pointer (some ⟨bN,0,none⟩)]] 119 (0,0))
 d:w.heap[bD]?=some (.cells #[.int .i64 (d:Nat)] 3 (0,0))
 e:w.heap[bE]?=some (.cells #[.slice a (len els) cap] 36 (0,0))
 n:w.heap[bN]?=some (.cells #[.pointer (some ⟨nb,0,none⟩)] 115 (0,0))
 nb:NodeAt nb (hashP noneT []) none none w
 t:Txts w a els
theorem EnvT.below{els:List ByteArray}{d bF bD bE bN nb:Nat}{a:Option Addr}{cap:Nat}{w w':World}(h:EnvT els d bF bD bE bN nb a cap w)(hb:Below w.heap.size w w'):EnvT els d bF bD bE bN nb a cap w':=
 ⟨(hb.block _ (lt_of_block h.f)).trans h.f,(hb.block _ (lt_of_block h.d)).trans h.d,(hb.block _ (lt_of_block h.e)).trans h.e,(hb.block _ (lt_of_block h.n)).trans h.n,h.nb.below hb,h.t.below hb⟩
def AtIs(els:List ByteArray)(d l k:Nat)(w:World)(e:Ending)(w':World):Prop:=∃g,e=.returned (.pointer (some ⟨g,0,none⟩))∧PlaceIs els d l k g w'∧Below w.heap.size w w'
theorem turned_rev{k d:Nat}(hd:d≤16)(hk:k<2 ^ d):turnedZ (k:Nat) (d:Nat)=((revOf k d:Nat):Int):=by
 unfold turnedZ
 rw[if_pos]
 ·simp
 ·refine⟨by omega,by omega,?_⟩
  rw[Int.toNat_natCast,pow_cast]
  exact_mod_cast hk
theorem pow_le16{d:Nat}(hd:d≤16):2 ^ d≤65536:=Nat.pow_le_pow_right (by decide) hd
set_option maxRecDepth 100000 in
set_option maxHeartbeats 4000000 in
theorem at_zero(els:List ByteArray)(d bF bD bE bN nb:Nat)(a:Option Addr)(cap k:Nat)(w:World)(hd:d≤16)(hk:k<2 ^ d)(hn:len els≤65536)(hz:∀i,i<len els→(tth els i).size≤140737488355200)(h:EnvT els d bF bD bE bN nb a cap w):
  Calls Tryz.prog 91 #[.int .i64 0,.int .u64 k,.pointer (some ⟨bF,0,none⟩),.pointer (some ⟨bD,0,none⟩),.pointer (some ⟨bE,0,none⟩),.pointer (some ⟨bN,0,none⟩)] w (AtIs els d 0 k w):=by
 have H:=Lib.hid h;have HK:Hid (k<65536):=Lib.hid (Nat.lt_of_lt_of_le hk (pow_le16 hd));have HN:=Lib.hid hn;have HZ:=Lib.hid hz;have HEL:=Lib.hid (element_any (k:Nat) (d:Nat) w (by omega) (by have:=HK.out;omega))
 rw[turned_rev hd hk]at HEL
 have cd:w.cell? ⟨bD,0,none⟩=some (.int .i64 (d:Nat)):=by rw[block_cell h.d];rfl
 have ce:w.cell? ⟨bE,0,none⟩=some (.slice a (len els) cap):=by rw[block_cell h.e];rfl
 have cn:w.cell? ⟨bN,0,none⟩=some (.pointer (some ⟨nb,0,none⟩)):=by rw[block_cell h.n];rfl
 have HPL:Hid (plD els d 0 k=if revOf k d<len els then hashP leafT [tth els (revOf k d)]else hashP noneT []):=Lib.hid rfl;have HRL:Hid (revOf k d<65536):=Lib.hid (Nat.lt_of_lt_of_le (revOf_lt k d) (pow_le16 hd))
 obtain⟨i,hi⟩:∃i,revOf k d=i:=⟨_,rfl⟩
 rw[hi]at HEL HPL HRL
 clear h hi hd hk hn hz
 go_enter Tryz.func91,Tryz.ntmps91
 go_wp2_with fail
 refine HEL.out.mono ?_
 rintro e w1 ⟨rfl,rfl⟩
 have HNB:=HN.out;have hil:=HRL.out
 by_cases hlt:i<len els
 ·have i1:(i:Int)<(len els:Nat):=by omega
  have i2:IntKind.u64.wrap ((len els:Nat):Int)=((len els:Nat):Int):=IntWalk.u64_in _ (by omega)
  obtain⟨pb,po,rfl,hpc⟩:=H.out.t i hlt
  obtain⟨x,hx⟩:∃x,tth els i=x:=⟨_,rfl⟩
  rw[hx]at hpc
  have HX:=Lib.hid hx;clear hx
  go_wp2_with fail
  refine(leaf_node x w (by rw[←HX.out];exact HZ.out i hlt)).mono ?_
  rintro e w2 ⟨g,rfl,hg,hn2,hb2⟩
  have HE2:Hid (PlaceIs els d 0 k g w2):=Lib.hid (by
   show NodeAt g (plD els d 0 k) none none w2
   rw[HPL.out,if_pos hlt,HX.out];exact hn2)
  have HB2:=Lib.hid hb2;clear hg hn2 hb2 hpc
  go_wp2
  go_ret
  exact⟨g,rfl,HE2.out,HB2.out⟩
 ·have i1:¬(i:Int)<(len els:Nat):=by omega
  have i2:IntKind.u64.wrap ((len els:Nat):Int)=((len els:Nat):Int):=IntWalk.u64_in _ (by omega);have HE2:Hid (PlaceIs els d 0 k nb w):=Lib.hid (by
   show NodeAt nb (plD els d 0 k) none none w
   rw[HPL.out,if_neg hlt];exact H.out.nb)
  clear hlt
  go_wp2
  go_ret
  exact⟨nb,rfl,HE2.out,Below.refl _ _⟩
set_option maxRecDepth 100000 in
set_option maxHeartbeats 4000000 in
theorem at_step(els:List ByteArray)(d bF bD bE bN nb:Nat)(a:Option Addr)(cap l k:Nat)(w:World)(hd:l+1≤16)(hk:k<65536)(h:EnvT els d bF bD bE bN nb a cap w)
  (hr:∀(k':Nat) (wv:World),Below w.heap.size w wv→(k'=2 * k ∨ k'=2 * k+1)→Calls Tryz.prog 91 #[.int .i64 (l:Nat),.int .u64 ((k':Nat):Int),.pointer (some ⟨bF,0,none⟩),.pointer (some ⟨bD,0,none⟩),.pointer (some ⟨bE,0,none⟩),.pointer (some ⟨bN,0,none⟩)] wv (AtIs els d l k' wv)):
  Calls Tryz.prog 91 #[.int .i64 ((l+1:Nat):Int),.int .u64 k,.pointer (some ⟨bF,0,none⟩),.pointer (some ⟨bD,0,none⟩),.pointer (some ⟨bE,0,none⟩),.pointer (some ⟨bN,0,none⟩)] w (AtIs els d (l+1) k w):=by
 have HR:=Lib.hid hr;have K1:2 * k=2 * k ∨ 2 * k=2 * k+1:=Or.inl rfl;have K2:2 * k+1=2 * k ∨ 2 * k+1=2 * k+1:=Or.inr rfl;have cf:w.cell? ⟨bF,0,none⟩=some (.func (.func 91) #[] #[.pointer (some ⟨bF,0,none⟩),.pointer (some ⟨bD,0,none⟩),.pointer (some ⟨bE,0,none⟩),.pointer (some ⟨bN,0,none⟩)]):=by rw[block_cell h.f];rfl
 have l1:(0:Int)<((l+1:Nat):Int):=by omega
 have s1:IntKind.i64.wrap (l:Int)=(l:Int):=IntWalk.i64_in _ (by omega);have m1:IntKind.u64.wrap (2 * (k:Int))=2 * (k:Int):=IntWalk.u64_in _ (by omega);have m2:IntKind.u64.wrap (2 * (k:Int)+1)=2 * (k:Int)+1:=IntWalk.u64_in _ (by omega);clear hr h
 go_enter Tryz.func91,Tryz.ntmps91
 go_upto_region 2 with fail
 refine wp_region_tail 14 1000 (none) (phis [λ u _=>u=(.func (.func 91) #[] #[.pointer (some ⟨bF,0,none⟩),.pointer (some ⟨bD,0,none⟩),.pointer (some ⟨bE,0,none⟩),.pointer (some ⟨bN,0,none⟩)]),λ u _=>u=(.int .i64 ((l+1:Nat):Int)),λ u _=>u=(.int .i64 (l:Nat)),λ u _=>u=(.int .u64 k),λ u _=>u=(.int .u64 ((2 * k:Nat):Int)),λ u w'=>∃g,u=.pointer (some ⟨g,0,none⟩)∧PlaceIs els d l (2 * k) g w',λ u _=>u=(.func (.func 91) #[] #[.pointer (some ⟨bF,0,none⟩),.pointer (some ⟨bD,0,none⟩),.pointer (some ⟨bE,0,none⟩),.pointer (some ⟨bN,0,none⟩)]),λ u _=>u=(.int .i64 ((l+1:Nat):Int)),λ u _=>u=(.int .i64 (l:Nat)),λ u _=>u=(.int .u64 k),λ u _=>u=(.int .u64 ((2 * k:Nat):Int)),λ u _=>u=(.int .u64 ((2 * k+1:Nat):Int)),λ u w'=>∃g,u=.pointer (some ⟨g,0,none⟩)∧PlaceIs els d l (2 * k+1) g w',λ u w'=>∃g,u=.pointer (some ⟨g,0,none⟩)∧PlaceIs els d (l+1) k g w']) rfl (by kernel_rfl) (by kernel_rfl) (mono_of ⟨mono_eq,mono_eq,mono_eq,mono_eq,mono_eq,?m5,mono_eq,mono_eq,mono_eq,mono_eq,mono_eq,mono_eq,?m12,?m13,trivial⟩) (steps_of 14 ⟨?s0,?s1,?s2,?s3,?s4,?s5,?s6,?s7,?s8,?s9,?s10,?s11,?s12,?s13,trivial⟩) ?_
 case m5=>
  exact⟨λ u w1 w' h ⟨b,h1,hb⟩=>⟨b,h1,hb.ext h⟩,λ _ u w1 w' h ⟨b,h1,hb⟩=>⟨b,h1,hb.extB h⟩⟩
 case m12=>
  exact⟨λ u w1 w' h ⟨b,h1,hb⟩=>⟨b,h1,hb.ext h⟩,λ _ u w1 w' h ⟨b,h1,hb⟩=>⟨b,h1,hb.extB h⟩⟩
 case m13=>
  exact⟨λ u w1 w' h ⟨b,h1,hb⟩=>⟨b,h1,hb.ext h⟩,λ _ u w1 w' h ⟨b,h1,hb⟩=>⟨b,h1,hb.extB h⟩⟩
 case s0=>
  refine qV (λ _=>rfl) rfl λ av wv hE hO hD=>?_
  simp[go_sem,qF av 2 (.pointer (some ⟨bF,0,none⟩)) (hO.2.2 2 rfl),extB_cell hE (by simp) cf,s1,m1,m2]
 case s1=>
  refine qV (λ _=>rfl) rfl λ av wv hE hO hD=>?_
  simp[go_sem,qF av 0 (.int .i64 ((l+1:Nat):Int)) (hO.2.2 0 rfl),s1,m1,m2]
 case s2=>
  refine qV (λ _=>rfl) rfl λ av wv hE hO hD=>?_
  simp[go_sem,qE (hD.1 rfl _ rfl),s1,m1,m2]
 case s3=>
  refine qV (λ _=>rfl) rfl λ av wv hE hO hD=>?_
  simp[go_sem,qF av 1 (.int .u64 k) (hO.2.2 1 rfl),s1,m1,m2]
 case s4=>
  refine qV (λ _=>rfl) rfl λ av wv hE hO hD=>?_
  simp[go_sem,qE (hD.1 rfl _ rfl),s1,m1,m2]
 case s5=>
  refine step_wp (λ av wv hE hS hO hD=>⟨rfl,?_⟩)
  have f12:=qE (hD.1 rfl _ rfl);have f14:=qE (hD.2.1 rfl _ rfl);have f16:=qE (hD.2.2.1 rfl _ rfl)
  refine wp_of_callV (R:=λ u w2=>(∃g,u=.pointer (some ⟨g,0,none⟩)∧PlaceIs els d l (2 * k) g w2)∧Below wv.heap.size wv w2) (f:=91) (args:=#[.int .i64 (l:Nat),.int .u64 ((2 * k:Nat):Int),.pointer (some ⟨bF,0,none⟩),.pointer (some ⟨bD,0,none⟩),.pointer (some ⟨bE,0,none⟩),.pointer (some ⟨bN,0,none⟩)]) (by simp[go_sem,f12,f14,f16]) ((HR.out (2 * k) wv (of_drew hE) K1).mono (λ e w2 ⟨g,h1,h2,h3⟩=>⟨_,h1,⟨g,rfl,h2⟩,h3⟩)) (λ u w2 ⟨h1,h2⟩=>⟨_,rfl,es_of_ext h2,h1⟩)
 case s6=>
  refine qV (λ _=>rfl) rfl λ av wv hE hO hD=>?_
  simp[go_sem,qF av 2 (.pointer (some ⟨bF,0,none⟩)) (hO.2.2 2 rfl),extB_cell hE (by simp) cf,s1,m1,m2]
 case s7=>
  refine qV (λ _=>rfl) rfl λ av wv hE hO hD=>?_
  simp[go_sem,qF av 0 (.int .i64 ((l+1:Nat):Int)) (hO.2.2 0 rfl),s1,m1,m2]
 case s8=>
  refine qV (λ _=>rfl) rfl λ av wv hE hO hD=>?_
  simp[go_sem,qE (hD.1 rfl _ rfl),s1,m1,m2]
 case s9=>
  refine qV (λ _=>rfl) rfl λ av wv hE hO hD=>?_
  simp[go_sem,qF av 1 (.int .u64 k) (hO.2.2 1 rfl),s1,m1,m2]
 case s10=>
  refine qV (λ _=>rfl) rfl λ av wv hE hO hD=>?_
  simp[go_sem,qE (hD.1 rfl _ rfl),s1,m1,m2]
 case s11=>
  refine qV (λ _=>rfl) rfl λ av wv hE hO hD=>?_
  simp[go_sem,qE (hD.1 rfl _ rfl),s1,m1,m2]
 case s12=>
  refine step_wp (λ av wv hE hS hO hD=>⟨rfl,?_⟩)
  have f18:=qE (hD.1 rfl _ rfl);have f20:=qE (hD.2.1 rfl _ rfl);have f23:=qE (hD.2.2.1 rfl _ rfl)
  refine wp_of_callV (R:=λ u w2=>(∃g,u=.pointer (some ⟨g,0,none⟩)∧PlaceIs els d l (2 * k+1) g w2)∧Below wv.heap.size wv w2) (f:=91) (args:=#[.int .i64 (l:Nat),.int .u64 ((2 * k+1:Nat):Int),.pointer (some ⟨bF,0,none⟩),.pointer (some ⟨bD,0,none⟩),.pointer (some ⟨bE,0,none⟩),.pointer (some ⟨bN,0,none⟩)]) (by simp[go_sem,f18,f20,f23]) ((HR.out (2 * k+1) wv (of_drew hE) K2).mono (λ e w2 ⟨g,h1,h2,h3⟩=>⟨_,h1,⟨g,rfl,h2⟩,h3⟩)) (λ u w2 ⟨h1,h2⟩=>⟨_,rfl,es_of_ext h2,h1⟩)
 case s13=>
  refine step_wp (λ av wv hE hS hO hD=>⟨rfl,?_⟩)
  have d17:(λ u w'=>∃g,u=.pointer (some ⟨g,0,none⟩)∧PlaceIs els d l (2 * k) g w') (av.eval (.tmp 17)) wv:=hD.1 rfl _ rfl;have d24:(λ u w'=>∃g,u=.pointer (some ⟨g,0,none⟩)∧PlaceIs els d l (2 * k+1) g w') (av.eval (.tmp 24)) wv:=hD.2.1 rfl _ rfl
  obtain⟨g0,h17,hg0⟩:=d17
  obtain⟨g1,h24,hg1⟩:=d24
  have f17:=(ev_form av 17).symm.trans h17;have f24:=(ev_form av 24).symm.trans h24
  refine wp_of_callV (R:=λ u w2=>∃g,u=.pointer (some ⟨g,0,none⟩)∧NodeAt g (plD els d (l+1) k) (some ⟨g0,0,none⟩) (some ⟨g1,0,none⟩) w2∧Below wv.heap.size wv w2) (f:=92) (args:=#[.pointer (some ⟨g0,0,none⟩),.pointer (some ⟨g1,0,none⟩)]) (by simp[go_sem,f17,f24]) ((over_any g0 g1 (plD els d l (2 * k)) (plD els d l (2 * k+1)) wv hg0.digest hg1.digest ⟨by rw[plD_size];decide,by rw[plD_size];decide⟩).mono (λ e w2 ⟨g,h1,_,h2,h3⟩=>⟨_,h1,g,rfl,h2,h3⟩)) (λ u w2 ⟨g,h1,h2,h3⟩=>⟨_,rfl,es_of_ext h3,g,h1,g0,g1,h2,hg0.below h3,hg1.below h3⟩)
 intro a' w' hE hO hall
 have hA:=act_of_outer (ds:=[12,13,14,15,16,17,18,19,20,21,22,23,24,25]) rfl hO (by kernel_rfl)
 obtain⟨j0,j1,j2,j3,j4,j5,j6,j7,j8,j9,j10,j11,j12,j13,-⟩:=hall
 have e17:(λ u w'=>∃g,u=.pointer (some ⟨g,0,none⟩)∧PlaceIs els d l (2 * k) g w') (a'.eval (.tmp 17)) w':=j5 _ rfl;have e24:(λ u w'=>∃g,u=.pointer (some ⟨g,0,none⟩)∧PlaceIs els d l (2 * k+1) g w') (a'.eval (.tmp 24)) w':=j12 _ rfl;have e25:(λ u w'=>∃g,u=.pointer (some ⟨g,0,none⟩)∧PlaceIs els d (l+1) k g w') (a'.eval (.tmp 25)) w':=j13 _ rfl
 obtain⟨v17,hv17⟩:∃v,a'.eval (.tmp 17)=v:=⟨_,rfl⟩
 rw[hv17]at e17
 obtain⟨v24,hv24⟩:∃v,a'.eval (.tmp 24)=v:=⟨_,rfl⟩
 rw[hv24]at e24
 obtain⟨v25,hv25⟩:∃v,a'.eval (.tmp 25)=v:=⟨_,rfl⟩
 rw[hv25]at e25
 simp only[List.foldl_cons,List.foldl_nil,Act.put,List.setIfInBounds_toArray,List.set_cons_succ,List.set_cons_zero,qJ 12 (j0 _ rfl),qJ 13 (j1 _ rfl),qJ 14 (j2 _ rfl),qJ 15 (j3 _ rfl),qJ 16 (j4 _ rfl),hv17,qJ 18 (j6 _ rfl),qJ 19 (j7 _ rfl),qJ 20 (j8 _ rfl),qJ 21 (j9 _ rfl),qJ 22 (j10 _ rfl),qJ 23 (j11 _ rfl),hv24,hv25]at hA
 clear hO j5 j12 j13 j0 j1 j2 j3 j4 hv17 j6 j7 j8 j9 j10 j11 hv24 hv25
 subst hA
 obtain⟨g,rfl,hg⟩:=e25
 have HG:=Lib.hid hg;have HW:Hid (Below w.heap.size w w'):=Lib.hid (of_drew hE);clear hg hE e17 e24
 go_wp2
 go_ret
 exact⟨g,rfl,HG.out,HW.out⟩
theorem at_any(els:List ByteArray)(d bF bD bE bN nb:Nat)(a:Option Addr)(cap:Nat)(hd:d≤16)(hn:len els≤65536)(hz:∀i,i<len els→(tth els i).size≤140737488355200):
  ∀(l k:Nat) (w:World),l≤d→k<2 ^ (d - l)→EnvT els d bF bD bE bN nb a cap w→
  Calls Tryz.prog 91 #[.int .i64 (l:Nat),.int .u64 k,.pointer (some ⟨bF,0,none⟩),.pointer (some ⟨bD,0,none⟩),.pointer (some ⟨bE,0,none⟩),.pointer (some ⟨bN,0,none⟩)] w (AtIs els d l k w)
 | 0,k,w,_,hk,h=>at_zero els d bF bD bE bN nb a cap k w hd (by simpa using hk) hn hz h
 | l+1,k,w,hl,hk,h=>by
  have h2:2 ^ (d - (l+1))≤65536:=Nat.le_trans (Nat.pow_le_pow_right (by decide) (show d - (l+1)≤16 by omega)) (by decide)
  refine at_step els d bF bD bE bN nb a cap l k w (by omega) (by omega) h λ k' wv hb hk'=>?_
  refine at_any els d bF bD bE bN nb a cap hd hn hz l k' wv (by omega) ?_ (h.below hb)
  have:2 ^ (d - l)=2 * 2 ^ (d - (l+1)):=by rw[show d - l=(d - (l+1))+1 by omega,Nat.pow_succ];omega
  rcases hk' with rfl | rfl <;> omega
end Go.Proofs.YtpobhbdomldecaaGreatDoor
namespace Go.Proofs.YtpobhbdomldecaaGreatDoor
open Go.RowKit
set_option linter.unusedSimpArgs false
set_option linter.unusedVariables false
def depN(els:List ByteArray):Nat:=Lib.bitLen (len els - 1)
theorem depN_le{els:List ByteArray}(h:len els≤65536):depN els≤16:=(depth_bd (len els) h).1
theorem depthZ_len{els:List ByteArray}(h:len els≤65536):depthZ (len els:Nat)=((depN els:Nat):Int):=by
 unfold depthZ depN
 rw[if_neg (by omega),Int.toNat_natCast]
def TreeAt(els:List ByteArray)(b:Nat)(w:World):Prop:=∃p,w.heap[b]?=some (.cells #[.pointer (some ⟨p,0,none⟩),.int .i64 (depN els:Nat),.int .i64 (len els:Nat)] 124 (0,0))∧PlaceIs els (depN els) (depN els) 0 p w
theorem TreeAt.below{els:List ByteArray}{b:Nat}{w w':World}(h:TreeAt els b w)(hb:Below w.heap.size w w'):TreeAt els b w':=by
 obtain⟨p,h1,h2⟩:=h
 exact⟨p,(hb.block _ (lt_of_block h1)).trans h1,h2.below hb⟩
def BuildIs(els:List ByteArray)(w:World)(e:Ending)(w':World):Prop:=∃b,e=.returned (.tuple #[.pointer (some ⟨b,0,none⟩),.int .i64 0])∧w.heap.size≤b∧TreeAt els b w'∧Below w.heap.size w w'
set_option maxRecDepth 100000 in
set_option maxHeartbeats 4000000 in
theorem build_any(els:List ByteArray)(a:Option Addr)(cap:Nat)(w:World)(ht:Txts w a els)(hn:len els≤65536)(hz:∀i,i<len els→(tth els i).size≤140737488355200):
  Calls Tryz.prog 42 #[.slice a (len els) cap] w (BuildIs els w):=by
 have HT:=Lib.hid ht;have HN:=Lib.hid hn;have HZ:=Lib.hid hz
 obtain⟨d,hd⟩:∃d,depN els=d:=⟨_,rfl⟩
 have HDD:=Lib.hid hd;have HD16:Hid (d≤16):=Lib.hid (by rw[←hd];exact depN_le hn);have HDZ:Hid (depthZ (len els:Nat)=((d:Nat):Int)):=Lib.hid (by rw[←hd];exact depthZ_len hn);have n1:¬(65536:Int)<(len els:Nat):=by omega
 clear ht hz hd
 go_enter Tryz.func42,Tryz.ntmps42
 go_wp2_with fail
 refine(depth_any (len els:Nat) _ (by omega) (by omega)).mono ?_
 rintro e w1 ⟨rfl,rfl⟩
 rw[HDZ.out]
 clear n1 hn
 go_wp2_with fail
 obtain⟨bE,hbE⟩:∃bE,w.heap.size=bE:=⟨_,rfl⟩
 obtain⟨bD,hbD⟩:∃bD,w.heap.size+1=bD:=⟨_,rfl⟩
 rw[hbD,hbE]
 obtain⟨V,hV⟩:∃V,(w.alloc (.cells #[.slice a (len els) cap] 36)).alloc (.cells #[.int .i64 (d:Nat)] 3)=V:=⟨_,rfl⟩
 rw[hV]
 have HVE:Hid (V.heap[bE]?=some (.cells #[.slice a (len els) cap] 36 (0,0))):=Lib.hid (by rw[←hV];exact block_alloc (alloc_new_at _ hbE) _);have HVD:Hid (V.heap[bD]?=some (.cells #[.int .i64 (d:Nat)] 3 (0,0))):=Lib.hid (by rw[←hV];exact alloc_new_at _ (by rw[alloc_size _ rfl];exact hbD));have HVW:Hid (Below w.heap.size w V):=Lib.hid (by rw[←hV];exact balloc (balloc (Below.refl _ _) _) _);clear hV hbE hbD
 refine(hash_any noneT [] none 0 V (by decide) (by decide) (Txts.nil _ _) (by decide)).mono ?_
 rintro e w2 ⟨rfl,hb2⟩
 have H2E:Hid (w2.heap[bE]?=some (.cells #[.slice a (len els) cap] 36 (0,0))):=Lib.hid ((hb2.block _ (lt_of_block HVE.out)).trans HVE.out);have H2D:Hid (w2.heap[bD]?=some (.cells #[.int .i64 (d:Nat)] 3 (0,0))):=Lib.hid ((hb2.block _ (lt_of_block HVD.out)).trans HVD.out);have H2W:Hid (Below w.heap.size w w2):=Lib.hid (bnext HVW.out hb2)
 obtain⟨Hn,hHn⟩:∃Hn,hashP noneT []=Hn:=⟨_,rfl⟩
 rw[hHn]
 have HHN:=Lib.hid hHn;clear hb2 hHn HVE HVD HVW
 go_upto_region 7 with fail
 obtain⟨nb,hnb⟩:∃nb,w2.heap.size=nb:=⟨_,rfl⟩
 obtain⟨bN,hbN⟩:∃bN,w2.heap.size+1=bN:=⟨_,rfl⟩
 obtain⟨bF,hbF⟩:∃bF,w2.heap.size+1+1=bF:=⟨_,rfl⟩
 rw[hbF,hbN,hnb]
 obtain⟨U,hU⟩:∃U,(((w2.alloc (.cells #[.string Hn,.pointer none,.pointer none] 118)).alloc (.cells #[.pointer (some ⟨nb,0,none⟩)] 115)).alloc (.cells #[.func (.func 91) #[] #[.pointer (some ⟨bF,0,none⟩),.pointer (some ⟨bD,0,none⟩),.pointer (some ⟨bE,0,none⟩),.pointer (some ⟨bN,0,none⟩)]] 119))=U:=⟨_,rfl⟩
 rw[hU]
 have HEN:Hid (EnvT els d bF bD bE bN nb a cap U):=Lib.hid (by
  have hbw:Below w.heap.size w U:=by rw[←hU];exact balloc (balloc (balloc H2W.out _) _) _
  refine⟨?_,?_,?_,?_,?_,HT.out.below hbw⟩
  ·rw[←hU];exact alloc_new_at _ (by rw[alloc_size _ (alloc_size _ rfl)];exact hbF)
  ·rw[←hU];exact block_alloc (block_alloc (block_alloc H2D.out _) _) _
  ·rw[←hU];exact block_alloc (block_alloc (block_alloc H2E.out _) _) _
  ·rw[←hU];exact block_alloc (alloc_new_at _ (by rw[alloc_size _ rfl];exact hbN)) _
  ·rw[←hU,HHN.out];exact block_alloc (block_alloc (alloc_new_at _ hnb) _) _)
 have HUW:Hid (Below w.heap.size w U):=Lib.hid (by rw[←hU];exact balloc (balloc (balloc H2W.out _) _) _);have HVS:Hid (w.heap.size≤U.heap.size):=Lib.hid HUW.out.size;have HA:Hid (∀wv:World,Below U.heap.size U wv→Calls Tryz.prog 91 #[.int .i64 (d:Nat),.int .u64 0,.pointer (some ⟨bF,0,none⟩),.pointer (some ⟨bD,0,none⟩),.pointer (some ⟨bE,0,none⟩),.pointer (some ⟨bN,0,none⟩)] wv (AtIs els d d 0 wv)):=Lib.hid (λ wv hb=>at_any els d bF bD bE bN nb a cap HD16.out HN.out HZ.out d 0 wv (Nat.le_refl _) (Nat.two_pow_pos _) (HEN.out.below hb));have cf:U.cell? ⟨bF,0,none⟩=some (.func (.func 91) #[] #[.pointer (some ⟨bF,0,none⟩),.pointer (some ⟨bD,0,none⟩),.pointer (some ⟨bE,0,none⟩),.pointer (some ⟨bN,0,none⟩)]):=by rw[block_cell HEN.out.f];rfl
 have cd:U.cell? ⟨bD,0,none⟩=some (.int .i64 (d:Nat)):=by rw[block_cell HEN.out.d];rfl
 have ce:U.cell? ⟨bE,0,none⟩=some (.slice a (len els) cap):=by rw[block_cell HEN.out.e];rfl
 clear hU hnb hbN hbF H2D H2E H2W
 refine wp_region_tail 8 1000 (none) (phis [λ u _=>u=(.func (.func 91) #[] #[.pointer (some ⟨bF,0,none⟩),.pointer (some ⟨bD,0,none⟩),.pointer (some ⟨bE,0,none⟩),.pointer (some ⟨bN,0,none⟩)]),λ u _=>u=(.int .i64 (d:Nat)),λ u w'=>∃g,u=.pointer (some ⟨g,0,none⟩)∧PlaceIs els d d 0 g w',λ u _=>u=(.int .i64 (d:Nat)),λ u _=>u=(.slice a (len els) cap),λ u _=>u=(.int .i64 (len els)),λ u w'=>∃g,u=.agg #[.pointer (some ⟨g,0,none⟩),.int .i64 (d:Nat),.int .i64 (len els)]∧PlaceIs els d d 0 g w',λ u w'=>∃b,u=.pointer (some ⟨b,0,none⟩)∧w.heap.size≤b∧TreeAt els b w']) rfl (by kernel_rfl) (by kernel_rfl) (mono_of ⟨mono_eq,mono_eq,?m2,mono_eq,mono_eq,mono_eq,?m6,?m7,trivial⟩) (steps_of 8 ⟨?s0,?s1,?s2,?s3,?s4,?s5,?s6,?s7,trivial⟩) ?_
 case m2=>
  exact⟨λ u w1 w' h ⟨b,h1,hb⟩=>⟨b,h1,hb.ext h⟩,λ _ u w1 w' h ⟨b,h1,hb⟩=>⟨b,h1,hb.extB h⟩⟩
 case m6=>
  exact⟨λ u w1 w' h ⟨b,h1,hb⟩=>⟨b,h1,hb.ext h⟩,λ _ u w1 w' h ⟨b,h1,hb⟩=>⟨b,h1,hb.extB h⟩⟩
 case m7=>
  exact⟨λ u w1 w' h ⟨b,h1,h2,hb⟩=>⟨b,h1,h2,hb.below h⟩,λ _ u w1 w' h ⟨b,h1,h2,hb⟩=>⟨b,h1,h2,hb.below (extB_none h)⟩⟩
 case s0=>
  refine qV (λ _=>rfl) rfl λ av wv hE hO hD=>?_
  simp[go_sem,qF av 6 (.pointer (some ⟨bF,0,none⟩)) (hO.2.2 6 rfl),extB_cell hE (by simp) cf,extB_cell hE (by simp) cd,extB_cell hE (by simp) ce]
 case s1=>
  refine qV (λ _=>rfl) rfl λ av wv hE hO hD=>?_
  simp[go_sem,qF av 4 (.pointer (some ⟨bD,0,none⟩)) (hO.2.2 4 rfl),extB_cell hE (by simp) cf,extB_cell hE (by simp) cd,extB_cell hE (by simp) ce]
 case s2=>
  refine step_wp (λ av wv hE hS hO hD=>⟨rfl,?_⟩)
  have f17:=qE (hD.1 rfl _ rfl);have f18:=qE (hD.2.1 rfl _ rfl)
  refine wp_of_callV (R:=λ u w2=>(∃g,u=.pointer (some ⟨g,0,none⟩)∧PlaceIs els d d 0 g w2)∧Below wv.heap.size wv w2) (f:=91) (args:=#[.int .i64 (d:Nat),.int .u64 0,.pointer (some ⟨bF,0,none⟩),.pointer (some ⟨bD,0,none⟩),.pointer (some ⟨bE,0,none⟩),.pointer (some ⟨bN,0,none⟩)]) (by simp[go_sem,f17,f18]) ((HA.out wv (of_drew hE)).mono (λ e w2 ⟨g,h1,h2,h3⟩=>⟨_,h1,⟨g,rfl,h2⟩,h3⟩)) (λ u w2 ⟨h1,h2⟩=>⟨_,rfl,es_of_ext h2,h1⟩)
 case s3=>
  refine qV (λ _=>rfl) rfl λ av wv hE hO hD=>?_
  simp[go_sem,qF av 4 (.pointer (some ⟨bD,0,none⟩)) (hO.2.2 4 rfl),extB_cell hE (by simp) cf,extB_cell hE (by simp) cd,extB_cell hE (by simp) ce]
 case s4=>
  refine qV (λ _=>rfl) rfl λ av wv hE hO hD=>?_
  simp[go_sem,qF av 1 (.pointer (some ⟨bE,0,none⟩)) (hO.2.2 1 rfl),extB_cell hE (by simp) cf,extB_cell hE (by simp) cd,extB_cell hE (by simp) ce]
 case s5=>
  refine qV (λ _=>rfl) rfl λ av wv hE hO hD=>?_
  simp[go_sem,qE (hD.1 rfl _ rfl)]
 case s6=>
  refine step_wp (λ av wv hE hS hO hD=>⟨rfl,?_⟩)
  have d19:(λ u w'=>∃g,u=.pointer (some ⟨g,0,none⟩)∧PlaceIs els d d 0 g w') (av.eval (.tmp 19)) wv:=hD.1 rfl _ rfl;have f20:=qE (hD.2.1 rfl _ rfl);have f22:=qE (hD.2.2.1 rfl _ rfl)
  obtain⟨g,h19,hg⟩:=d19
  have f19:=(ev_form av 19).symm.trans h19
  exact wp_of_run (v:=.agg #[.pointer (some ⟨g,0,none⟩),.int .i64 (d:Nat),.int .i64 (len els)]) (by simp[go_sem,f19,f20,f22]) ⟨_,rfl,es_of_ext (Ext_refl _),g,rfl,hg⟩
 case s7=>
  refine step_wp (λ av wv hE hS hO hD=>⟨rfl,?_⟩)
  have d23:(λ u w'=>∃g,u=.agg #[.pointer (some ⟨g,0,none⟩),.int .i64 (d:Nat),.int .i64 (len els)]∧PlaceIs els d d 0 g w') (av.eval (.tmp 23)) wv:=hD.1 rfl _ rfl
  obtain⟨g,h23,hg⟩:=d23
  have f23:=(ev_form av 23).symm.trans h23
  refine wp_of_run (v:=.pointer (some ⟨wv.heap.size,0,none⟩)) (w':=wv.alloc (.cells #[.pointer (some ⟨g,0,none⟩),.int .i64 (d:Nat),.int .i64 (len els)] 124)) (by simp[go_sem,f23]) ⟨_,rfl,es_of_ext (balloc (Ext_refl _) _),wv.heap.size,rfl,(by have:=hE.size;have:=HVS.out;simp at *;omega),g,?_,?_⟩
  ·rw[HDD.out];exact heap_alloc_new _ _
  ·rw[HDD.out];exact hg.below (balloc (Below.refl _ _) _)
 intro a' w' hE hO hall
 have hA:=act_of_outer (ds:=[17,18,19,20,21,22,23,24]) rfl hO (by kernel_rfl)
 obtain⟨j0,j1,j2,j3,j4,j5,j6,j7,-⟩:=hall
 have e19:(λ u w'=>∃g,u=.pointer (some ⟨g,0,none⟩)∧PlaceIs els d d 0 g w') (a'.eval (.tmp 19)) w':=j2 _ rfl;have e23:(λ u w'=>∃g,u=.agg #[.pointer (some ⟨g,0,none⟩),.int .i64 (d:Nat),.int .i64 (len els)]∧PlaceIs els d d 0 g w') (a'.eval (.tmp 23)) w':=j6 _ rfl;have e24:(λ u w'=>∃b,u=.pointer (some ⟨b,0,none⟩)∧w.heap.size≤b∧TreeAt els b w') (a'.eval (.tmp 24)) w':=j7 _ rfl
 obtain⟨v19,hv19⟩:∃v,a'.eval (.tmp 19)=v:=⟨_,rfl⟩
 rw[hv19]at e19
 obtain⟨v23,hv23⟩:∃v,a'.eval (.tmp 23)=v:=⟨_,rfl⟩
 rw[hv23]at e23
 obtain⟨v24,hv24⟩:∃v,a'.eval (.tmp 24)=v:=⟨_,rfl⟩
 rw[hv24]at e24
 simp only[List.foldl_cons,List.foldl_nil,Act.put,List.setIfInBounds_toArray,List.set_cons_succ,List.set_cons_zero,qJ 17 (j0 _ rfl),qJ 18 (j1 _ rfl),hv19,qJ 20 (j3 _ rfl),qJ 21 (j4 _ rfl),qJ 22 (j5 _ rfl),hv23,hv24]at hA
 clear hO j2 j6 j7 j0 j1 hv19 j3 j4 j5 hv23 hv24
 subst hA
 obtain⟨g,rfl,hg,ht⟩:=e24
 have HG:Hid (w.heap.size≤g):=Lib.hid hg;have HT2:=Lib.hid ht;have HW:Hid (Below w.heap.size w w'):=Lib.hid (bnext HUW.out (of_drew hE));clear hg ht hE e19 e23
 go_wp2
 go_ret2
 exact⟨g,rfl,HG.out,HT2.out,HW.out⟩
theorem root_any(els:List ByteArray)(b:Nat)(w:World)(h:TreeAt els b w):Calls Tryz.prog 43 #[.pointer (some ⟨b,0,none⟩)] w λ e w'=>e=.returned (.string (plD els (depN els) (depN els) 0))∧w=w':=by
 obtain⟨p,h1,h2⟩:=h
 have c0:w.cell? ⟨b,0,none⟩=some (.pointer (some ⟨p,0,none⟩)):=by rw[block_cell h1];rfl
 have c1:=h2.digest;clear h1 h2
 go_enter Tryz.func43,Tryz.ntmps43
 go_wp2
 go_ret
 exact⟨rfl,rfl⟩
theorem tdepth_any(els:List ByteArray)(b:Nat)(w:World)(h:TreeAt els b w):Calls Tryz.prog 66 #[.pointer (some ⟨b,0,none⟩)] w λ e w'=>e=.returned (.int .i64 (depN els:Nat))∧w=w':=by
 obtain⟨p,h1,h2⟩:=h
 have c0:w.cell? ⟨b,1,none⟩=some (.int .i64 (depN els:Nat)):=by rw[block_cell h1];rfl
 clear h1 h2
 go_enter Tryz.func66,Tryz.ntmps66
 go_wp2
 go_ret
 exact⟨rfl,rfl⟩
theorem tlen_any(els:List ByteArray)(b:Nat)(w:World)(h:TreeAt els b w):Calls Tryz.prog 99 #[.pointer (some ⟨b,0,none⟩)] w λ e w'=>e=.returned (.int .i64 (len els:Nat))∧w=w':=by
 obtain⟨p,h1,h2⟩:=h
 have c0:w.cell? ⟨b,2,none⟩=some (.int .i64 (len els:Nat)):=by rw[block_cell h1];rfl
 clear h1 h2
 go_enter Tryz.func99,Tryz.ntmps99
 go_wp2
 go_ret
 exact⟨rfl,rfl⟩
end Go.Proofs.YtpobhbdomldecaaGreatDoor
namespace Go.Proofs.YtpobhbdomldecaaGreatDoor
open Go.RowKit
set_option linter.unusedSimpArgs false
set_option linter.unusedVariables false
theorem mem_flatFrom:∀(s:Nat) (rs:List (List Int)) (x:Int × Int),x ∈ flatFrom s rs→∃j,j<rs.length∧∃k ∈ rnth rs j,x=(((s+j:Nat):Int),k)
 | _,[],x,h=>by simp[flatFrom]at h
 | s,r :: rs,x,h=>by
  rw[flatFrom,List.mem_append]at h
  rcases h with h | h
  ·obtain⟨k,hk,rfl⟩:=List.mem_map.1 h
   exact⟨0,by simp,k,by simpa [rnth] using hk,rfl⟩
  ·obtain⟨j,hj,k,hk,rfl⟩:=mem_flatFrom (s+1) rs x h
   refine⟨j+1,by simp;omega,k,by simpa [rnth] using hk,?_⟩
   rw[show s+1+j=s+(j+1)by omega]
theorem sib_bd{k:Int}{e:Nat}(h0:0≤k)(h1:k<2 ^ (e+1)):0≤sib k∧sib k<2 ^ (e+1):=by
 have h2:(2:Int) ^ (e+1)=2 * 2 ^ e:=by rw[Int.pow_succ];omega
 rw[h2]at h1 ⊢
 generalize (2:Int) ^ e=p at h1 ⊢
 unfold sib
 split <;> omega
theorem half_bd{y:Int}{d i:Nat}(h0:0≤y)(h1:y<2 ^ d)(hi:i≤d):0≤y / 2 ^ i∧y / 2 ^ i<2 ^ (d - i):=by
 obtain⟨n,rfl⟩:=Int.eq_ofNat_of_zero_le h0
 rw[pow_cast]at h1
 have h3:n<2 ^ d:=by exact_mod_cast h1
 have h4:n / 2 ^ i<2 ^ (d - i):=by
  apply Nat.div_lt_of_lt_mul
  rw[←Nat.pow_add,show i+(d - i)=d by omega]
  exact h3
 rw[pow_cast,pow_cast]
 constructor
 ·exact Int.ediv_nonneg h0 (Int.natCast_nonneg _)
 ·exact_mod_cast h4
theorem plc_bd{leaves:List Int}{d:Nat}(hd:d≤16)(h:∀y ∈ leaves,0≤y∧y<2 ^ d):∀x ∈ flatLv (needsL leaves (d:Nat)),∃i k:Nat,x=((i:Int),(k:Int))∧i<d∧k<2 ^ (d - i):=by
 intro x hx
 obtain⟨i,hi,k,hk,rfl⟩:=mem_flatFrom 0 _ x hx
 unfold needsL at hi hk
 split at hi
 ·rename_i hc
  rw[if_pos hc,Int.toNat_natCast]at hk
  rw[Int.toNat_natCast]at hi
  unfold rowsOf at hi hk
  rw[List.length_map,List.length_range]at hi
  rw[rnth_eq _ i (by simpa using hi)]at hk
  simp only[List.getElem_map,List.getElem_range]at hk
  unfold rowK at hk
  rw[srt_mem,needK_mem]at hk
  obtain⟨⟨j,hj,rfl⟩,_⟩:=hk
  rw[(insAll_all _).2.1,List.mem_map]at hj
  obtain⟨y,hy,rfl⟩:=hj
  have h1:=half_bd (h y hy).1 (h y hy).2 (Nat.le_of_lt hi)
  obtain⟨e,he⟩:∃e,d - i=e+1:=⟨d - i - 1,by omega⟩
  rw[he]at h1
  have h2:=sib_bd h1.1 h1.2
  refine⟨i,(sib (y / 2 ^ i)).toNat,?_,hi,?_⟩
  ·rw[Int.toNat_of_nonneg h2.1,Nat.zero_add]
  ·rw[he]
   have h3:=h2.2
   rw[pow_cast]at h3
   exact(Int.toNat_lt h2.1).2 h3
 ·simp at hi
theorem leaves_in{l:List Int}{d:Nat}(hd:d≤16):∀y ∈ leavesL l (d:Nat),0≤y∧y<2 ^ d:=by
 intro y hy
 obtain⟨k,_,rfl⟩:=List.mem_map.1 hy
 unfold turnedZ
 split
 ·have:=revOf_lt k.toNat ((d:Nat):Int).toNat
  rw[Int.toNat_natCast]at this ⊢
  rw[pow_cast]
  omega
 ·rw[pow_cast]
  have:=Nat.two_pow_pos d
  omega
def dgsL(els:List ByteArray)(L:List (Int × Int)):List ByteArray:=L.map λ x=>plD els (depN els) x.1.toNat x.2.toNat
theorem dgsL_snoc(els:List ByteArray)(L:List (Int × Int))(x:Int × Int):dgsL els (L++[x])=dgsL els L++[plD els (depN els) x.1.toNat x.2.toNat]:=by unfold dgsL;rw[List.map_append];rfl
theorem row_litE{ks l m:List Int}(h:needK ks=l)(hm:m.Pairwise (λ x y=>x<y))(he:∀k,k ∈ l ↔ k ∈ m):rowK ks=m:=by
 unfold rowK
 exact srt_of (needK_nodup ks) hm (λ k=>by rw[h];exact he k)
end Go.Proofs.YtpobhbdomldecaaGreatDoor
namespace Go.Proofs.YtpobhbdomldecaaGreatDoor
open Go.RowKit
set_option linter.unusedSimpArgs false
set_option linter.unusedVariables false
set_option maxRecDepth 100000 in
set_option maxHeartbeats 4000000 in
theorem tat_any(els:List ByteArray)(b l k:Nat)(w:World)(h:TreeAt els b w)(hn:len els≤65536)(hl:l≤depN els)(hk:k<2 ^ (depN els - l)):
  Calls Tryz.prog 100 #[.pointer (some ⟨b,0,none⟩),.int .i64 (l:Nat),.int .u64 (k:Nat)] w λ e w'=>e=.returned (.tuple #[.string (plD els (depN els) l k),.bool true])∧Below w.heap.size w w':=by
 obtain⟨p0,h1,h2⟩:=h
 have hd16:=depN_le hn
 obtain⟨d,hd⟩:∃d,depN els=d:=⟨_,rfl⟩
 rw[hd]at h1 h2 hl hk hd16 ⊢
 have c0:w.cell? ⟨b,0,none⟩=some (.pointer (some ⟨p0,0,none⟩)):=by rw[block_cell h1];rfl
 have c1:w.cell? ⟨b,1,none⟩=some (.int .i64 (d:Nat)):=by rw[block_cell h1];rfl
 have HP:Hid (PlaceIs els d (l+(d - l)) (k / 2 ^ (d - l)) p0 w):=Lib.hid (by rw[Nat.div_eq_of_lt hk,show l+(d - l)=d by omega];exact h2);have HK:Hid (k<65536):=Lib.hid (Nat.lt_of_lt_of_le hk (pow_le16 (by omega)));have a2:¬((d:Nat):Int)<((l:Nat):Int):=by omega
 obtain⟨e,he⟩:∃e,d - l=e:=⟨_,rfl⟩
 rw[he]at HP hk
 have a3:IntKind.i64.wrap ((d:Int) - (l:Int))=((e:Nat):Int):=by rw[IntWalk.i64_in _ (by omega)];omega
 have a5:¬(e:Int)<0:=by omega
 have a4:((k:Nat):Int) / 2 ^ e=0:=by
  rw[pow_cast]
  have:k / 2 ^ e=0:=Nat.div_eq_of_lt hk
  exact_mod_cast this
 have a6:IntKind.i64.wrap ((e:Int) - 1)=(e:Int) - 1:=IntWalk.i64_in _ (by omega);have a1:¬((l:Nat):Int)<0:=by omega
 have a7:min e 64=e:=by omega
 have HE:Hid (e≤16):=Lib.hid (by omega);clear h1 h2 hd hk he hl hd16
 go_enter Tryz.func100,Tryz.ntmps100
 go_upto_region 5 with fail
 clear c0 c1 a1 a2 a3 a4 a5 a6 a7
 go_loopg [9,8] e (λ g i p wr=>∃(t q:Nat),g=t∧i=.int .i64 ((t:Int) - 1)∧p=.pointer (some ⟨q,0,none⟩)∧t≤16∧Hid (PlaceIs els d (l+t) (k / 2 ^ t) q wr)∧Hid (Below w.heap.size w wr))
 case atStart=>exact⟨e,p0,rfl,rfl,rfl,HE.out,HP,Lib.hid (Below.refl _ _)⟩
 case round=>
  clear HP
  obtain⟨t,q,hgt,rfl,rfl,ht,HP,HW⟩:=hrel
  have HGT:=Lib.hid hgt;clear hgt
  cases t with
  | zero=>
   have i1:¬(0:Int)≤((0:Nat):Int) - 1:=by decide
   have cq:wr.cell? ⟨q,0,none⟩=some (.string (plD els d l k)):=by
    have:=HP.out.digest
    rwa [Nat.add_zero,Nat.pow_zero,Nat.div_one]at this
   go_wp2
   go_ret2
   exact⟨rfl,HW.out⟩
  | succ t=>
   rw[show((t+1:Nat):Int) - 1=((t:Nat):Int)by omega]
   have i1:(0:Int)≤((t:Nat):Int):=by omega
   obtain⟨W,hW⟩:∃W,wr=W:=⟨_,rfl⟩
   rw[hW]at HP HW ⊢
   clear hW
   obtain⟨b0,b1,hn9,h0,h1⟩:=HP.out
   obtain⟨x,hx⟩:∃x,k / 2 ^ t=x:=⟨_,rfl⟩
   obtain⟨y,hy⟩:∃y,x % 2=y:=⟨_,rfl⟩
   have hxx:k / 2 ^ (t+1)=x / 2:=by rw[←hx,Nat.div_div_eq_div_mul,Nat.pow_succ]
   have hx6:x<65536:=by rw[←hx];exact Nat.lt_of_le_of_lt (Nat.div_le_self _ _) HK.out
   rw[hxx]at h0 h1
   obtain⟨q2,hq2⟩:∃q2,(if y=0 then b0 else b1)=q2:=⟨_,rfl⟩
   have cq:W.cell? ⟨q,1+y,none⟩=some (.pointer (some ⟨q2,0,none⟩)):=by
    rw[block_cell hn9,←hq2]
    by_cases hy0:y=0
    ·rw[if_pos hy0,hy0];rfl
    ·rw[if_neg hy0,show y=1 by omega];rfl
   have HP2:Hid (PlaceIs els d (l+t) (k / 2 ^ t) q2 W):=Lib.hid (by
    rw[hx,←hq2]
    by_cases hy0:y=0
    ·rw[if_pos hy0,show x=2 * (x / 2)by omega];exact h0
    ·rw[if_neg hy0,show x=2 * (x / 2)+1 by omega];exact h1)
   have s1:min t 64=t:=by omega
   have s2:((k:Nat):Int) / 2 ^ t=((x:Nat):Int):=by rw[pow_cast,←hx];rfl
   have s3:bits .and .u64 ((x:Nat):Int) 1=((y:Nat):Int):=by
    rw[show(1:Int)=((1:Nat):Int)from rfl,u64_and_nat _ _ (by omega) (by omega),Nat.and_one_is_mod,hy]
   have s4:¬(2:Int)≤((y:Nat):Int):=by omega
   have s5:¬((t:Nat):Int)<0:=by omega
   clear hx hy hxx hx6 hn9 h0 h1 hq2
   go_upto_region 7 with fail
   refine wp_region_tail 9 1000 (none) (phis (List.map qv [.pointer (some ⟨q,0,none⟩),.int .u64 (k:Nat),.int .i64 (t:Nat),.int .u64 (x:Nat),.int .u64 (y:Nat),.pointer (some ⟨q,0,none⟩),.pointer (some ⟨q,1,none⟩),.pointer (some ⟨q,1+y,none⟩),.pointer (some ⟨q2,0,none⟩)])) rfl (by kernel_rfl) (by kernel_rfl) (mono_of mono_qv) (steps_of 9 ⟨?s0,?s1,?s2,?s3,?s4,?s5,?s6,?s7,?s8,trivial⟩) ?_
   case s0=>
    refine qV (λ _=>rfl) rfl λ av wv hE hO hD=>?_
    simp[go_sem,qF av 8 (.pointer (some ⟨q,0,none⟩)) (hO.2.2 8 rfl),s1,s2,s3,s4,s5]
   case s1=>
    refine qV (λ _=>rfl) rfl λ av wv hE hO hD=>?_
    simp[go_sem,qF av 2 (.int .u64 (k:Nat)) (hO.2.2 2 rfl),s1,s2,s3,s4,s5]
   case s2=>
    refine qV (λ _=>rfl) rfl λ av wv hE hO hD=>?_
    simp[go_sem,qF av 9 (.int .i64 (t:Nat)) (hO.2.2 9 rfl),s1,s2,s3,s4,s5]
   case s3=>
    refine qV (λ _=>rfl) rfl λ av wv hE hO hD=>?_
    simp[go_sem,qE (hD.1 rfl _ rfl),qE (hD.2.1 rfl _ rfl),s1,s2,s3,s4,s5]
   case s4=>
    refine qV (λ _=>rfl) rfl λ av wv hE hO hD=>?_
    simp[go_sem,qE (hD.1 rfl _ rfl),s1,s2,s3,s4,s5]
   case s5=>
    refine qV (λ _=>rfl) rfl λ av wv hE hO hD=>?_
    simp[go_sem,qE (hD.1 rfl _ rfl),s1,s2,s3,s4,s5]
   case s6=>
    refine qV (λ _=>rfl) rfl λ av wv hE hO hD=>?_
    simp[go_sem,qE (hD.1 rfl _ rfl),s1,s2,s3,s4,s5]
   case s7=>
    refine qV (λ _=>rfl) rfl λ av wv hE hO hD=>?_
    simp[go_sem,qE (hD.1 rfl _ rfl),qE (hD.2.1 rfl _ rfl),s1,s2,s3,s4,s5]
   case s8=>
    refine qV (λ _=>rfl) rfl λ av wv hE hO hD=>?_
    simp[go_sem,qE (hD.1 rfl _ rfl),extB_cell hE (by simp) cq,s1,s2,s3,s4,s5]
   intro a' w' hE hO hall
   have hA:=act_of_outer (ds:=[50,51,52,53,54,55,56,57,58]) rfl hO (by kernel_rfl)
   obtain⟨j0,j1,j2,j3,j4,j5,j6,j7,j8,-⟩:=hall
   simp only[List.foldl_cons,List.foldl_nil,Act.put,List.setIfInBounds_toArray,List.set_cons_succ,List.set_cons_zero,qJ 50 (j0 _ rfl),qJ 51 (j1 _ rfl),qJ 52 (j2 _ rfl),qJ 53 (j3 _ rfl),qJ 54 (j4 _ rfl),qJ 55 (j5 _ rfl),qJ 56 (j6 _ rfl),qJ 57 (j7 _ rfl),qJ 58 (j8 _ rfl)]at hA
   clear hO j0 j1 j2 j3 j4 j5 j6 j7 j8
   subst hA
   have HW2:Hid (Below w.heap.size w w'):=Lib.hid (bnext HW.out (of_drew hE));have HP3:Hid (PlaceIs els d (l+t) (k / 2 ^ t) q2 w'):=Lib.hid (HP2.out.below (of_drew hE));have a6:IntKind.i64.wrap (((t:Nat):Int) - 1)=((t:Nat):Int) - 1:=IntWalk.i64_in _ (by omega);clear hE cq s1 s2 s3 s4 s5
   go_wp2
   go_roundg t
   case rel=>exact⟨t,q2,rfl,rfl,rfl,by omega,HP3,HW2⟩
   case measure=>have:=HGT.out;omega
end Go.Proofs.YtpobhbdomldecaaGreatDoor
namespace Go.Proofs.YtpobhbdomldecaaGreatDoor
open Go.RowKit Go.ChangeMaps
set_option linter.unusedSimpArgs false
set_option linter.unusedVariables false
attribute [local go_sem] Oper.semAt_some
theorem info_str:(Tryz.prog.info? 9).map (λ i=>(i.zero,i.size,i.bytes))=some (some (.string ⟨#[]⟩),1,16):=by kernel_rfl
def ProofIs(l:List ByteArray)(er:Int)(w:World)(e:Ending)(w':World):Prop:=∃v,e=.returned (.tuple #[v,.int .i64 er])∧w'.ownsRow w.heap.size 9 1 v (len l) (l.map Value.string)∧Below w.heap.size w w'
theorem exists_sub{α:Type}(P:α→Prop):∀(l:List α),(∀x ∈ l,P x)→∃L:List { x // P x },L.map Subtype.val=l
 | [],_=>⟨[],rfl⟩
 | x :: l,h=>by
  obtain⟨L,hL⟩:=exists_sub P l (λ y hy=>h y (List.mem_cons_of_mem _ hy))
  exact⟨⟨x,h x List.mem_cons_self⟩ :: L,by rw[List.map_cons,hL]⟩
abbrev PlX(d:Nat):={ x:Int × Int // ∃i k:Nat,x=((i:Int),(k:Int))∧i<d∧k<2 ^ (d - i) }
theorem kpo_append{o base k:Nat}{W w4:World}{tmp:Obj}{v v':Value}{xs:List Value}(hrow:W.ownsRow base 9 1 v k xs)(hg:(W.alloc tmp).grownBy w4 v.ownBlock):KpO o W (w4.setCell ⟨o,0,none⟩ v'):=by
 have hs:=hg.size
 refine⟨by simp at hs;simp[World.setCell];omega,λ b cs t fr hb ht hc=>?_⟩
 have hlt:=lt_of_block hc
 refine(Below.heap_setCell _ _ _ _ (λ e=>hb e)).trans ?_
 refine(hg.block b (by simp;omega) (λ e=>?_)).trans (block_alloc hc _)
 rcases hrow.2 with⟨rfl,_⟩ | ⟨g,cap,cur,rfl,_,hgb,_⟩
 ·simp[Value.ownBlock]at e
 ·simp[Value.ownBlock]at e
  subst e
  rw[hgb]at hc
  cases hc
  exact ht rfl
set_option maxRecDepth 100000 in
set_option maxHeartbeats 4000000 in
theorem prove_ok(els:List ByteArray)(b:Nat)(l:List Int)(a:Option Addr)(cap:Nat)(w:World)(ht:TreeAt els b w)(hn:len els≤65536)(h:U64s w a l)(hl:len l≤12)(hu:∀k ∈ l,U64 k)(hb:MayOk (len els:Nat) l):
  Calls Tryz.prog 46 #[.pointer (some ⟨b,0,none⟩),.slice a (len l) cap] w (ProofIs (dgsL els (plcL (len els:Nat) l)) 0 w):=by
 have HT:=Lib.hid ht;have HN:=Lib.hid hn;have HM:=Lib.hid (mmay_any (len els:Nat) l a cap w h (by omega) (by omega) (by omega))
 rw[decide_eq_true hb]at HM
 have HLN:=Lib.hid (tlen_any els b w ht);have H:=Lib.hid h;have HU:=Lib.hid hu
 obtain⟨d,hd⟩:∃d,depN els=d:=⟨_,rfl⟩
 have HDD:=Lib.hid hd;have HD16:Hid (d≤16):=Lib.hid (by rw[←hd];exact depN_le hn);have HPL:Hid (plcL (len els:Nat) l=flatLv (needsL (leavesL l d) d)):=Lib.hid (by unfold plcL;rw[depthZ_len hn,hd]);clear ht hn h hu hb hd
 obtain⟨i0,hi,hz0,hz1,hz2⟩:=info_parts info_str
 have HZ:=Lib.hid hz0;clear hz0
 refine(callsIn_wide (n:=9)).1 ?_
 refine callsIn_of_wp_marks Tryz.func46 rfl trivial ?_ rfl
 simp only[Tryz.ntmps46,List.size_toArray,List.length_cons,List.length_nil,Nat.reduceAdd,Nat.reduceSub,Array.replicate_succ,Array.replicate_zero,List.push_toArray,List.append_toArray,List.nil_append,List.cons_append]
 gi_wp2_with fail
 refine⟨trivial,(callsIn_wide.2 HLN.out).mono ?_⟩
 rintro e w1 ⟨rfl,rfl⟩
 gi_wp2_with fail
 refine⟨trivial,(callsIn_wide.2 HM.out).mono ?_⟩
 rintro e w1 ⟨rfl,hb1⟩
 have HB1:=Lib.hid hb1;have HT1:=Lib.hid (HT.out.below hb1);clear hb1 HM HLN
 obtain⟨ab,hab⟩:∃ab,w1.heap.size=ab:=⟨_,rfl⟩
 gi_wp2_with fail
 obtain⟨o,ho⟩:∃o,ab+1=o:=⟨_,rfl⟩
 rw[ho]
 obtain⟨V,hV⟩:∃V,((w1.alloc (.cells #[.func (.func 100) #[.pointer (some ⟨b,0,none⟩)] #[]] 128)).alloc (.cells #[.slice none 0 0] 36))=V:=⟨_,rfl⟩
 rw[hV]
 have V1:Hid (V.heap[ab]?=some (.cells #[.func (.func 100) #[.pointer (some ⟨b,0,none⟩)] #[]] 128 (0,0))):=Lib.hid (by rw[←hV];exact block_alloc (alloc_new_at _ hab) _);have V2:Hid (Boxed V o 36 (.slice none 0 0)):=Lib.hid (by rw[←hV];exact alloc_new_at _ (by rw[alloc_size _ rfl];omega));have VB:Hid (Below w.heap.size w V):=Lib.hid (by rw[←hV];exact balloc (balloc HB1.out _) _);have VS:Hid (w.heap.size≤ab∧ab<o):=Lib.hid ⟨by rw[←hab];exact HB1.out.size,by omega⟩;have HDP:=Lib.hid (tdepth_any els b V (HT.out.below VB.out))
 rw[HDD.out]at HDP
 clear hV hab ho HT1
 refine⟨trivial,(callsIn_wide.2 HDP.out).mono ?_⟩
 rintro e w2 ⟨rfl,rfl⟩
 gi_wp2_with fail
 refine⟨trivial,(callsIn_wide.2 (places_any a cap (len l) (d:Nat) _)).mono ?_⟩
 rintro e w3 ⟨rfl,hw3⟩
 obtain⟨s1,hs1⟩:∃s1,V.heap.size=s1:=⟨_,rfl⟩
 rw[hs1]
 have Z1:Hid (w3.heap[ab]?=some (.cells #[.func (.func 100) #[.pointer (some ⟨b,0,none⟩)] #[]] 128 (0,0))):=Lib.hid (by rw[hw3];exact block_alloc (block_alloc V1.out _) _);have Z0:Hid (Boxed w3 o 36 (.slice none 0 0)):=Lib.hid (by rw[hw3];exact block_alloc (block_alloc V2.out _) _);have Z2:Hid (w3.heap[s1]?=some (.cells #[.int .i64 (d:Nat)] 3 (0,0))):=Lib.hid (by rw[hw3];exact block_alloc (alloc_new_at _ hs1) _);have Z3:Hid (w3.heap[s1+1]?=some (.cells #[.slice a (len l) cap] 64 (0,0))):=Lib.hid (by rw[hw3];exact alloc_new_at _ (by rw[alloc_size _ rfl,hs1]));have ZB:Hid (Below w.heap.size w w3):=Lib.hid (by rw[hw3];exact balloc (balloc VB.out _) _);have ZS:Hid (o<w3.heap.size):=Lib.hid (Z0.out.lt);clear hw3 hs1 V1 V2 HDP
 obtain⟨L,hL⟩:∃L:List (PlX d),L.map Subtype.val=flatLv (needsL (leavesL l d) d):=exists_sub _ _ (plc_bd HD16.out (leaves_in HD16.out))
 have HLL:=Lib.hid hL;have HLB:Hid (L.length≤1600):=Lib.hid (by
  have h1:=flat_bd (leavesL l d) d (by rw[leavesL_len];omega)
  rw[←hL,List.length_map]at h1
  exact h1)
 gi_wp2_with fail
 refine wpIn_rangeFunc_ownF rfl (by omega) (gf:=163) (lb:=#[.pointer (some ⟨s1+1,0,none⟩),.pointer (some ⟨s1,0,none⟩)]) rfl trivial (enters_of Tryz.func163 (by kernel_rfl) rfl)
  (places_seq (Subtype.val:PlX d→Int × Int) L 8 (by omega) o (s1+1) s1 a cap l d w3 (by rw[block_cell Z3.out];rfl) (by rw[block_cell Z2.out];rfl) (H.out.below ZB.out) hl HD16.out HU.out ZS.out hL)
  KpO.trans (λ W l9 x x' _ hl hx _=>KpO.putObj o W l9 x x' hl hx) (Below.refl _ _) (λ _=>rfl)
  (λ pre W=>(∃v,Boxed W o 36 v∧W.ownsRow w.heap.size 9 1 v (len (dgsL els (pre.map Subtype.val))) ((dgsL els (pre.map Subtype.val)).map Value.string)∧True)∧W.heap[ab]?=some (.cells #[.func (.func 100) #[.pointer (some ⟨b,0,none⟩)] #[]] 128 (0,0))∧Below w.heap.size w W) (λ _ _ _=>False)
  (OwnFrom.and (Own.from (holdsRow_own w.heap.size o 36 9 1 (λ pre:List (PlX d)=>len (dgsL els (pre.map Subtype.val))) (λ pre=>(dgsL els (pre.map Subtype.val)).map Value.string) (λ _ _=>True)) _) (OwnFrom.and (own_one _ ab 128 (λ _:List (PlX d)=>.func (.func 100) #[.pointer (some ⟨b,0,none⟩)] #[])) (ownFrom_below (Nat.le_refl _) ZB.out.size))) (λ _ _ _ _ _ h _ _=>h)
  ⟨⟨_,Z0.out,World.ownsRow_nil _ _ _ _,trivial⟩,Z1.out,ZB.out⟩ ?a1 ?assign ?body ?done ?stop
 case assign=>
  intro l9 x W K hK
  gi_wp2
  exact hK
 case body=>
  rintro l9 pre ⟨x,i,k,rfl,hi9,hk9⟩ W ⟨⟨v,hv,hrow,-⟩,hO,hB⟩ hlt
  have ca:W.cell? ⟨ab,0,none⟩=some (.func (.func 100) #[.pointer (some ⟨b,0,none⟩)] #[]):=by rw[block_cell hO];rfl
  have HV:=Lib.hid hv;have HRW:=Lib.hid hrow;have HO:=Lib.hid hO;have HB:=Lib.hid hB;have HAT:=Lib.hid (tat_any els b i k W (HT.out.below hB) HN.out (by rw[HDD.out];omega) (by rw[HDD.out];exact hk9))
  rw[HDD.out]at HAT
  have HPB:Hid (len (dgsL els (pre.map Subtype.val))≤1600):=Lib.hid (by unfold dgsL;rw[len_eq,List.length_map,List.length_map];have:=HLB.out;omega);have HSN:Hid (dgsL els ((pre++[(⟨((i:Int),(k:Int)),i,k,rfl,hi9,hk9⟩:PlX d)]).map Subtype.val)=dgsL els (pre.map Subtype.val)++[plD els d i k]):=Lib.hid (by
   rw[List.map_append]
   show dgsL els (pre.map Subtype.val++[((i:Int),(k:Int))])=_
   rw[dgsL_snoc,HDD.out]
   simp)
  obtain⟨P9,hP9⟩:∃P9,dgsL els (pre.map Subtype.val)=P9:=⟨_,rfl⟩
  rw[hP9]at HRW HPB HSN
  obtain⟨X9,hX9⟩:∃X9,plD els d i k=X9:=⟨_,rfl⟩
  rw[hX9]at HAT HSN
  clear hv hrow hO hB hlt hP9 hX9
  dsimp only
  gi_wp2_with fail
  refine⟨trivial,(CallsIn.inRound l9 (callsIn_wide.2 HAT.out)).mono ?_⟩
  rintro e W2 ⟨rfl,hb2⟩
  have HV2:Hid (Boxed W2 o 36 v):=Lib.hid ((hb2.block _ HV.out.lt).trans HV.out);have HR2:Hid (W2.ownsRow w.heap.size 9 1 v (len P9) (P9.map Value.string)):=Lib.hid (own_below HRW.out hb2);have HO2:Hid (W2.heap[ab]?=some (.cells #[.func (.func 100) #[.pointer (some ⟨b,0,none⟩)] #[]] 128 (0,0))):=Lib.hid ((hb2.block _ (lt_of_block HO.out)).trans HO.out);have HB2:Hid (Below w.heap.size w W2):=Lib.hid (bnext HB.out hb2);have HWW:=Lib.hid hb2;have hc:=HV2.out.cell;have hpb:=HPB.out;clear hb2 ca HAT
  gi_wp2_with (gi_at_builtin;refine wpListIn_append_own _ rfl _ _ 36 rfl w.heap.size 9 i0 (.string ⟨#[]⟩) 1 16 Tryz.underlying36 hi HZ.out hz1 hz2 rfl (by decide) _ _ _ rfl (HR2.out.alloc _) ⟨W2.heap.size,0,none⟩ 1 1 [.string X9] rfl rfl (World.news_of_block (heap_alloc_new _ _)) (by intro u hu9;simp at hu9;subst hu9;rfl) (by unfold maxLen;omega) (by omega) (by have:=HB2.out.size;simp;omega) ?_;intro v' w4 hown' hgrow _;obtain⟨g',cap',rfl⟩:=ownsRow_succ hown';obtain⟨hv1,hv2,hr2,hk2,hb3⟩:=HV2.out.appended (by decide) HR2.out HB2.out.size (by have:=VS.out;omega) hown' hgrow;have hc1:=hv1.cell;have hf1:=hv1.frozen;have HQ1:=Lib.hid hv2;have HQ2:=Lib.hid hr2;have HQ3:=Lib.hid hk2;have HQ4:=Lib.hid hb3;have HQ5:=Lib.hid (kpo_append (o:=o) (v':=.slice (some ⟨g',0,none⟩) (len P9+1) cap') HR2.out hgrow);clear hv2 hr2 hk2 hb3 hown' hgrow)
  have HKO:Hid (KeepsOthers W W2):=Lib.hid (KeepsOthers.of_grownBy (below_grown HWW.out) (λ j o h=>by cases h));have HKP:Hid (KpO o W W2):=Lib.hid ⟨HWW.out.size,λ b9 cs t fr _ _ hc9=>(HWW.out.block _ (lt_of_block hc9)).trans hc9⟩
  refine⟨HKO.out.trans HQ3.out,HKP.out.trans HQ5.out,⟨_,HQ1.out,?_,trivial⟩,?_,HB2.out.trans HQ4.out⟩
  ·have e9:len (P9++[X9])=len P9+1:=by rw[len_eq,List.length_append];rfl
   rw[HSN.out,List.map_append,e9]
   exact HQ2.out
  ·exact HQ5.out.same _ _ _ _ (by have:=VS.out;omega) (by decide) HO2.out
 case done=>
  rintro D ys W hD rfl ⟨⟨v,hv,hrow,-⟩,hO,hB⟩ hK
  have hc:=hv.cell
  rw[HLL.out]at hrow
  have HR:=Lib.hid (ownsRow_putObj hrow (.deferred none) hK rfl);have HB:Hid (Below w.heap.size w (W.putObj D (.deferred none))):=Lib.hid (hB.trans (belowK_b (w:=w) (Nat.le_refl _) W D _ _ (Nat.le_trans ZB.out.size hD) hK rfl rfl));have HK:=Lib.hid hK;clear hO hB hrow
  gi_wp2
  refine⟨by simp,.inl ⟨_,_,rfl,run_takeDeferred HK.out,?_⟩⟩
  refine⟨_,results_tmp2 rfl _ _ _,v,rfl,?_,HB.out⟩
  rw[HPL.out]
  exact HR.out
 case stop=>
  intro D c pre W _ _ h _
  exact h.elim
end Go.Proofs.YtpobhbdomldecaaGreatDoor
namespace Go.Proofs.YtpobhbdomldecaaGreatDoor
open Go.RowKit
set_option linter.unusedSimpArgs false
set_option linter.unusedVariables false
theorem own_txts{w:World}{base n:Nat}{v:Value}{l:List ByteArray}(h:w.ownsRow base 9 1 v n (l.map Value.string)):∃a cap,v=.slice a (len l) cap∧Txts w a l:=by
 have hn:len l=n:=by have:=h.1;rw[len_eq];simpa using this
 rcases h.2 with⟨rfl,h2⟩ | ⟨g,cap,cur,rfl,hg,hh,hc1,hc2,hc3,hc4⟩
 ·obtain rfl:l=[]:=List.eq_nil_of_length_eq_zero (by rw[←len_eq];omega)
  exact⟨none,0,rfl,Txts.nil _ _⟩
 ·refine⟨some ⟨g,0,none⟩,cap,by rw[hn],λ i hi=>⟨g,0,rfl,?_⟩⟩
  have:=h.cellAt i (by omega);have hi2:i<l.length:=hi
  rw[Nat.zero_add,this,List.getElem?_map,List.getElem?_eq_getElem hi2,tth_eq l i hi];rfl
theorem str_beq(a b:ByteArray):(a.toList == b.toList)=decide (a=b):=by
 rw[ByteArray.toList_eq,ByteArray.toList_eq]
 by_cases h:a=b
 ·subst h;simp
 ·rw[decide_eq_false h]
  rw[beq_eq_false_iff_ne]
  intro h2
  exact h (ByteArray.ext (Array.ext' h2))
theorem hash1_any(tag s:ByteArray)(w:World)(h1:1≤tag.size)(h2:tag.size≤16)(hs:s.size≤1000000):Calls Tryz.prog 45 #[.string tag,.slice (some ⟨w.heap.size,0,none⟩) 1 1] (w.alloc (.cells #[.string s] 9)) λ e w'=>e=.returned (.string (hashP tag [s]))∧Below w.heap.size w w':=by
 have hw1:Txts (w.alloc (.cells #[.string s] 9)) (some ⟨w.heap.size,0,none⟩) [s]:=txts_cells (heap_alloc_new _ _) [s] (λ i hi=>by
  have:i=0:=by have:i<1:=hi;omega
  subst this;rfl)
 refine(hash_any tag [s] (some ⟨w.heap.size,0,none⟩) 1 _ h1 h2 hw1 (by show((partL s)++[]).length≤_;rw[List.append_nil,partL_len];omega)).mono ?_
 rintro e w2 ⟨rfl,hb2⟩
 exact⟨rfl,bnext (balloc (Below.refl _ _) _) hb2⟩
theorem hash2_any(tag s t:ByteArray)(w:World)(h1:1≤tag.size)(h2:tag.size≤16)(hs:s.size≤1000000)(ht:t.size≤1000000):Calls Tryz.prog 45 #[.string tag,.slice (some ⟨w.heap.size,0,none⟩) 2 2] (w.alloc (.cells #[.string s,.string t] 9)) λ e w'=>e=.returned (.string (hashP tag [s,t]))∧Below w.heap.size w w':=by
 have hw1:Txts (w.alloc (.cells #[.string s,.string t] 9)) (some ⟨w.heap.size,0,none⟩) [s,t]:=txts_cells (heap_alloc_new _ _) [s,t] (λ i hi=>by
  have:i=0 ∨ i=1:=by have:i<2:=hi;omega
  rcases this with rfl | rfl <;> rfl)
 refine(hash_any tag [s,t] (some ⟨w.heap.size,0,none⟩) 2 _ h1 h2 hw1 (by show((partL s)++((partL t)++[])).length≤_;rw[List.append_nil,List.length_append,partL_len,partL_len];omega)).mono ?_
 rintro e w2 ⟨rfl,hb2⟩
 exact⟨rfl,bnext (balloc (Below.refl _ _) _) hb2⟩
theorem tth_ext{la lb:List ByteArray}(hl:len la=len lb)(h:∀i,i<len la→tth la i=tth lb i):la=lb:=by
 apply List.ext_getElem hl
 intro i h1 h2
 have:=h i h1
 rwa [tth_eq la i h1,tth_eq lb i h2]at this
end Go.Proofs.YtpobhbdomldecaaGreatDoor
namespace Go.Proofs.YtpobhbdomldecaaGreatDoor
open Go.RowKit
set_option linter.unusedSimpArgs false
set_option linter.unusedVariables false
set_option maxRecDepth 100000 in
set_option maxHeartbeats 4000000 in
theorem pmay_any(n:Int)(l:List Int)(a:Option Addr)(cap:Nat)(w:World)(h:U64s w a l)(hn:len l≤1000000000)(h0:-9223372036854775808≤n)(h1:n≤9223372036854775807):Calls Tryz.prog 166 #[.int .i64 n,.slice a (len l) cap] w λ e w'=>e=.returned (.bool (decide (SizeOk n l)))∧Below w.heap.size w w':=by
 have H:=Lib.hid h;have HN:=Lib.hid hn
 by_cases c1:n<0
 ·have E:Hid (decide (SizeOk n l)=false):=Lib.hid (decide_eq_false (λ h9=>by have:=h9.1;omega))
  clear h hn h0 h1
  go_enter Tryz.func166,Tryz.ntmps166
  go_wp2
  go_ret
  exact⟨by(rw[E.out];try rfl),Below.refl _ _⟩
 ·by_cases c2:65536<n
  ·have E:Hid (decide (SizeOk n l)=false):=Lib.hid (decide_eq_false (λ h9=>by have:=h9.2.1;omega))
   clear h hn h0 h1
   go_enter Tryz.func166,Tryz.ntmps166
   go_wp2
   go_ret
   exact⟨by(rw[E.out];try rfl),Below.refl _ _⟩
  ·by_cases c3:len l=0
   ·have E:Hid (decide (SizeOk n l)=false):=Lib.hid (decide_eq_false (λ h9=>by have:=h9.2.2.1;omega))
    have z1:((len l:Nat):Int)=0:=by omega
    clear h hn h0 h1 c3
    go_enter Tryz.func166,Tryz.ntmps166
    go_wp2
    go_ret
    exact⟨by(rw[E.out];try rfl),Below.refl _ _⟩
   ·have z1:¬((len l:Nat):Int)=0:=by omega
    have n1:IntKind.u64.wrap n=n:=IntWalk.u64_in _ (by omega);have HC:=Lib.hid (And.intro c1 (And.intro c2 c3));clear h hn h0 h1 c3
    go_enter Tryz.func166,Tryz.ntmps166
    go_upto_region 4 with fail
    clear c1 c2 z1
    go_loopg [20] (len l) (λ g i wr=>∃m:Nat,g+m=len l∧i=.int .i64 m∧Hid (MayT n l m)∧Hid (Below w.heap.size w wr))
    case atStart=>exact⟨0,rfl,rfl,Lib.hid (λ i hi=>by omega),Lib.hid (Below.refl _ _)⟩
    case round=>
     obtain⟨m,hm,rfl,HR,HW⟩:=hrel
     have HNN:=HN.out
     by_cases hlt:m<len l
     ·have b0:(m:Int)<len l:=by omega
      obtain⟨b,off,hra,e1⟩:=(H.out.below HW.out) m hlt
      subst hra
      have l1:=lt_of_cell e1
      cases hge:decide (n≤nth l m)with
      | true=>
       have HGE:=Lib.hid hge
       go_wp2
       go_ret
       refine⟨?_,HW.out⟩
       have:¬SizeOk n l:=λ h9=>by
        have h1:=(h9.2.2.2 m hlt).1;have h2:=of_decide_eq_true HGE.out
        omega
       rw[decide_eq_false this];try rfl
      | false=>
       have HGE:=Lib.hid hge
       cases m with
       | zero=>
        have e1:wr.cell? ⟨b,off,none⟩=some (.int .u64 (nth l 0)):=e1;have hge0:decide (n≤nth l 0)=false:=HGE.out
        go_wp2
        go_roundg (len l - 1)
        case rel=>exact⟨1,by omega,by go_num,Lib.hid (HR.out.next (by have:=of_decide_eq_false HGE.out;omega) (λ h=>by omega)),HW⟩
        case measure=>omega
       | succ n3=>
        obtain⟨b6,off6,hpa6,e2⟩:=(H.out.below HW.out) n3 (by omega)
        cases hpa6
        cases hris:decide (nth l (n3+1)≤nth l n3)with
        | true=>
         have HRIS:=Lib.hid hris;have i1:IntKind.i64.wrap (n3:Int)=n3:=(IntWalk.i64_in _ (by omega));have i2:0≤(n3:Int)+1:=(by omega);have i3:((n3:Int)+1).toNat=n3+1:=(by omega)
         go_wp2
         clear i1 i2 i3
         go_ret
         refine⟨?_,HW.out⟩
         have:¬SizeOk n l:=λ h9=>by
          have h1:=(h9.2.2.2 (n3+1) hlt).2 (by omega);have h2:=of_decide_eq_true HRIS.out
          rw[Nat.add_sub_cancel]at h1
          omega
         rw[decide_eq_false this];try rfl
        | false=>
         have HRIS:=Lib.hid hris;have i1:IntKind.i64.wrap (n3:Int)=n3:=(IntWalk.i64_in _ (by omega));have i2:0≤(n3:Int)+1:=(by omega);have i3:((n3:Int)+1).toNat=n3+1:=(by omega)
         go_wp2
         clear i1 i2 i3
         go_roundg (len l - (n3+1+1))
         case rel=>exact⟨n3+1+1,by omega,by go_num,Lib.hid (HR.out.next (by have:=of_decide_eq_false HGE.out;omega) (λ _=>by
          have h2:=of_decide_eq_false HRIS.out
          rw[Nat.add_sub_cancel]
          omega)),HW⟩
         case measure=>omega
     ·obtain rfl:m=len l:=by omega
      have b0:¬((len l:Nat):Int)<len l:=by omega
      have E:Hid (decide (SizeOk n l)=true):=Lib.hid (decide_eq_true ⟨by have:=HC.out.1;omega,by have:=HC.out.2.1;omega,by have:=HC.out.2.2;omega,HR.out⟩)
      go_wp2
      go_ret
      exact⟨by(rw[E.out];try rfl),HW.out⟩
def badB(ds:List ByteArray):Bool:=decide (∃d ∈ ds,d.size≠32)
theorem len32_any(s:ByteArray)(w:World):Calls Tryz.prog 168 #[.string s] w λ e w'=>e=.returned (.bool (!decide ((s.size:Int)=32)))∧w=w':=by
 go_enter Tryz.func168,Tryz.ntmps168
 go_wp2
 go_ret
 exact⟨by first | rfl | simp,rfl⟩
def BadIs(ds:List ByteArray)(w:World)(e:Ending)(w':World):Prop:=∃j:Int,e=.returned (.int .i64 j)∧(0≤j ↔ ∃d ∈ ds,d.size≠32)∧w=w'
set_option maxRecDepth 100000 in
set_option maxHeartbeats 4000000 in
theorem badidx_any(a:Option Addr)(cap:Nat)(ds:List ByteArray)(w:World)(hl:Txts w a ds)(hlen:len ds≤9223372036854775807):
  Calls Tryz.prog 227 #[.slice a (len ds) cap,.func (.func 168) #[] #[]] w (BadIs ds w):=by
 have HL:=Lib.hid hl;clear hl
 go_enter Tryz.func227,Tryz.ntmps227
 go_wp2
 go_loop [8] (λ i=>∃m:Nat,m≤len ds∧i=.int .i64 m∧Hid (∀j,j<m→(tth ds j).size=32)) (λ i=>len ds - (intOf i).toNat)
 case atStart=>exact⟨0,Nat.zero_le _,rfl,λ j hj=>by omega⟩
 case round=>
  obtain⟨m,hm,rfl,hn⟩:=hrel
  by_cases hlt:m<len ds
  ·obtain⟨b,off,rfl,hcell⟩:=HL.out m hlt
   have b0:(m:Int)<len ds:=by omega
   obtain⟨s,hs⟩:∃s,tth ds m=s:=⟨_,rfl⟩
   rw[hs]at hcell
   have HS:=Lib.hid hs;have HM:Hid (s ∈ ds):=Lib.hid (by rw[←hs,tth_eq ds m hlt];exact List.getElem_mem _);clear hs
   go_wp2_with fail
   refine(len32_any s w).mono ?_
   rintro e w' ⟨rfl,rfl⟩
   by_cases hf:s.size=32
   ·have HF:=Lib.hid hf
    rw[decide_eq_true (show((s.size:Nat):Int)=32 by omega)]
    clear hf hcell
    go_wp2
    go_round
    case rel=>exact⟨m+1,by omega,by go_num,λ j hj=>by
     by_cases e:j=m
     ·subst e;rw[HS.out];exact HF.out
     ·exact hn.out j (by omega)⟩
    case measure=>simp[intOf];omega
   ·have HF:=Lib.hid hf
    rw[decide_eq_false (show ¬((s.size:Nat):Int)=32 by omega)]
    clear hf hcell
    go_wp2
    go_ret
    exact⟨m,rfl,⟨λ _=>⟨s,HM.out,HF.out⟩,λ _=>by omega⟩,rfl⟩
  ·obtain rfl:m=len ds:=by omega
   go_wp2
   go_ret
   refine⟨-1,rfl,⟨λ h=>by omega,fun ⟨k,hk,hf⟩=>?_⟩,rfl⟩
   obtain⟨j,hj,rfl⟩:=List.getElem_of_mem hk
   have h1:=hn.out j hj
   rw[tth_eq ds j hj]at h1
   exact absurd h1 hf
theorem bad_any(a:Option Addr)(cap:Nat)(ds:List ByteArray)(w:World)(hl:Txts w a ds)(hlen:len ds≤9223372036854775807):
  Calls Tryz.prog 167 #[.slice a (len ds) cap,.func (.func 168) #[] #[]] w λ e w'=>e=.returned (.bool (badB ds))∧w=w':=by
 have HL:=Lib.hid hl;clear hl
 go_enter Tryz.func167,Tryz.ntmps167
 go_wp2_with fail
 refine(badidx_any a cap ds w HL.out hlen).mono ?_
 rintro e w' ⟨j,rfl,hj,rfl⟩
 have HJ:=Lib.hid hj;clear hj
 by_cases h:0≤j
 ·have E:Hid (badB ds=true):=Lib.hid (decide_eq_true (HJ.out.1 h))
  go_wp2
  go_ret
  exact⟨by(rw[E.out];try rfl),rfl⟩
 ·have E:Hid (badB ds=false):=Lib.hid (decide_eq_false (λ hh=>h (HJ.out.2 hh)))
  go_wp2
  go_ret
  exact⟨ret_bool (by rw[E.out];simp;omega),rfl⟩
end Go.Proofs.YtpobhbdomldecaaGreatDoor
namespace Go.Proofs.YtpobhbdomldecaaGreatDoor
open Go.RowKit
set_option linter.unusedSimpArgs false
set_option linter.unusedVariables false
theorem rowK_mem(ks:List Int)(k:Int):k ∈ rowK ks ↔ (∃j ∈ ks,k=sib j)∧k ∉ ks:=by
 unfold rowK
 rw[srt_mem,needK_mem]
theorem rowK_len(ks:List Int):(rowK ks).length=(needK ks).length:=by
 unfold rowK srt
 exact(List.mergeSort_perm _ _).length_eq
theorem sib_ne(y:Int):sib y≠y:=by unfold sib;split <;> omega
theorem rowK_single(y:Int):(rowK [y]).length=1:=by
 rw[rowK_len]
 unfold needK
 have h:([y].map sib).filter (λ s=>!decide (s ∈ [y]))=[sib y]:=by
  simp[sib_ne y]
 rw[h]
 rfl
theorem rows_get(L:List Int)(d i:Nat)(hi:i<d):rnth (rowsOf L d) i=rowK (insAll (L.map (· / 2 ^ i))):=by
 rw[rnth_eq _ i (by unfold rowsOf;simpa using hi)]
 unfold rowsOf
 simp only[List.getElem_map,List.getElem_range]
theorem rows_len(L:List Int)(d:Nat):(rowsOf L d).length=d:=by unfold rowsOf;simp
theorem needs_rows{l:List Int}{d:Nat}(hd:d≤16)(h0:0<len l):needsL (leavesL l (d:Nat)) (d:Nat)=rowsOf (leavesL l (d:Nat)) d:=by
 unfold needsL
 rw[Int.toNat_natCast,if_pos]
 refine⟨by omega,by omega,by rw[leavesL_len];exact h0,?_⟩
 unfold farB
 rw[decide_eq_false]
 rintro⟨k,hk,h9⟩
 have:=(leaves_in hd k hk).2
 omega
theorem flat_len1:∀(s:Nat) (c:List (List Int)),(∀i,i<c.length→(rnth c i).length=1)→(flatFrom s c).length=c.length
 | _,[],_=>rfl
 | s,z :: c,h=>by
  have h1:=flat_len1 (s+1) c (λ i hi=>by
   have:=h (i+1) (by simp;omega)
   simpa [rnth] using this)
  have h2:=h 0 (by simp)
  simp only[rnth,List.getD_cons_zero]at h2
  simp only[flatFrom,List.length_append,List.length_map,List.length_cons]
  omega
theorem plcL_rows{n:Int}{l:List Int}{d:Nat}(hd:depthZ n=(d:Nat))(hd16:d≤16)(h0:0<len l):plcL n l=flatLv (rowsOf (leavesL l (d:Nat)) d):=by
 unfold plcL
 rw[hd,needs_rows hd16 h0]
theorem plc_one{n:Int}{d:Nat}{x:Int}(hd:depthZ n=(d:Nat))(hd16:d≤16):(plcL n [x]).length=d:=by
 rw[plcL_rows (l:=[x]) hd hd16 (show 0<len [x]from Nat.zero_lt_one)]
 have h:=flat_len1 0 (rowsOf (leavesL [x] (d:Nat)) d) (λ i hi=>by
  rw[rows_len]at hi
  rw[rows_get _ _ _ hi]
  exact rowK_single _)
 rw[rows_len]at h
 exact h
theorem dgs_len(els:List ByteArray)(L:List (Int × Int)):len (dgsL els L)=L.length:=by unfold dgsL;rw[len_eq,List.length_map]
end Go.Proofs.YtpobhbdomldecaaGreatDoor
namespace Go.Proofs.YtpobhbdomldecaaGreatDoor
open Go.RowKit
set_option linter.unusedSimpArgs false
set_option linter.unusedVariables false
theorem overF_some(g:KnF)(p:Int):(overF g p).isSome ↔ (g (2 * p)).isSome ∨ (g (2 * p+1)).isSome:=by
 unfold overF
 by_cases e:(g (2 * p)).isSome ∨ (g (2 * p+1)).isSome
 ·rw[if_pos e];simp[e]
 ·rw[if_neg e];simp only[e];simp
def SmF(g:KnF):Prop:=∀k d,g k=some d→d.size≤1000
theorem SmF.no:SmF noF:=λ k d h=>by cases h
theorem SmF.put{g:KnF}(h:SmF g)(k:Int)(d:ByteArray)(hd:d.size≤1000):SmF (putF g k d):=λ j x hx=>by
 by_cases e:j=k
 ·subst e;rw[putF_same]at hx;cases hx;exact hd
 ·rw[putF_other g d e]at hx;exact h j x hx
theorem SmF.over(g:KnF):SmF (overF g):=λ k d hx=>by
 by_cases e:(g (2 * k)).isSome ∨ (g (2 * k+1)).isSome
 ·have:overF g k=some (hashP nodeT [kidF g (2 * k),kidF g (2 * k+1)]):=over_some e
  rw[this]at hx;cases hx
  rw[hashP_size];omega
 ·exact absurd ((overF_some g k).1 (by rw[hx];rfl)) e
def leafD(es:List ByteArray):List ByteArray:=es.map λ s=>hashP leafT [s]
theorem leafD_at(es:List ByteArray)(i:Nat)(h:i<len es):tth (leafD es) i=hashP leafT [tth es i]:=by
 have h2:i<es.length:=h
 rw[tth_eq es i h]
 unfold tth leafD
 rw[List.getD_eq_getElem?_getD,List.getElem?_map,List.getElem?_eq_getElem h2]
 rfl
def g0F(lv:List Int)(es:List ByteArray):KnF:=addF noF lv (leafD es)
theorem rowsOf_at(lv:List Int)(d i:Nat)(h:i<d):rnth (rowsOf lv d) i=rowK (insAll (lv.map (· / 2 ^ i))):=by
 rw[rnth_eq _ i (by unfold rowsOf;simpa using h)]
 unfold rowsOf
 simp
theorem rowsOf_len(lv:List Int)(d:Nat):len (rowsOf lv d)=d:=by unfold rowsOf;rw[len_eq];simp
theorem row_mem(lv:List Int)(d i:Nat)(h:i<d)(k:Int):k ∈ rnth (rowsOf lv d) i ↔ (∃y ∈ lv,k=sib (y / 2 ^ i))∧¬∃y ∈ lv,k=y / 2 ^ i:=by
 rw[rowsOf_at lv d i h,rowK_mem]
 have e:∀j,j ∈ insAll (lv.map (· / 2 ^ i)) ↔ ∃y ∈ lv,j=y / 2 ^ i:=λ j=>by
  rw[(insAll_all _).2.1,List.mem_map]
  constructor
  ·rintro⟨y,h1,rfl⟩;exact⟨y,h1,rfl⟩
  ·rintro⟨y,h1,rfl⟩;exact⟨y,h1,rfl⟩
 rw[e]
 constructor
 ·rintro⟨⟨j,hj,rfl⟩,h2⟩
  obtain⟨y,hy,rfl⟩:=(e j).1 hj
  exact⟨⟨y,hy,rfl⟩,h2⟩
 ·rintro⟨⟨y,hy,rfl⟩,h2⟩
  exact⟨⟨_,(e _).2 ⟨y,hy,rfl⟩,rfl⟩,h2⟩
theorem turnedP_rev{k:Int}{d n:Nat}(hd:d≤16)(h0:0≤k)(hk:k<n)(hn:n≤2 ^ d):turnedZ k d=((revOf k.toNat d:Nat):Int):=by
 unfold turnedZ
 rw[if_pos ⟨by omega,by omega,by rw[Int.toNat_natCast,pow_cast];omega⟩,Int.toNat_natCast]
theorem needsP_rows{ps:List Int}{d n:Nat}(hd:d≤16)(h:MayOk n ps):needsL (leavesL ps (d:Nat)) (d:Nat)=rowsOf (leavesL ps (d:Nat)) d:=needs_rows hd h.1
def rowsP(n:Int)(ps:List Int):List (List Int):=needsL (leavesL ps (depthZ n)) (depthZ n)
def neededP(n:Int)(ps:List Int):Nat:=usedR (rowsP n ps) (len (rowsP n ps))
def digP(n:Int)(ps:List Int)(es ds:List ByteArray):ByteArray:=kidF (rootG (g0F (leavesL ps (depthZ n)) es) (rowsP n ps) ds) 0
def ArgOk(n:Int)(ps:List Int)(es:List ByteArray):Prop:=SizeOk n ps∧len es=len ps
instance (n:Int) (ps:List Int) (es:List ByteArray):Decidable (ArgOk n ps es):=by unfold ArgOk;exact inferInstance
def rootE(n:Int)(ps:List Int)(es ds:List ByteArray):Int:=
 if ¬ArgOk n ps es then 2 else if badB ds=true then 5 else if len ds<neededP n ps then 4 else if neededP n ps<len ds then 3 else 0
def rootS(n:Int)(ps:List Int)(es ds:List ByteArray):ByteArray:=if rootE n ps es ds=0 then digP n ps es ds else⟨#[]⟩
def RootIs(n:Int)(ps:List Int)(es ds:List ByteArray)(w:World)(e:Ending)(w':World):Prop:=e=.returned (.tuple #[.string (rootS n ps es ds),.int .i64 (rootE n ps es ds)])∧Below w.heap.size w w'
end Go.Proofs.YtpobhbdomldecaaGreatDoor
namespace Go.Proofs.YtpobhbdomldecaaGreatDoor
open Go.RowKit Go.ChangeMaps
set_option linter.unusedSimpArgs false
set_option linter.unusedVariables false
theorem flat_row_len(rs:List (List Int))(i:Nat)(hi:i<len rs):(flatAt rs (i+1) 0).length=(flatAt rs i 0).length+len (rnth rs i):=by
 rw[←flatAt_row rs i hi]
 unfold flatAt
 rw[take_len,List.take_zero,List.map_nil,List.append_nil,List.length_append,List.length_map]
 rfl
end Go.Proofs.YtpobhbdomldecaaGreatDoor
namespace Go.Proofs.YtpobhbdomldecaaGreatDoor
open Go.RowKit
set_option linter.unusedSimpArgs false
set_option linter.unusedVariables false
def AtK(lv:List Int)(i:Nat)(k:Int):Prop:=∃y ∈ lv,k=y / 2 ^ i
instance (lv:List Int) (i:Nat) (k:Int):Decidable (AtK lv i k):=by unfold AtK;exact List.decidableBEx _ _
def trF(els:List ByteArray)(d:Nat)(lv:List Int)(i:Nat):KnF:=λ k=>if AtK lv i k then some (plD els d i k.toNat)else none
theorem trF_in{els:List ByteArray}{d:Nat}{lv:List Int}{i:Nat}{k:Int}(h:AtK lv i k):trF els d lv i k=some (plD els d i k.toNat):=by unfold trF;rw[if_pos h]
theorem trF_out{els:List ByteArray}{d:Nat}{lv:List Int}{i:Nat}{k:Int}(h:¬AtK lv i k):trF els d lv i k=none:=by unfold trF;rw[if_neg h]
theorem atK_half{lv:List Int}{i:Nat}(p:Int):AtK lv (i+1) p ↔ AtK lv i (2 * p) ∨ AtK lv i (2 * p+1):=by
 have half:∀y:Int,y / 2 ^ (i+1)=y / 2 ^ i / 2:=λ y=>by
  rw[Int.pow_succ,Int.ediv_ediv_of_nonneg (Int.le_of_lt (Int.pow_pos (by decide)))]
 constructor
 ·rintro⟨y,hy,rfl⟩
  rw[half]
  by_cases e:y / 2 ^ i % 2=0
  ·exact .inl ⟨y,hy,by omega⟩
  ·exact .inr ⟨y,hy,by omega⟩
 ·rintro(⟨y,hy,e⟩ | ⟨y,hy,e⟩)
  ·exact⟨y,hy,by rw[half];omega⟩
  ·exact⟨y,hy,by rw[half];omega⟩
theorem plD_up(els:List ByteArray)(d i:Nat)(p:Nat):plD els d (i+1) p=hashP nodeT [plD els d i (2 * p),plD els d i (2 * p+1)]:=rfl
theorem row_memK(lv:List Int)(d i:Nat)(h:i<d)(k:Int):k ∈ rnth (rowsOf lv d) i ↔ AtK lv i (sib k)∧¬AtK lv i k:=by
 rw[row_mem lv d i h]
 have ss:∀x,sib (sib x)=x:=λ x=>by unfold sib;split <;> split <;> omega
 constructor
 ·rintro⟨⟨y,hy,rfl⟩,h2⟩
  exact⟨⟨y,hy,by rw[ss]⟩,h2⟩
 ·rintro⟨⟨y,hy,e⟩,h2⟩
  exact⟨⟨y,hy,by rw[←e,ss]⟩,h2⟩
theorem flat_used(rs:List (List Int)):∀i,i≤len rs→(flatAt rs i 0).length=usedR rs i
 | 0,_=>rfl
 | i+1,hi=>by rw[flat_row_len rs i (by omega),flat_used rs i (by omega),usedR_next rs i (by omega)]
theorem flat_used2(rs:List (List Int))(i:Nat)(hi:i<len rs):∀j,j≤len (rnth rs i)→(flatAt rs i j).length=usedR rs i+j
 | 0,_=>flat_used rs i (by omega)
 | j+1,hj=>by rw[flatAt_next rs i j (by omega),List.length_append,flat_used2 rs i hi j (by omega)];rfl
theorem dgs_at(els:List ByteArray)(rs:List (List Int))(i j:Nat)(hi:i<len rs)(hj:j<len (rnth rs i)):tth (dgsL els (flatLv rs)) (usedR rs i+j)=plD els (depN els) i (nth (rnth rs i) j).toNat:=by
 have h:=flat_at rs i j hi hj
 rw[flat_used2 rs i hi j (by omega)]at h
 unfold dgsL tth
 rw[List.getD_eq_getElem?_getD,List.getElem?_map,h]
 simp
theorem dgs_all(els:List ByteArray)(rs:List (List Int)):len (dgsL els (flatLv rs))=usedR rs (len rs):=by
 unfold dgsL
 rw[len_eq,List.length_map,←flatAt_end,flat_used rs (len rs) (Nat.le_refl _)]
end Go.Proofs.YtpobhbdomldecaaGreatDoor
namespace Go.Proofs.YtpobhbdomldecaaGreatDoor
open Go.RowKit
set_option linter.unusedSimpArgs false
set_option linter.unusedVariables false
theorem depZ3:depthZ 3=((2:Nat):Int):=by decide
theorem lv1:leavesL [1] ((2:Nat):Int)=[2]:=by decide
theorem rows3a:rowsP 3 [1]=[[3],[0]]:=by
 unfold rowsP
 rw[depZ3,needs_rows (d:=2) (by decide) (by decide),lv1]
 have e1:rowsOf [2] 2=[rowK (insAll [2]),rowK (insAll [1])]:=by simp[rowsOf,List.range_succ_eq_map]
 rw[e1,row_litE (l:=[3]) (m:=[3]) (by decide) (by decide) (λ k=>Iff.rfl),row_litE (l:=[0]) (m:=[0]) (by decide) (by decide) (λ k=>Iff.rfl)]
theorem bad_no{ds:List ByteArray}(h:∀d ∈ ds,d.size=32):badB ds=false:=decide_eq_false (by rintro⟨d,hd,h9⟩;exact h9 (h d hd))
theorem rootE_ok{n:Int}{ps:List Int}{es ds:List ByteArray}(h1:ArgOk n ps es)(h2:badB ds=false)(h3:len ds=neededP n ps):rootE n ps es ds=0∧rootS n ps es ds=digP n ps es ds:=by
 have h9:rootE n ps es ds=0:=by
  unfold rootE
  rw[if_neg (λ h=>h h1),if_neg (by rw[h2];simp),if_neg (by omega),if_neg (by omega)]
 exact⟨h9,by unfold rootS;rw[if_pos h9]⟩
theorem rootE_short{n:Int}{ps:List Int}{es ds:List ByteArray}(h1:ArgOk n ps es)(h2:badB ds=false)(h3:len ds<neededP n ps):rootE n ps es ds=4:=by
 unfold rootE
 rw[if_neg (λ h=>h h1),if_neg (by rw[h2];simp),if_pos h3]
theorem need3a:neededP 3 [1]=2:=by unfold neededP;rw[rows3a];rfl
end Go.Proofs.YtpobhbdomldecaaGreatDoor
namespace Go.Proofs.YtpobhbdomldecaaGreatDoor
open Go.RowKit
set_option linter.unusedSimpArgs false
set_option linter.unusedVariables false
structure Agree(els own:List ByteArray)(ps:List Int):Prop where
 len_:len own=len els
 off:∀i:Nat,((i:Nat):Int) ∉ ps→tth els i=tth own i
theorem Agree.refl(els:List ByteArray)(ps:List Int):Agree els els ps:=⟨rfl,λ _ _=>rfl⟩
theorem plD_same{els own:List ByteArray}{d:Nat}(hl:len own=len els):∀(i k:Nat),i≤d→k<2 ^ (d - i)→(∀j,j<2 ^ d→j / 2 ^ i=k→tth els (revOf j d)=tth own (revOf j d))→plD els d i k=plD own d i k
 | 0,k,_,hk,h=>by
  have h1:=h k (by simpa using hk) (by simp)
  show(if revOf k d<len els then hashP leafT [tth els (revOf k d)]else hashP noneT [])=(if revOf k d<len own then hashP leafT [tth own (revOf k d)]else hashP noneT [])
  rw[h1,hl]
 | i+1,k,hi,hk,h=>by
  have hp:2 ^ (d - i)=2 * 2 ^ (d - (i+1)):=by rw[show d - i=d - (i+1)+1 by omega,Nat.pow_succ];omega
  have half:∀j,j / 2 ^ (i+1)=j / 2 ^ i / 2:=λ j=>by rw[Nat.pow_succ,Nat.div_div_eq_div_mul]
  rw[plD_up,plD_up,plD_same hl i (2 * k) (by omega) (by omega) (λ j hj e=>h j hj (by rw[half];omega)),plD_same hl i (2 * k+1) (by omega) (by omega) (λ j hj e=>h j hj (by rw[half];omega))]
theorem row_same{els own:List ByteArray}{ps:List Int}{d n i:Nat}{x:Int}(hd:d≤16)(hn:n≤2 ^ d)(hu:∀k ∈ ps,U64 k)(hm:MayOk n ps)(ha:Agree els own ps)(hi:i<d)(hx:x ∈ rnth (rowsOf (leavesL ps (d:Nat)) d) i):plD els d i x.toNat=plD own d i x.toNat:=by
 have h1:=(row_memK _ d i hi x).1 hx
 obtain⟨⟨y,hy,e⟩,_⟩:=(row_mem _ d i hi x).1 hx
 have hb:=leaves_in hd y hy;have h3:=half_bd hb.1 hb.2 (Nat.le_of_lt hi)
 obtain⟨q,hq⟩:∃q,d - i=q+1:=⟨d - i - 1,by omega⟩
 have h4:0≤x∧x<2 ^ (q+1):=by rw[e];rw[hq]at h3;exact sib_bd h3.1 h3.2
 obtain⟨xn,rfl⟩:=Int.eq_ofNat_of_zero_le h4.1
 refine plD_same ha.len_ i xn (by omega) (by rw[hq];have:=h4.2;rw[pow_cast]at this;omega) (λ j hj hjx=>ha.off _ (λ hp=>h1.2 ?_))
 have hk:=hu _ hp
 obtain⟨m,hml,hme⟩:=List.getElem_of_mem hp
 have hr:((revOf j d:Nat):Int)<n:=by
  have:=(hm.2 m hml).1
  rw[nth_eq ps m hml,hme]at this
  exact this
 refine⟨((j:Nat):Int),?_,?_⟩
 ·unfold leavesL
  refine List.mem_map.2 ⟨_,hp,?_⟩
  rw[turnedP_rev hd (Int.natCast_nonneg _) hr hn,Int.toNat_natCast,revOf_revOf hj]
 ·rw[pow_cast,←hjx]
  exact(Int.natCast_ediv j (2 ^ i))
theorem addF_all(g:KnF)(ks:List Int)(ds:List ByteArray)(f:Int→ByteArray):∀m,m≤len ks→(∀j,j<m→tth ds j=f (nth ks j))→∀k,addF g (ks.take m) ds k=if k ∈ ks.take m then some (f k)else g k
 | 0,_,_,k=>by simp[addF]
 | m+1,hm,h,k=>by
  have hm2:m<ks.length:=hm;have hs:ks.take (m+1)=ks.take m++[nth ks m]:=by rw[List.take_succ_eq_append_getElem hm2,nth_eq ks m hm2]
  rw[addF_take g ks ds m hm]
  by_cases e:k=nth ks m
  ·subst e
   rw[putF_same,h m (Nat.lt_succ_self m),hs,if_pos (by simp)]
  ·rw[putF_other _ _ e,addF_all g ks ds f m (by omega) (λ j hj=>h j (by omega)) k,hs]
   by_cases e2:k ∈ ks.take m
   ·rw[if_pos e2,if_pos (by simp[e2])]
   ·rw[if_neg e2,if_neg (by simp[e2,e])]
theorem addF_full(g:KnF)(ks:List Int)(ds:List ByteArray)(f:Int→ByteArray)(h:∀j,j<len ks→tth ds j=f (nth ks j))(k:Int):addF g ks ds k=if k ∈ ks then some (f k)else g k:=by
 have:=addF_all g ks ds f (len ks) (Nat.le_refl _) h k
 rw[take_len]at this
 exact this
theorem root_back{els own es:List ByteArray}{ps:List Int}{d:Nat}(hdd:depN els=d)(hd:d≤16)(hn:len els≤2 ^ d)(hu:∀k ∈ ps,U64 k)(hm:MayOk (len els:Nat) ps)(ha:Agree els own ps)
  (hel:len es=len ps) (hes:∀m,m<len ps→tth es m=tth own (nth ps m).toNat):∀i,i≤d→
  rootT (g0F (leavesL ps (d:Nat)) es) (rowsOf (leavesL ps (d:Nat)) d) (dgsL els (flatLv (rowsOf (leavesL ps (d:Nat)) d))) i=trF own d (leavesL ps (d:Nat)) i
 | 0,_=>by
  funext k
  show g0F (leavesL ps (d:Nat)) es k=_
  unfold g0F
  rw[addF_full noF _ _ (λ k=>plD own d 0 k.toNat) (λ m hm2=>?_) k]
  ·unfold trF noF
   by_cases e:k ∈ leavesL ps (d:Nat)
   ·rw[if_pos e,if_pos ⟨k,e,by simp⟩]
   ·rw[if_neg e,if_neg]
    rintro⟨y,hy,rfl⟩
    exact e (by simpa using hy)
  ·rw[leavesL_len]at hm2
   rw[leafD_at es m (by omega),hes m hm2]
   have h1:=(hm.2 m hm2).1;have h2:=(hu _ (mem_nth hm2)).1;have h3:nth (leavesL ps (d:Nat)) m=turnedZ (nth ps m) (d:Nat):=by
    have h9:m<ps.length:=hm2
    unfold leavesL nth
    simp[h9]
   rw[h3,turnedP_rev hd h2 h1 hn]
   show _=plD own d 0 (((revOf (nth ps m).toNat d:Nat):Int).toNat)
   rw[Int.toNat_natCast]
   show _=(if revOf (revOf (nth ps m).toNat d) d<len own then hashP leafT [tth own (revOf (revOf (nth ps m).toNat d) d)]else hashP noneT [])
   rw[revOf_revOf (show(nth ps m).toNat<2 ^ d by omega),if_pos (by rw[ha.len_];omega)]
 | i+1,hi=>by
  have IH:=root_back hdd hd hn hu hm ha hel hes i (by omega);have hil:i<len (rowsOf (leavesL ps (d:Nat)) d):=by rw[rowsOf_len];omega
  rw[rootT_next _ _ _ i hil,IH]
  have hH:∀k,addF (trF own d (leavesL ps (d:Nat)) i) (rnth (rowsOf (leavesL ps (d:Nat)) d) i) ((dgsL els (flatLv (rowsOf (leavesL ps (d:Nat)) d))).drop (usedR (rowsOf (leavesL ps (d:Nat)) d) i)) k=if AtK (leavesL ps (d:Nat)) i k ∨ k ∈ rnth (rowsOf (leavesL ps (d:Nat)) d) i then some (plD own d i k.toNat)else none:=λ k=>by
   rw[addF_full _ _ _ (λ k=>plD els d i k.toNat) (λ j hj=>by rw[tth_drop,dgs_at els _ i j hil hj,hdd]) k]
   by_cases e:k ∈ rnth (rowsOf (leavesL ps (d:Nat)) d) i
   ·rw[if_pos e,if_pos (.inr e),row_same hd hn hu hm ha (by omega) e]
   ·rw[if_neg e]
    by_cases e2:AtK (leavesL ps (d:Nat)) i k
    ·rw[trF_in e2,if_pos (.inl e2)]
    ·rw[trF_out e2,if_neg (λ h9=>h9.elim e2 e)]
  funext p
  by_cases hp:AtK (leavesL ps (d:Nat)) (i+1) p
  ·rw[trF_in hp]
   have hk:=(atK_half p).1 hp;have s0:sib (2 * p)=2 * p+1:=by unfold sib;split <;> omega
   have s1:sib (2 * p+1)=2 * p:=by unfold sib;split <;> omega
   have h0:AtK (leavesL ps (d:Nat)) i (2 * p) ∨ 2 * p ∈ rnth (rowsOf (leavesL ps (d:Nat)) d) i:=by
    by_cases e:AtK (leavesL ps (d:Nat)) i (2 * p)
    ·exact .inl e
    ·exact .inr ((row_memK _ d i (by omega) _).2 ⟨by rw[s0];exact hk.resolve_left e,e⟩)
   have h1:AtK (leavesL ps (d:Nat)) i (2 * p+1) ∨ 2 * p+1 ∈ rnth (rowsOf (leavesL ps (d:Nat)) d) i:=by
    by_cases e:AtK (leavesL ps (d:Nat)) i (2 * p+1)
    ·exact .inl e
    ·exact .inr ((row_memK _ d i (by omega) _).2 ⟨by rw[s1];exact hk.resolve_right e,e⟩)
   have hp0:0≤p:=by
    obtain⟨y,hy,rfl⟩:=hp
    exact Int.ediv_nonneg (leaves_in hd y hy).1 (Int.le_of_lt (Int.pow_pos (by decide)))
   rw[over_some (show prIs _ p from .inl (by rw[hH,if_pos h0];rfl))]
   unfold kidF
   rw[hH,hH,if_pos h0,if_pos h1]
   show some (hashP nodeT [plD own d i (2 * p).toNat,plD own d i (2 * p+1).toNat])=some (plD own d (i+1) p.toNat)
   rw[plD_up,show(2 * p).toNat=2 * p.toNat by omega,show(2 * p+1).toNat=2 * p.toNat+1 by omega]
  ·rw[trF_out hp]
   have hk:¬(AtK (leavesL ps (d:Nat)) i (2 * p) ∨ AtK (leavesL ps (d:Nat)) i (2 * p+1)):=λ h9=>hp ((atK_half p).2 h9)
   rw[not_or]at hk
   have s0:sib (2 * p)=2 * p+1:=by unfold sib;split <;> omega
   have s1:sib (2 * p+1)=2 * p:=by unfold sib;split <;> omega
   have n0:¬(AtK (leavesL ps (d:Nat)) i (2 * p) ∨ 2 * p ∈ rnth (rowsOf (leavesL ps (d:Nat)) d) i):=by
    rintro(h | h)
    ·exact hk.1 h
    ·exact hk.2 (by have:=((row_memK _ d i (by omega) _).1 h).1;rw[s0]at this;exact this)
   have n1:¬(AtK (leavesL ps (d:Nat)) i (2 * p+1) ∨ 2 * p+1 ∈ rnth (rowsOf (leavesL ps (d:Nat)) d) i):=by
    rintro(h | h)
    ·exact hk.2 h
    ·exact hk.1 (by have:=((row_memK _ d i (by omega) _).1 h).1;rw[s1]at this;exact this)
   have g0:=(hH (2 * p)).trans (if_neg n0);have g1:=(hH (2 * p+1)).trans (if_neg n1)
   unfold overF
   rw[g0,g1]
   simp
theorem back_root{els own es:List ByteArray}{ps:List Int}(hn:len els≤65536)(hu:∀k ∈ ps,U64 k)(hm:MayOk (len els:Nat) ps)(ha:Agree els own ps)
  (hel:len es=len ps) (hes:∀m,m<len ps→tth es m=tth own (nth ps m).toNat):
  rootE (len els:Nat) ps es (dgsL els (plcL (len els:Nat) ps))=0∧rootS (len els:Nat) ps es (dgsL els (plcL (len els:Nat) ps))=plD own (depN own) (depN own) 0:=by
 obtain⟨d,hdd⟩:∃d,depN els=d:=⟨_,rfl⟩
 have hd:d≤16:=by rw[←hdd];exact depN_le hn
 have hdz:depthZ (len els:Nat)=((d:Nat):Int):=by rw[depthZ_len hn,hdd]
 have hn2:len els≤2 ^ d:=by rw[←hdd];exact(depth_bd (len els) hn).2.1
 have hdo:depN own=d:=by unfold depN;rw[ha.len_];exact hdd
 have hrw:rowsP (len els:Nat) ps=rowsOf (leavesL ps (d:Nat)) d:=by unfold rowsP;rw[hdz,needs_rows hd hm.1]
 have hpl:plcL (len els:Nat) ps=flatLv (rowsOf (leavesL ps (d:Nat)) d):=by unfold plcL;rw[hdz,needs_rows hd hm.1]
 have hA:ArgOk (len els:Nat) ps es:=⟨⟨by omega,by omega,hm⟩,hel⟩;have hB:badB (dgsL els (plcL (len els:Nat) ps))=false:=bad_no (λ x hx=>by
  unfold dgsL at hx
  obtain⟨y,_,rfl⟩:=List.mem_map.1 hx
  exact plD_size _ _ _ _)
 have hN:len (dgsL els (plcL (len els:Nat) ps))=neededP (len els:Nat) ps:=by
  unfold neededP
  rw[hrw,hpl,dgs_all]
 have h:=rootE_ok hA hB hN
 refine⟨h.1,h.2.trans ?_⟩
 unfold digP
 rw[hrw,hpl,hdz,hdo]
 have hr:=root_back hdd hd hn2 hu hm ha hel hes d (Nat.le_refl _)
 unfold rootT at hr
 rw[List.take_of_length_le (by have:=rowsOf_len (leavesL ps (d:Nat)) d;rw[len_eq]at this;omega)]at hr
 rw[hr]
 have hk:AtK (leavesL ps (d:Nat)) d 0:=by
  have h1:0<(leavesL ps (d:Nat)).length:=by have h5:(leavesL ps (d:Nat)).length=len ps:=leavesL_len ps (d:Nat);have h6:=hm.1;omega
  refine⟨(leavesL ps (d:Nat))[0],List.getElem_mem h1,?_⟩
  have h2:=leaves_in hd _ (List.getElem_mem h1)
  exact(Int.ediv_eq_zero_of_lt h2.1 h2.2).symm
 unfold kidF
 rw[trF_in hk]
 rfl
end Go.Proofs.YtpobhbdomldecaaGreatDoor
namespace Go.Proofs.YtpobhbdomldecaaGreatDoor
open Go.RowKit Go.ChangeMaps
set_option linter.unusedSimpArgs false
set_option linter.unusedVariables false
def keysOf(L:List (Int × Value)):List Int:=L.map (·.1)
theorem keysOf_len(L:List (Int × Value)):(keysOf L).length=L.length:=by simp[keysOf]
theorem keysOf_get(L:List (Int × Value))(i:Nat)(h:i<L.length):(keysOf L)[i]'(by rw[keysOf_len];exact h)=L[i].1:=by simp[keysOf]
theorem Come.snoc{L:List (Int × Value)}{nb:Nat}{seen:Array Nat}{pre:List Int}(h:Come (keysOf L) nb seen pre)(hn:(L.map (·.1)).Nodup){i:Nat}(hi:i<L.length)(hs:¬nb+i ∈ seen):Come (keysOf L) nb (seen.push (nb+i)) (pre++[L[i].1]):=by
 have:=(h.next hn (i:=i) (by rw[keysOf_len];exact hi) hs).2
 rw[keysOf_get L i hi]at this
 exact this
theorem Come.fin{L:List (Int × Value)}{nb:Nat}{seen:Array Nat}{pre:List Int}(h:Come (keysOf L) nb seen pre)(ha:∀i,i<L.length→nb+i ∈ seen):∀k,k ∈ pre ↔ k ∈ L.map (·.1):=λ k=>by
 rw[h.2]
 constructor
 ·rintro⟨i,hi,_,e⟩;exact e ▸ List.getElem_mem hi
 ·intro hk
  obtain⟨i,hi,e⟩:=List.getElem_of_mem hk
  exact⟨i,hi,ha i (by simpa using hi),e⟩
theorem Ranging.keep{w w':World}{b r n:Nat}{q:IntKind}{l:List (Int × Value)}{seen:Array Nat}(h:Ranging w b r q n l seen)(h1:w'.heap[b]?=w.heap[b]?)(h2:w'.heap[r]?=w.heap[r]?):Ranging w' b r q n l seen:=⟨h1.trans h.map,h2.trans h.iter⟩
def KnownAt(b n:Nat)(g:KnF)(w:World):Prop:=∃L,w.heap[b]?=some (mObj .u64 n L)∧MapF L g
def KoverIs(g:KnF)(w:World)(e:Ending)(w':World):Prop:=∃b,e=.returned (.map (some b))∧KnownAt b 0 (overF g) w'∧w.heap.size≤b∧Below w.heap.size w w'
set_option maxRecDepth 100000 in
set_option maxHeartbeats 8000000 in
theorem kover_any(b n:Nat)(g:KnF)(w:World)(h:KnownAt b n g w)(hz:∀k d,g k=some d→d.size≤1000):
  Calls Tryz.prog 170 #[.map (some b)] w (KoverIs g w):=by
 obtain⟨L,hb,hm⟩:=h
 have HL:=Lib.hid hb;have HM:=Lib.hid hm;have HZ:=Lib.hid hz;have HBL:Hid (b<w.heap.size):=Lib.hid (lt_of_block hb);have hmm:=@run_makeMap Tryz.prog;clear hb hm hz
 go_enter Tryz.func170,Tryz.ntmps170
 go_upto_region 2 with fail
 clear hmm
 obtain⟨pb,hpb⟩:∃pb,w.heap.size=pb:=⟨_,rfl⟩
 obtain⟨V,hV⟩:∃V,w.alloc (Obj.map #[] 0)=V:=⟨_,rfl⟩
 have HVP:Hid (V.heap[pb]?=some (mObj .u64 0 [])):=Lib.hid (by rw[←hV];exact alloc_new_at _ hpb);have HVL:Hid (V.heap[b]?=some (mObj .u64 n L)):=Lib.hid (by rw[←hV];exact block_alloc HL.out _);have HVW:Hid (Below w.heap.size w V):=Lib.hid (by rw[←hV];exact balloc (Below.refl _ _) _);have HBP:Hid (b<pb∧w.heap.size≤pb):=Lib.hid ⟨by have:=HBL.out;omega,by omega⟩
 rw[hV,hpb]
 clear hV hpb HL
 go_wp2_with (at_range;refine wpList_range_m rfl _ 200 23 9 .u64 rfl Tryz.underlying200 b n _ rfl HVL.out ?_;intro hrg)
 go_frame
 obtain⟨r,hr⟩:∃r,V.heap.size=r:=⟨_,rfl⟩
 obtain⟨U,hU⟩:∃U,V.alloc (.mapIter (some b) (n+L.length) #[] (n+L.length))=U:=⟨_,rfl⟩
 rw[hr,hU]at hrg ⊢
 have HR:=Lib.hid hrg;have HUP:Hid (U.heap[pb]?=some (mObj .u64 0 [])):=Lib.hid (by rw[←hU];exact block_alloc HVP.out _);have HUW:Hid (Below w.heap.size w U):=Lib.hid (by rw[←hU];exact balloc HVW.out _);have HRP:Hid (pb<r):=Lib.hid (by rw[←hr];exact lt_of_block HVP.out);clear hU hr hrg HVL HVP HVW
 go_loopw [4,5,6] (λ _ _ _ wr=>∃(seen:Array Nat) (pre:List Int) (QL:List (Int × Value)),Hid (Ranging wr b r .u64 n L seen)∧Hid (Come (keysOf L) n seen pre)∧Hid (wr.heap[pb]?=some (mObj .u64 0 QL))∧Hid (PairF QL (resF g pre))∧Hid (Below w.heap.size w wr)) (λ _ _ _ wr=>rLeft wr r (n+L.length))
 case atStart=>exact⟨#[],[],[],HR,Lib.hid (Come.start _ _),HUP,Lib.hid (by rw[resF_nil];exact PairF.nil),HUW⟩
 case round=>
  clear HR HUP HUW
  obtain⟨seen,pre,QL,HR,HC,HP,HF,HW⟩:=hrel
  go_wp2_with (at_next;refine wpList_next_m rfl _ rfl b r .u64 n _ seen rfl HR.out ?_ ?_)
  ·intro hall
   have HALL:=Lib.hid hall;clear hall;have HQA:Hid (PairF QL g):=Lib.hid (by
    have h1:=HF.out
    rw[resF_all (g:=g) (pre:=pre) (λ k hk=>(HC.out.fin HALL.out k).2 (HM.out.keys hk))]at h1
    exact h1)
   clear HALL HC HF HR;have hmm:=@run_makeMap Tryz.prog
   go_upto_region 9 with fail
   clear hmm
   obtain⟨ob,hob⟩:∃ob,wr.heap.size=ob:=⟨_,rfl⟩
   obtain⟨V,hV⟩:∃V,wr.alloc (Obj.map #[] 0)=V:=⟨_,rfl⟩
   have HVO:Hid (V.heap[ob]?=some (mObj .u64 0 [])):=Lib.hid (by rw[←hV];exact alloc_new_at _ hob);have HVP:Hid (V.heap[pb]?=some (mObj .u64 0 QL)):=Lib.hid (by rw[←hV];exact block_alloc HP.out _);have HVW:Hid (Below w.heap.size w V):=Lib.hid (by rw[←hV];exact balloc HW.out _);have HOP:Hid (pb<ob∧w.heap.size≤ob):=Lib.hid ⟨by rw[←hob];exact lt_of_block HP.out,by rw[←hob];exact HW.out.size⟩
   rw[hV,hob]
   clear hV hob HP HW
   obtain⟨zn,hzn⟩:∃zn:Nat,0=zn:=⟨_,rfl⟩
   have HVP:=Lib.hid (by have h:=HVP.out;rw[hzn]at h;exact h);clear hzn
   go_wp2_with (at_range;refine wpList_range_m rfl _ 263 23 265 .u64 rfl Tryz.underlying263 pb zn _ rfl HVP.out ?_;intro hrg)
   go_frame
   obtain⟨r2,hr2⟩:∃r2,V.heap.size=r2:=⟨_,rfl⟩
   obtain⟨U2,hU2⟩:∃U2,V.alloc (.mapIter (some pb) (zn+QL.length) #[] (zn+QL.length))=U2:=⟨_,rfl⟩
   rw[hr2,hU2]at hrg ⊢
   have HR:=Lib.hid hrg;have HUO:Hid (U2.heap[ob]?=some (mObj .u64 0 [])):=Lib.hid (by rw[←hU2];exact block_alloc HVO.out _);have HUW:Hid (Below w.heap.size w U2):=Lib.hid (by rw[←hU2];exact balloc HVW.out _);have HRO:Hid (ob<r2):=Lib.hid (by rw[←hr2];exact lt_of_block HVO.out);clear hU2 hr2 hrg HVO HVP HVW
   go_loopw [8,9] (λ _ _ wr=>∃(seen:Array Nat) (pre:List Int) (OL:List (Int × Value)),Hid (Ranging wr pb r2 .u64 zn QL seen)∧Hid (Come (keysOf QL) zn seen pre)∧Hid (wr.heap[ob]?=some (mObj .u64 0 OL))∧Hid (MapF OL (resF (overF g) pre))∧Hid (Below w.heap.size w wr)) (λ _ _ wr=>rLeft wr r2 (zn+QL.length))
   case atStart=>exact⟨#[],[],[],HR,Lib.hid (Come.start _ _),HUO,Lib.hid (by rw[resF_nil];exact MapF.nil),HUW⟩
   case round=>
    clear HR HUO HUW
    obtain⟨seen,pre,OL,HR,HC,HO,HF,HW⟩:=hrel
    go_wp2_with (at_next;refine wpList_next_m rfl _ rfl pb r2 .u64 zn _ seen rfl HR.out ?_ ?_)
    ·intro hall
     have HALL:=Lib.hid hall;clear hall;have HOA:Hid (MapF OL (overF g)):=Lib.hid (by
      have h1:=HF.out
      rw[resF_all (g:=overF g) (pre:=pre) (λ k hk=>(HC.out.fin HALL.out k).2 (HQA.out.keys hk))]at h1
      exact h1)
     clear HALL HC HF HR
     go_wp2
     go_ret
     exact⟨ob,rfl,⟨OL,HO.out,HOA.out⟩,HOP.out.2,HW.out⟩
    ·intro i hi w1 hns hr1 hlt hb1 hsz hoth hen
     have HR1:=Lib.hid hr1;have HRX9:=Lib.hid hr1;have HLT:=Lib.hid hlt;have HC1:Hid (Come (keysOf QL) zn (seen.push (zn+i)) (pre++[QL[i].1])):=Lib.hid (HC.out.snoc HQA.out.nodup hi hns);have HO1:Hid (w1.heap[ob]?=some (mObj .u64 0 OL)):=Lib.hid ((hoth ob (by have:=HRO.out;omega)).trans HO.out);have HW1:Hid (Below w.heap.size w w1):=Lib.hid (HW.out.trans (hb1 _ (by have:=HRO.out;have:=HOP.out;omega)))
     obtain⟨hd,hpi⟩:=HQA.out.at i hi
     have hku:=HQA.out.u64 _ (List.getElem_mem hi)
     obtain⟨k,hk⟩:∃k,QL[i].1=k:=⟨_,rfl⟩
     rw[hk]at hku hen HC1 hd hpi ⊢
     obtain⟨x0,hx0⟩:∃x0,kidF g (2 * k)=x0:=⟨_,rfl⟩
     obtain⟨x1,hx1⟩:∃x1,kidF g (2 * k+1)=x1:=⟨_,rfl⟩
     have hd2:QL[i].2=.agg #[.string x0,.string x1]:=by rw[hd,←hx0,←hx1];rfl
     rw[hd2]at hen ⊢
     have hov:overF g k=some (hashP nodeT [x0,x1]):=by rw[←hx0,←hx1];exact over_some hpi
     have HOV:=Lib.hid hov;have HKU:=Lib.hid hku;have HXZ:Hid (x0.size≤1000000∧x1.size≤1000000):=Lib.hid (by
      have hkz:∀j,(kidF g j).size≤1000000:=λ j=>by
       unfold kidF
       cases hg:g j with
       | none=>show(0:Nat)≤_;omega
       | some d=>have:=HZ.out j d hg;show d.size≤_;omega
      rw[←hx0,←hx1]
      exact⟨hkz _,hkz _⟩)
     clear hd hd2 hku hk hns hr1 hlt hb1 hsz hoth hx0 hx1 hov hpi
     go_upto_region 12 with fail
     obtain⟨q,hq⟩:∃q,w1.heap.size=q:=⟨_,rfl⟩
     obtain⟨X,hX⟩:∃X,w1.alloc (Obj.cells #[.string x0,.string x1] 265)=X:=⟨_,rfl⟩
     have HQ0:Hid (X.heap[q]?=some (.cells #[.string x0,.string x1] 265 (0,0))):=Lib.hid (by rw[←hX];exact alloc_new_at _ hq);have HRX:Hid (Ranging X pb r2 .u64 zn QL (seen.push (zn+i))):=Lib.hid (HR1.out.keep (by rw[←hX];exact Below.heap_alloc _ _ _ (lt_of_block HR1.out.map)) (by rw[←hX];exact Below.heap_alloc _ _ _ (lt_of_block HR1.out.iter)));have HOX:Hid (X.heap[ob]?=some (mObj .u64 0 OL)):=Lib.hid (by rw[←hX];exact block_alloc HO1.out _);have HWX:Hid (Below w.heap.size w X):=Lib.hid (by rw[←hX];exact balloc HW1.out _)
     rw[hq,hX]
     clear hq hX HR1 HO1 HW1 HR HC HO HW;have c0:X.cell? ⟨q,0,none⟩=some (.string x0):=by rw[block_cell HQ0.out];rfl
     have c1:X.cell? ⟨q,1,none⟩=some (.string x1):=by rw[block_cell HQ0.out];rfl
     have c2:q<X.heap.size:=lt_of_block HQ0.out
     go_wp2_with fail
     clear c0 c1 c2
     refine(hash2_any nodeT x0 x1 X (by decide) (by decide) HXZ.out.1 HXZ.out.2).mono ?_
     rintro e w' ⟨rfl,hXd⟩
     have HRZ:Hid (Ranging w' pb r2 .u64 zn QL (seen.push (zn+i))):=Lib.hid (HRX.out.keep (hXd.block _ (lt_of_block HRX.out.map)) (hXd.block _ (lt_of_block HRX.out.iter)));have HOZ:Hid (w'.heap[ob]?=some (mObj .u64 0 OL)):=Lib.hid ((hXd.block _ (lt_of_block HOX.out)).trans HOX.out);have HWZ:Hid (Below w.heap.size w w'):=Lib.hid (bnext HWX.out hXd)
     obtain⟨D,hD⟩:∃D,hashP nodeT [x0,x1]=D:=⟨_,rfl⟩
     rw[hD]at HOV ⊢
     clear hXd HRX HOX HWX HQ0 hD
     go_wp2_with (at_mapUpdate;refine wpList_mapUpdate_m rfl _ _ _ 200 23 9 .u64 rfl Tryz.underlying200 Tryz.underlying23 ob 0 _ rfl HOZ.out _ _ rfl rfl ?_)
     have HPP:Hid ((setBlock w' ob (mObj .u64 0 (mPut OL k (.string D)))).heap[ob]?=some (mObj .u64 0 (mPut OL k (.string D)))):=Lib.hid (setBlock_same HOZ.out);have HFF:Hid (MapF (mPut OL k (.string D)) (resF (overF g) (pre++[k]))):=Lib.hid (by
      rw[resF_snoc pre HOV.out]
      exact HF.out.put _ D HKU.out)
     have HRR:Hid (Ranging (setBlock w' ob (mObj .u64 0 (mPut OL k (.string D)))) pb r2 .u64 zn QL (seen.push (zn+i))):=Lib.hid (HRZ.out.keep (setBlock_other (by have:=HOP.out;omega)) (setBlock_other (by have:=HRO.out;omega)));have HWW:Hid (Below w.heap.size w (setBlock w' ob (mObj .u64 0 (mPut OL k (.string D))))):=Lib.hid (setBlock_below HWZ.out HOP.out.2);have HLL:Hid (rLeft (setBlock w' ob (mObj .u64 0 (mPut OL k (.string D)))) r2 (zn+QL.length)<rLeft wr r2 (zn+QL.length)):=Lib.hid (by have:=HLT.out;rw[HRX9.out.left]at this;rw[HRR.out.left];exact this)
     go_roundw
     case rel=>
      (repeat apply Exists.intro)
      exact⟨⟨_,_,_,HRR,HC1,HPP,HFF,HWW⟩,rfl⟩
     case measure=>exact HLL.out
  ·intro i hi w1 hns hr1 hlt hb1 hsz hoth hen
   have HR1:=Lib.hid hr1;have HRX9:=Lib.hid hr1;have HLT:=Lib.hid hlt;have HC1:Hid (Come (keysOf L) n (seen.push (n+i)) (pre++[L[i].1])):=Lib.hid (HC.out.snoc HM.out.nodup hi hns);have HP1:Hid (w1.heap[pb]?=some (mObj .u64 0 QL)):=Lib.hid ((hoth pb (by have:=HRP.out;omega)).trans HP.out);have HW1:Hid (Below w.heap.size w w1):=Lib.hid (HW.out.trans (hb1 _ (by have:=HRP.out;have:=HBP.out;omega)))
   obtain⟨d,hd,hg⟩:=HM.out.at i hi
   have hku:=HM.out.u64 _ (List.getElem_mem hi)
   obtain⟨k,hk⟩:∃k,L[i].1=k:=⟨_,rfl⟩
   obtain⟨kn,rfl⟩:∃kn:Nat,k=(kn:Nat):=⟨k.toNat,by unfold U64 at hku;omega⟩
   rw[hk]at hg hku hen HC1 ⊢
   rw[hd]at hen ⊢
   have HG:=Lib.hid hg;have hk1:kn<18446744073709551616:=by unfold U64 at hku;omega
   have HKU:=Lib.hid hku;clear hd hg hku hk hns hr1 hlt hb1 hsz hoth
   obtain⟨y,hy⟩:∃y,kn % 2=y:=⟨_,rfl⟩
   have s3:bits .and .u64 ((kn:Nat):Int) 1=((y:Nat):Int):=by
    rw[show(1:Int)=((1:Nat):Int)from rfl,u64_and_nat _ _ hk1 (by omega),Nat.and_one_is_mod,hy]
   have HPA:Hid (∀w9,Calls Tryz.prog 228 #[.int .u64 ((kn:Nat):Int)] w9 λ e w'=>e=.returned (.int .u64 (((kn:Nat):Int) / 2))∧w9=w'):=Lib.hid (λ w9=>(parent_any ((kn:Nat):Int) w9 (by omega) (by omega)).mono (λ e w' h9=>⟨h9.1,h9.2.symm⟩))
   go_wp2_with fail
   refine(HPA.out w1).mono ?_
   rintro e w2 ⟨rfl,rfl⟩
   obtain⟨ph,hph⟩:∃ph:Int,((kn:Nat):Int) / 2=ph:=⟨_,rfl⟩
   have HPH:=Lib.hid hph
   obtain⟨x0,hx0⟩:∃x0,kidF (resF g pre) (2 * ph)=x0:=⟨_,rfl⟩
   obtain⟨x1,hx1⟩:∃x1,kidF (resF g pre) (2 * ph+1)=x1:=⟨_,rfl⟩
   have HLK:Hid ((mGet QL ph).getD (.agg #[.string ⟨#[]⟩,.string ⟨#[]⟩])=.agg #[.string x0,.string x1]):=Lib.hid (by rw[←hx0,←hx1];exact HF.out.look ph);have HX0:=Lib.hid hx0;have HX1:=Lib.hid hx1
   rw[hph]at HPA ⊢
   clear hph hx0 hx1
   go_upto_region 6 with(at_lookup;refine wpList_lookup_m rfl _ _ 263 23 265 .u64 rfl Tryz.underlying263 Tryz.underlying23 (.agg #[.string ⟨#[]⟩,.string ⟨#[]⟩]) (Tryz.zeroValue265 _) pb 0 _ rfl HP1.out _ rfl ?_;rw[HLK.out])
   obtain⟨q,hq⟩:∃q,w1.heap.size=q:=⟨_,rfl⟩
   obtain⟨X,hX⟩:∃X,w1.alloc (Obj.cells #[.string x0,.string x1] 265)=X:=⟨_,rfl⟩
   have HQ0:Hid (X.heap[q]?=some (.cells #[.string x0,.string x1] 265 (0,0))):=Lib.hid (by rw[←hX];exact alloc_new_at _ hq);have HRX:Hid (Ranging X b r .u64 n L (seen.push (n+i))):=Lib.hid (HR1.out.keep (by rw[←hX];exact Below.heap_alloc _ _ _ (lt_of_block HR1.out.map)) (by rw[←hX];exact Below.heap_alloc _ _ _ (lt_of_block HR1.out.iter)));have HPX:Hid (X.heap[pb]?=some (mObj .u64 0 QL)):=Lib.hid (by rw[←hX];exact block_alloc HP1.out _);have HWX:Hid (Below w.heap.size w X):=Lib.hid (by rw[←hX];exact balloc HW1.out _);have HQL:Hid (r<q∧b<q∧pb<q):=Lib.hid ⟨by rw[←hq];exact lt_of_block HR1.out.iter,by rw[←hq];exact lt_of_block HR1.out.map,by rw[←hq];exact lt_of_block HP1.out⟩
   rw[hq,hX]
   clear hq hX HR1 HP1 HW1 HR HC HP HW;have hy2:y<2:=by omega
   obtain⟨v0,hv0⟩:∃v0,(#[Value.string x0,.string x1]:Array Value)[y]?=some v0:=by
    rcases(by omega:y=0 ∨ y=1)with rfl | rfl <;> exact⟨_,rfl⟩
   have c0:X.cell? ⟨q,y,none⟩=some v0:=by rw[block_cell HQ0.out,hv0]
   have c1:X.frozen? ⟨q,y,none⟩=false:=block_free HQ0.out y;have c2:q<X.heap.size:=lt_of_block HQ0.out;have b1:¬2≤y:=by omega
   have b2:¬(2:Int)≤(y:Int):=by omega
   obtain⟨z0,hz0⟩:∃z0,(if y=0 then d else x0)=z0:=⟨_,rfl⟩
   obtain⟨z1,hz1⟩:∃z1,(if y=0 then x1 else d)=z1:=⟨_,rfl⟩
   have HZS:Hid ((#[Value.string x0,.string x1]:Array Value).setIfInBounds y (.string d)=#[.string z0,.string z1]):=Lib.hid (by
    rw[←hz0,←hz1]
    rcases(by omega:y=0 ∨ y=1)with rfl | rfl <;> rfl)
   have HZP:Hid (prPut (resF g pre) ((kn:Nat):Int) d=.agg #[.string z0,.string z1]):=Lib.hid (by
    unfold prPut
    rw[HPH.out,HX0.out,HX1.out,←hz0,←hz1]
    rcases(by omega:y=0 ∨ y=1)with rfl | rfl
    ·rw[if_pos (show((kn:Nat):Int) % 2=0 by omega)];rfl
    ·rw[if_neg (show ¬((kn:Nat):Int) % 2=0 by omega)];rfl)
   clear hv0 hy hy2 hz0 hz1
   go_upto_region 7 with fail
   clear c0 c1 c2 b1 b2 s3
   obtain⟨Y,hY⟩:∃Y,X.setCell ⟨q,y,none⟩ (.string d)=Y:=⟨_,rfl⟩
   have HQB:Hid (Y.heap[q]?=some (.cells #[.string z0,.string z1] 265 (0,0))):=Lib.hid (by rw[←hY,←HZS.out];exact block_setCell HQ0.out _);have HRY:Hid (Ranging Y b r .u64 n L (seen.push (n+i))):=Lib.hid (HRX.out.keep (by rw[←hY];exact Below.heap_setCell _ _ _ _ (show b≠q by have:=HQL.out;omega)) (by rw[←hY];exact Below.heap_setCell _ _ _ _ (show r≠q by have:=HQL.out;omega)));have HPY:Hid (Y.heap[pb]?=some (mObj .u64 0 QL)):=Lib.hid (by rw[←hY];exact(Below.heap_setCell _ _ _ _ (show pb≠q by have:=HQL.out;omega)).trans HPX.out);have HWY:Hid (Below w.heap.size w Y):=Lib.hid (by rw[←hY];exact bset HWX.out (show w.heap.size≤q by have:=HQL.out;have:=HBP.out;omega) _)
   rw[hY]
   clear hY HQ0 HRX HPX HWX HZS;have HPB:Hid (∀w9,Calls Tryz.prog 228 #[.int .u64 ((kn:Nat):Int)] w9 λ e w'=>e=.returned (.int .u64 ph)∧Below w9.heap.size w9 w'):=Lib.hid (λ w9=>(HPA.out w9).mono (λ e w' h9=>⟨h9.1,by rw[←h9.2];exact Below.refl _ _⟩));have HI2:Hid ((Tryz.prog.info? 265).map (·.size)=some (#[Value.string z0,.string z1]:Array Value).size):=Lib.hid (by kernel_rfl)
   refine wp_region_tail 4 1000 (none) (phis (List.map qv [.map (some pb),.int .u64 (kn:Nat),.int .u64 ph,.agg #[.string z0,.string z1]])) rfl (by kernel_rfl) (by kernel_rfl) (mono_of mono_qv) (steps_of 4 ⟨?s0,?s1,?s2,?s3,trivial⟩) ?_
   case s0=>
    refine qV (λ _=>rfl) rfl λ av wv hE hO hD=>?_
    simp[go_sem,qF av 3 (.map (some pb)) (hO.2.2 3 rfl)]
   case s1=>
    refine qV (λ _=>rfl) rfl λ av wv hE hO hD=>?_
    simp[go_sem,qF av 4 (.int .u64 (kn:Nat)) (hO.2.2 4 rfl)]
   case s2=>
    refine step_wp (λ av wv hE hS hO hD=>⟨rfl,?_⟩)
    have f27:=qE (hD.1 rfl _ rfl)
    refine wp_of_call (v:=.int .u64 ph) (by simp[go_sem,f27]) (HPB.out wv) (λ w2 hb=>⟨_,rfl,es_of_ext hb,rfl⟩)
   case s3=>
    refine step_wp (λ av wv hE hS hO hD=>⟨rfl,?_⟩)
    have h6:av.eval (.tmp 6)=(.pointer (some ⟨q,0,none⟩)):=hO.2.2 6 rfl
    exact wp_load_row 265 _ rfl q h6 265 #[.string z0,.string z1] (0,0) _ (extB_block hE (by simp) HQB.out) Tryz.underlying265 rfl HI2.out ⟨_,rfl,es_of_ext (Ext_refl _),rfl⟩
   intro a' w' hE hO hall
   have hA:=act_of_outer (ds:=[26,27,28,29]) rfl hO (by kernel_rfl)
   obtain⟨j0,j1,j2,j3,-⟩:=hall
   simp only[List.foldl_cons,List.foldl_nil,Act.put,List.setIfInBounds_toArray,List.set_cons_succ,List.set_cons_zero,qJ 26 (j0 _ rfl),qJ 27 (j1 _ rfl),qJ 28 (j2 _ rfl),qJ 29 (j3 _ rfl)]at hA
   clear hO j0 j1 j2 j3
   subst hA
   have hXd:=of_drew hE;have HRZ:Hid (Ranging w' b r .u64 n L (seen.push (n+i))):=Lib.hid (HRY.out.keep (hXd.block _ (lt_of_block HRY.out.map)) (hXd.block _ (lt_of_block HRY.out.iter)));have HPZ:Hid (w'.heap[pb]?=some (mObj .u64 0 QL)):=Lib.hid ((hXd.block _ (lt_of_block HPY.out)).trans HPY.out);have HWZ:Hid (Below w.heap.size w w'):=Lib.hid (bnext HWY.out hXd);clear hE hXd HPB HI2 HQB HRY HPY HWY
   simp only[List.drop_succ_cons,List.drop_zero]
   go_wp2_with (at_mapUpdate;refine wpList_mapUpdate_m rfl _ _ _ 263 23 265 .u64 rfl Tryz.underlying263 Tryz.underlying23 pb 0 _ rfl HPZ.out _ _ rfl rfl ?_)
   have HPP:Hid ((setBlock w' pb (mObj .u64 0 (mPut QL ph (.agg #[.string z0,.string z1])))).heap[pb]?=some (mObj .u64 0 (mPut QL ph (.agg #[.string z0,.string z1])))):=Lib.hid (setBlock_same HPZ.out);have HFF:Hid (PairF (mPut QL ph (.agg #[.string z0,.string z1])) (resF g (pre++[((kn:Nat):Int)]))):=Lib.hid (by
    rw[resF_snoc pre HG.out,←HZP.out,←HPH.out]
    exact HF.out.put _ d HKU.out)
   have HRR:Hid (Ranging (setBlock w' pb (mObj .u64 0 (mPut QL ph (.agg #[.string z0,.string z1])))) b r .u64 n L (seen.push (n+i))):=Lib.hid (HRZ.out.keep (setBlock_other (by have:=HBP.out;omega)) (setBlock_other (by have:=HRP.out;omega)));have HWW:Hid (Below w.heap.size w (setBlock w' pb (mObj .u64 0 (mPut QL ph (.agg #[.string z0,.string z1]))))):=Lib.hid (setBlock_below HWZ.out HBP.out.2);have HLL:Hid (rLeft (setBlock w' pb (mObj .u64 0 (mPut QL ph (.agg #[.string z0,.string z1])))) r (n+L.length)<rLeft wr r (n+L.length)):=Lib.hid (by have:=HLT.out;rw[HRX9.out.left]at this;rw[HRR.out.left];exact this)
   go_roundw
   case rel=>
    (repeat apply Exists.intro)
    exact⟨⟨_,_,_,HRR,HC1,HPP,HFF,HWW⟩,rfl⟩
   case measure=>exact HLL.out
end Go.Proofs.YtpobhbdomldecaaGreatDoor
namespace Go.Proofs.YtpobhbdomldecaaGreatDoor
open Go.RowKit Go.ChangeMaps
set_option linter.unusedSimpArgs false
set_option linter.unusedVariables false
set_option maxRecDepth 100000 in
set_option maxHeartbeats 4000000 in
theorem proot_arg(n:Int)(ps:List Int)(es ds:List ByteArray)(pa ea da:Option Addr)(pc ec dc:Nat)(w:World)(hp:U64s w pa ps)(hl:len ps≤100)(h0:-9223372036854775808≤n)(h1:n≤9223372036854775807)(hb:¬ArgOk n ps es)(hle:len es≤1000000):
  Calls Tryz.prog 102 #[.int .i64 n,.slice pa (len ps) pc,.slice ea (len es) ec,.slice da (len ds) dc] w (RootIs n ps es ds w):=by
 have HE:Hid (rootE n ps es ds=2∧rootS n ps es ds=⟨#[]⟩):=Lib.hid (by
  have h9:rootE n ps es ds=2:=by unfold rootE;rw[if_pos hb]
  exact⟨h9,by unfold rootS;rw[h9];rfl⟩)
 have HM:=Lib.hid (λ w9 hb9=>pmay_any n ps pa pc w9 (hp.below hb9) (by omega) h0 h1)
 by_cases hs:SizeOk n ps
 ·have hne:¬len es=len ps:=λ h9=>hb ⟨hs,h9⟩
  have z1:¬((len es:Nat):Int)=((len ps:Nat):Int):=by omega
  rw[decide_eq_true hs]at HM
  clear hb hs hp hl h0 h1 hne hle
  go_enter Tryz.func102,Tryz.ntmps102
  go_wp2_with fail
  refine(HM.out _ (balloc (Below.refl _ _) _)).mono ?_
  rintro e w1 ⟨rfl,hb1⟩
  have HB1:Hid (Below w.heap.size w w1):=Lib.hid (bnext (balloc (Below.refl _ _) _) hb1);clear hb1
  go_wp2
  go_ret2
  exact⟨by rw[HE.out.1,HE.out.2];rfl,HB1.out⟩
 ·rw[decide_eq_false hs]at HM
  clear hb hs hp hl h0 h1 hle
  go_enter Tryz.func102,Tryz.ntmps102
  go_wp2_with fail
  refine(HM.out _ (balloc (Below.refl _ _) _)).mono ?_
  rintro e w1 ⟨rfl,hb1⟩
  have HB1:Hid (Below w.heap.size w w1):=Lib.hid (bnext (balloc (Below.refl _ _) _) hb1);clear hb1
  go_wp2
  go_ret2
  exact⟨by rw[HE.out.1,HE.out.2];rfl,HB1.out⟩
set_option maxRecDepth 100000 in
set_option maxHeartbeats 4000000 in
theorem proot_form(n:Int)(ps:List Int)(es ds:List ByteArray)(pa ea da:Option Addr)(pc ec dc:Nat)(w:World)(hp:U64s w pa ps)(hd:Txts w da ds)(hl:len ps≤100)(hld:len ds≤1000000)(h0:-9223372036854775808≤n)(h1:n≤9223372036854775807)(hb:ArgOk n ps es)(hbad:badB ds=true):
  Calls Tryz.prog 102 #[.int .i64 n,.slice pa (len ps) pc,.slice ea (len es) ec,.slice da (len ds) dc] w (RootIs n ps es ds w):=by
 have HE:Hid (rootE n ps es ds=5∧rootS n ps es ds=⟨#[]⟩):=Lib.hid (by
  have h9:rootE n ps es ds=5:=by unfold rootE;rw[if_neg (λ h=>h hb),if_pos hbad]
  exact⟨h9,by unfold rootS;rw[h9];rfl⟩)
 have HM:=Lib.hid (λ w9 hb9=>pmay_any n ps pa pc w9 (hp.below hb9) (by omega) h0 h1)
 rw[decide_eq_true hb.1]at HM
 have hel:=hb.2;have HBD:=Lib.hid (λ w9 hb9=>bad_any da dc ds w9 (hd.below hb9) (by omega))
 rw[hbad]at HBD
 clear hb hp hl h0 h1 hbad hld hd
 go_enter Tryz.func102,Tryz.ntmps102
 rw[hel]
 go_upto_region 1 with fail
 obtain⟨pb,hpb⟩:∃pb,w.heap.size=pb:=⟨_,rfl⟩
 obtain⟨V,hV⟩:∃V,w.alloc (.cells #[.slice da (len ds) dc] 36)=V:=⟨_,rfl⟩
 have HVP:Hid (V.heap[pb]?=some (.cells #[.slice da (len ds) dc] 36 (0,0))):=Lib.hid (by rw[←hV];exact alloc_new_at _ hpb);have HVW:Hid (Below w.heap.size w V):=Lib.hid (by rw[←hV];exact balloc (Below.refl _ _) _)
 rw[hpb,hV]
 clear hV hpb
 go_wp2_with fail
 refine(HM.out _ HVW.out).mono ?_
 rintro e w1 ⟨rfl,hb1⟩
 have HP1:Hid (w1.heap[pb]?=some (.cells #[.slice da (len ds) dc] 36 (0,0))):=Lib.hid ((hb1.block _ (lt_of_block HVP.out)).trans HVP.out);have HB1:Hid (Below w.heap.size w w1):=Lib.hid (bnext HVW.out hb1);clear hb1;have c0:w1.cell? ⟨pb,0,none⟩=some (.slice da (len ds) dc):=by rw[block_cell HP1.out];rfl
 have c2:pb<w1.heap.size:=lt_of_block HP1.out
 go_wp2_with fail
 refine(HBD.out w1 HB1.out).mono ?_
 rintro e w2 ⟨rfl,rfl⟩
 clear c0 c2
 go_wp2
 go_ret2
 exact⟨by rw[HE.out.1,HE.out.2];rfl,HB1.out⟩
end Go.Proofs.YtpobhbdomldecaaGreatDoor
namespace Go.Proofs.YtpobhbdomldecaaGreatDoor
open Go.RowKit Go.ChangeMaps
set_option linter.unusedSimpArgs false
set_option linter.unusedVariables false
def NextIs(pb:Nat)(a:Option Addr)(ds:List ByteArray)(w:World)(e:Ending)(w':World):Prop:=∃a' c',e=.returned (.string (tth ds 0))∧w'=w.setCell ⟨pb,0,none⟩ (.slice a' (len ds - 1) c')∧len ds - 1≤c'∧(∀w9,Txts w9 a ds→Txts w9 a' (ds.drop 1))
theorem txts_drop1{w:World}{b off:Nat}{ds:List ByteArray}(h:Txts w (some ⟨b,off,none⟩) ds):Txts w (some ⟨b,off+1,none⟩) (ds.drop 1):=λ i hi=>by
 have h1:i<(ds.drop 1).length:=hi
 rw[List.length_drop]at h1
 obtain⟨b2,off2,e,hc⟩:=h (i+1) (by omega:i+1<ds.length)
 cases e
 refine⟨b,off+1,rfl,?_⟩
 rw[tth_drop,Nat.add_assoc,Nat.add_comm 1 i]
 exact hc
theorem nextd_any(pb:Nat)(a:Option Addr)(c:Nat)(ds:List ByteArray)(w:World)(hb:w.heap[pb]?=some (.cells #[.slice a (len ds) c] 36 (0,0)))(ht:Txts w a ds)(h0:0<len ds)(hc:len ds≤c):
  Calls Tryz.prog 169 #[.pointer (some ⟨pb,0,none⟩)] w (NextIs pb a ds w):=by
 obtain⟨b,off,rfl,hcell⟩:=ht 0 h0
 have c0:w.cell? ⟨pb,0,none⟩=some (.slice (some ⟨b,off,none⟩) (len ds) c):=by rw[block_cell hb];rfl
 have c1:w.frozen? ⟨pb,0,none⟩=false:=block_free hb 0;have c2:pb<w.heap.size:=lt_of_block hb;have l1:=lt_of_cell hcell;have z0:(0:Int)<(len ds:Int):=by omega
 have z1:¬len ds≤0:=by omega
 rw[Nat.add_zero]at hcell
 clear hb ht
 go_enter Tryz.func169,Tryz.ntmps169
 go_wp2_with fail
 ·skip
  go_ret
  refine⟨_,_,rfl,rfl,by omega,λ w9 h9=>?_⟩
  rw[show ds.drop 1=[]from List.drop_eq_nil_of_le (by have:len ds=ds.length:=rfl;omega)]
  exact Txts.nil _ _
 ·skip
  go_ret
  exact⟨_,_,rfl,rfl,by omega,λ w9 h9=>txts_drop1 h9⟩
end Go.Proofs.YtpobhbdomldecaaGreatDoor
namespace Go.Proofs.YtpobhbdomldecaaGreatDoor
open Go.RowKit Go.ChangeMaps
set_option linter.unusedSimpArgs false
set_option linter.unusedVariables false
theorem leaves_nth(ps:List Int)(d:Int)(m:Nat)(h:m<len ps):nth (leavesL ps d) m=turnedZ (nth ps m) d:=by
 have h2:m<ps.length:=h
 unfold leavesL nth
 simp[h2]
structure LvAt(mb:Nat)(g:KnF)(w:World):Prop where
 at_:KnownAt mb 0 g w
 small:SmF g
theorem LvAt.keep{mb:Nat}{g:KnF}{w w':World}(h:LvAt mb g w)(hk:w'.heap[mb]?=w.heap[mb]?):LvAt mb g w':=by
 obtain⟨⟨L,h1,h2⟩,h3⟩:=h
 exact⟨⟨L,hk.trans h1,h2⟩,h3⟩
theorem LvAt.lt{mb:Nat}{g:KnF}{w:World}(h:LvAt mb g w):mb<w.heap.size:=by
 obtain⟨⟨L,h1,h2⟩,h3⟩:=h
 exact lt_of_block h1
theorem own_keeps{wr W4:World}{T:TypeId}{base b n size:Nat}{v:Value}{xs:List Value}(h:wr.ownsRow base T size v n xs)(hg:wr.grownBy W4 v.ownBlock)(hb:b<base)(hl:b<wr.heap.size):W4.heap[b]?=wr.heap[b]?:=
 hg.block b hl (λ e=>by have:=(h.lt b e.symm).1;omega)
theorem take_snoc_nth{l:List Int}{m:Nat}(h:m<len l):l.take (m+1)=l.take m++[nth l m]:=by
 have h2:m<l.length:=h
 rw[List.take_succ_eq_append_getElem h2,nth_eq l m h2]
theorem own_setBlock{w:World}{base n:Nat}{T:TypeId}{size:Nat}{v:Value}{xs:List Value}{p:Nat}(h:w.ownsRow base T size v n xs)(hp:p<base)(o:Obj):(setBlock w p o).ownsRow base T size v n xs:=by
 refine⟨h.1,?_⟩
 rcases h.2 with h2 | ⟨g,cap,cur,rfl,hg,hgb,h3⟩
 ·exact .inl h2
 ·exact .inr ⟨g,cap,cur,rfl,hg,(setBlock_other (by omega)).trans hgb,h3⟩
def RowsU(B:Nat)(w:World)(a:Option Addr)(rs:List (List Int)):Prop:=
 ∀m,m<len rs→∃rb ro ra rc,a=some ⟨rb,ro,none⟩∧B≤rb∧w.cell? ⟨rb,ro+m,none⟩=some (.slice ra (len (rnth rs m)) rc)∧∀q,q<len (rnth rs m)→∃ub uo,ra=some ⟨ub,uo,none⟩∧B≤ub∧w.cell? ⟨ub,uo+q,none⟩=some (.int .u64 (nth (rnth rs m) q))
theorem rowsU_of{w:World}{B:Nat}{v:Value}{vals:List Value}{rs:List (List Int)}(h:w.ownsRow B 64 1 v vals.length vals)(hr:RowsAre w B vals rs):∃a cap,v=.slice a (len rs) cap∧RowsU B w a rs:=by
 have hl:vals.length=len rs:=hr.1
 rcases h.2 with⟨rfl,h2⟩ | ⟨g,cap,cur,rfl,hg,hgb,_⟩
 ·exact⟨none,0,by rw[←hl,h2],λ m hm=>by omega⟩
 ·refine⟨some ⟨g,0,none⟩,cap,by rw[hl],λ m hm=>?_⟩
  have hm2:m<rs.length:=hm
  obtain⟨u,h1,h2⟩:=hr.2 m hm2
  have hc:=h.cellAt m (by omega)
  rw[h1]at hc
  rw[←rnth_eq rs m hm2]at h2
  obtain⟨ra,rc,rfl,hU,_,_⟩:=own_u64 h2
  refine⟨g,0,ra,rc,rfl,hg,by rw[Nat.zero_add];exact hc,λ q hq=>?_⟩
  obtain⟨ub,uo,rfl,hcq⟩:=hU q hq
  refine⟨ub,uo,rfl,?_,hcq⟩
  exact(h2.lt ub rfl).1
def Upper(B:Nat)(w w':World):Prop:=∀b,B≤b→b<w.heap.size→w'.heap[b]?=w.heap[b]?
theorem Upper.refl(B:Nat)(w:World):Upper B w w:=λ b _ _=>rfl
theorem Upper.cell{B:Nat}{w w':World}(h:Upper B w w'){b o:Nat}{v:Value}(hb:B≤b)(hc:w.cell? ⟨b,o,none⟩=some v):w'.cell? ⟨b,o,none⟩=some v:=
 (World.cell?_of_block (w:=w) (h b hb (lt_of_cell hc))).trans hc
theorem Upper.bel{B:Nat}{w w' w2:World}(h:Upper B w w')(hs:w.heap.size≤w'.heap.size)(hb:Below w'.heap.size w' w2):Upper B w w2:=λ b h1 h2=>(hb.block b (by omega)).trans (h b h1 h2)
theorem Upper.set{B:Nat}{w w':World}(h:Upper B w w'){p:Nat}(hp:p<B)(k:Nat)(v:Value):Upper B w (w'.setCell ⟨p,k,none⟩ v):=λ b h1 h2=>(Below.heap_setCell _ _ _ _ (by omega:b≠p)).trans (h b h1 h2)
theorem Upper.map{B:Nat}{w w':World}(h:Upper B w w'){p:Nat}(hp:p<B ∨ w.heap.size≤p)(o:Obj):Upper B w (setBlock w' p o):=λ b h1 h2=>(setBlock_other (by omega)).trans (h b h1 h2)
theorem usedR_bd{rs:List (List Int)}(h:∀i,len (rnth rs i)≤100):∀m,m≤len rs→usedR rs m≤100 * m
 | 0,_=>Nat.le_refl _
 | m+1,hm=>by
  rw[usedR_next rs m (by omega)]
  have:=usedR_bd h m (by omega);have:=h m
  omega
theorem LvAt.put{mb:Nat}{g:KnF}{w:World}{L:List (Int × Value)}(hl:w.heap[mb]?=some (mObj .u64 0 L))(hm:MapF L g)(hs:SmF g){t:Int}{D:ByteArray}(ht:U64 t)(hd:D.size≤1000):LvAt mb (putF g t D) (setBlock w mb (mObj .u64 0 (mPut L t (.string D)))):=
 ⟨⟨_,setBlock_same hl,hm.put t D ht⟩,hs.put t D hd⟩
theorem row_u64{ps:List Int}{d i:Nat}{t:Int}(hd:d≤16)(hi:i<d)(h:t ∈ rnth (rowsOf (leavesL ps (d:Nat)) d) i):U64 t:=by
 obtain⟨⟨y,hy,rfl⟩,_⟩:=(row_mem _ d i hi t).1 h
 obtain⟨h1,h2⟩:=leaves_in hd y hy
 have h3:=half_bd h1 h2 (Nat.le_of_lt hi)
 obtain⟨e,he⟩:∃e,d - i=e+1:=⟨d - i - 1,by omega⟩
 rw[he]at h3
 have h4:=sib_bd h3.1 h3.2;have h5:(2:Int) ^ (e+1)≤65536:=by
  rw[pow_cast]
  have:2 ^ (e+1)≤65536:=Nat.pow_le_pow_right (n:=2) (by decide) (by omega:e+1≤16)
  omega
 unfold U64
 omega
set_option maxRecDepth 100000 in
set_option maxHeartbeats 8000000 in
theorem proot_main(nn:Nat)(ps:List Int)(es ds:List ByteArray)(pa ea da:Option Addr)(pc ec dc:Nat)(w:World)(hp:U64s w pa ps)(he:Txts w ea es)(hd:Txts w da ds)(hl:len ps≤12)(hu:∀k ∈ ps,U64 k)(hld:len ds≤1000000)(hdc:len ds≤dc)(hez:∀i,i<len es→(tth es i).size≤1000000)(hb:ArgOk (nn:Nat) ps es)(hbad:badB ds=false):
  Calls Tryz.prog 102 #[.int .i64 (nn:Nat),.slice pa (len ps) pc,.slice ea (len es) ec,.slice da (len ds) dc] w (RootIs (nn:Nat) ps es ds w):=by
 have hn16:nn≤65536:=by have:=hb.1.2.1;omega
 obtain⟨d,hdd⟩:∃d:Nat,Lib.bitLen (nn - 1)=d:=⟨_,rfl⟩
 have hdz:depthZ (nn:Nat)=(d:Nat):=by unfold depthZ;rw[if_neg (by omega),Int.toNat_natCast,hdd]
 have hdb:=depth_bd nn hn16
 rw[hdd]at hdb
 have HD16:Hid (d≤16):=Lib.hid hdb.1
 obtain⟨lv,hlv⟩:∃lv,leavesL ps (d:Nat)=lv:=⟨_,rfl⟩
 have HLN:Hid (len lv=len ps):=Lib.hid (by rw[←hlv,leavesL_len]);have HLU:Hid (∀k ∈ lv,U64 k):=Lib.hid (by rw[←hlv];exact leavesL_u64 ps _)
 obtain⟨rs,hrs⟩:∃rs,rowsOf lv d=rs:=⟨_,rfl⟩
 have HNR:Hid (needsL lv (d:Nat)=rs):=Lib.hid (by rw[←hrs,←hlv];exact needsP_rows hdb.1 hb.1.2.2);have HRL:Hid (len rs=d):=Lib.hid (by rw[←hrs,rowsOf_len]);have HLV:=Lib.hid hlv;have HRS:=Lib.hid hrs;have HNM:Hid ((∀i,len (rnth rs i)≤100)∧(flatLv rs).length≤1600):=Lib.hid (by
  rw[←HNR.out]
  exact⟨rnth_nl _ _ (by rw[HLN.out];omega),flat_bd _ _ (by rw[HLN.out];omega)⟩)
 have HRP:Hid (rowsP (nn:Nat) ps=rs):=Lib.hid (by unfold rowsP;rw[hdz,hlv];exact HNR.out);have HDP:Hid (digP (nn:Nat) ps es ds=kidF (rootG (g0F lv es) rs ds) 0):=Lib.hid (by unfold digP;rw[HRP.out,hdz,hlv]);have HNP:Hid (neededP (nn:Nat) ps=usedR rs (len rs)):=Lib.hid (by unfold neededP;rw[HRP.out]);have HM:=Lib.hid (λ w9 hb9=>pmay_any (nn:Nat) ps pa pc w9 (hp.below hb9) (by omega) (by omega) (by omega))
 rw[decide_eq_true hb.1]at HM
 have hel:=hb.2;have HBD:=Lib.hid (λ w9 hb9=>bad_any da dc ds w9 (hd.below hb9) (by omega))
 rw[hbad]at HBD
 have HDE:=Lib.hid (λ w9=>depth_any (nn:Nat) w9 (by omega) (by omega))
 rw[hdz]at HDE
 have HLF:=Lib.hid (λ k (hk:U64 k) w9=>leaf_any k (d:Nat) w9 hk.1 hk.2);have HP:=Lib.hid hp;have HES:=Lib.hid he;have HDS:=Lib.hid hd;have HU:=Lib.hid hu;have HL100:=Lib.hid hl;have HEZ:=Lib.hid hez;have HEL:=Lib.hid hel;have HLD:=Lib.hid hld;have HDC:=Lib.hid hdc;have HARG:=Lib.hid hb;have HBADF:=Lib.hid hbad
 obtain⟨i0,hi,hz0,hz1,hz2⟩:=info_parts info_u64
 have HZ0:=Lib.hid hz0;clear hp he hd hl hu hld hdc hez hb hbad hn16 hdd hdz hdb hlv hrs hel hz0
 go_enter Tryz.func102,Tryz.ntmps102
 rw[HEL.out]
 go_upto_region 1 with fail
 obtain⟨pb,hpb⟩:∃pb,w.heap.size=pb:=⟨_,rfl⟩
 obtain⟨V,hV⟩:∃V,w.alloc (.cells #[.slice da (len ds) dc] 36)=V:=⟨_,rfl⟩
 have HVP:Hid (V.heap[pb]?=some (.cells #[.slice da (len ds) dc] 36 (0,0))):=Lib.hid (by rw[←hV];exact alloc_new_at _ hpb);have HVW:Hid (Below w.heap.size w V):=Lib.hid (by rw[←hV];exact balloc (Below.refl _ _) _);have HPB:Hid (w.heap.size≤pb):=Lib.hid (Nat.le_of_eq hpb)
 rw[hpb,hV]
 clear hV hpb
 go_wp2_with fail
 refine(HM.out _ HVW.out).mono ?_
 rintro e w1 ⟨rfl,hb1⟩
 have HP1:Hid (w1.heap[pb]?=some (.cells #[.slice da (len ds) dc] 36 (0,0))):=Lib.hid ((hb1.block _ (lt_of_block HVP.out)).trans HVP.out);have HB1:Hid (Below w.heap.size w w1):=Lib.hid (bnext HVW.out hb1);clear hb1 HVP HVW HM;have c0:w1.cell? ⟨pb,0,none⟩=some (.slice da (len ds) dc):=by rw[block_cell HP1.out];rfl
 have c2:pb<w1.heap.size:=lt_of_block HP1.out
 go_wp2_with fail
 refine(HBD.out w1 HB1.out).mono ?_
 rintro e w2 ⟨rfl,rfl⟩
 clear c0 c2 HBD
 go_wp2_with fail
 refine(HDE.out w1).mono ?_
 rintro e w2 ⟨rfl,rfl⟩
 have hmm:=@run_makeMap Tryz.prog
 go_upto_region 9 with fail
 clear hmm HDE
 obtain⟨mb,hmb⟩:∃mb,w1.heap.size=mb:=⟨_,rfl⟩
 obtain⟨V,hV⟩:∃V,w1.alloc (Obj.map #[] 0)=V:=⟨_,rfl⟩
 have HVM:Hid (LvAt mb (addF noF (lv.take 0) (leafD es)) V):=Lib.hid ⟨⟨[],by rw[←hV];exact alloc_new_at _ hmb,by rw[List.take_zero];exact MapF.nil⟩,by rw[List.take_zero];exact SmF.no⟩;have HVP:Hid (V.heap[pb]?=some (.cells #[.slice da (len ds) dc] 36 (0,0))):=Lib.hid (by rw[←hV];exact block_alloc HP1.out _);have HVW:Hid (Below w.heap.size w V):=Lib.hid (by rw[←hV];exact balloc HB1.out _);have HMB:Hid (pb<mb∧w.heap.size≤mb):=Lib.hid ⟨by rw[←hmb];exact lt_of_block HP1.out,by rw[←hmb];exact HB1.out.size⟩
 obtain⟨B,hB⟩:∃B,V.heap.size=B:=⟨_,rfl⟩
 have HBM:Hid (mb<B):=Lib.hid (by rw[←hB];exact HVM.out.lt);have HVB:Hid (B≤V.heap.size):=Lib.hid (Nat.le_of_eq hB.symm)
 rw[hmb,hV]
 clear hV hmb HB1 HP1 hB
 go_loopg [45,12] (len ps) (λ g i v wr=>∃m:Nat,g+m=len ps∧i=.int .i64 m∧Hid (wr.ownsRow B 23 1 v m ((lv.take m).map (Value.int .u64)))∧Hid (LvAt mb (addF noF (lv.take m) (leafD es)) wr)∧Hid (wr.heap[pb]?=some (.cells #[.slice da (len ds) dc] 36 (0,0)))∧Hid (Below w.heap.size w wr)∧Hid (B≤wr.heap.size))
 case atStart=>exact⟨0,rfl,rfl,Lib.hid (World.ownsRow_nil _ _ _ _),HVM,HVP,HVW,HVB⟩
 case round=>
  clear HVM HVP HVW HVB
  obtain⟨m,hm,rfl,HO,HG,HPX,HW,HBS⟩:=hrel
  have HNN:=HL100.out
  by_cases hlt:m<len ps
  ·have b0:(m:Int)<len ps:=by omega
   have b1:¬len ps≤m:=by omega
   obtain⟨b,off,hra,hcell⟩:=HP.out.below HW.out m hlt
   subst hra
   obtain⟨eb,eo,hea,hcel⟩:=HES.out.below HW.out m (by rw[HEL.out];exact hlt)
   subst hea
   obtain⟨k,hk⟩:∃k,nth ps m=k:=⟨_,rfl⟩
   have hku:U64 k:=by rw[←hk];exact HU.out _ (mem_nth hlt)
   obtain⟨s,hs⟩:∃s,tth es m=s:=⟨_,rfl⟩
   have HSZ:Hid (s.size≤1000000):=Lib.hid (by rw[←hs];exact HEZ.out m (by rw[HEL.out];exact hlt))
   obtain⟨t,ht⟩:∃t,turnedZ k (d:Nat)=t:=⟨_,rfl⟩
   have HSS:=Lib.hid hs;have HTN:Hid (nth lv m=t):=Lib.hid (by rw[←HLV.out,leaves_nth ps _ m hlt,hk,ht]);have HTU:Hid (U64 t):=Lib.hid (by rw[←HTN.out];exact HLU.out _ (mem_nth (by rw[HLN.out];exact hlt)));have HLK:=Lib.hid (HLF.out k hku wr)
   rw[ht]at HLK
   have HLD9:Hid (tth (leafD es) m=hashP leafT [s]):=Lib.hid (by rw[leafD_at es m (by rw[HEL.out];exact hlt),hs])
   rw[hk]at hcell
   rw[hs]at hcel
   have l1:=lt_of_cell hcell;have HCE:=Lib.hid hcel;clear hk hku hs ht hcel
   go_upto_region 11 with fail
   clear hcell l1
   go_wp2_with fail
   refine HLK.out.mono ?_
   rintro e w2 ⟨rfl,rfl⟩
   go_upto_region 13 with(at_builtin;refine wpList_append_own _ rfl _ _ 64 rfl B 23 i0 (.int .u64 0) 1 8 Tryz.underlying64 hi HZ0.out hz1 hz2 rfl (by decide) _ _ _ rfl (HO.out.alloc _) ⟨wr.heap.size,0,none⟩ 1 1 [.int .u64 t] rfl rfl (World.news_of_block (heap_alloc_new _ _)) (by intro u hu9;simp at hu9;subst hu9;rfl) (by unfold maxLen;omega) (by omega) (by have:=HBS.out;simp;omega) ?_;intro v2 w4 hown2 hgrow2 _)
   have HX9:Hid (Below wr.heap.size wr (wr.alloc (.cells #[.int .u64 t] 23))):=Lib.hid (balloc (Below.refl _ _) _);have HO4:Hid (w4.ownsRow B 23 1 v2 (m+1) ((lv.take (m+1)).map (Value.int .u64))):=Lib.hid (by
    rw[take_snoc_nth (by rw[HLN.out];exact hlt),HTN.out,List.map_append]
    exact hown2)
   have HG4:Hid (LvAt mb (addF noF (lv.take m) (leafD es)) w4):=Lib.hid (HG.out.keep ((own_keeps (HO.out.alloc _) hgrow2 HBM.out (by have:=HG.out.lt;simp;omega)).trans (HX9.out.block _ HG.out.lt)));have HP4:Hid (w4.heap[pb]?=some (.cells #[.slice da (len ds) dc] 36 (0,0))):=Lib.hid (((own_keeps (HO.out.alloc _) hgrow2 (by have:=HBM.out;have:=HMB.out;omega) (by have:=lt_of_block HPX.out;simp;omega)).trans (HX9.out.block _ (lt_of_block HPX.out))).trans HPX.out);have HW4:Hid (Below w.heap.size w w4):=Lib.hid (grownBy_below (balloc HW.out _) hgrow2 (λ k hk'=>Nat.le_trans (Nat.le_trans HMB.out.2 (Nat.le_of_lt HBM.out)) (HO.out.lt k hk').1));have HB4:Hid (B≤w4.heap.size):=Lib.hid (by have h9:=hgrow2.size;have:=HBS.out;simp at h9;omega);clear hown2 hgrow2 HX9 HO HG HPX HW HBS HLK HCE
   obtain⟨eb2,eo2,he2,hcel2⟩:=HES.out.below HW4.out m (by rw[HEL.out];exact hlt)
   cases he2
   rw[HSS.out]at hcel2
   have l2:=lt_of_cell hcel2;have HELL:=HEL.out;have b3:(m:Int)<(len es:Int):=by omega
   have b4:¬len es≤m:=by omega
   go_wp2_with fail
   refine(hash1_any leafT s w4 (by decide) (by decide) HSZ.out).mono ?_
   rintro e w5 ⟨rfl,hb5⟩
   clear hcel2 l2 b3 b4 HELL;have HO5:Hid (w5.ownsRow B 23 1 v2 (m+1) ((lv.take (m+1)).map (Value.int .u64))):=Lib.hid (own_below HO4.out hb5);have HG5:Hid (LvAt mb (addF noF (lv.take m) (leafD es)) w5):=Lib.hid (HG4.out.keep (hb5.block _ HG4.out.lt));have HP5:Hid (w5.heap[pb]?=some (.cells #[.slice da (len ds) dc] 36 (0,0))):=Lib.hid ((hb5.block _ (lt_of_block HP4.out)).trans HP4.out);have HW5:Hid (Below w.heap.size w w5):=Lib.hid (bnext HW4.out hb5);have HB5:Hid (B≤w5.heap.size):=Lib.hid (Nat.le_trans HB4.out hb5.size)
   obtain⟨⟨L,hL,hmf⟩,hsm⟩:=HG5.out
   have HLL:=Lib.hid hL;have HMF:=Lib.hid hmf;have HSM:=Lib.hid hsm
   obtain⟨D,hD⟩:∃D,hashP leafT [s]=D:=⟨_,rfl⟩
   have HDZ9:Hid (D.size≤1000):=Lib.hid (by rw[←hD,hashP_size];omega);have HAF:Hid (addF noF (lv.take (m+1)) (leafD es)=putF (addF noF (lv.take m) (leafD es)) t D):=Lib.hid (by rw[addF_take _ _ _ m (by rw[HLN.out];exact hlt),HTN.out,HLD9.out,hD])
   rw[hD]
   clear hb5 hL hmf hsm hD HO4 HG4 HP4 HW4 HB4 HG5
   go_upto_region 14 with(at_mapUpdate;refine wpList_mapUpdate_m rfl _ _ _ 200 23 9 .u64 rfl Tryz.underlying200 Tryz.underlying23 mb 0 _ rfl HLL.out t (.string D) rfl rfl ?_)
   obtain⟨U,hU⟩:∃U,setBlock w5 mb (mObj .u64 0 (mPut L t (.string D)))=U:=⟨_,rfl⟩
   have HG6:Hid (LvAt mb (addF noF (lv.take (m+1)) (leafD es)) U):=Lib.hid (by rw[HAF.out,←hU];exact LvAt.put HLL.out HMF.out HSM.out HTU.out HDZ9.out);have HO6:Hid (U.ownsRow B 23 1 v2 (m+1) ((lv.take (m+1)).map (Value.int .u64))):=Lib.hid (by rw[←hU];exact own_setBlock HO5.out HBM.out _);have HP6:Hid (U.heap[pb]?=some (.cells #[.slice da (len ds) dc] 36 (0,0))):=Lib.hid (by rw[←hU];exact(setBlock_other (by have:=HMB.out;omega)).trans HP5.out);have HW6:Hid (Below w.heap.size w U):=Lib.hid (by rw[←hU];exact setBlock_below HW5.out HMB.out.2);have HB6:Hid (B≤U.heap.size):=Lib.hid (by rw[←hU,setBlock_size];exact HB5.out)
   rw[hU]
   clear hU HO5 HP5 HW5 HB5 HLL
   go_wp2
   go_roundg (len ps - (m+1))
   case rel=>exact⟨m+1,by omega,by go_num,HO6,HG6,HP6,HW6,HB6⟩
   case measure=>omega
  ·obtain rfl:m=len ps:=by omega
   have b0:¬((len ps:Nat):Int)<len ps:=by omega
   have HGZ:Hid (LvAt mb (g0F lv es) wr):=Lib.hid (by
    have h9:=HG.out
    rw[show lv.take (len ps)=lv by rw[←HLN.out,take_len]]at h9
    exact h9)
   have HOZ:Hid (wr.ownsRow B 23 1 u12 (len ps) (lv.map (Value.int .u64))):=Lib.hid (by
    have h9:=HO.out
    rw[show lv.take (len ps)=lv by rw[←HLN.out,take_len]]at h9
    exact h9)
   obtain⟨al,cl,rfl,hUl,_,_⟩:=own_u64 HOZ.out
   have HND:=Lib.hid (needs_any al cl lv (d:Nat) wr hUl (by rw[HLN.out];exact HL100.out) HLU.out)
   rw[HNR.out]at HND
   clear hUl HO HG HOZ hm
   go_wp2_with fail
   refine HND.out.mono ?_
   rintro e w3 ⟨v,vals,rfl,hr1,hr2,hb3⟩
   obtain⟨a3,cap3,rfl,hRU⟩:=rowsU_of hr1 hr2
   have HRU:=Lib.hid hRU
   obtain⟨B2,hB2⟩:∃B2,wr.heap.size=B2:=⟨_,rfl⟩
   rw[hB2]at HRU
   have HB2:Hid (mb<B2∧pb<B2):=Lib.hid ⟨by rw[←hB2];exact HGZ.out.lt,by rw[←hB2];exact lt_of_block HPX.out⟩;have HG3:Hid (LvAt mb (g0F lv es) w3):=Lib.hid (HGZ.out.keep (hb3.block _ HGZ.out.lt));have HP3:Hid (w3.heap[pb]?=some (.cells #[.slice da (len ds) dc] 36 (0,0))):=Lib.hid ((hb3.block _ (lt_of_block HPX.out)).trans HPX.out);have HW3:Hid (Below w.heap.size w w3):=Lib.hid (bnext HW.out hb3);have HB23:Hid (B2≤w3.heap.size):=Lib.hid (by rw[←hB2];exact hb3.size);clear hr1 hr2 hRU hB2 hb3 HND HGZ HPX HW HBS
   go_upto_region 18 with fail
   go_loopg [71,17] (len rs) (λ g i v wr=>∃m:Nat,g+m=len rs∧i=.int .i64 m∧v=.int .i64 (usedR rs m:Nat)∧wr=w3)
   case atStart=>exact⟨0,rfl,rfl,rfl,rfl⟩
   case round=>
    obtain⟨m,hm,rfl,rfl,rfl⟩:=hrel
    have hr16:len rs≤16:=by have:=HRL.out;have:=HD16.out;omega
    by_cases hlt:m<len rs
    ·have b1:(m:Int)<len rs:=by omega
     have b2:¬len rs≤m:=by omega
     obtain⟨rb,ro,ra,rc,hra3,_,hrc,_⟩:=HRU.out m hlt
     subst hra3
     have l1:=lt_of_cell hrc;have HN9:Hid (usedR rs (m+1)=usedR rs m+len (rnth rs m)):=Lib.hid (usedR_next rs m hlt);have hub:usedR rs m+len (rnth rs m)≤1600:=by
      rw[←usedR_next rs m hlt]
      have:=usedR_bd HNM.out.1 (m+1) (by omega)
      omega
     obtain⟨u,hu⟩:∃u,usedR rs m=u:=⟨_,rfl⟩
     obtain⟨q,hq⟩:∃q,len (rnth rs m)=q:=⟨_,rfl⟩
     rw[hu,hq]at hub HN9
     rw[hq]at hrc
     rw[hu]
     clear hu hq
     go_wp2
     go_roundg (len rs - (m+1))
     case rel=>exact⟨m+1,by omega,by go_num,by rw[HN9.out];go_num,rfl⟩
     case measure=>omega
    ·obtain rfl:m=len rs:=by omega
     have b1:¬((len rs:Nat):Int)<len rs:=by omega
     have hub:usedR rs (len rs)≤1600:=by
      have:=usedR_bd HNM.out.1 (len rs) (Nat.le_refl _)
      omega
     obtain⟨N,hN⟩:∃N,usedR rs (len rs)=N:=⟨_,rfl⟩
     have HNN:=Lib.hid hN
     rw[hN]at hub HNP ⊢
     have HUB:=Lib.hid hub;clear hN hub hm hr16;have c0:wr.cell? ⟨pb,0,none⟩=some (.slice da (len ds) dc):=by rw[block_cell HP3.out];rfl
     have c2:pb<wr.heap.size:=lt_of_block HP3.out
     by_cases hlt4:len ds<N
     ·have z1:((len ds:Nat):Int)<((N:Nat):Int):=by omega
      have HE:Hid (rootE (nn:Nat) ps es ds=4∧rootS (nn:Nat) ps es ds=⟨#[]⟩):=Lib.hid (by
       have h9:rootE (nn:Nat) ps es ds=4:=by unfold rootE;rw[if_neg (λ h=>h HARG.out),if_neg (by rw[HBADF.out];simp),HNP.out,if_pos hlt4]
       exact⟨h9,by unfold rootS;rw[h9];rfl⟩)
      clear hlt4
      go_wp2
      go_ret2
      exact⟨by rw[HE.out.1,HE.out.2];rfl,HW3.out⟩
     ·have z1:¬((len ds:Nat):Int)<((N:Nat):Int):=by omega
      by_cases hlt3:N<len ds
      ·have z2:((N:Nat):Int)<((len ds:Nat):Int):=by omega
       have HE:Hid (rootE (nn:Nat) ps es ds=3∧rootS (nn:Nat) ps es ds=⟨#[]⟩):=Lib.hid (by
        have h9:rootE (nn:Nat) ps es ds=3:=by unfold rootE;rw[if_neg (λ h=>h HARG.out),if_neg (by rw[HBADF.out];simp),HNP.out,if_neg hlt4,if_pos hlt3]
        exact⟨h9,by unfold rootS;rw[h9];rfl⟩)
       clear hlt4 hlt3
       go_wp2
       go_ret2
       exact⟨by rw[HE.out.1,HE.out.2];rfl,HW3.out⟩
      ·have z2:¬((N:Nat):Int)<((len ds:Nat):Int):=by omega
       have HEQ:Hid (len ds=N):=Lib.hid (by omega);have HE:Hid (rootE (nn:Nat) ps es ds=0∧rootS (nn:Nat) ps es ds=kidF (rootG (g0F lv es) rs ds) 0):=Lib.hid (by
        have h9:rootE (nn:Nat) ps es ds=0:=by unfold rootE;rw[if_neg (λ h=>h HARG.out),if_neg (by rw[HBADF.out];simp),HNP.out,if_neg hlt4,if_neg hlt3]
        exact⟨h9,by unfold rootS;rw[h9,if_pos rfl];exact HDP.out⟩)
       clear hlt4 hlt3
       go_upto_region 28 with fail
       clear z1 z2 c0 c2
       obtain⟨W3,hW3⟩:∃W3,W3=wr:=⟨_,rfl⟩
       subst hW3
       have HG9:Hid (LvAt mb (rootT (g0F lv es) rs ds 0) W3):=HG3;have HBX9:Hid (∃a' c',W3.heap[pb]?=some (.cells #[.slice a' (len (ds.drop (usedR rs 0))) c'] 36 (0,0))∧len (ds.drop (usedR rs 0))≤c'∧∀w9,Txts w9 da ds→Txts w9 a' (ds.drop (usedR rs 0))):=Lib.hid ⟨da,dc,HP3.out,HDC.out,λ _ h9=>h9⟩;clear HG3 HP3
       go_loopg [93,11] (len rs) (λ g i v wz=>∃m kb:Nat,g+m=len rs∧i=.int .i64 m∧v=.map (some kb)∧Hid (LvAt kb (rootT (g0F lv es) rs ds m) wz)∧Hid (∃a' c',wz.heap[pb]?=some (.cells #[.slice a' (len (ds.drop (usedR rs m))) c'] 36 (0,0))∧len (ds.drop (usedR rs m))≤c'∧∀w9,Txts w9 da ds→Txts w9 a' (ds.drop (usedR rs m)))∧Hid (Below w.heap.size w wz)∧Hid (Upper B2 W3 wz)∧Hid (pb<kb∧w.heap.size≤kb∧(kb<B2 ∨ W3.heap.size≤kb)∧W3.heap.size≤wz.heap.size))
       case atStart=>exact⟨0,mb,rfl,rfl,rfl,HG9,HBX9,HW3,Lib.hid (Upper.refl _ _),Lib.hid ⟨HMB.out.1,HMB.out.2,.inl HB2.out.1,Nat.le_refl _⟩⟩
       case round=>
        clear HG9 HBX9
        obtain⟨m,kb,hm,rfl,rfl,HG,HBX,HWZ,HUP,HKB⟩:=hrel
        obtain⟨wz,hwz⟩:∃wz,wz=wr:=⟨_,rfl⟩
        subst hwz
        have hr16:len rs≤16:=by have:=HRL.out;have:=HD16.out;omega
        by_cases hlt:m<len rs
        ·have b1:(m:Int)<len rs:=by omega
         have b2:¬len rs≤m:=by omega
         obtain⟨rb,ro,ra,rc,hra3,hrb,hrc,hrq⟩:=HRU.out m hlt
         subst hra3
         have hrc2:=HUP.out.cell hrb hrc;have l1:=lt_of_cell hrc2
         obtain⟨row,hrow⟩:∃row,rnth rs m=row:=⟨_,rfl⟩
         have HROW:=Lib.hid hrow
         rw[hrow]at hrc2 hrq
         have HRQ:=Lib.hid hrq;have HRLN:Hid (len row≤100):=Lib.hid (by rw[←hrow];exact HNM.out.1 m);have HHM:=Lib.hid hm;have HHL:=Lib.hid hlt
         obtain⟨u,hu⟩:∃u,usedR rs m=u:=⟨_,rfl⟩
         have HUU:Hid (usedR rs m=u):=Lib.hid hu;have HUT:Hid (u+len row≤len ds):=Lib.hid (by
          have h1:=usedR_next rs m hlt;have h2:=usedR_le rs (m+1)
          rw[hrow,hu]at h1
          rw[HEQ.out,←HNN.out]
          omega)
         obtain⟨GT,hGT⟩:∃GT,rootT (g0F lv es) rs ds m=GT:=⟨_,rfl⟩
         have HGT:=Lib.hid hGT
         rw[hGT]at HG
         rw[hu]at HBX
         have HG0:Hid (LvAt kb (addF GT (row.take 0) (ds.drop u)) wz):=Lib.hid (by rw[List.take_zero];exact HG.out);have HBX0:Hid (∃a' c',wz.heap[pb]?=some (.cells #[.slice a' (len (ds.drop (u+0))) c'] 36 (0,0))∧len (ds.drop (u+0))≤c'∧∀w9,Txts w9 da ds→Txts w9 a' (ds.drop (u+0))):=HBX
         obtain⟨GK,hGK⟩:∃G,G=gk:=⟨_,rfl⟩
         subst hGK
         clear hrc hrq hrow hu hGT HG HBX hm hlt hr16
         go_upto_region 31 with fail
         clear hrc2 l1 b1 b2
         go_loopg [99] (len row) (λ g j wy=>∃q:Nat,g+q=len row∧j=.int .i64 q∧Hid (LvAt kb (addF GT (row.take q) (ds.drop u)) wy)∧Hid (∃a' c',wy.heap[pb]?=some (.cells #[.slice a' (len (ds.drop (u+q))) c'] 36 (0,0))∧len (ds.drop (u+q))≤c'∧∀w9,Txts w9 da ds→Txts w9 a' (ds.drop (u+q)))∧Hid (Below w.heap.size w wy)∧Hid (Upper B2 W3 wy)∧Hid (W3.heap.size≤wy.heap.size))
         case atStart=>exact⟨0,rfl,rfl,HG0,HBX0,HWZ,HUP,Lib.hid HKB.out.2.2.2⟩
         case round=>
          clear HG0 HBX0 HWZ HUP
          obtain⟨q,hq,rfl,HG,HBX,HWZ,HUP,HSZ⟩:=hrel
          obtain⟨wy,hwy⟩:∃wy,wy=wr:=⟨_,rfl⟩
          subst hwy
          have hr100:=HRLN.out
          by_cases hlq:q<len row
          ·have b1:(q:Int)<len row:=by omega
           have b2:¬len row≤q:=by omega
           obtain⟨ub,uo,hua,hub,huc⟩:=HRQ.out q hlq
           subst hua
           have huc2:=HUP.out.cell hub huc;have l2:=lt_of_cell huc2
           obtain⟨t,ht⟩:∃t,nth row q=t:=⟨_,rfl⟩
           rw[ht]at huc2
           have HTU:Hid (U64 t):=Lib.hid (by
            have h1:t ∈ rnth rs m:=by rw[HROW.out,←ht];exact mem_nth hlq
            rw[←HRS.out,←HLV.out]at h1
            exact row_u64 HD16.out (by rw[←HRL.out];exact HHL.out) h1)
           obtain⟨a9,c9,hbx,hc9,hta⟩:=HBX.out
           have HTN:Hid (addF GT (row.take (q+1)) (ds.drop u)=putF (addF GT (row.take q) (ds.drop u)) t (tth ds (u+q))):=Lib.hid (by rw[addF_take _ _ _ q hlq,ht,tth_drop]);have hdl:len (ds.drop (u+q))=len ds - (u+q):=by rw[len_eq,List.length_drop];rfl
           have hut:=HUT.out;have HNX:=Lib.hid (nextd_any pb a9 c9 (ds.drop (u+q)) wy hbx (hta _ (HDS.out.below HWZ.out)) (by omega) hc9);have HDD:Hid ((tth ds (u+q)).size≤1000):=Lib.hid (by
            have h1:=of_decide_eq_false HBADF.out;have h2:u+q<ds.length:=by have:len ds=ds.length:=rfl;omega
            apply Classical.byContradiction
            intro h3
            exact h1 ⟨ds[u+q],List.getElem_mem h2,λ h4=>h3 (by rw[tth_eq ds (u+q) h2,h4];omega)⟩)
           have HC9:Hid (len (ds.drop (u+q)) - 1≤c9):=Lib.hid (by omega);have HBQ:=Lib.hid hbx;have HDL1:Hid (len (ds.drop (u+(q+1)))=len (ds.drop (u+q)) - 1):=Lib.hid (by rw[len_eq,List.length_drop,hdl];have:len ds=ds.length:=rfl;omega)
           obtain⟨⟨L,hL,hmf⟩,hsm⟩:=HG.out
           have HLW:=Lib.hid hL;have HMF:=Lib.hid hmf;have HSM:=Lib.hid hsm
           obtain⟨D,hD⟩:∃D,tth ds (u+q)=D:=⟨_,rfl⟩
           have HT0:Hid (tth (ds.drop (u+q)) 0=D):=Lib.hid (by rw[tth_drop,Nat.add_zero,hD])
           rw[hD]at HDD HTN
           clear hbx hc9 hut hdl hL hmf hsm hD huc ht
           go_wp2_with fail
           refine HNX.out.mono ?_
           rintro e w2 ⟨a',c',rfl,hw2,hc',hta'⟩
           rw[HT0.out]
           have HCC:=Lib.hid hc';have HTA:=Lib.hid hta';have HKP:Hid (pb≠kb):=Lib.hid (by have:=HKB.out.1;omega);have HL2:Hid (w2.heap[kb]?=some (mObj .u64 0 L)):=Lib.hid (by rw[hw2];exact(Below.heap_setCell _ _ _ _ (show kb≠pb by have:=HKP.out;omega)).trans HLW.out);have HP2:Hid (w2.heap[pb]?=some (.cells #[.slice a' (len (ds.drop (u+q)) - 1) c'] 36 (0,0))):=Lib.hid (by rw[hw2];exact block_setCell HBQ.out _);have HW2:Hid (Below w.heap.size w w2):=Lib.hid (by rw[hw2];exact bset HWZ.out HPB.out _);have HU2:Hid (Upper B2 W3 w2):=Lib.hid (by rw[hw2];exact HUP.out.set HB2.out.2 _ _);have HS2:Hid (W3.heap.size≤w2.heap.size):=Lib.hid (by rw[hw2];have:=HSZ.out;simp[World.setCell];exact this);clear hw2 hc' hta' HLW HBQ HBX HWZ HUP HSZ HNX huc2 l2 b2
           go_upto_region 34 with(at_mapUpdate;refine wpList_mapUpdate_m rfl _ _ _ 200 23 9 .u64 rfl Tryz.underlying200 Tryz.underlying23 kb 0 _ rfl HL2.out t (.string D) rfl rfl ?_)
           obtain⟨U,hU⟩:∃U,setBlock w2 kb (mObj .u64 0 (mPut L t (.string D)))=U:=⟨_,rfl⟩
           have HG6:Hid (LvAt kb (addF GT (row.take (q+1)) (ds.drop u)) U):=Lib.hid (by rw[HTN.out,←hU];exact LvAt.put HL2.out HMF.out HSM.out HTU.out HDD.out);have HBX6:Hid (∃a' c',U.heap[pb]?=some (.cells #[.slice a' (len (ds.drop (u+(q+1)))) c'] 36 (0,0))∧len (ds.drop (u+(q+1)))≤c'∧∀w9,Txts w9 da ds→Txts w9 a' (ds.drop (u+(q+1)))):=Lib.hid (by
            rw[HDL1.out,←hU]
            refine⟨a',c',(setBlock_other HKP.out).trans HP2.out,HCC.out,λ w9 h9=>?_⟩
            have h8:=HTA.out w9 (hta w9 h9)
            rw[List.drop_drop]at h8
            exact h8)
           have HW6:Hid (Below w.heap.size w U):=Lib.hid (by rw[←hU];exact setBlock_below HW2.out HKB.out.2.1);have HU6:Hid (Upper B2 W3 U):=Lib.hid (by rw[←hU];exact HU2.out.map HKB.out.2.2.1 _);have HS6:Hid (W3.heap.size≤U.heap.size):=Lib.hid (by rw[←hU,setBlock_size];exact HS2.out)
           rw[hU]
           clear hU HL2 HP2 HW2 HU2 HS2
           go_wp2
           go_roundg (len row - (q+1))
           case rel=>exact⟨q+1,by omega,by go_num,HG6,HBX6,HW6,HU6,HS6⟩
           case measure=>omega
          ·obtain rfl:q=len row:=by omega
           have b1:¬((len row:Nat):Int)<len row:=by omega
           have HOV:=Lib.hid (kover_any kb 0 _ wy HG.out.at_ HG.out.small);have hm:=HHM.out;have hlt:=HHL.out;have hr16:len rs≤16:=by have:=HRL.out;have:=HD16.out;omega
           have HRT:Hid (rootT (g0F lv es) rs ds (m+1)=overF (addF GT (row.take (len row)) (ds.drop u))):=Lib.hid (by rw[rootT_next _ _ _ m hlt,HGT.out,HROW.out,HUU.out,take_len]);have HUN:Hid (usedR rs (m+1)=u+len row):=Lib.hid (by rw[usedR_next rs m hlt,HUU.out,HROW.out]);have HPLT:Hid (pb<wy.heap.size):=Lib.hid (by obtain⟨a9,c9,hbx,_⟩:=HBX.out;exact lt_of_block hbx)
           go_wp2_with fail
           refine HOV.out.mono ?_
           rintro e w2 ⟨b9,rfl,hk9,hb9,hbel⟩
           have HG6:Hid (LvAt b9 (rootT (g0F lv es) rs ds (m+1)) w2):=Lib.hid (by rw[HRT.out];exact⟨hk9,SmF.over _⟩);have HBX6:Hid (∃a' c',w2.heap[pb]?=some (.cells #[.slice a' (len (ds.drop (usedR rs (m+1)))) c'] 36 (0,0))∧len (ds.drop (usedR rs (m+1)))≤c'∧∀w9,Txts w9 da ds→Txts w9 a' (ds.drop (usedR rs (m+1)))):=Lib.hid (by
            rw[HUN.out]
            obtain⟨a9,c9,hbx,h2,h3⟩:=HBX.out
            exact⟨a9,c9,(hbel.block _ (lt_of_block hbx)).trans hbx,h2,h3⟩)
           have HW6:Hid (Below w.heap.size w w2):=Lib.hid (bnext HWZ.out hbel);have HUP6:Hid (Upper B2 W3 w2):=Lib.hid (HUP.out.bel HSZ.out hbel);have HKB6:Hid (pb<b9∧w.heap.size≤b9∧(b9<B2 ∨ W3.heap.size≤b9)∧W3.heap.size≤w2.heap.size):=Lib.hid (by
            have h1:=HPLT.out;have h2:=HSZ.out;have h3:=hbel.size;have h4:=HWZ.out.size
            exact⟨by omega,by omega,.inr (by omega),by omega⟩)
           clear hk9 hb9 hbel
           go_wp2
           go_roundg (len rs - (m+1))
           case rel=>exact⟨m+1,b9,by omega,by go_num,rfl,HG6,HBX6,HW6,HUP6,HKB6⟩
           case measure=>omega
        ·obtain rfl:m=len rs:=by omega
         have b1:¬((len rs:Nat):Int)<len rs:=by omega
         obtain⟨⟨L,hL,hmf⟩,_⟩:=HG.out
         have HLL:=Lib.hid hL;have HLK:Hid ((mGet L 0).getD (.string ⟨#[]⟩)=.string (rootS (nn:Nat) ps es ds)):=Lib.hid (by
          have h1:=hmf.look 0
          rw[HE.out.2]
          unfold rootT at h1
          rw[take_len]at h1
          exact h1)
         clear hL hmf
         go_wp2_with (at_lookup;refine wpList_lookup_m rfl _ _ 200 23 9 .u64 rfl Tryz.underlying200 Tryz.underlying23 (.string ⟨#[]⟩) (Tryz.zeroValue9 _) kb 0 _ rfl HLL.out 0 rfl ?_;rw[HLK.out])
         go_ret2
         exact⟨by rw[HE.out.1];rfl,HWZ.out⟩
end Go.Proofs.YtpobhbdomldecaaGreatDoor
namespace Go.Proofs.YtpobhbdomldecaaGreatDoor
open Go.RowKit
set_option linter.unusedSimpArgs false
set_option linter.unusedVariables false
structure PrIn(ps:List Int)(es ds:List ByteArray)(pa ea da:Option Addr)(dc:Nat)(w:World):Prop where
 p:U64s w pa ps
 e:Txts w ea es
 d:Txts w da ds
 pl:len ps≤12
 pu:∀k ∈ ps,U64 k
 el:len es≤1000000
 dl:len ds≤1000000
 dc_:len ds≤dc
 ez:∀i,i<len es→(tth es i).size≤1000000
theorem PrIn.below{ps:List Int}{es ds:List ByteArray}{pa ea da:Option Addr}{dc:Nat}{w w':World}(h:PrIn ps es ds pa ea da dc w)(hb:Below w.heap.size w w'):PrIn ps es ds pa ea da dc w':=
 ⟨h.p.below hb,h.e.below hb,h.d.below hb,h.pl,h.pu,h.el,h.dl,h.dc_,h.ez⟩
theorem proot_any(n:Int)(ps:List Int)(es ds:List ByteArray)(pa ea da:Option Addr)(pc ec dc:Nat)(w:World)(h:PrIn ps es ds pa ea da dc w)(h0:-9223372036854775808≤n)(h1:n≤9223372036854775807):
  Calls Tryz.prog 102 #[.int .i64 n,.slice pa (len ps) pc,.slice ea (len es) ec,.slice da (len ds) dc] w (RootIs n ps es ds w):=by
 by_cases hb:ArgOk n ps es
 ·cases hbad:badB ds with
  | true=>exact proot_form n ps es ds pa ea da pc ec dc w h.p h.d (Nat.le_trans h.pl (by decide)) h.dl h0 h1 hb hbad
  | false=>
   obtain⟨nn,rfl⟩:=Int.eq_ofNat_of_zero_le hb.1.1
   exact proot_main nn ps es ds pa ea da pc ec dc w h.p h.e h.d h.pl h.pu h.dl h.dc_ h.ez hb hbad
 ·exact proot_arg n ps es ds pa ea da pc ec dc w h.p (Nat.le_trans h.pl (by decide)) h0 h1 hb h.el
def checkE(r:ByteArray)(n:Int)(ps:List Int)(es ds:List ByteArray):Int:=if rootE n ps es ds=0∧rootS n ps es ds≠r then 20 else rootE n ps es ds
set_option maxRecDepth 100000 in
theorem pcheck_any(r:ByteArray)(n:Int)(ps:List Int)(es ds:List ByteArray)(pa ea da:Option Addr)(pc ec dc:Nat)(w:World)(h:PrIn ps es ds pa ea da dc w)(h0:-9223372036854775808≤n)(h1:n≤9223372036854775807):
  Calls Tryz.prog 47 #[.string r,.int .i64 n,.slice pa (len ps) pc,.slice ea (len es) ec,.slice da (len ds) dc] w λ e w'=>e=.returned (.int .i64 (checkE r n ps es ds))∧Below w.heap.size w w':=by
 have HR:=Lib.hid (proot_any n ps es ds pa ea da pc ec dc w h h0 h1);clear h h0 h1
 go_enter Tryz.func47,Tryz.ntmps47
 go_wp2_with fail
 refine HR.out.mono ?_
 rintro e w1 ⟨rfl,hb1⟩
 have HB1:=Lib.hid hb1;have HCE:Hid (checkE r n ps es ds=if rootE n ps es ds=0∧rootS n ps es ds≠r then 20 else rootE n ps es ds):=Lib.hid rfl
 obtain⟨E,hE⟩:∃E,rootE n ps es ds=E:=⟨_,rfl⟩
 obtain⟨D,hD⟩:∃D,rootS n ps es ds=D:=⟨_,rfl⟩
 rw[hE,hD]at HCE ⊢
 clear hb1 hE hD
 by_cases he:E=0
 ·subst he
  by_cases hd:D=r
  ·have e1:(D.toList == r.toList)=true:=by rw[str_beq];exact decide_eq_true hd
   have HC2:Hid (checkE r n ps es ds=0):=Lib.hid (by rw[HCE.out,if_neg (λ h=>h.2 hd)]);clear hd
   go_wp2
   go_ret
   exact⟨by rw[HC2.out];rfl,HB1.out⟩
  ·have e1:(D.toList == r.toList)=false:=by rw[str_beq];exact decide_eq_false hd
   have HC2:Hid (checkE r n ps es ds=20):=Lib.hid (by rw[HCE.out,if_pos ⟨rfl,hd⟩]);clear hd
   go_wp2
   go_ret
   exact⟨by rw[HC2.out];rfl,HB1.out⟩
 ·have e1:(E == 0)=false:=by simpa using he
  have HC2:Hid (checkE r n ps es ds=E):=Lib.hid (by rw[HCE.out,if_neg (λ h=>he h.1)])
  go_wp2
  go_ret
  exact⟨by rw[HC2.out];rfl,HB1.out⟩
end Go.Proofs.YtpobhbdomldecaaGreatDoor
namespace Go.Proofs.YtpobhbdomldecaaGreatDoor
open Go.RowKit
set_option linter.unusedSimpArgs false
set_option linter.unusedVariables false
def treeR(l:List ByteArray):ByteArray:=plD l (depN l) (depN l) 0
theorem treeR_size(l:List ByteArray):(treeR l).size=32:=plD_size _ _ _ _
theorem one_may{n k:Nat}(hk:k<n):MayOk (n:Nat) [((k:Nat):Int)]:=⟨(by decide:0<1),λ i hi=>by
 have hi:i<1:=hi
 obtain rfl:i=0:=by omega
 exact⟨by show((k:Nat):Int)<n;omega,λ h=>by omega⟩⟩
theorem one_u64{n k:Nat}(hn:n≤65536)(hk:k<n):∀x ∈ [((k:Nat):Int)],U64 x:=λ x hx=>by
 obtain rfl:=List.mem_singleton.1 hx
 exact⟨by omega,by omega⟩
def oneD(els:List ByteArray)(k:Nat):List ByteArray:=dgsL els (plcL (len els:Nat) [((k:Nat):Int)])
theorem oneD_len{els:List ByteArray}{k:Nat}(hn:len els≤65536):len (oneD els k)=depN els:=by
 unfold oneD
 rw[dgs_len,plc_one (d:=depN els) (depthZ_len hn) (depN_le hn)]
theorem one_back{els:List ByteArray}{k:Nat}(hn:len els≤65536)(hk:k<len els):rootE (len els:Nat) [((k:Nat):Int)] [tth els k] (oneD els k)=0∧rootS (len els:Nat) [((k:Nat):Int)] [tth els k] (oneD els k)=treeR els:=
 back_root hn (one_u64 hn hk) (one_may hk) (Agree.refl _ _) rfl (λ m hm=>by
  have hm:m<1:=hm
  obtain rfl:m=0:=by omega
  rfl)
theorem one_check{els:List ByteArray}{k:Nat}(hn:len els≤65536)(hk:k<len els):checkE (treeR els) (len els:Nat) [((k:Nat):Int)] [tth els k] (oneD els k)=0:=by
 have h:=one_back hn hk
 unfold checkE
 rw[h.1,h.2,if_neg (λ h=>h.2 rfl)]
theorem own_capP{w:World}{base n c:Nat}{a:Option Addr}{xs:List Value}{m:Nat}(h:w.ownsRow base 9 1 (.slice a m c) n xs):m≤c∧(a=none→c=0):=by
 rcases h.2 with⟨e,_⟩ | ⟨g,cap,cur,e,_,_,h3,_⟩
 ·injection e with e1 e2 e3;exact⟨by omega,λ _=>e3⟩
 ·injection e with e1 e2 e3;exact⟨by omega,λ e9=>by rw[e9]at e1;cases e1⟩
def TextsAre(L:List ByteArray)(v:Value)(w:World):Prop:=∃a c,v=.slice a (len L) c∧Txts w a L∧len L≤c∧(a=none→c=0)
theorem TextsAre.below{L:List ByteArray}{v:Value}{w w':World}(h:TextsAre L v w)(hb:Below w.heap.size w w'):TextsAre L v w':=by
 obtain⟨a,c,h1,h2,h3,h4⟩:=h
 exact⟨a,c,h1,h2.below hb,h3,h4⟩
theorem TextsAre.nil(w:World):TextsAre [] (.slice none 0 0) w:=⟨none,0,rfl,Txts.nil _ _,Nat.le_refl _,λ _=>rfl⟩
theorem TextsAre.own{w:World}{base n:Nat}{v:Value}{L:List ByteArray}(h:w.ownsRow base 9 1 v n (L.map Value.string)):TextsAre L v w:=by
 obtain⟨a,c,rfl,ht⟩:=own_txts h
 obtain⟨h1,h2⟩:=own_capP h
 exact⟨a,c,rfl,ht,h1,h2⟩
end Go.Proofs.YtpobhbdomldecaaGreatDoor
namespace Go.Proofs.YtpobhbdomldecaaGreatDoor
open Go.RowKit
set_option linter.unusedSimpArgs false
set_option linter.unusedVariables false
structure Hdr where
 rnd:Int
 prev:ByteArray
 txns:ByteArray
 seed:ByteArray
abbrev Hdr.val(r:Hdr):Value:=.agg #[.int .u64 r.rnd,.string r.prev,.string r.txns,.string r.seed]
def Hdr.cells(r:Hdr):List Value:=[.int .u64 r.rnd,.string r.prev,.string r.txns,.string r.seed]
theorem Hdr.cells_len(r:Hdr):r.cells.length=4:=rfl
theorem Hdr.cells_one(r:Hdr):∀u ∈ r.cells,u.oneCell'=true:=by intro u hu;simp only[Hdr.cells,List.mem_cons,List.not_mem_nil,or_false]at hu;rcases hu with rfl | rfl | rfl | rfl <;> rfl
def Hdr.zero:Hdr:=⟨0,ByteArray.empty,ByteArray.empty,ByteArray.empty⟩
def hnth(l:List Hdr)(i:Nat):Hdr:=l.getD i Hdr.zero
theorem hnth_eq(l:List Hdr)(i:Nat)(h:i<l.length):hnth l i=l[i]:=by unfold hnth;rw[List.getD_eq_getElem?_getD,List.getElem?_eq_getElem h];rfl
structure HdrAt(w:World)(b o:Nat)(r:Hdr):Prop where
 c0:w.cell? ⟨b,o,none⟩=some (.int .u64 r.rnd)
 c1:w.cell? ⟨b,o+1,none⟩=some (.string r.prev)
 c2:w.cell? ⟨b,o+2,none⟩=some (.string r.txns)
 c3:w.cell? ⟨b,o+3,none⟩=some (.string r.seed)
theorem HdrAt.below{w w':World}{b o:Nat}{r:Hdr}(h:HdrAt w b o r)(hb:Below w.heap.size w w'):HdrAt w' b o r:=by
 have hl:=lt_of_cell h.c0;have e:∀q,w'.cell? ⟨b,q,none⟩=w.cell? ⟨b,q,none⟩:=λ q=>hb.cell (p:=⟨b,q,none⟩) hl
 obtain⟨c0,c1,c2,c3⟩:=h
 constructor <;> (rw[e];assumption)
def Hdrs(w:World)(a:Option Addr)(l:List Hdr):Prop:=∀i,i<len l→∃b off,a=some ⟨b,off,none⟩∧HdrAt w b (off+i * 4) (hnth l i)
theorem Hdrs.nil(w:World)(a:Option Addr):Hdrs w a []:=λ i hi=>absurd hi (by simp[len])
theorem Hdrs.below{w w':World}{a:Option Addr}{l:List Hdr}(h:Hdrs w a l)(hb:Below w.heap.size w w'):Hdrs w' a l:=λ i hi=>by
 obtain⟨b,off,rfl,hc⟩:=h i hi
 exact⟨b,off,rfl,hc.below hb⟩
theorem Hdrs.take{w:World}{a:Option Addr}{l:List Hdr}(h:Hdrs w a l)(k:Nat):Hdrs w a (l.take k):=λ i hi=>by
 have hi2:i<l.length∧i<k:=by simp only[len,List.length_take]at hi;omega
 have hi3:i<(l.take k).length:=hi;have e:hnth (l.take k) i=hnth l i:=by rw[hnth_eq l i hi2.1,hnth_eq _ i hi3,List.getElem_take]
 rw[e];exact h i hi2.1
theorem Hdrs.drop{w:World}{b off:Nat}{l:List Hdr}(h:Hdrs w (some ⟨b,off,none⟩) l)(k:Nat):Hdrs w (some ⟨b,off+k * 4,none⟩) (l.drop k):=λ i hi=>by
 have hi2:k+i<l.length:=by simp only[len,List.length_drop]at hi;omega
 have hi3:i<(l.drop k).length:=hi;have e:hnth (l.drop k) i=hnth l (k+i):=by rw[hnth_eq l _ hi2,hnth_eq _ i hi3,List.getElem_drop]
 obtain⟨b',off',e2,hc⟩:=h (k+i) hi2
 cases e2
 exact⟨b,_,rfl,by rw[e,show off+k * 4+i * 4=off+(k+i) * 4 by omega];exact hc⟩
theorem Hdrs.own{w:World}{base e n:Nat}{v:Value}{l:List Hdr}(h:w.ownsRow base e 4 v n (l.flatMap Hdr.cells)):∃a cap,v=.slice a (len l) cap∧Hdrs w a l∧len l≤cap:=by
 have hn:len l=n:=by have:=h.1;rw[flat_length Hdr.cells 4 Hdr.cells_len]at this;rw[len_eq];omega
 obtain⟨h1,h2⟩:=h
 rcases h2 with⟨rfl,h2⟩ | ⟨g,cap,cur,rfl,hg,hh,hc1,hc2,hc3,hc4⟩
 ·obtain rfl:l=[]:=List.eq_nil_of_length_eq_zero (by rw[←len_eq];omega)
  exact⟨none,0,rfl,Hdrs.nil _ _,Nat.le_refl _⟩
 ·refine⟨some ⟨g,0,none⟩,cap,by rw[hn],λ i hi=>⟨g,0,rfl,?_⟩,by omega⟩
  have hown:w.ownsRow base e 4 (.slice (some ⟨g,0,none⟩) n cap) n (l.flatMap Hdr.cells):=⟨h1,.inr ⟨g,cap,cur,rfl,hg,hh,hc1,hc2,hc3,hc4⟩⟩;have key:∀r,r<4→w.cell? ⟨g,0+i * 4+r,none⟩=(hnth l i).cells[r]?:=λ r hr=>by
   have:=hown.cellAt (i * 4+r) (by rw[←hn];omega)
   rw[Nat.zero_add,this,flat_get Hdr.cells 4 Hdr.cells_len l i r hi hr,hnth_eq l i hi]
  exact⟨key 0 (by decide),key 1 (by decide),key 2 (by decide),key 3 (by decide)⟩
theorem Hdrs.block{w:World}{g:Nat}{l:List Hdr}{t:TypeId}{fr:Nat × Nat}(h:w.heap[g]?=some (.cells (l.flatMap Hdr.cells).toArray t fr)):Hdrs w (some ⟨g,0,none⟩) l:=λ i hi=>⟨g,0,rfl,by
 have key:∀r,r<4→w.cell? ⟨g,0+i * 4+r,none⟩=(hnth l i).cells[r]?:=λ r hr=>by
  rw[Nat.zero_add,block_cell h,List.getElem?_toArray,flat_get Hdr.cells 4 Hdr.cells_len l i r hi hr,hnth_eq l i hi]
 exact⟨key 0 (by decide),key 1 (by decide),key 2 (by decide),key 3 (by decide)⟩⟩
structure Hdr.Ok(r:Hdr):Prop where
 r0:U64i r.rnd
 p1:r.prev.size≤1000000
 t1:r.txns.size≤1000000
 s1:r.seed.size≤1000000
theorem Hdr.zero_ok:Hdr.zero.Ok:=⟨⟨by decide,by decide⟩,by decide,by decide,by decide⟩
theorem hoks{L:List Hdr}(h:∀p ∈ L,p.Ok):∀i,(hnth L i).Ok:=λ i=>by
 rcases Nat.lt_or_ge i L.length with hi | hi
 ·rw[hnth_eq L i hi];exact h _ (List.getElem_mem hi)
 ·unfold hnth;rw[List.getD_eq_getElem?_getD,List.getElem?_eq_none hi];exact Hdr.zero_ok
def hsp(r:Hdr):List FSpec:=headerSpecs r.rnd r.prev r.txns r.seed
def hOk(r:Hdr):Bool:=allMay (hsp r)
def hbs(r:Hdr):ByteArray:=layP (hsp r)
theorem hOk_eq(r:Hdr):hOk r=(decide (r.prev.size=32) && decide (r.seed.size=32) && decide (r.txns.size=32)):=may_header _ _ _ _
theorem hbs_size{r:Hdr}(h:hOk r=true):(hbs r).size≤1000:=headerSz h
def stepH(a b:Hdr):Bool:=decide (a.rnd<b.rnd) && decide (b.rnd - a.rnd=1)
def followH(R:Hdr→Hdr→Bool)(l:List Hdr):Bool:=(List.range (len l)).all λ i=>decide (i=0) || R (hnth l (i - 1)) (hnth l i)
theorem followH_no{R:Hdr→Hdr→Bool}{l:List Hdr}{i:Nat}(hi:i<len l)(h0:0<i)(h:R (hnth l (i - 1)) (hnth l i)=false):followH R l=false:=by
 unfold followH
 rw[List.all_eq_false]
 exact⟨i,List.mem_range.2 hi,by rw[h];simp;omega⟩
theorem followH_yes{R:Hdr→Hdr→Bool}{l:List Hdr}(h:∀i,i<len l→0<i→R (hnth l (i - 1)) (hnth l i)=true):followH R l=true:=by
 unfold followH
 rw[List.all_eq_true]
 intro i hi
 by_cases h0:i=0
 ·simp[h0]
 ·rw[h i (List.mem_range.1 hi) (by omega)];simp
theorem followH_at{R:Hdr→Hdr→Bool}{l:List Hdr}(h:followH R l=true){i:Nat}(hi:i<len l)(h0:0<i):R (hnth l (i - 1)) (hnth l i)=true:=by
 unfold followH at h
 have:=List.all_eq_true.1 h i (List.mem_range.2 hi)
 simp at this
 rcases this with h1 | h1
 ·omega
 ·exact h1
def laysH(l:List Hdr):Bool:=l.all hOk
theorem laysH_yes{l:List Hdr}(h:∀i,i<len l→hOk (hnth l i)=true):laysH l=true:=by
 unfold laysH
 rw[List.all_eq_true]
 intro x hx
 obtain⟨i,hi,rfl⟩:=List.getElem_of_mem hx
 have:=h i hi
 rwa [hnth_eq l i hi]at this
theorem laysH_at{l:List Hdr}(h:laysH l=true){i:Nat}(hi:i<len l):hOk (hnth l i)=true:=by
 unfold laysH at h
 rw[hnth_eq l i hi]
 exact List.all_eq_true.1 h _ (List.getElem_mem hi)
def elOk(l:List Hdr):Bool:=decide (0<len l) && decide (len l≤64) && followH stepH l && laysH l
def elL(l:List Hdr):List ByteArray:=l.map hbs
theorem elL_len(l:List Hdr):len (elL l)=len l:=by unfold elL;rw[len_eq,len_eq,List.length_map]
theorem elL_snoc(l:List Hdr)(m:Nat)(h:m<len l):elL (l.take (m+1))=elL (l.take m)++[hbs (hnth l m)]:=by
 unfold elL
 have h2:m<l.length:=h
 rw[List.take_succ_eq_append_getElem h2,List.map_append,hnth_eq l m h2]
 rfl
theorem elL_at(l:List Hdr)(i:Nat)(h:i<len l):tth (elL l) i=hbs (hnth l i):=by
 have h2:i<l.length:=h
 rw[hnth_eq l i h2]
 unfold tth elL
 rw[List.getD_eq_getElem?_getD,List.getElem?_map,List.getElem?_eq_getElem h2]
 rfl
theorem elOk_at{l:List Hdr}(h:elOk l=true):0<len l∧len l≤64∧followH stepH l=true∧laysH l=true:=by
 unfold elOk at h
 simp only[Bool.and_eq_true,decide_eq_true_eq]at h
 exact⟨h.1.1.1,h.1.1.2,h.1.2,h.2⟩
theorem elOk_of{l:List Hdr}(h1:0<len l)(h2:len l≤64)(h3:followH stepH l=true)(h4:laysH l=true):elOk l=true:=by
 unfold elOk
 rw[decide_eq_true h1,decide_eq_true h2,h3,h4];rfl
theorem elL_size{l:List Hdr}(h:elOk l=true):∀i,i<len (elL l)→(tth (elL l) i).size≤1000:=λ i hi=>by
 rw[elL_len]at hi
 rw[elL_at l i hi]
 exact hbs_size (laysH_at (elOk_at h).2.2.2 hi)
def bodsOk(l:List ByteArray):Bool:=decide (len l≤64) && l.all λ s=>decide (0<s.size) && decide (s.size≤64)
end Go.Proofs.YtpobhbdomldecaaGreatDoor
namespace Go.Proofs.YtpobhbdomldecaaGreatDoor
open Go.RowKit
set_option linter.unusedSimpArgs false
set_option linter.unusedVariables false
theorem len_appT{α:Type}(a b:List α):len (a++b)=len a+len b:=by rw[len_eq,List.length_append];rfl
end Go.Proofs.YtpobhbdomldecaaGreatDoor
namespace Go.Proofs.YtpobhbdomldecaaGreatDoor
open Go.RowKit
set_option linter.unusedSimpArgs false
set_option linter.unusedVariables false
def RElIs(l:List Hdr)(w:World)(e:Ending)(w':World):Prop:=∃v,e=.returned (.tuple #[v,.bool (elOk l)])∧(elOk l=true→TextsAre (elL l) v w')∧Below w.heap.size w w'
structure ElSt(l:List Hdr)(w wr:World)(v:Value)(m:Nat):Prop where
 b:Below w.heap.size w wr
 o:wr.ownsRow w.heap.size 9 1 v (len (elL (l.take m))) ((elL (l.take m)).map Value.string)
 y:∀j,j<m→hOk (hnth l j)=true
 s:∀j,0<j→j<m→stepH (hnth l (j - 1)) (hnth l j)=true
theorem lenT(l:List Hdr)(m:Nat)(h:m≤len l):len (elL (l.take m))=m:=by rw[elL_len,len_eq,List.length_take];rw[len_eq]at h;omega
theorem bod_no{l:List ByteArray}{m:Nat}(hm:m<len l)(h:¬(0<(tth l m).size∧(tth l m).size≤64)):bodsOk l=false:=by
 unfold bodsOk
 have:(l.all λ s=>decide (0<s.size) && decide (s.size≤64))=false:=by
  rw[List.all_eq_false]
  refine⟨tth l m,by rw[tth_eq l m hm];exact List.getElem_mem hm,?_⟩
  simp only[Bool.and_eq_true,decide_eq_true_eq]
  exact h
 rw[this];simp
theorem bod_yes{l:List ByteArray}(hn:len l≤64)(h:∀m,m<len l→0<(tth l m).size∧(tth l m).size≤64):bodsOk l=true:=by
 unfold bodsOk
 rw[decide_eq_true hn,Bool.true_and,List.all_eq_true]
 intro x hx
 obtain⟨i,hi,rfl⟩:=List.getElem_of_mem hx
 have:=h i hi
 rw[tth_eq l i hi]at this
 simp[this.1,this.2]
end Go.Proofs.YtpobhbdomldecaaGreatDoor
namespace Go.Proofs.YtpobhbdomldecaaGreatDoor
set_option linter.unusedSimpArgs false
set_option linter.unusedVariables false
open Go.RowKit Go.ChangeShapes Go.WideShapes Go.ChangeAt
theorem own:ownKnob Tryz.prog.godebug=none:=by kernel_rfl
end Go.Proofs.YtpobhbdomldecaaGreatDoor
namespace Go.Proofs.YtpobhbdomldecaaGreatDoor
open Go.RowKit
set_option linter.unusedSimpArgs false
set_option linter.unusedVariables false
def isOkR(r:Except Flt Rcd):Bool:=match r with | .ok _=>true | .error _=>false
def EvOf(r:Except Flt Rcd)(ev:Value):Prop:=match r with
 | .ok _=>ev=.nilIface
 | .error _=>∃fb,ev=.iface 290 (.pointer (some ⟨fb,0,none⟩))
theorem rqHeader_any(B:Nat)(s:ByteArray)(w:World)(h:TE7 B w)(hs:s.size≤9223372036854775807):Calls Tryz.prog 112 #[.string s] w λ e w'=>∃ev,e=.returned (.tuple #[.agg (cellsHeader (recV (readR s (headerGs s) header0) header0)),ev])∧EvOf (readR s (headerGs s) header0) ev∧Below w.heap.size w w':=by
 refine(reaHeader_any B s w h.t h.e h.s h.g hs).mono ?_
 rintro e w' ⟨hb,hh⟩
 cases hr:readR s (headerGs s) header0 with
 | error f=>
  rw[hr]at hh
  obtain⟨fb,he,hf⟩:=hh
  exact⟨_,he,⟨fb,rfl⟩,hb⟩
 | ok y=>
  rw[hr]at hh
  exact⟨_,hh.2.2,rfl,hb⟩
end Go.Proofs.YtpobhbdomldecaaGreatDoor
namespace Go.Proofs.YtpobhbdomldecaaGreatDoor
open Go.RowKit
set_option linter.unusedSimpArgs false
set_option linter.unusedVariables false
def findR(l:List Hdr)(r:Int):Option Nat:=l.findIdx? λ h=>decide (h.rnd=r)
theorem findR_hit{l:List Hdr}{r:Int}{i:Nat}(hi:i<len l)(h:∀j,j<i→(hnth l j).rnd≠r)(h':(hnth l i).rnd=r):findR l r=some i:=by
 unfold findR
 rw[List.findIdx?_eq_some_iff_getElem]
 refine⟨hi,?_,λ j hj=>?_⟩
 ·rw[hnth_eq l i hi]at h';simp[h']
 ·have:=h j hj;rw[hnth_eq l j (Nat.lt_trans hj hi)]at this;simp[this]
theorem findR_none{l:List Hdr}{r:Int}(h:∀j,j<len l→(hnth l j).rnd≠r):findR l r=none:=by
 unfold findR
 rw[List.findIdx?_eq_none_iff]
 intro x hx
 obtain⟨i,hi,rfl⟩:=List.getElem_of_mem hx
 have:=h i hi;rw[hnth_eq l i hi]at this;simp[this]
def ihO(l:List Hdr)(r:Int):Option Nat:=if elOk l=true then findR l r else none
def ihS(l:List Hdr)(r:Int):ByteArray:=match ihO l r with | some i=>hbs (hnth l i) | none=>⟨#[]⟩
def ihP(l:List Hdr)(r:Int):List ByteArray:=match ihO l r with | some i=>oneD (elL l) i | none=>[]
def ihE(l:List Hdr)(r:Int):Int:=if elOk l=true then(match findR l r with | some _=>0 | none=>19)else 2
def IhIs(l:List Hdr)(r:Int)(w:World)(e:Ending)(w':World):Prop:=∃v,e=.returned (.tuple #[.string (ihS l r),v,.int .i64 (ihE l r)])∧TextsAre (ihP l r) v w'∧Below w.heap.size w w'
theorem ih_no{l:List Hdr}{r:Int}(h:elOk l=false):ihS l r=⟨#[]⟩∧ihP l r=[]∧ihE l r=2:=by
 have e:ihO l r=none:=if_neg (by rw[h];decide)
 refine⟨?_,?_,if_neg (by rw[h];decide)⟩
 ·unfold ihS;rw[e]
 ·unfold ihP;rw[e]
theorem ih_none{l:List Hdr}{r:Int}(h:elOk l=true)(hf:findR l r=none):ihS l r=⟨#[]⟩∧ihP l r=[]∧ihE l r=19:=by
 have e:ihO l r=none:=(if_pos h).trans hf
 refine⟨?_,?_,?_⟩
 ·unfold ihS;rw[e]
 ·unfold ihP;rw[e]
 ·unfold ihE;rw[if_pos h,hf]
theorem ih_some{l:List Hdr}{r:Int}{i:Nat}(h:elOk l=true)(hf:findR l r=some i):ihS l r=hbs (hnth l i)∧ihP l r=oneD (elL l) i∧ihE l r=0:=by
 have e:ihO l r=some i:=(if_pos h).trans hf
 refine⟨?_,?_,?_⟩
 ·unfold ihS;rw[e]
 ·unfold ihP;rw[e]
 ·unfold ihE;rw[if_pos h,hf]
def isA(root:ByteArray)(f t:Int):Bool:=decide (root.size=32) && decide (f≤t) && decide (t - f<64)
def isE(root:ByteArray)(f t:Int)(s:ByteArray)(p:List ByteArray):Int:=
 if isA root f t=true then
  match readR s (headerGs s) header0 with
  | .error _=>5
  | .ok y=>if f≤(y 0).n∧(y 0).n≤t then(if checkE root (t - f+1) [(y 0).n - f] [s] p=0 then 0 else 20)else 19
 else 2
def isH(root:ByteArray)(f t:Int)(s:ByteArray)(p:List ByteArray):Rcd:=if isE root f t s p=0 then recV (readR s (headerGs s) header0) header0 else header0
def IsIs(root:ByteArray)(f t:Int)(s:ByteArray)(p:List ByteArray)(w:World)(e:Ending)(w':World):Prop:=e=.returned (.tuple #[.agg (cellsHeader (isH root f t s p)),.int .i64 (isE root f t s p)])∧Below w.heap.size w w'
def bdOk(l:List ByteArray):Bool:=decide (0<len l) && bodsOk l
def itO(l:List ByteArray)(i:Int):Option Nat:=if bdOk l=true∧0≤i∧i<len l then some i.toNat else none
def itP(l:List ByteArray)(i:Int):List ByteArray:=match itO l i with | some k=>oneD l k | none=>[]
def itE(l:List ByteArray)(i:Int):Int:=if bdOk l=true then(if 0≤i∧i<len l then 0 else 19)else 2
def ItIs(l:List ByteArray)(i:Int)(w:World)(e:Ending)(w':World):Prop:=∃v,e=.returned (.tuple #[v,.int .i64 (itE l i)])∧TextsAre (itP l i) v w'∧Below w.heap.size w w'
theorem it_no{l:List ByteArray}{i:Int}(h:bdOk l=false):itP l i=[]∧itE l i=2:=by
 have e:itO l i=none:=if_neg (λ h9=>by rw[h]at h9;exact absurd h9.1 (by decide))
 exact⟨by unfold itP;rw[e],if_neg (by rw[h];decide)⟩
theorem it_none{l:List ByteArray}{i:Int}(h:bdOk l=true)(hi:¬(0≤i∧i<len l)):itP l i=[]∧itE l i=19:=by
 have e:itO l i=none:=if_neg (λ h9=>hi h9.2)
 exact⟨by unfold itP;rw[e],(if_pos h).trans (if_neg hi)⟩
theorem it_some{l:List ByteArray}{k:Nat}(h:bdOk l=true)(hi:k<len l):itP l (k:Nat)=oneD l k∧itE l (k:Nat)=0:=by
 have hi2:0≤((k:Nat):Int)∧((k:Nat):Int)<len l:=⟨by omega,by omega⟩;have e:itO l (k:Nat)=some k:=by unfold itO;rw[if_pos ⟨h,hi2⟩];rfl
 exact⟨by unfold itP;rw[e],(if_pos h).trans (if_pos hi2)⟩
def tiA(root:ByteArray)(i n:Int)(s:ByteArray):Bool:=decide (root.size=32) && decide (1≤n) && decide (n≤64) && decide (i<n) && decide (0<s.size) && decide (s.size≤64)
def tiE(root:ByteArray)(i n:Int)(s:ByteArray)(p:List ByteArray):Int:=if tiA root i n s=true then(if checkE root n [i] [s] p=0 then 0 else 20)else 2
theorem bdOk_at{l:List ByteArray}(h:bdOk l=true):0<len l∧len l≤64∧∀i,i<len l→0<(tth l i).size∧(tth l i).size≤64:=by
 unfold bdOk bodsOk at h
 simp only[Bool.and_eq_true,decide_eq_true_eq]at h
 refine⟨h.1,h.2.1,λ i hi=>?_⟩
 have:=List.all_eq_true.1 h.2.2 (tth l i) (by rw[tth_eq l i hi];exact List.getElem_mem hi)
 simpa using this
theorem bdOk_of{l:List ByteArray}(h0:0<len l)(h1:len l≤64)(h:∀i,i<len l→0<(tth l i).size∧(tth l i).size≤64):bdOk l=true:=by
 unfold bdOk
 rw[decide_eq_true h0,bod_yes h1 h];rfl
theorem bdOk_bad{l:List ByteArray}{m:Nat}(hm:m<len l)(h:¬(0<(tth l m).size∧(tth l m).size≤64)):bdOk l=false:=by
 unfold bdOk
 rw[bod_no hm h];simp
theorem bdOk_len{l:List ByteArray}(h:¬(0<len l∧len l≤64)):bdOk l=false:=by
 cases e:bdOk l with
 | false=>rfl
 | true=>exact absurd ⟨(bdOk_at e).1,(bdOk_at e).2.1⟩ h
theorem elOk_len{l:List Hdr}(h:¬(0<len l∧len l≤64)):elOk l=false:=by
 cases e:elOk l with
 | false=>rfl
 | true=>exact absurd ⟨(elOk_at e).1,(elOk_at e).2.1⟩ h
end Go.Proofs.YtpobhbdomldecaaGreatDoor
namespace Go.Proofs.YtpobhbdomldecaaGreatDoor
open Go.RowKit
set_option linter.unusedSimpArgs false
set_option linter.unusedVariables false
structure PT(B:Nat)(w:World):Prop where
 p:PTab B w
 s:B≤w.heap.size
theorem PT.below{B:Nat}{w w':World}(h:PT B w)(hb:Below w.heap.size w w'):PT B w':=⟨h.p.keep hb h.s,Nat.le_trans h.s hb.size⟩
theorem hw_any(B:Nat)(r:Hdr)(w:World)(ht:PT B w)(ho:r.Ok):Calls Tryz.prog 44 #[r.val] w (LaidIs (hsp r) w):=
 wheader2_any B r.rnd r.prev r.txns r.seed w ht.p ho.r0 (Nat.le_trans ho.p1 (by decide)) (Nat.le_trans ho.t1 (by decide)) (Nat.le_trans ho.s1 (by decide)) (λ h=>Nat.le_trans (headerSz h) (by decide))
theorem hw_yes(B:Nat)(r:Hdr)(w:World)(ht:PT B w)(ho:r.Ok)(h:hOk r=true):Calls Tryz.prog 44 #[r.val] w λ e w'=>e=.returned (.tuple #[.string (hbs r),.int .i64 0])∧Below w.heap.size w w':=
 (hw_any B r w ht ho).mono λ e w' hh=>laid_yes h rfl hh
theorem hw_no(B:Nat)(r:Hdr)(w:World)(ht:PT B w)(ho:r.Ok)(h:hOk r=false):Calls Tryz.prog 44 #[r.val] w λ e w'=>e=.returned (.tuple #[.string ⟨#[]⟩,.int .i64 2])∧Below w.heap.size w w':=
 (hw_any B r w ht ho).mono λ e w' hh=>laid_no h hh
end Go.Proofs.YtpobhbdomldecaaGreatDoor
namespace Go.Proofs.YtpobhbdomldecaaGreatDoor
open Go.RowKit
set_option linter.unusedSimpArgs false
set_option linter.unusedVariables false
def BoxL(w:World)(xb:Nat)(a:Option Addr)(n cap:Nat):Prop:=w.heap[xb]?=some (.cells #[.slice a n cap] 22 (0,0))
theorem BoxL.below{w w':World}{xb:Nat}{a:Option Addr}{n cap:Nat}(h:BoxL w xb a n cap)(hb:Below w.heap.size w w'):BoxL w' xb a n cap:=(hb.block _ (lt_of_block h)).trans h
end Go.Proofs.YtpobhbdomldecaaGreatDoor
namespace Go.Proofs.YtpobhbdomldecaaGreatDoor
open Go.RowKit
set_option linter.unusedSimpArgs false
set_option linter.unusedVariables false
def zerN(k:Nat):ByteArray:=⟨(List.replicate k (0:UInt8)).toArray⟩
theorem zerN_size(k:Nat):(zerN k).size=k:=by
 show(List.replicate k (0:UInt8)).toArray.size=k
 simp
theorem info_u8h:(Tryz.prog.info? 5).map (λ i=>(i.zero,i.size,i.bytes))=some (some (.int .u8 0),1,1):=by kernel_rfl
set_option maxRecDepth 100000 in
theorem make_zb(k:Nat)(kI:Int)(hkI:kI=(k:Int))(hk:k≤100)(W:World):∃W',(Instr.makeSlice 41 (.int .i64 kI) (.int .i64 kI)).run Tryz.prog W=.ok (.slice (some ⟨W.heap.size,0,none⟩) k k) W'∧Below W.heap.size W W'∧(convert 41 9 (.slice (some ⟨W.heap.size,0,none⟩) k k)).run Tryz.prog W'=.ok (.string (zerN k)) W':=by
 subst hkI
 obtain⟨i0,hi,hz0,hz1,hz2⟩:=info_parts info_u8h
 have hr:=run_make (P:=Tryz.prog) W 41 5 i0 (.int .u8 0) Tryz.underlying41 hi hz0 .i64 .i64 k k (by omega) (Int.le_refl _) (by rw[hz2];omega) (by omega)
 refine⟨_,hr,balloc (Below.refl _ _) _,?_⟩
 refine conv_block _ W.heap.size 0 k k (List.replicate k 0) (by simp) (λ i hi2=>?_)
 rw[Nat.zero_add,block_cell (heap_alloc_new _ _)]
 have e:(List.replicate k (0:UInt8)).getD i 0=0:=by
  rw[List.getD_eq_getElem?_getD,List.getElem?_replicate]
  split <;> rfl
 rw[e,hz1]
 have h2:(madeCells (Value.int .u8 0).cells (k * 1)).toList[i]?=some (.int .u8 0):=by
  show(madeCells #[.int .u8 0] (k * 1)).toList[i]?=_
  rw[toList_madeCells_one,List.getElem?_replicate];simp;omega
 rw[Array.getElem?_toList]at h2
 exact h2
theorem info_hdr:(Tryz.prog.info? 33).map (λ i=>(i.zero,i.size,i.bytes))=some (some Hdr.zero.val,4,56):=by kernel_rfl
end Go.Proofs.YtpobhbdomldecaaGreatDoor
namespace Go.Proofs.YtpobhbdomldecaaGreatDoor
open Go.RowKit
set_option linter.unusedSimpArgs false
set_option linter.unusedVariables false
def textL(c:Nat):List UInt8:=(List.range 32).map λ i=>UInt8.ofNat ((c+i % 3) % 256)
theorem textL_len(c:Nat):(textL c).length=32:=by unfold textL;rw[List.length_map,List.length_range]
theorem textL_at(c m:Nat)(h:m<32):Value.int .u8 (((c+m % 3) % 256:Nat):Int)=byV ((textL c).getD m 0):=by
 unfold textL byV
 rw[List.getD_eq_getElem?_getD,List.getElem?_map,List.getElem?_range h]
 simp
def textS(c:Nat):ByteArray:=⟨(textL c).toArray⟩
theorem textS_size(c:Nat):(textS c).size=32:=by
 show(textL c).toArray.size=32
 rw[List.size_toArray,textL_len]
set_option maxRecDepth 100000 in
theorem make_b32(K:List UInt8)(W:World):(Instr.makeSlice 41 (.int .i64 32) (.int .i64 32)).run Tryz.prog W=.ok (.slice (some ⟨W.heap.size,0,none⟩) 32 32) (W.alloc (.cells (filC K 32 0) 5)):=by
 obtain⟨i0,hi,hz0,hz1,hz2⟩:=info_parts info_u8h
 have hr:=run_make (P:=Tryz.prog) W 41 5 i0 (.int .u8 0) Tryz.underlying41 hi hz0 .i64 .i64 32 32 (by decide) (Int.le_refl _) (by rw[hz2];decide) (by decide);have e:madeCells (Value.int .u8 0).cells (32 * 1)=filC K 32 0:=by
  apply Array.toList_inj.1
  show(madeCells #[.int .u8 0] (32 * 1)).toList=_
  rw[toList_madeCells_one]
  rfl
 rw[hr,hz1]
 show Result.ok _ (W.alloc (.cells (madeCells (Value.int .u8 0).cells (32 * 1)) 5))=_
 rw[e]
 rfl
set_option maxRecDepth 100000 in
set_option maxHeartbeats 4000000 in
theorem text27_any(c:Nat)(w:World)(hc:c≤255):Calls Tryz.prog 56 #[.int .u8 (c:Nat)] w λ e w'=>e=.returned (.string (textS c))∧Below w.heap.size w w':=by
 have HC:=Lib.hid hc;have mk:=make_b32 (textL c);clear hc
 go_enter Tryz.func56,Tryz.ntmps56
 go_upto_region 2 with fail
 obtain⟨lb,hlb⟩:∃lb,w.heap.size=lb:=⟨_,rfl⟩
 obtain⟨U,hU⟩:∃U,w.alloc (.cells (filC (textL c) 32 0) 5)=U:=⟨_,rfl⟩
 have HUB:Hid (U.heap[lb]?=some (.cells (filC (textL c) 32 0) 5 (0,0))):=Lib.hid (by rw[←hU];exact alloc_new_at _ hlb);have HUW:Hid (Below w.heap.size w U):=Lib.hid (by rw[←hU];exact balloc (Below.refl _ _) _);have HLB:Hid (w.heap.size≤lb):=Lib.hid (Nat.le_of_eq hlb)
 rw[hlb]
 rw[hU]
 clear hU hlb mk
 go_wp2
 go_loopg [4] 32 (λ g i wr=>∃m:Nat,g+m=32∧i=.int .i64 m∧Hid (wr.heap[lb]?=some (.cells (filC (textL c) 32 m) 5 (0,0)))∧Hid (Below w.heap.size w wr))
 case atStart=>exact⟨0,rfl,rfl,HUB,HUW⟩
 case round=>
  clear HUB HUW
  obtain⟨m,hm,rfl,HUB,HUW⟩:=hrel
  by_cases hlt:m<32
  ·have i1:(m:Int)<32:=by omega
   obtain⟨W,hW⟩:∃W,wr=W:=⟨_,rfl⟩
   rw[hW]at HUB HUW ⊢
   have c0:W.cell? ⟨lb,m,none⟩=some (byV 0):=by rw[block_cell HUB.out,filC_at _ _ _ hlt (textL_len c)]
   have c1:W.frozen? ⟨lb,m,none⟩=false:=block_free HUB.out m;have c2:lb<W.heap.size:=lt_of_block HUB.out;clear hW;have HM:=Lib.hid hm;clear hm;have ev:Value.int .u8 (((c:Int)+(m:Int) % 3) % 256)=byV ((textL c).getD m 0):=by rw[←textL_at c m hlt];congr 1
   have HEV:=Lib.hid ev;have HLT:=Lib.hid hlt;clear ev hlt
   go_upto_region 4 with fail
   rw[HEV.out]
   clear c0 c1 c2;have HU2:Hid ((W.setCell ⟨lb,m,none⟩ (byV ((textL c).getD m 0))).heap[lb]?=some (.cells (filC (textL c) 32 (m+1)) 5 (0,0))):=Lib.hid (by
    have:=block_setCell HUB.out (o:=m) (byV ((textL c).getD m 0))
    rw[filC_set _ _ _ HLT.out (textL_len c)]at this
    exact this)
   have HU4:Hid (Below w.heap.size w (W.setCell ⟨lb,m,none⟩ (byV ((textL c).getD m 0)))):=Lib.hid (bset HUW.out HLB.out _)
   go_wp2
   go_roundg (gk - 1)
   case rel=>exact⟨m+1,by have:=HM.out;have:=HLT.out;omega,by have:=HLT.out;go_num,HU2,HU4⟩
   case measure=>have:=HM.out;have:=HLT.out;omega
  ·obtain rfl:m=32:=by omega
   have i1:¬((32:Nat):Int)<32:=by decide
   have HUB:=Lib.hid (by have h:=HUB.out;rw[filC_all _ _ (textL_len c)]at h;exact h);have cv:(convert 41 9 (.slice (some ⟨lb,0,none⟩) 32 32)).run Tryz.prog wr=.ok (.string (textS c)) wr:=conv_block wr lb 0 32 32 (textL c) (textL_len c) (λ i hi=>byV_block HUB.out i (by rw[textL_len];exact hi))
   go_wp2
   go_ret
   exact⟨rfl,HUW.out⟩
end Go.Proofs.YtpobhbdomldecaaGreatDoor
namespace Go.Proofs.YtpobhbdomldecaaGreatDoor
open Go.RowKit
set_option linter.unusedSimpArgs false
set_option linter.unusedVariables false
theorem own_setk{base n c g m k:Nat}{w:World}{e:TypeId}{xs:List Value}{u:Value}(h:w.ownsRow base e k (.slice (some ⟨g,0,none⟩) n c) n xs):(w.setCell ⟨g,m,none⟩ u).ownsRow base e k (.slice (some ⟨g,0,none⟩) n c) n (xs.set m u):=by
 refine⟨by rw[List.length_set];exact h.1,?_⟩
 rcases h.2 with⟨hz,_⟩ | ⟨g9,cap,cur,hv,hg,hh,h1,h2,h3,h4⟩
 ·cases hz
 ·cases hv
  refine Or.inr ⟨g,c,cur.setIfInBounds m u,rfl,hg,block_setCell hh u,h1,h2,by rw[Array.size_setIfInBounds];exact h3,?_⟩
  rw[Array.toList_setIfInBounds,←h4,List.take_set]
theorem flat_set{α β:Type}(f:α→List β)(k:Nat)(hf:∀x,(f x).length=k){u:β}{x':α}:∀(l:List α) (i j:Nat) (hi:i<l.length),j<k→f x'=(f l[i]).set j u→(l.flatMap f).set (i * k+j) u=(l.set i x').flatMap f
 | x :: l,0,j,_,hj,hx=>by
  simp only[List.flatMap_cons,Nat.zero_mul,Nat.zero_add,List.getElem_cons_zero,List.set_cons_zero]at hx ⊢
  rw[List.set_append_left _ _ (by rw[hf];exact hj),hx]
 | x :: l,i+1,j,hi,hj,hx=>by
  simp only[List.flatMap_cons,List.getElem_cons_succ,List.set_cons_succ]at hx ⊢
  rw[List.set_append_right _ _ (by rw[hf,Nat.add_mul];omega),hf,show(i+1) * k+j - k=i * k+j by rw[Nat.add_mul];omega]
  rw[flat_set f k hf l i j (by simpa using hi) hj hx]
def OwnH(base g c:Nat)(L:List Hdr)(w:World):Prop:=w.ownsRow base 33 4 (.slice (some ⟨g,0,none⟩) (len L) c) (len L) (L.flatMap Hdr.cells)
theorem OwnH.below{base g c:Nat}{L:List Hdr}{w w':World}(h:OwnH base g c L w)(hb:Below w.heap.size w w'):OwnH base g c L w':=own_below h hb
theorem OwnH.set{base g c:Nat}{L:List Hdr}{w:World}(h:OwnH base g c L w){i j:Nat}{u:Value}{r':Hdr}(hi:i<len L)(hj:j<4)(hr:r'.cells=(hnth L i).cells.set j u):OwnH base g c (L.set i r') (w.setCell ⟨g,i * 4+j,none⟩ u):=by
 unfold OwnH
 have hl:len (L.set i r')=len L:=by rw[len_eq,len_eq,List.length_set]
 rw[hl,←flat_set Hdr.cells 4 Hdr.cells_len L i j hi hj (by rw[hr,hnth_eq L i hi])]
 exact own_setk h
theorem hset_len(L:List Hdr)(i:Nat)(r:Hdr):len (L.set i r)=len L:=by rw[len_eq,len_eq,List.length_set]
theorem OwnH.lt{base g c:Nat}{L:List Hdr}{w:World}(h:OwnH base g c L w):base≤g∧g<w.heap.size:=h.1 |> λ _=>World.ownsRow.lt h g rfl
structure HCells(w:World)(g i:Nat)(r:Hdr):Prop where
 c0:w.cell? ⟨g,i * 4,none⟩=some (.int .u64 r.rnd)
 c1:w.cell? ⟨g,i * 4+1,none⟩=some (.string r.prev)
 c2:w.cell? ⟨g,i * 4+2,none⟩=some (.string r.txns)
 c3:w.cell? ⟨g,i * 4+3,none⟩=some (.string r.seed)
 f:∀o,w.frozen? ⟨g,o,none⟩=false
theorem OwnH.at{base g c:Nat}{L:List Hdr}{w:World}(h:OwnH base g c L w){i:Nat}(hi:i<len L):HCells w g i (hnth L i):=by
 obtain⟨a,cap,e,hh,_⟩:=Hdrs.own h
 cases e
 obtain⟨b,off,e,⟨h0,h1,h2,h3⟩⟩:=hh i hi
 cases e
 rw[Nat.zero_add]at h0 h1 h2 h3
 rcases h.2 with⟨hz,_⟩ | ⟨g9,cap,cur,hv,hg,hb,_⟩
 ·cases hz
 ·cases hv
  exact⟨h0,h1,h2,h3,block_free hb⟩
theorem OwnH.hdrs{base g c:Nat}{L:List Hdr}{w:World}(h:OwnH base g c L w):Hdrs w (some ⟨g,0,none⟩) L:=by
 obtain⟨a,cap,e,hh,_⟩:=Hdrs.own h
 cases e
 exact hh
theorem ownH_of{base n:Nat}{v:Value}{L:List Hdr}{w:World}(h:w.ownsRow base 33 4 v n (L.flatMap Hdr.cells)):(v=.slice none 0 0∧L=[]) ∨ ∃g c,v=.slice (some ⟨g,0,none⟩) (len L) c∧OwnH base g c L w:=by
 have hn:len L=n:=by have:=h.1;rw[flat_length Hdr.cells 4 Hdr.cells_len]at this;rw[len_eq];omega
 rcases h.2 with⟨hv,h0⟩ | ⟨g,cap,cur,hv,hr⟩
 ·exact .inl ⟨hv,List.eq_nil_of_length_eq_zero (by rw[←len_eq];omega)⟩
 ·exact .inr ⟨g,cap,by rw[hn];exact hv,by unfold OwnH;rw[hn,←hv];exact h⟩
end Go.Proofs.YtpobhbdomldecaaGreatDoor
namespace Go.Proofs.YtpobhbdomldecaaGreatDoor
open Go.RowKit
set_option linter.unusedSimpArgs false
set_option linter.unusedVariables false
set_option linter.constructorNameAsVariable false
theorem own_base{base b' n k:Nat}{e:TypeId}{v:Value}{w:World}{xs:List Value}(h:w.ownsRow base e k v n xs)(hb:b'≤base):w.ownsRow b' e k v n xs:=
 ⟨h.1,h.2.imp id (fun ⟨g,cap,cur,hv,hg,r⟩=>⟨g,cap,cur,hv,Nat.le_trans hb hg,r⟩)⟩
def rowAt(f c i:Nat):Hdr:=⟨((f:Int)+(i:Int)) % 18446744073709551616,textS c,textS ((c+1) % 256),textS ((c+2) % 256)⟩
def lett(l:List Int)(i:Nat):Nat:=(nth l i).toNat
def rowN(f:Nat)(l:List Int)(n:Nat):List Hdr:=(List.range n).map λ i=>rowAt f (lett l i) i
theorem rowN_len(f:Nat)(l:List Int)(n:Nat):len (rowN f l n)=n:=by unfold rowN;rw[len_eq];simp
theorem rowN_snoc(f:Nat)(l:List Int)(n:Nat):rowN f l (n+1)=rowN f l n++[rowAt f (lett l n) n]:=by unfold rowN;rw[List.range_succ,List.map_append];rfl
theorem rowN_at(f:Nat)(l:List Int){n i:Nat}(h:i<n):hnth (rowN f l n) i=rowAt f (lett l i) i:=by
 unfold rowN
 rw[hnth_eq _ i (by simpa using h)]
 simp
theorem rowAt_ok(f c i:Nat):(rowAt f c i).Ok:=⟨⟨by show(0:Int)≤((f:Int)+(i:Int)) % 18446744073709551616;omega,by show((f:Int)+(i:Int)) % 18446744073709551616≤18446744073709551615;omega⟩,by unfold rowAt;rw[textS_size];decide,by unfold rowAt;rw[textS_size];decide,by unfold rowAt;rw[textS_size];decide⟩
def rowO(o0 o1:Nat)(L:List Hdr):List Hdr:=
 if o1<len L then
  (if o0 % 8=1 then L.set o1 { hnth L o1 with rnd:=((hnth L o1).rnd+1) % 18446744073709551616 }
   else if o0 % 8=2 then L.set o1 { hnth L o1 with txns:=(hnth L o1).txns.extract 1 (hnth L o1).txns.size } else L)
 else L
def rowL(f:Nat)(l:List Int)(o0 o1:Nat):List Hdr:=rowO o0 o1 (rowN f l (min (len l) 70))
theorem rowN_ok(f:Nat)(l:List Int)(n:Nat):∀i,(hnth (rowN f l n) i).Ok:=hoks (λ p hp=>by
 unfold rowN at hp
 obtain⟨i,_,rfl⟩:=List.mem_map.1 hp
 exact rowAt_ok _ _ _)
theorem row_fin{base b' g c i:Nat}{L R:List Hdr}{r':Hdr}{W:World}(h:OwnH base g c (L.set i r') W)(hR:R=L.set i r')(hb:b'≤base):W.ownsRow b' 33 4 (.slice (some ⟨g,0,none⟩) (len L) c) (len R) (R.flatMap Hdr.cells):=by
 subst hR
 have h2:=own_base h hb
 rw[hset_len]at h2 ⊢
 exact h2
def Row27Is(f:Nat)(l:List Int)(o0 o1:Nat)(w:World)(e:Ending)(w':World):Prop:=∃v,e=.returned v∧w'.ownsRow w.heap.size 33 4 v (len (rowL f l o0 o1)) ((rowL f l o0 o1).flatMap Hdr.cells)∧Below w.heap.size w w'
set_option maxRecDepth 100000 in
set_option maxHeartbeats 1000000 in
theorem row27_any(f:Nat)(l:List Int)(a:Option Addr)(cap o0 o1:Nat)(w:World)(hf:f<18446744073709551616)(hc:U8s w a l)(hl:∀i,0≤nth l i∧nth l i≤255)(hn:len l≤9223372036854775807)(h0:o0≤255)(h1:o1≤255):
  Calls Tryz.prog 48 #[.int .u64 (f:Nat),.slice a (len l) cap,.agg #[.int .u8 (o0:Nat),.int .u8 (o1:Nat)]] w (Row27Is f l o0 o1 w):=by
 have HC:=Lib.hid hc;have HLT:=Lib.hid hl;have HF:=Lib.hid hf;have HN:=Lib.hid hn;have H0:=Lib.hid h0;have H1:=Lib.hid h1
 obtain⟨i0,hi,hz0,hz1,hz2⟩:=info_parts info_hdr
 have HZ0:=Lib.hid hz0;clear hc hl hf hn h0 h1 hz0
 go_enter Tryz.func48,Tryz.ntmps48
 go_upto_region 1 with fail
 obtain⟨V,hV⟩:∃V,w.alloc (.cells #[.int .u8 (o0:Nat),.int .u8 (o1:Nat)] 70)=V:=⟨_,rfl⟩
 obtain⟨ob,hob⟩:∃ob,w.heap.size=ob:=⟨_,rfl⟩
 have HV:Hid (Below w.heap.size w V):=Lib.hid (by rw[←hV];exact balloc (Below.refl _ _) _);have HOB:Hid (V.heap[ob]?=some (.cells #[.int .u8 (o0:Nat),.int .u8 (o1:Nat)] 70 (0,0))):=Lib.hid (by rw[←hV,←hob];exact heap_alloc_new _ _)
 rw[hV,hob]
 clear hV hob
 go_wp2
 go_loopg [8,7] 70 (λ gg i v wr=>∃m:Nat,gg+m=70∧i=.int .i64 (m:Nat)∧Hid (m≤len l)∧Hid (Below V.heap.size V wr)∧Hid (wr.ownsRow V.heap.size 33 4 v m ((rowN f l m).flatMap Hdr.cells)))
 case atStart=>exact⟨0,rfl,rfl,Lib.hid (Nat.zero_le _),Lib.hid (Below.refl _ _),Lib.hid (World.ownsRow_nil _ _ _ _)⟩
 case round=>
  obtain⟨m,hm,rfl,HML,HB,HOWN⟩:=hrel
  by_cases hin:m<len l∧m<70
  ·obtain⟨hlt,h70⟩:=hin
   have b0:(m:Int)<len l:=by omega
   have b1:(m:Int)<70:=by omega
   obtain⟨pb,po,rfl,cs⟩:=((HC.out.below HV.out).below HB.out) m hlt
   obtain⟨c,hcc⟩:∃c,lett l m=c:=⟨_,rfl⟩
   have hx:=HLT.out m;have ec:nth l m=((c:Nat):Int):=by rw[←hcc];unfold lett;omega
   have HCB:Hid (c≤255):=Lib.hid (by omega);have HCE:=Lib.hid hcc
   rw[ec]at cs
   have HM:=Lib.hid hm;have H70:=Lib.hid h70;have HLL:=Lib.hid hlt;have kw:IntKind.u64.wrap ((m:Nat):Int)=((m:Nat):Int):=IntWalk.u64_in _ (by omega)
   obtain⟨X,hX⟩:∃X,IntKind.u64.wrap ((f:Int)+(m:Int))=X:=⟨_,rfl⟩
   have HXE:Hid (((f:Int)+(m:Int)) % 18446744073709551616=X):=Lib.hid (by rw[←hX,IntKind.wrap_u64]);clear ec hx hcc hm h70 hlt;have HNL:=HN.out
   go_wp2_with fail
   refine(text27_any c _ HCB.out).mono ?_
   rintro e w1 ⟨rfl,hb⟩
   have HB1:=Lib.hid (bnext HB.out hb);have HO1:=Lib.hid (own_below HOWN.out hb);clear hb cs kw
   obtain⟨c1,hc1⟩:∃c1,(c+1) % 256=c1:=⟨_,rfl⟩
   obtain⟨c2,hc2⟩:∃c2,(c+2) % 256=c2:=⟨_,rfl⟩
   have HK1:Hid (((c:Int)+1) % 256=((c1:Nat):Int)∧c1≤255):=Lib.hid ⟨by omega,by omega⟩;have HK2:Hid (((c:Int)+2) % 256=((c2:Nat):Int)∧c2≤255):=Lib.hid ⟨by omega,by omega⟩;have HRW:Hid (rowAt f c m=⟨((f:Int)+(m:Int)) % 18446744073709551616,textS c,textS c1,textS c2⟩):=Lib.hid (by unfold rowAt;rw[hc1,hc2]);clear hc1 hc2
   go_wp2_with fail
   rw[HK1.out.1]
   refine(text27_any c1 _ HK1.out.2).mono ?_
   rintro e w2 ⟨rfl,hb⟩
   have HB2:=Lib.hid (bnext HB1.out hb);have HO2:=Lib.hid (own_below HO1.out hb);clear hb
   go_wp2_with fail
   rw[HK2.out.1]
   refine(text27_any c2 _ HK2.out.2).mono ?_
   rintro e w3 ⟨rfl,hb⟩
   have HB3:=Lib.hid (bnext HB2.out hb);have HO3:=Lib.hid (own_below HO2.out hb);clear hb
   obtain⟨t0,ht0⟩:∃t,textS c=t:=⟨_,rfl⟩
   obtain⟨t1,ht1⟩:∃t,textS c1=t:=⟨_,rfl⟩
   obtain⟨t2,ht2⟩:∃t,textS c2=t:=⟨_,rfl⟩
   rw[HXE.out,ht0,ht1,ht2]at HRW
   rw[ht2]
   simp only[ht0,ht1]
   clear hX ht0 ht1 ht2
   go_wp2_with (at_builtin;refine wpList_append_lies _ rfl _ _ 22 rfl V.heap.size 33 i0 Hdr.zero.val 4 56 Tryz.underlying22 hi HZ0.out hz1 hz2 rfl (by decide) _ m _ rfl (HO3.out.alloc _) ⟨w3.heap.size,0,none⟩ 1 1 (Hdr.cells ⟨X,t0,t1,t2⟩) rfl rfl ?d1 (Hdr.cells_one _) (by decide) ?d4 ?d5 ?d6 _ rfl ?_)
   case d1=>exact World.news_of_block (alloc_new_at _ rfl)
   case d4=>unfold maxLen;have:=H70.out;omega
   case d5=>have:=H70.out;omega
   case d6=>have:=HB3.out.size;simp;omega
   intro g cp w4 hown hgrow hat hgl
   have HB4:=Lib.hid (grownBy_below (balloc HB3.out _) hgrow (λ q hq=>(HO3.out.lt q hq).1));have HO4:Hid (w4.ownsRow V.heap.size 33 4 (.slice (some ⟨g,0,none⟩) (m+1) cp) (m+1) ((rowN f l (m+1)).flatMap Hdr.cells)):=Lib.hid (by
    rw[rowN_snoc,HCE.out,HRW.out,List.flatMap_append]
    simpa using hown)
   clear hown hgrow hat hgl;have h70:=H70.out
   go_wp2
   go_roundg (gk - 1)
   case rel=>exact⟨m+1,by have:=HM.out;omega,by go_num,Lib.hid HLL.out,HB4,HO4⟩
   case measure=>have:=HM.out;omega
  ·have hex:(¬(m:Int)<len l) ∨ ((m:Int)<len l∧¬(m:Int)<70):=by omega
   have HMM:Hid (min (len l) 70=m):=Lib.hid (by have:=HML.out;omega)
   obtain⟨L,hL⟩:∃L,rowN f l m=L:=⟨_,rfl⟩
   have HRO:Hid (rowL f l o0 o1=rowO o0 o1 L):=Lib.hid (by unfold rowL;rw[HMM.out,hL]);have hln:len L=m:=by rw[←hL,rowN_len]
   have HO:=Lib.hid HOWN.out
   rw[hL,←hln]at HO
   have HBB:=Lib.hid HB.out;have HB0:Hid (wr.heap[ob]?=some (.cells #[.int .u8 (o0:Nat),.int .u8 (o1:Nat)] 70 (0,0))):=Lib.hid ((HB.out.block _ (lt_of_block HOB.out)).trans HOB.out);have c0:wr.cell? ⟨ob,0,none⟩=some (.int .u8 (o0:Nat)):=block_cell HB0.out 0;have c1:wr.cell? ⟨ob,1,none⟩=some (.int .u8 (o1:Nat)):=block_cell HB0.out 1;have kw:IntKind.i64.wrap ((o1:Nat):Int)=((o1:Nat):Int):=by have:=H1.out;exact IntWalk.i64_in _ (by omega)
   have HM70:Hid (len L≤70):=Lib.hid (by omega)
   by_cases ho:o1<len L
   ·have d0:(o1:Int)<len L:=by omega
    rcases ownH_of HO.out with⟨-,hnil⟩ | ⟨g,c,rfl,hoo⟩
    ·rw[hnil]at ho;exact absurd ho (by show ¬o1<0;omega)
    have HOO:=Lib.hid hoo;have HGB:=Lib.hid hoo.lt
    obtain⟨e0,e1,e2,e3,fz⟩:=hoo.at ho
    have HROK:Hid (hnth L o1).Ok:=Lib.hid (by rw[←hL];exact rowN_ok f l m o1)
    obtain⟨r,hr⟩:∃r,hnth L o1=r:=⟨_,rfl⟩
    rw[hr]at e0 e1 e2 e3 HROK
    have HTZ:Hid (r.txns.size=32):=Lib.hid (by rw[←hr,←hL,rowN_at f l (by omega)];exact textS_size _);have HRE:=Lib.hid hr;have HOL:=Lib.hid ho;clear hr hoo hL hm hin hln
    by_cases q1:o0 % 8=1
    ·have k1:(((o0:Nat):Int) % 8 == 1)=true:=by simp;omega
     obtain⟨X,hX⟩:∃X,IntKind.u64.wrap (r.rnd+1)=X:=⟨_,rfl⟩
     have HXE:Hid ((r.rnd+1) % 18446744073709551616=X):=Lib.hid (by rw[←hX,IntKind.wrap_u64]);have HEQ:Hid (rowL f l o0 o1=L.set o1 { r with rnd:=X }):=Lib.hid (by rw[HRO.out];unfold rowO;rw[if_pos HOL.out,if_pos q1,HRE.out,HXE.out]);clear q1
     rcases hex with h1 | ⟨h1,h2⟩
     all_goals
      go_upto_region 14 with fail
      have HSS:Hid (OwnH V.heap.size g c (L.set o1 { r with rnd:=X }) (wr.setCell ⟨g,o1 * 4,none⟩ (.int .u64 X))):=Lib.hid (HOO.out.set (j:=0) HOL.out (by decide) (by rw[HRE.out];rfl));have HBS:Hid (Below V.heap.size V (wr.setCell ⟨g,o1 * 4,none⟩ (.int .u64 X))):=Lib.hid (bset HBB.out HGB.out.1 _)
      go_wp2
      go_ret
      exact⟨_,rfl,row_fin HSS.out HEQ.out HV.out.size,bnext HV.out HBS.out⟩
    ·have k1:(((o0:Nat):Int) % 8 == 1)=false:=by simp;omega
     by_cases q2:o0 % 8=2
     ·have k2:(((o0:Nat):Int) % 8 == 2)=true:=by simp;omega
      obtain⟨X,hX⟩:∃X,r.txns.extract 1 r.txns.size=X:=⟨_,rfl⟩
      have HEQ:Hid (rowL f l o0 o1=L.set o1 { r with txns:=X }):=Lib.hid (by rw[HRO.out];unfold rowO;rw[if_pos HOL.out,if_neg q1,if_pos q2,HRE.out,hX]);have sz1:¬r.txns.size<1:=by have:=HTZ.out;omega
      have sz2:1≤r.txns.size:=by have:=HTZ.out;omega
      clear q1 q2
      rcases hex with h1 | ⟨h1,h2⟩
      all_goals
       go_upto_region 14 with fail
       have HSS:Hid (OwnH V.heap.size g c (L.set o1 { r with txns:=X }) (wr.setCell ⟨g,o1 * 4+2,none⟩ (.string X))):=Lib.hid (HOO.out.set (j:=2) HOL.out (by decide) (by rw[HRE.out];rfl));have HBS:Hid (Below V.heap.size V (wr.setCell ⟨g,o1 * 4+2,none⟩ (.string X))):=Lib.hid (bset HBB.out HGB.out.1 _)
       go_wp2
       go_ret
       exact⟨_,rfl,row_fin HSS.out HEQ.out HV.out.size,bnext HV.out HBS.out⟩
     ·have k2:(((o0:Nat):Int) % 8 == 2)=false:=by simp;omega
      have HEQ:Hid (rowL f l o0 o1=L):=Lib.hid (by rw[HRO.out];unfold rowO;rw[if_pos HOL.out,if_neg q1,if_neg q2]);clear q1 q2
      rcases hex with h1 | ⟨h1,h2⟩
      all_goals
       go_wp2
       go_ret
       exact⟨_,rfl,own_base (by rw[HEQ.out];exact HO.out) HV.out.size,bnext HV.out HBB.out⟩
   ·have d0:¬(o1:Int)<len L:=by omega
    have HEQ:Hid (rowL f l o0 o1=L):=Lib.hid (by rw[HRO.out];unfold rowO;rw[if_neg ho])
    obtain⟨a9,c9,hv9,_⟩:=Hdrs.own HO.out
    subst hv9
    clear ho hL hm hin hln
    rcases hex with h1 | ⟨h1,h2⟩
    all_goals
     go_wp2
     go_ret
     exact⟨_,rfl,own_base (by rw[HEQ.out];exact HO.out) HV.out.size,bnext HV.out HBB.out⟩
end Go.Proofs.YtpobhbdomldecaaGreatDoor
namespace Go.Proofs.YtpobhbdomldecaaGreatDoor
open Go.RowKit
set_option linter.unusedSimpArgs false
set_option linter.unusedVariables false
def abT:List ByteArray:=[⟨#[97]⟩,⟨#[98]⟩]
theorem abT_txts{w:World}{b:Nat}{t:TypeId}{fr:Nat × Nat}(h:w.heap[b]?=some (.cells #[.string ⟨#[97]⟩,.string ⟨#[98]⟩] t fr)):Txts w (some ⟨b,0,none⟩) abT:=λ i hi=>⟨b,0,rfl,by
 have hi:i<2:=hi
 rw[block_cell h,Nat.zero_add]
 have:i=0 ∨ i=1:=by omega
 rcases this with rfl | rfl <;> rfl⟩
theorem abT_size:∀i,i<len abT→(tth abT i).size≤1:=λ i hi=>by
 have hi:i<2:=hi;have:i=0 ∨ i=1:=by omega
 rcases this with rfl | rfl <;> decide
theorem one_txts1{w:World}{b:Nat}{t:TypeId}{fr:Nat × Nat}{s:ByteArray}(h:w.heap[b]?=some (.cells #[.string s] t fr)):Txts w (some ⟨b,0,none⟩) [s]:=λ i hi=>⟨b,0,rfl,by
 have hi:i<1:=hi
 obtain rfl:i=0:=by omega
 rw[block_cell h];rfl⟩
theorem oks1{x:Hdr}(hx:x.Ok):∀i,(hnth [x] i).Ok:=hoks (λ p hp=>by
 rw[List.mem_singleton.1 hp];exact hx)
end Go.Proofs.YtpobhbdomldecaaGreatDoor
namespace Go.Proofs.YtpobhbdomldecaaGreatDoor
open Go.RowKit
set_option linter.unusedSimpArgs false
set_option linter.unusedVariables false
theorem nilB:(⟨#[]⟩:ByteArray).toList=[]:=by kernel_rfl
theorem emptyB(s:ByteArray):s.toList.isEmpty=decide (s.size=0):=by
 have h:=str_beq s ⟨#[]⟩
 rw[nilB]at h
 by_cases e:s.size=0
 ·have:s=⟨#[]⟩:=ByteArray.ext (Array.eq_empty_of_size_eq_zero e)
  rw[this,nilB];rfl
 ·have hn:¬s=⟨#[]⟩:=λ h9=>e (by rw[h9];rfl)
  rw[decide_eq_false hn]at h
  rw[decide_eq_false e]
  cases hs:s.toList with
  | nil=>rw[hs]at h;cases h
  | cons x l=>rfl
end Go.Proofs.YtpobhbdomldecaaGreatDoor
namespace Go.Proofs.YtpobhbdomldecaaGreatDoor
open Go.RowKit
set_option linter.unusedSimpArgs false
set_option linter.unusedVariables false
def bodyB(s:ByteArray):Bool:=decide (0<s.size) && decide (s.size≤64)
set_option maxRecDepth 100000 in
theorem ibody_any(s:ByteArray)(w:World)(hs:s.size≤9223372036854775807):Calls Tryz.prog 120 #[.string s] w λ e w'=>e=.returned (.bool (bodyB s))∧Below w.heap.size w w':=by
 by_cases h0:s.size=0
 ·have te:s.toList.isEmpty=true:=by rw[emptyB,decide_eq_true h0]
  have HE:Hid (bodyB s=false):=Lib.hid (by unfold bodyB;rw[decide_eq_false (by omega)];rfl);clear h0
  go_enter Tryz.func120,Tryz.ntmps120
  go_wp2
  go_ret
  exact⟨by rw[HE.out];rfl,Below.refl _ _⟩
 ·have te:s.toList.isEmpty=false:=by rw[emptyB,decide_eq_false h0]
  by_cases h1:s.size≤64
  ·have i1:((s.size:Nat):Int)≤64:=by omega
   have HE:Hid (bodyB s=true):=Lib.hid (by unfold bodyB;rw[decide_eq_true (by omega:0<s.size),decide_eq_true h1];rfl);clear h0 h1
   go_enter Tryz.func120,Tryz.ntmps120
   go_wp2
   go_ret
   exact⟨by rw[HE.out];rfl,Below.refl _ _⟩
  ·have i1:¬((s.size:Nat):Int)≤64:=by omega
   have HE:Hid (bodyB s=false):=Lib.hid (by unfold bodyB;rw[decide_eq_false h1];simp);clear h0 h1
   go_enter Tryz.func120,Tryz.ntmps120
   go_wp2
   go_ret
   exact⟨by rw[HE.out];rfl,Below.refl _ _⟩
set_option maxRecDepth 100000 in
theorem itxn1_any(i:Int)(s:ByteArray)(w:World)(hs:s.size≤9223372036854775807):Calls Tryz.prog 119 #[.int .i64 i,.string s] w λ e w'=>e=.returned (.tuple #[.string s,.bool (bodyB s)])∧Below w.heap.size w w':=by
 go_enter Tryz.func119,Tryz.ntmps119
 go_wp2_with fail
 refine(ibody_any s w hs).mono ?_
 rintro e w1 ⟨rfl,hb⟩
 go_wp2
 go_ret2
 exact⟨rfl,hb⟩
structure BeSt(l:List ByteArray)(w wr:World)(v:Value)(m:Nat):Prop where
 b:Below w.heap.size w wr
 o:wr.ownsRow w.heap.size 9 1 v m ((l.take m).map Value.string)
 y:∀j,j<m→bodyB (tth l j)=true
def RBdIs(l:List ByteArray)(w:World)(e:Ending)(w':World):Prop:=∃v,e=.returned (.tuple #[v,.bool (bdOk l)])∧(bdOk l=true→TextsAre l v w')∧Below w.heap.size w w'
theorem bodyB_at{s:ByteArray}(h:bodyB s=true):0<s.size∧s.size≤64:=by
 unfold bodyB at h
 simpa using h
theorem bodyB_no{s:ByteArray}(h:bodyB s=false):¬(0<s.size∧s.size≤64):=λ h9=>by
 unfold bodyB at h
 rw[decide_eq_true h9.1,decide_eq_true h9.2]at h
 exact absurd h (by decide)
theorem take_snocT(l:List ByteArray)(m:Nat)(h:m<len l):l.take (m+1)=l.take m++[tth l m]:=by
 have h2:m<l.length:=h
 rw[List.take_succ_eq_append_getElem h2,tth_eq l m h2]
theorem take_lenT(l:List ByteArray):l.take (len l)=l:=by rw[len_eq];exact List.take_length
set_option maxRecDepth 100000 in
set_option maxHeartbeats 4000000 in
theorem ielS_any(l:List ByteArray)(a:Option Addr)(cap:Nat)(w:World)(hc:Txts w a l)(hn:len l≤100000)(hz:∀i,i<len l→(tth l i).size≤9223372036854775807):
  Calls Tryz.prog 118 #[.slice a (len l) cap,.int .i64 64,.func (.func 119) #[] #[]] w (RBdIs l w):=by
 have HC:=Lib.hid hc;have HN:=Lib.hid hn;have HZZ:=Lib.hid hz;clear hc hn hz
 obtain⟨i0,hi,hz0,hz1,hz2⟩:=info_parts info_str
 have HZ:=Lib.hid hz0;clear hz0
 go_enter Tryz.func118,Tryz.ntmps118
 go_wp2
 go_loopg [15,8] (len l) (λ gg i v wr=>∃m:Nat,gg+m=len l∧i=.int .i64 (m:Nat)∧Hid (BeSt l w wr v m))
 case atStart=>exact⟨0,rfl,rfl,Lib.hid ⟨Below.refl _ _,World.ownsRow_nil _ _ _ _,λ j h=>by omega⟩⟩
 case round=>
  obtain⟨m,hm,rfl,HS⟩:=hrel
  by_cases hlt:m<len l
  ·have b0:(m:Int)<len l:=by omega
   obtain⟨pb,po,rfl,cs⟩:=(HC.out.below HS.out.b) m hlt
   have HSZ:=Lib.hid (HZZ.out m hlt)
   obtain⟨x,hx⟩:∃x,tth l m=x:=⟨_,rfl⟩
   rw[hx]at cs HSZ
   have HX:=Lib.hid hx;have HLT:=Lib.hid hlt;have HM:=Lib.hid hm;clear hx hlt
   go_wp2_with fail
   refine(itxn1_any _ x _ HSZ.out).mono ?_
   rintro e w1 ⟨rfl,hb⟩
   have HB1:Hid (Below w.heap.size w w1):=Lib.hid (bnext HS.out.b hb);have HO1:=Lib.hid (own_below HS.out.o hb);clear hb cs
   cases hbx:bodyB x with
   | true=>
    have HBX:=Lib.hid hbx;clear hbx
    go_wp2_with (at_builtin;refine wpList_append_own _ rfl _ _ 36 rfl w.heap.size 9 i0 (.string ⟨#[]⟩) 1 16 Tryz.underlying36 hi HZ.out hz1 hz2 rfl (by decide) _ _ _ rfl (HO1.out.alloc _) ⟨w1.heap.size,0,none⟩ 1 1 [.string x] rfl rfl ?c1 ?c2 ?c3 ?c4 ?c5 ?_)
    case c1=>exact World.news_of_block (alloc_new_at _ rfl)
    case c2=>intro u hu;simp at hu;subst hu;rfl
    case c3=>unfold maxLen;have:=HN.out;have:=HLT.out;omega
    case c4=>have:=HN.out;have:=HLT.out;omega
    case c5=>have:=HB1.out.size;simp;omega
    intro v' w2 hown' hgrow _
    have HB3:Hid (Below w.heap.size w w2):=Lib.hid (grownBy_below (balloc HB1.out _) hgrow (λ k hk=>(HO1.out.lt k hk).1));have HO3:Hid (w2.ownsRow w.heap.size 9 1 v' (m+1) ((l.take (m+1)).map Value.string)):=Lib.hid (by
     rw[take_snocT l m HLT.out,HX.out,List.map_append,List.map_take];exact hown')
    clear hown' hgrow;have HNN:=HN.out
    go_wp2
    go_roundg (gk - 1)
    case rel=>exact⟨m+1,by have:=HM.out;have:=HLT.out;omega,by have:=HLT.out;go_num,Lib.hid ⟨HB3.out,HO3.out,λ j hj=>by
     by_cases e:j=m
     ·subst e;rw[HX.out];exact HBX.out
     ·exact HS.out.y j (by omega)⟩⟩
    case measure=>have:=HM.out;have:=HLT.out;omega
   | false=>
    have HE:Hid (bdOk l=false):=Lib.hid (bdOk_bad HLT.out (by rw[HX.out];exact bodyB_no hbx));clear hbx
    go_wp2
    go_ret2
    exact⟨.slice none 0 0,by rw[HE.out];rfl,λ h=>absurd h (by rw[HE.out];decide),HB1.out⟩
  ·obtain rfl:m=len l:=by omega
   have b0:¬((len l:Nat):Int)<(len l:Nat):=by omega
   have HSO:=Lib.hid HS.out.o
   rw[take_lenT]at HSO
   have HSB:=Lib.hid HS.out.b;have HY:=Lib.hid (λ i (hi:i<len l)=>bodyB_at (HS.out.y i hi))
   by_cases h0:len l=0
   ·have c1:¬(1:Int)≤len l:=by omega
    have HE:Hid (bdOk l=false):=Lib.hid (bdOk_len (by omega));clear h0
    go_wp2
    go_ret2
    exact⟨_,by rw[HE.out];rfl,λ h=>absurd h (by rw[HE.out];decide),HSB.out⟩
   ·have c1:(1:Int)≤len l:=by omega
    by_cases h64:len l≤64
    ·have c2:(len l:Int)≤64:=by omega
     have HE:Hid (bdOk l=true):=Lib.hid (bdOk_of (by omega) h64 HY.out);clear h0 h64
     go_wp2
     go_ret2
     exact⟨_,by rw[HE.out];rfl,λ h=>TextsAre.own HSO.out,HSB.out⟩
    ·have c2:¬(len l:Int)≤64:=by omega
     have HE:Hid (bdOk l=false):=Lib.hid (bdOk_len (by omega));clear h0 h64
     go_wp2
     go_ret2
     exact⟨_,by rw[HE.out];rfl,λ h=>absurd h (by rw[HE.out];decide),HSB.out⟩
set_option maxRecDepth 100000 in
set_option maxHeartbeats 1000000 in
theorem iprove_any(els:List ByteArray)(a:Option Addr)(cap k:Nat)(w:World)(ht:Txts w a els)(hn:len els≤65536)(hz:∀i,i<len els→(tth els i).size≤140737488355200)(hk:k<len els):
  Calls Tryz.prog 105 #[.slice a (len els) cap,.int .i64 (k:Nat)] w λ e w'=>∃v,e=.returned (.tuple #[v,.int .i64 0])∧TextsAre (oneD els k) v w'∧Below w.heap.size w w':=by
 have HT:=Lib.hid ht;have HN:=Lib.hid hn;have HZ:=Lib.hid hz;have HK:=Lib.hid hk;clear ht hn hz hk;have kw:IntKind.u64.wrap ((k:Nat):Int)=((k:Nat):Int):=by have:=HN.out;have:=HK.out;exact IntWalk.u64_in _ (by omega)
 go_enter Tryz.func105,Tryz.ntmps105
 go_wp2_with fail
 refine(build_any els a cap w HT.out HN.out HZ.out).mono ?_
 rintro e w1 ⟨b,rfl,hs,ht,hb⟩
 have HTR:=Lib.hid ht;have HB:=Lib.hid hb;clear hs ht hb
 go_wp2_with fail
 refine(prove_ok els b [((k:Nat):Int)] (some ⟨w1.heap.size,0,none⟩) 1 _ (HTR.out.below (balloc (Below.refl _ _) _)) HN.out (λ i hi=>⟨_,0,rfl,by
  have hi:i<1:=hi
  obtain rfl:i=0:=by omega
  rw[block_cell (heap_alloc_new _ _)];rfl⟩) (by show 1≤12;decide) (one_u64 HN.out HK.out) (one_may HK.out)).mono ?_
 rintro e w2 ⟨v,rfl,ho,hb⟩
 have HB2:Hid (Below w.heap.size w w2):=Lib.hid (bnext (balloc HB.out _) hb);have HV:Hid (TextsAre (oneD els k) v w2):=Lib.hid (TextsAre.own ho);clear hb ho
 go_wp2
 go_ret2
 exact⟨v,rfl,HV.out,HB2.out⟩
end Go.Proofs.YtpobhbdomldecaaGreatDoor
namespace Go.Proofs.YtpobhbdomldecaaGreatDoor
open Go.RowKit
set_option linter.unusedSimpArgs false
set_option linter.unusedVariables false
set_option linter.constructorNameAsVariable false
def eB(l:List Hdr)(i:Nat):Bool:=hOk (hnth l i) && (decide (i=0) || stepH (hnth l (i - 1)) (hnth l i))
def Ih1Is(l:List Hdr)(i:Nat)(w:World)(e:Ending)(w':World):Prop:=∃s,e=.returned (.tuple #[.string s,.bool (eB l i)])∧(eB l i=true→s=hbs (hnth l i))∧Below w.heap.size w w'
set_option maxRecDepth 100000 in
set_option maxHeartbeats 4000000 in
theorem ih1_any(B:Nat)(l:List Hdr)(a:Option Addr)(cap xb i:Nat)(w:World)(ht:PT B w)(hc:Hdrs w a l)(ho:∀i,(hnth l i).Ok)(hx:BoxL w xb a (len l) cap)(hi:i<len l)(hn:len l≤100000):
  Calls Tryz.prog 104 #[.int .i64 (i:Nat),(hnth l i).val,.pointer (some ⟨xb,0,none⟩)] w (Ih1Is l i w):=by
 have HT:=Lib.hid ht;have HC:=Lib.hid hc;have HO:=Lib.hid ho;have HX:=Lib.hid hx;have HI:=Lib.hid hi;have HN:=Lib.hid hn;clear ht hc ho hx hi hn
 obtain⟨r,hr⟩:∃r,hnth l i=r:=⟨_,rfl⟩
 have HRE:=Lib.hid hr;have HRO:Hid r.Ok:=Lib.hid (by rw[←hr];exact HO.out i);have HXX:Hid (xb<w.heap.size):=Lib.hid (lt_of_block HX.out)
 rw[hr]
 clear hr
 cases hok:hOk r with
 | false=>
  have HE:Hid (eB l i=false):=Lib.hid (by unfold eB;rw[HRE.out,hok];rfl);have HW:=Lib.hid (λ w9 h9=>hw_no B r w9 h9 HRO.out hok);clear hok
  go_enter Tryz.func104,Tryz.ntmps104
  go_wp2_with fail
  refine(HW.out _ (HT.out.below (balloc (Below.refl _ _) _))).mono ?_
  rintro e w1 ⟨rfl,hb⟩
  have HB:Hid (Below w.heap.size w w1):=Lib.hid (bnext (balloc (Below.refl _ _) _) hb);clear hb HW
  go_upto_region 2 with fail
  go_quiet (fail)
  go_wp2
  go_ret2
  exact⟨_,by rw[HE.out];rfl,λ h=>absurd h (by rw[HE.out];decide),bdrewN HB.out _⟩
 | true=>
  have HOK:=Lib.hid hok;have HW:=Lib.hid (λ w9 h9=>hw_yes B r w9 h9 HRO.out hok);clear hok
  go_enter Tryz.func104,Tryz.ntmps104
  go_wp2_with fail
  refine(HW.out _ (HT.out.below (balloc (Below.refl _ _) _))).mono ?_
  rintro e w1 ⟨rfl,hb⟩
  have HB:Hid (Below w.heap.size w w1):=Lib.hid (bnext (balloc (Below.refl _ _) _) hb);have HH:Hid (w1.heap[w.heap.size]?=some (.cells #[.int .u64 r.rnd,.string r.prev,.string r.txns,.string r.seed] 33 (0,0))):=Lib.hid ((hb.block _ (by simp)).trans (heap_alloc_new _ _));have HX1:=Lib.hid (HX.out.below HB.out);clear hb HW;have x0:w1.cell? ⟨xb,0,none⟩=some (.slice a (len l) cap):=block_cell HX1.out 0;have h0:w1.cell? ⟨w.heap.size,0,none⟩=some (.int .u64 r.rnd):=block_cell HH.out 0
  by_cases hi0:i=0
  ·subst hi0
   have HE:Hid (eB l 0=true):=Lib.hid (by unfold eB;rw[HRE.out,HOK.out];rfl)
   go_upto_region 2 with fail
   go_quiet (fail)
   go_wp2
   go_ret2
   exact⟨_,by rw[HE.out];rfl,λ _=>by rw[HRE.out],bdrewN HB.out _⟩
  ·obtain⟨k,rfl⟩:∃k,i=k+1:=⟨i - 1,by omega⟩
   obtain⟨b,off,rfl,⟨f0,f1,f2,f3⟩⟩:=(HC.out.below HB.out) k (by have:=HI.out;omega)
   obtain⟨p,hp⟩:∃p,hnth l k=p:=⟨_,rfl⟩
   have HPO:Hid p.Ok:=Lib.hid (by rw[←hp];exact HO.out k)
   rw[hp]at f0
   have i1:((k:Int)+1 == 0)=false:=by simp;omega
   have i2:IntKind.i64.wrap (k:Int)=(k:Int):=by have:=HN.out;have:=HI.out;exact IntWalk.i64_in _ (by omega)
   have i3:(k:Int)<len l:=by have:=HI.out;omega
   have i4:k<len l:=by have:=HI.out;omega
   have HST:Hid (eB l (k+1)=stepH p r):=Lib.hid (by unfold eB;rw[HRE.out,HOK.out,show k+1 - 1=k from rfl,hp];simp);clear f1 f2 f3 hi0 hp;have hp0:=HPO.out.r0;have hr0:=HRO.out.r0
   by_cases c1:p.rnd<r.rnd
   ·have sb:IntKind.u64.wrap (r.rnd - p.rnd)=r.rnd - p.rnd:=by have:=hp0.1;have:=hr0.2;exact IntWalk.u64_in _ (by omega)
    by_cases c2:r.rnd - p.rnd=1
    ·have HE:Hid (eB l (k+1)=true):=Lib.hid (by rw[HST.out];unfold stepH;rw[decide_eq_true c1,decide_eq_true c2];rfl)
     have e2:(r.rnd - p.rnd == 1)=true:=by simp[c2]
     clear hp0 hr0 c2
     go_upto_region 2 with fail
     go_quiet (fail)
     go_wp2
     go_ret2
     exact⟨_,by rw[HE.out];rfl,λ _=>by rw[HRE.out],bdrewN HB.out _⟩
    ·have HE:Hid (eB l (k+1)=false):=Lib.hid (by rw[HST.out];unfold stepH;rw[decide_eq_false c2];simp)
     have e2:(r.rnd - p.rnd == 1)=false:=by simp[c2]
     clear hp0 hr0 c2
     go_upto_region 2 with fail
     go_quiet (fail)
     go_wp2
     go_ret2
     exact⟨_,by rw[HE.out];rfl,λ h=>absurd h (by rw[HE.out];decide),bdrewN HB.out _⟩
   ·have HE:Hid (eB l (k+1)=false):=Lib.hid (by rw[HST.out];unfold stepH;rw[decide_eq_false c1];rfl)
    have e1:decide (p.rnd<r.rnd)=false:=decide_eq_false c1;clear hp0 hr0 c1
    go_upto_region 2 with fail
    go_quiet (fail)
    go_wp2
    go_ret2
    exact⟨_,by rw[HE.out];rfl,λ h=>absurd h (by rw[HE.out];decide),bdrewN HB.out _⟩
end Go.Proofs.YtpobhbdomldecaaGreatDoor
namespace Go.Proofs.YtpobhbdomldecaaGreatDoor
open Go.RowKit
set_option linter.unusedSimpArgs false
set_option linter.unusedVariables false
set_option linter.constructorNameAsVariable false
theorem eB_at{l:List Hdr}{m:Nat}(h:eB l m=true):hOk (hnth l m)=true∧(0<m→stepH (hnth l (m - 1)) (hnth l m)=true):=by
 unfold eB at h
 simp only[Bool.and_eq_true,Bool.or_eq_true,decide_eq_true_eq]at h
 exact⟨h.1,λ h0=>by
  rcases h.2 with h9 | h9
  ·omega
  ·exact h9⟩
theorem eB_no{l:List Hdr}{m:Nat}(hm:m<len l)(h:eB l m=false):elOk l=false:=by
 cases e:elOk l with
 | false=>rfl
 | true=>
  have h1:=elOk_at e;have h2:=laysH_at h1.2.2.2 hm
  unfold eB at h
  rw[h2]at h
  by_cases h0:m=0
  ·rw[decide_eq_true h0]at h;cases h
  ·rw[followH_at h1.2.2.1 hm (by omega)]at h
   simp at h
set_option maxRecDepth 100000 in
set_option maxHeartbeats 4000000 in
theorem ielH_any(B:Nat)(l:List Hdr)(a:Option Addr)(cap xb:Nat)(w:World)(ht:PT B w)(hc:Hdrs w a l)(ho:∀i,(hnth l i).Ok)(hx:BoxL w xb a (len l) cap)(hn:len l≤100000):
  Calls Tryz.prog 103 #[.slice a (len l) cap,.int .i64 64,.func (.func 104) #[] #[.pointer (some ⟨xb,0,none⟩)]] w (RElIs l w):=by
 have HT:=Lib.hid ht;have HC:=Lib.hid hc;have HN:=Lib.hid hn;have HX:=Lib.hid hx;have HIH:=Lib.hid (fun (i:Nat) (w9:World) (hi:i<len l) (hb:Below w.heap.size w w9)=>ih1_any B l a cap xb i w9 (ht.below hb) (hc.below hb) ho (hx.below hb) hi hn);clear ht hc hn hx ho
 obtain⟨i0,hi,hz0,hz1,hz2⟩:=info_parts info_str
 have HZ:=Lib.hid hz0;clear hz0
 go_enter Tryz.func103,Tryz.ntmps103
 go_wp2
 go_loopg [15,8] (len l) (λ gg i v wr=>∃m:Nat,gg+m=len l∧i=.int .i64 (m:Nat)∧Hid (ElSt l w wr v m))
 case atStart=>exact⟨0,rfl,rfl,Lib.hid ⟨Below.refl _ _,World.ownsRow_nil _ _ _ _,λ j h=>by omega,λ j _ h=>by omega⟩⟩
 case round=>
  obtain⟨m,hm,rfl,HS⟩:=hrel
  by_cases hlt:m<len l
  ·have b0:(m:Int)<len l:=by omega
   obtain⟨b,off,rfl,⟨e0,e1,e2,e3⟩⟩:=(HC.out.below HS.out.b) m hlt
   have HI1:=Lib.hid (λ w9 hb=>HIH.out m w9 hlt hb)
   unfold Ih1Is at HI1
   have HEA:Hid (eB l m=true→hOk (hnth l m)=true∧(0<m→stepH (hnth l (m - 1)) (hnth l m)=true)):=Lib.hid eB_at;have HEN:Hid (eB l m=false→elOk l=false):=Lib.hid (eB_no hlt)
   obtain⟨r,hr⟩:∃r,hnth l m=r:=⟨_,rfl⟩
   have HRE:=Lib.hid hr
   rw[hr]at e0 e1 e2 e3 HI1
   have HLT:=Lib.hid hlt;have HM:=Lib.hid hm;clear hr hlt hm
   go_upto_region 5 with fail
   obtain⟨V,hV⟩:∃V,wr.alloc (.cells #[.int .u64 r.rnd,.string r.prev,.string r.txns,.string r.seed] 33)=V:=⟨_,rfl⟩
   obtain⟨tb,htb⟩:∃tb,wr.heap.size=tb:=⟨_,rfl⟩
   have HBV:Hid (Below w.heap.size w V):=Lib.hid (by rw[←hV];exact balloc HS.out.b _);have HOV:Hid (V.ownsRow w.heap.size 9 1 u8 (len (elL (l.take m))) ((elL (l.take m)).map Value.string)):=Lib.hid (by rw[←hV];exact HS.out.o.alloc _);have HVH:Hid (V.heap[tb]?=some (.cells #[.int .u64 r.rnd,.string r.prev,.string r.txns,.string r.seed] 33 (0,0))):=Lib.hid (by rw[←hV,←htb];exact heap_alloc_new _ _)
   rw[hV,htb]
   clear hV htb e0 e1 e2 e3;have d0:V.cell? ⟨tb,0,none⟩=some (.int .u64 r.rnd):=block_cell HVH.out 0;have d1:V.cell? ⟨tb,1,none⟩=some (.string r.prev):=block_cell HVH.out 1;have d2:V.cell? ⟨tb,2,none⟩=some (.string r.txns):=block_cell HVH.out 2;have d3:V.cell? ⟨tb,3,none⟩=some (.string r.seed):=block_cell HVH.out 3
   go_wp2_with fail
   refine(HI1.out V HBV.out).mono ?_
   rintro e w1 ⟨s,rfl,hs,hb⟩
   have HB1:Hid (Below w.heap.size w w1):=Lib.hid (bnext HBV.out hb);have HO1:=Lib.hid (own_below HOV.out hb);clear hb d0 d1 d2 d3
   cases he:eB l m with
   | true=>
    obtain rfl:=hs he
    have HK:=Lib.hid (HEA.out he);clear hs he
    go_wp2_with (at_builtin;refine wpList_append_own _ rfl _ _ 36 rfl w.heap.size 9 i0 (.string ⟨#[]⟩) 1 16 Tryz.underlying36 hi HZ.out hz1 hz2 rfl (by decide) _ _ _ rfl (HO1.out.alloc _) ⟨w1.heap.size,0,none⟩ 1 1 [.string (hbs r)] rfl rfl ?c1 ?c2 ?c3 ?c4 ?c5 ?_)
    case c1=>exact World.news_of_block (alloc_new_at _ rfl)
    case c2=>intro u hu;simp at hu;subst hu;rfl
    case c3=>unfold maxLen;have:=HN.out;have:=HLT.out;have:=lenT l m (by omega);omega
    case c4=>have:=HN.out;have:=HLT.out;have:=lenT l m (by omega);omega
    case c5=>have:=HB1.out.size;simp;omega
    intro v' w2 hown' hgrow _
    have HB3:Hid (Below w.heap.size w w2):=Lib.hid (grownBy_below (balloc HB1.out _) hgrow (λ k hk=>(HO1.out.lt k hk).1));have HO3:Hid (w2.ownsRow w.heap.size 9 1 v' (len (elL (l.take (m+1)))) ((elL (l.take (m+1))).map Value.string)):=Lib.hid (by
     rw[elL_snoc l m HLT.out,HRE.out,List.map_append,len_appT,show len [hbs r]=1 from rfl];exact hown')
    clear hown' hgrow;have HNN:=HN.out;have HLL:=HLT.out
    go_wp2
    go_roundg (gk - 1)
    case rel=>exact⟨m+1,by have:=HM.out;omega,by go_num,Lib.hid ⟨HB3.out,HO3.out,λ j hj=>by
     by_cases e:j=m
     ·subst e;exact HK.out.1
     ·exact HS.out.y j (by omega),λ j h0 hj=>by
     by_cases e:j=m
     ·subst e;exact HK.out.2 h0
     ·exact HS.out.s j h0 (by omega)⟩⟩
    case measure=>have:=HM.out;omega
   | false=>
    have HE:=Lib.hid (HEN.out he);clear hs he
    go_wp2
    go_ret2
    exact⟨.slice none 0 0,by rw[HE.out];rfl,λ h=>absurd h (by rw[HE.out];decide),HB1.out⟩
  ·obtain rfl:m=len l:=by omega
   have b0:¬((len l:Nat):Int)<(len l:Nat):=by omega
   have HTK:Hid (l.take (len l)=l):=Lib.hid (take_len l);have HSO:=Lib.hid HS.out.o
   rw[HTK.out]at HSO
   have HSB:=Lib.hid HS.out.b;have HY1:Hid (laysH l=true):=Lib.hid (laysH_yes (λ i hi=>HS.out.y i hi));have HY2:Hid (followH stepH l=true):=Lib.hid (followH_yes (λ i hi h0=>HS.out.s i h0 hi));have HEO:Hid (elOk l=(decide (0<len l) && decide (len l≤64))):=Lib.hid (by unfold elOk;rw[HY1.out,HY2.out];simp)
   by_cases h0:len l=0
   ·have c1:¬(1:Int)≤len l:=by omega
    have HE:Hid (elOk l=false):=Lib.hid (by rw[HEO.out,decide_eq_false (by omega)];rfl);clear h0
    go_wp2
    go_ret2
    exact⟨_,by rw[HE.out];rfl,λ h=>absurd h (by rw[HE.out];decide),HSB.out⟩
   ·have c1:(1:Int)≤len l:=by omega
    by_cases h64:len l≤64
    ·have c2:(len l:Int)≤64:=by omega
     have HE:Hid (elOk l=true):=Lib.hid (by rw[HEO.out,decide_eq_true (by omega),decide_eq_true h64];rfl);clear h0 h64
     go_wp2
     go_ret2
     exact⟨_,by rw[HE.out];rfl,λ h=>TextsAre.own HSO.out,HSB.out⟩
    ·have c2:¬(len l:Int)≤64:=by omega
     have HE:Hid (elOk l=false):=Lib.hid (by rw[HEO.out,decide_eq_false h64];simp);clear h0 h64
     go_wp2
     go_ret2
     exact⟨_,by rw[HE.out];rfl,λ h=>absurd h (by rw[HE.out];decide),HSB.out⟩
set_option maxRecDepth 100000 in
set_option maxHeartbeats 4000000 in
theorem iheader_any(B:Nat)(l:List Hdr)(a:Option Addr)(cap:Nat)(rd:Int)(w:World)(ht:PT B w)(hc:Hdrs w a l)(ho:∀i,(hnth l i).Ok)(hn:len l≤65536):
  Calls Tryz.prog 49 #[.slice a (len l) cap,.int .u64 rd] w (IhIs l rd w):=by
 have HC:=Lib.hid hc;have HN:=Lib.hid hn;have HO:=Lib.hid ho;have HEL:=Lib.hid (ielH_any B l a cap w.heap.size (w.alloc (.cells #[.slice a (len l) cap] 22)) (ht.below (balloc (Below.refl _ _) _)) (hc.below (balloc (Below.refl _ _) _)) ho (heap_alloc_new _ _) (by omega));clear ht hc hn ho
 cases hel:elOk l with
 | false=>
  have HE:=Lib.hid (ih_no (r:=rd) hel)
  go_enter Tryz.func49,Tryz.ntmps49
  go_wp2_with fail
  refine HEL.out.mono ?_
  rintro e w1 ⟨v,rfl,hv,hb⟩
  rw[hel]
  have HB:Hid (Below w.heap.size w w1):=Lib.hid (bnext (balloc (Below.refl _ _) _) hb);clear hv hb hel HEL
  go_wp2
  refine bodyPost_ret (v:=.tuple #[.string ⟨#[]⟩,.slice none 0 0,.int .i64 2]) (by simp[results,Tryz.results49,go_sem]) rfl ⟨_,by rw[HE.out.1,HE.out.2.2],by rw[HE.out.2.1];exact TextsAre.nil _,HB.out⟩
 | true=>
  have HOK:=Lib.hid hel;have HSZ:=Lib.hid (elL_size hel)
  go_enter Tryz.func49,Tryz.ntmps49
  go_wp2_with fail
  refine HEL.out.mono ?_
  rintro e w1 ⟨v,rfl,hv,hb⟩
  obtain⟨a1,c1,rfl,ht1,-,-⟩:=hv hel
  rw[hel]
  have HB:Hid (Below w.heap.size w w1):=Lib.hid (bnext (balloc (Below.refl _ _) _) hb);have HX:Hid (BoxL w1 w.heap.size a (len l) cap):=Lib.hid ((hb.block _ (by simp)).trans (heap_alloc_new _ _));have HT1:=Lib.hid ht1
  rw[elL_len]
  have HPV:=Lib.hid (fun (k:Nat) (w9:World) (h:Txts w9 a1 (elL l)) (hk:k<len l)=>iprove_any (elL l) a1 c1 k w9 h (by rw[elL_len];exact HN.out) (λ i hi=>Nat.le_trans (HSZ.out i hi) (by decide)) (by rw[elL_len];exact hk))
  rw[elL_len]at HPV
  clear hv hb hel ht1 HEL;have x0:w1.cell? ⟨w.heap.size,0,none⟩=some (.slice a (len l) cap):=block_cell HX.out 0
  go_wp2_with fail
  clear x0
  go_loopg [21] (len l) (λ gg i wr=>∃m:Nat,gg+m=len l∧i=.int .i64 (m:Nat)∧Hid (Below w.heap.size w wr)∧Hid (Below w1.heap.size w1 wr)∧Hid (∀j,j<m→(hnth l j).rnd≠rd))
  case atStart=>exact⟨0,rfl,rfl,HB,Lib.hid (Below.refl _ _),Lib.hid (λ j h=>by omega)⟩
  case round=>
   obtain⟨m,hm,rfl,HW,HW1,HI⟩:=hrel
   by_cases hlt:m<len l
   ·have b0:(m:Int)<len l:=by omega
    obtain⟨b,off,rfl,⟨e0,e1,e2,e3⟩⟩:=(HC.out.below HW.out) m hlt
    obtain⟨r,hr⟩:∃r,hnth l m=r:=⟨_,rfl⟩
    have HRE:=Lib.hid hr
    rw[hr]at e0 e1 e2 e3
    have HLT:=Lib.hid hlt;have HM:=Lib.hid hm;clear hr hlt hm;have HNN:=HN.out
    by_cases hrd:r.rnd=rd
    ·have hq:(r.rnd != rd)=false:=by simp[hrd]
     have hq2:(r.rnd == rd)=true:=by simp[hrd]
     have HF:=Lib.hid (ih_some HOK.out (findR_hit HLT.out HI.out (by rw[HRE.out];exact hrd)));clear hrd
     go_wp2_with fail
     refine(HPV.out m _ ((HT1.out.below HW1.out).below (balloc (Below.refl _ _) _)) HLT.out).mono ?_
     rintro e x1 ⟨v,rfl,hv,hb⟩
     have HB1:Hid (Below w.heap.size w x1):=Lib.hid (bnext HW.out (bnext (balloc (Below.refl _ _) _) hb));have HV:=Lib.hid hv
     obtain⟨g,o,rfl,hcc⟩:=((HT1.out.below HW1.out).below (bnext (balloc (Below.refl _ _) _) hb)) m (by rw[elL_len];exact HLT.out)
     rw[elL_at l m HLT.out,HRE.out]at hcc
     have HLL:=HLT.out;clear hb hv e0 e1 e2 e3 hq hq2
     go_wp2
     refine bodyPost_ret (v:=.tuple #[.string (hbs r),v,.int .i64 0]) (by simp[results,Tryz.results49,go_sem]) rfl ⟨v,by rw[HF.out.1,HF.out.2.2,HRE.out],by rw[HF.out.2.1];exact HV.out,HB1.out⟩
    ·have hq:(r.rnd != rd)=true:=by simp[hrd]
     have hq2:(r.rnd == rd)=false:=by simp[hrd]
     have HR:=Lib.hid hrd;clear hrd;have HLL:=HLT.out
     go_wp2
     go_roundg (gk - 1)
     case rel=>exact⟨m+1,by have:=HM.out;omega,by go_num,Lib.hid (balloc HW.out _),Lib.hid (balloc HW1.out _),Lib.hid (λ j hj=>by
      by_cases e:j=m
      ·subst e;rw[HRE.out];exact HR.out
      ·exact HI.out j (by omega))⟩
     case measure=>have:=HM.out;omega
   ·obtain rfl:m=len l:=by omega
    have b0:¬((len l:Nat):Int)<(len l:Nat):=by omega
    have HF:=Lib.hid (ih_none HOK.out (findR_none HI.out))
    go_wp2
    refine bodyPost_ret (v:=.tuple #[.string ⟨#[]⟩,.slice none 0 0,.int .i64 19]) (by simp[results,Tryz.results49,go_sem]) rfl ⟨_,by rw[HF.out.1,HF.out.2.2],by rw[HF.out.2.1];exact TextsAre.nil _,HW.out⟩
end Go.Proofs.YtpobhbdomldecaaGreatDoor
namespace Go.Proofs.YtpobhbdomldecaaGreatDoor
open Go.RowKit
set_option linter.unusedSimpArgs false
set_option linter.unusedVariables false
def Keeps(b:Nat)(w1 w2:World):Prop:=w1.heap.size≤w2.heap.size∧∀i,b≤i→i<w1.heap.size→w2.heap[i]?=w1.heap[i]?
theorem Keeps.of{b:Nat}{w1 w2:World}(h:Below w1.heap.size w1 w2):Keeps b w1 w2:=⟨h.size,λ i _ hi=>h.block i hi⟩
set_option maxRecDepth 100000 in
set_option maxHeartbeats 4000000 in
theorem ifirst_any(n rb:Nat)(F:Nat→FuncId)(C:Nat→Array Value)(E:Nat→Int)(I:Nat→World→Prop)(Q:Int→World→Prop)(w:World)
  (hn:n≤100)
  (eg:∀k args w,(callFunc (F k) args).run Tryz.prog w=.ok (.enter (F k) args) w)
  (hI:∀k w1 w2,I k w1→Below w1.heap.size w1 w2→I k w2)
  (hc:∀k,k<n→∀w1,I k w1→w1.cell? ⟨rb,k * 2,none⟩=some (.func (.func (F k)) #[] (C k))∧w1.cell? ⟨rb,k * 2+1,none⟩=some (.int .i64 (E k)))
  (h0:I 0 w)
  (hs:∀k,k<n→∀w1,w.heap.size≤w1.heap.size→I k w1→Calls Tryz.prog (F k) (C k) w1 λ e w2=>∃b,e=.returned (.bool b)∧(b=true→I (k+1) w2)∧(b=false→Q (E k) w2)∧Keeps w.heap.size w1 w2)
  (hq:∀w1,I n w1→Q 0 w1):
  Calls Tryz.prog 109 #[.slice (some ⟨rb,0,none⟩) n n] w λ e w'=>∃x,e=.returned (.int .i64 x)∧Q x w':=by
 have HI:=Lib.hid hI;have HC:=Lib.hid hc;have H0:=Lib.hid h0;have HS:=Lib.hid hs;have HQ:=Lib.hid hq;have HN:=Lib.hid hn;have EG:=Lib.hid eg;clear hI hc h0 hs hq hn eg
 go_enter Tryz.func109,Tryz.ntmps109
 go_wp2
 go_loopg [7] n (λ gg i wr=>∃m:Nat,gg+m=n∧i=.int .i64 (m:Nat)∧Hid (I m wr)∧Hid (w.heap.size≤wr.heap.size))
 case atStart=>exact⟨0,rfl,rfl,H0,Lib.hid (Nat.le_refl _)⟩
 case round=>
  obtain⟨m,hm,rfl,HM,HW⟩:=hrel
  by_cases hlt:m<n
  ·have b0:(m:Int)<n:=by omega
   obtain⟨c0,c1⟩:=HC.out m hlt wr HM.out
   have HLT:=Lib.hid hlt;clear hlt
   go_upto_region 4 with fail
   obtain⟨V,hV⟩:∃V,wr.alloc (.cells #[.func (.func (F m)) #[] (C m),.int .i64 (E m)] 140)=V:=⟨_,rfl⟩
   obtain⟨tb,htb⟩:∃tb,wr.heap.size=tb:=⟨_,rfl⟩
   have HV:Hid (Below wr.heap.size wr V):=Lib.hid (by rw[←hV];exact balloc (Below.refl _ _) _);have HVC:Hid (V.heap[tb]?=some (.cells #[.func (.func (F m)) #[] (C m),.int .i64 (E m)] 140 (0,0))):=Lib.hid (by rw[←hV,←htb];exact heap_alloc_new _ _);have HVI:Hid (I m V):=Lib.hid (HI.out m wr V HM.out HV.out);have HTB:Hid (w.heap.size≤tb):=Lib.hid (by rw[←htb];exact HW.out);have HVW:Hid (w.heap.size≤V.heap.size):=Lib.hid (Nat.le_trans HW.out HV.out.size)
   rw[hV,htb]
   clear hV htb c0 c1;have egm:=EG.out m;have d0:V.cell? ⟨tb,0,none⟩=some (.func (.func (F m)) #[] (C m)):=block_cell HVC.out 0
   go_wp2_with fail
   refine(HS.out m HLT.out V HVW.out HVI.out).mono ?_
   rintro e w1 ⟨b,rfl,hy,hn,hk⟩
   have HK:=Lib.hid ((hk.2 tb HTB.out (lt_of_block HVC.out)).trans HVC.out);have HK1:Hid (w.heap.size≤w1.heap.size):=Lib.hid (Nat.le_trans HVW.out hk.1);clear hk d0 egm
   cases b with
   | true=>
    have HI1:=Lib.hid (hy rfl);have HNN:=HN.out;clear hy hn
    go_wp2
    go_roundg (gk - 1)
    case rel=>exact⟨m+1,by have:=HLT.out;omega,by have:=HLT.out;go_num,HI1,HK1⟩
    case measure=>have:=HLT.out;omega
   | false=>
    have HQ1:=Lib.hid (hn rfl);clear hy hn;have d1:w1.cell? ⟨tb,1,none⟩=some (.int .i64 (E m)):=block_cell HK.out 1
    go_wp2
    go_ret
    exact⟨_,rfl,HQ1.out⟩
  ·obtain rfl:m=n:=by omega
   have b0:¬((m:Nat):Int)<(m:Nat):=by omega
   go_wp2
   go_ret
   exact⟨0,rfl,HQ.out _ HM.out⟩
set_option maxRecDepth 100000 in
set_option maxHeartbeats 1000000 in
theorem iproved_any(root:ByteArray)(i n:Int)(s:ByteArray)(P:List ByteArray)(pa:Option Addr)(pc:Nat)(w:World)(hp:Txts w pa P)(hl:len P≤1000000)(hc:len P≤pc)(hi:U64 i)(hn:0≤n∧n≤100)(hs:s.size≤1000000):
  Calls Tryz.prog 115 #[.string root,.int .u64 i,.int .u64 n,.string s,.slice pa (len P) pc] w λ e w'=>e=.returned (.bool (decide (checkE root n [i] [s] P=0)))∧Below w.heap.size w w':=by
 have HP:Hid (PrIn [i] [s] P (some ⟨w.heap.size,0,none⟩) (some ⟨w.heap.size+1,0,none⟩) pa pc ((w.alloc (.cells #[.int .u64 i] 23)).alloc (.cells #[.string s] 9))):=Lib.hid
  { p:=λ j hj=>⟨_,0,rfl,by
     have hj:j<1:=hj
     obtain rfl:j=0:=by omega
     rw[block_cell (block_alloc (heap_alloc_new _ _) _)];rfl⟩
    e:=one_txts1 (alloc_new_at _ (by simp))
    d:=hp.below (balloc (balloc (Below.refl _ _) _) _)
    pl:=by show 1≤12;decide
    pu:=λ k hk=>by obtain rfl:=List.mem_singleton.1 hk;exact hi
    el:=by show 1≤1000000;decide
    dl:=hl
    dc_:=hc
    ez:=λ j hj=>by
     have hj:j<1:=hj
     obtain rfl:j=0:=by omega
     exact hs }
 have HN:=Lib.hid hn;have kw:IntKind.i64.wrap n=n:=IntWalk.i64_in _ (by omega);clear hp hl hc hi hn hs
 go_enter Tryz.func115,Tryz.ntmps115
 go_wp2_with fail
 refine(pcheck_any root n [i] [s] P (some ⟨w.heap.size,0,none⟩) (some ⟨w.heap.size+1,0,none⟩) pa 1 1 pc _ HP.out (by have:=HN.out;omega) (by have:=HN.out;omega)).mono ?_
 rintro e w1 ⟨rfl,hb⟩
 have HB:Hid (Below w.heap.size w w1):=Lib.hid (bnext (balloc (balloc (Below.refl _ _) _) _) hb);clear hb HP
 obtain⟨K,hK⟩:∃K,checkE root n [i] [s] P=K:=⟨_,rfl⟩
 have HKK:Hid (decide (checkE root n [i] [s] P=0)=(K == 0)):=Lib.hid (by rw[hK];rfl)
 rw[hK]
 clear hK
 go_wp2
 go_ret
 exact⟨by rw[HKK.out];rfl,HB.out⟩
structure TiB(root:ByteArray)(i n:Int)(s:ByteArray)(pa:Option Addr)(pl pc b0 b2 b3 bi bn:Nat)(w:World):Prop where
 r_:w.heap[b0]?=some (.cells #[.string root] 9 (0,0))
 s_:w.heap[b2]?=some (.cells #[.string s] 9 (0,0))
 p_:w.heap[b3]?=some (.cells #[.slice pa pl pc] 36 (0,0))
 i_:w.heap[bi]?=some (.cells #[.int .u64 i] 23 (0,0))
 n_:w.heap[bn]?=some (.cells #[.int .u64 n] 23 (0,0))
theorem TiB.below{root:ByteArray}{i n:Int}{s:ByteArray}{pa:Option Addr}{pl pc b0 b2 b3 bi bn:Nat}{w w':World}(h:TiB root i n s pa pl pc b0 b2 b3 bi bn w)(hb:Below w.heap.size w w'):TiB root i n s pa pl pc b0 b2 b3 bi bn w':=
 ⟨(hb.block _ (lt_of_block h.r_)).trans h.r_,(hb.block _ (lt_of_block h.s_)).trans h.s_,(hb.block _ (lt_of_block h.p_)).trans h.p_,(hb.block _ (lt_of_block h.i_)).trans h.i_,(hb.block _ (lt_of_block h.n_)).trans h.n_⟩
set_option maxRecDepth 100000 in
set_option maxHeartbeats 4000000 in
theorem tis1_any(root:ByteArray)(i n:Int)(s:ByteArray)(pa:Option Addr)(pl pc b0 b2 b3 bi bn:Nat)(w:World)(h:TiB root i n s pa pl pc b0 b2 b3 bi bn w)(hs:s.size≤9223372036854775807):
  Calls Tryz.prog 122 #[.pointer (some ⟨b0,0,none⟩),.pointer (some ⟨bn,0,none⟩),.pointer (some ⟨bi,0,none⟩),.pointer (some ⟨b2,0,none⟩)] w λ e w'=>e=.returned (.bool (tiA root i n s))∧Below w.heap.size w w':=by
 have c0:w.cell? ⟨b0,0,none⟩=some (.string root):=block_cell h.r_ 0;have c1:w.cell? ⟨bn,0,none⟩=some (.int .u64 n):=block_cell h.n_ 0;have c2:w.cell? ⟨bi,0,none⟩=some (.int .u64 i):=block_cell h.i_ 0;have c3:w.cell? ⟨b2,0,none⟩=some (.string s):=block_cell h.s_ 0;have HS:=Lib.hid hs;clear h hs
 by_cases h1:root.size=32
 ·have e1:((root.size:Nat):Int)=32:=by omega
  by_cases h2:1≤n
  ·by_cases h3:n≤64
   ·by_cases h4:i<n
    ·have HE:Hid (tiA root i n s=bodyB s):=Lib.hid (by unfold tiA bodyB;rw[decide_eq_true h1,decide_eq_true h2,decide_eq_true h3,decide_eq_true h4];simp)
     clear h1
     go_enter Tryz.func122,Tryz.ntmps122
     go_wp2_with fail
     refine(ibody_any s _ HS.out).mono ?_
     rintro e w1 ⟨rfl,hb⟩
     go_wp2
     go_ret
     exact⟨by rw[HE.out];rfl,hb⟩
    ·have HE:Hid (tiA root i n s=false):=Lib.hid (by unfold tiA;rw[decide_eq_false h4];simp)
     clear h1
     go_enter Tryz.func122,Tryz.ntmps122
     go_wp2
     go_ret
     exact⟨by rw[HE.out];rfl,Below.refl _ _⟩
   ·have HE:Hid (tiA root i n s=false):=Lib.hid (by unfold tiA;rw[decide_eq_false h3];simp)
    clear h1
    go_enter Tryz.func122,Tryz.ntmps122
    go_wp2
    go_ret
    exact⟨by rw[HE.out];rfl,Below.refl _ _⟩
  ·have HE:Hid (tiA root i n s=false):=Lib.hid (by unfold tiA;rw[decide_eq_false h2];simp)
   clear h1
   go_enter Tryz.func122,Tryz.ntmps122
   go_wp2
   go_ret
   exact⟨by rw[HE.out];rfl,Below.refl _ _⟩
 ·have e1:¬((root.size:Nat):Int)=32:=by omega
  have HE:Hid (tiA root i n s=false):=Lib.hid (by unfold tiA;rw[decide_eq_false h1];rfl);clear h1
  go_enter Tryz.func122,Tryz.ntmps122
  go_wp2
  go_ret
  exact⟨by rw[HE.out];rfl,Below.refl _ _⟩
set_option maxRecDepth 100000 in
theorem tis2_any(root:ByteArray)(i n:Int)(s:ByteArray)(P:List ByteArray)(pa:Option Addr)(pc b0 b2 b3 bi bn:Nat)(w:World)(h:TiB root i n s pa (len P) pc b0 b2 b3 bi bn w)(hp:Txts w pa P)(hl:len P≤1000000)(hc:len P≤pc)(hi:U64 i)(hn:0≤n∧n≤100)(hs:s.size≤1000000):
  Calls Tryz.prog 123 #[.pointer (some ⟨b0,0,none⟩),.pointer (some ⟨bi,0,none⟩),.pointer (some ⟨bn,0,none⟩),.pointer (some ⟨b2,0,none⟩),.pointer (some ⟨b3,0,none⟩)] w λ e w'=>e=.returned (.bool (decide (checkE root n [i] [s] P=0)))∧Below w.heap.size w w':=by
 have c0:w.cell? ⟨b0,0,none⟩=some (.string root):=block_cell h.r_ 0;have c1:w.cell? ⟨bn,0,none⟩=some (.int .u64 n):=block_cell h.n_ 0;have c2:w.cell? ⟨bi,0,none⟩=some (.int .u64 i):=block_cell h.i_ 0;have c3:w.cell? ⟨b2,0,none⟩=some (.string s):=block_cell h.s_ 0;have c4:w.cell? ⟨b3,0,none⟩=some (.slice pa (len P) pc):=block_cell h.p_ 0;have HR:=Lib.hid (iproved_any root i n s P pa pc w hp hl hc hi hn hs);clear h hp hl hc hi hn hs
 go_enter Tryz.func123,Tryz.ntmps123
 go_wp2_with fail
 refine HR.out.mono ?_
 rintro e w1 ⟨rfl,hb⟩
 have HB:=Lib.hid hb
 obtain⟨K,hK⟩:∃K,decide (checkE root n [i] [s] P=0)=K:=⟨_,rfl⟩
 have HKK:=Lib.hid hK
 rw[hK]
 clear hK hb HR
 go_wp2
 go_ret
 exact⟨by rw[HKK.out];rfl,HB.out⟩
end Go.Proofs.YtpobhbdomldecaaGreatDoor
namespace Go.Proofs.YtpobhbdomldecaaGreatDoor
open Go.RowKit
set_option linter.unusedSimpArgs false
set_option linter.unusedVariables false
def tisF(k:Nat):FuncId:=match k with | 0=>122 | _=>123
def tisC(b0 b2 b3 bi bn k:Nat):Array Value:=match k with | 0=>#[.pointer (some ⟨b0,0,none⟩),.pointer (some ⟨bn,0,none⟩),.pointer (some ⟨bi,0,none⟩),.pointer (some ⟨b2,0,none⟩)] | _=>#[.pointer (some ⟨b0,0,none⟩),.pointer (some ⟨bi,0,none⟩),.pointer (some ⟨bn,0,none⟩),.pointer (some ⟨b2,0,none⟩),.pointer (some ⟨b3,0,none⟩)]
def tisE(k:Nat):Int:=match k with | 0=>2 | _=>20
set_option maxRecDepth 100000 in
theorem tis_rules(root:ByteArray)(i n:Int)(s:ByteArray)(P:List ByteArray)(pa:Option Addr)(pc b0 b2 b3 bi bn rb:Nat)(w:World)(h:TiB root i n s pa (len P) pc b0 b2 b3 bi bn w)(hp:Txts w pa P)(hl:len P≤1000000)(hc:len P≤pc)(hi:U64 i)(hs:s.size≤1000000)
  (hr:w.heap[rb]?=some (.cells #[.func (.func 122) #[] (tisC b0 b2 b3 bi bn 0),.int .i64 2,.func (.func 123) #[] (tisC b0 b2 b3 bi bn 1),.int .i64 20] 140 (0,0))):
  Calls Tryz.prog 109 #[.slice (some ⟨rb,0,none⟩) 2 2] w λ e w'=>e=.returned (.int .i64 (tiE root i n s P))∧Below w.heap.size w w':=by
 refine(ifirst_any 2 rb tisF (tisC b0 b2 b3 bi bn) tisE (λ k w1=>Below w.heap.size w w1∧(1≤k→tiA root i n s=true)∧(2≤k→checkE root n [i] [s] P=0)) (λ x w1=>x=tiE root i n s P∧Below w.heap.size w w1) w (by decide) (λ k args w=>?_) (λ k w1 w2 h hb=>⟨bnext h.1 hb,h.2⟩) (λ k hk w1 hI=>?_) ⟨Below.refl _ _,λ h=>absurd h (by decide),λ h=>absurd h (by decide)⟩ (λ k hk w1 hw hI=>?_) (λ w1 hI=>?_)).mono ?_
 ·unfold tisF;split <;> simp[go_sem]
 ·have hr1:=(hI.1.block _ (lt_of_block hr)).trans hr
  match k,hk with
  | 0,_=>exact⟨block_cell hr1 0,block_cell hr1 1⟩
  | 1,_=>exact⟨block_cell hr1 2,block_cell hr1 3⟩
 ·match k,hk with
  | 0,_=>
   refine(tis1_any root i n s pa (len P) pc b0 b2 b3 bi bn w1 (h.below hI.1) (Nat.le_trans hs (by decide))).mono ?_
   rintro e w2 ⟨rfl,hb⟩
   refine⟨_,rfl,λ ht=>⟨bnext hI.1 hb,λ _=>ht,λ h=>absurd h (by decide)⟩,λ hf=>⟨?_,bnext hI.1 hb⟩,Keeps.of hb⟩
   unfold tiE;rw[hf];rfl
  | 1,_=>
   have hA:=hI.2.1 (by decide);have hn:0≤n∧n≤100:=by
    have:=hA
    unfold tiA at this
    simp only[Bool.and_eq_true,decide_eq_true_eq]at this
    omega
   refine(tis2_any root i n s P pa pc b0 b2 b3 bi bn w1 (h.below hI.1) (hp.below hI.1) hl hc hi hn hs).mono ?_
   rintro e w2 ⟨rfl,hb⟩
   refine⟨_,rfl,λ ht=>⟨bnext hI.1 hb,λ _=>hA,λ _=>of_decide_eq_true ht⟩,λ hf=>⟨?_,bnext hI.1 hb⟩,Keeps.of hb⟩
   unfold tiE;rw[if_pos hA,if_neg (of_decide_eq_false hf)];rfl
 ·refine⟨?_,hI.1⟩
  unfold tiE;rw[if_pos (hI.2.1 (by decide)),if_pos (hI.2.2 (by decide))]
 ·rintro e w' ⟨x,rfl,rfl,hb⟩
  exact⟨rfl,hb⟩
set_option maxRecDepth 100000 in
set_option maxHeartbeats 2000000 in
theorem itis_any(root:ByteArray)(i n:Int)(s:ByteArray)(P:List ByteArray)(pa:Option Addr)(pc:Nat)(w:World)(hp:Txts w pa P)(hl:len P≤1000000)(hc:len P≤pc)(hi:U64 i)(hn:U64 n)(hs:s.size≤1000000):
  Calls Tryz.prog 62 #[.string root,.agg #[.int .u64 i,.int .u64 n],.string s,.slice pa (len P) pc] w λ e w'=>e=.returned (.int .i64 (tiE root i n s P))∧Below w.heap.size w w':=by
 have HP:=Lib.hid hp;have HL:=Lib.hid hl;have HC:=Lib.hid hc;have HI:=Lib.hid hi;have HN:=Lib.hid hn;have HS:=Lib.hid hs;clear hp hl hc hi hn hs
 go_enter Tryz.func62,Tryz.ntmps62
 go_upto_region 1 with fail
 obtain⟨V,hV⟩:∃V,(((w.alloc (.cells #[.string root] 9)).alloc (.cells #[.int .u64 i,.int .u64 n] 76)).alloc (.cells #[.string s] 9)).alloc (.cells #[.slice pa (len P) pc] 36)=V:=⟨_,rfl⟩
 have HBV:Hid (Below w.heap.size w V):=Lib.hid (by rw[←hV];(repeat (first | exact Below.refl _ _ | assumption | (refine bdrew ?_) | (refine bdrewN ?_ _) | (refine balloc ?_ _) | (refine bset ?_ (by first | omega | (simp;done) | (simp;omega)) _) | (refine bnext ?_ (by assumption)))))
 have V0:Hid (V.heap[w.heap.size]?=some (.cells #[.string root] 9 (0,0))):=Lib.hid (by rw[←hV];(repeat (first | exact alloc_new_at _ (by repeat (first | rfl | refine alloc_size _ ?_)) | refine block_alloc ?_ _)))
 have V1:Hid (V.heap[w.heap.size+1]?=some (.cells #[.int .u64 i,.int .u64 n] 76 (0,0))):=Lib.hid (by rw[←hV];(repeat (first | exact alloc_new_at _ (by repeat (first | rfl | refine alloc_size _ ?_)) | refine block_alloc ?_ _)))
 have V2:Hid (V.heap[w.heap.size+1+1]?=some (.cells #[.string s] 9 (0,0))):=Lib.hid (by rw[←hV];(repeat (first | exact alloc_new_at _ (by repeat (first | rfl | refine alloc_size _ ?_)) | refine block_alloc ?_ _)))
 have V3:Hid (V.heap[w.heap.size+1+1+1]?=some (.cells #[.slice pa (len P) pc] 36 (0,0))):=Lib.hid (by rw[←hV];(repeat (first | exact alloc_new_at _ (by repeat (first | rfl | refine alloc_size _ ?_)) | refine block_alloc ?_ _)))
 have HSZ:Hid (V.heap.size=w.heap.size+4):=Lib.hid (by rw[←hV];simp)
 rw[hV]
 obtain⟨b,hb⟩:∃b,w.heap.size=b:=⟨_,rfl⟩
 rw[hb]at V0 V1 V2 V3 HSZ ⊢
 clear hV hb
 obtain⟨b1,hb1⟩:∃b1,b+1=b1:=⟨_,rfl⟩
 have z0:b1<V.heap.size:=by have:=HSZ.out;omega
 have z1:b1≠V.heap.size:=by have:=HSZ.out;omega
 have z2:b1≠V.heap.size+1:=by have:=HSZ.out;omega
 rw[hb1]at V1 V2 V3 ⊢
 clear hb1;have y0:V.cell? ⟨b1,0,none⟩=some (.int .u64 i):=block_cell V1.out 0;have y1:V.cell? ⟨b1,1,none⟩=some (.int .u64 n):=block_cell V1.out 1
 go_cut [9,10] (λ s9 s10 wx=>∃bi bn:Nat,s9=.pointer (some ⟨bi,0,none⟩)∧s10=.pointer (some ⟨bn,0,none⟩)∧Hid (wx.heap[bi]?=some (.cells #[.int .u64 i] 23 (0,0)))∧Hid (wx.heap[bn]?=some (.cells #[.int .u64 n] 23 (0,0)))∧Hid (Below V.heap.size V wx))
 case first=>
  go_region
  all_goals
   go_wp2_with fail
   go_meet
   first
    | exact⟨_,_,rfl,rfl,Lib.hid (block_alloc (heap_alloc_new _ _) _),Lib.hid (alloc_new_at _ (by simp)),Lib.hid (bdrew (balloc (balloc (Below.refl _ _) _) _))⟩
    | exact⟨_,_,rfl,rfl,Lib.hid (alloc_new_at _ (by simp)),Lib.hid (block_alloc (heap_alloc_new _ _) _),Lib.hid (bdrew (balloc (balloc (Below.refl _ _) _) _))⟩
 case rest=>
  obtain⟨bi,bn,rfl,rfl,HX,HY,HCB⟩:=hcut
  have K0:=Lib.hid ((HCB.out.block _ (lt_of_block V0.out)).trans V0.out);have K2:=Lib.hid ((HCB.out.block _ (lt_of_block V2.out)).trans V2.out);have K3:=Lib.hid ((HCB.out.block _ (lt_of_block V3.out)).trans V3.out);have HWB:Hid (Below w.heap.size w wc):=Lib.hid (bnext HBV.out HCB.out);have HTB:Hid (TiB root i n s pa (len P) pc b (b1+1) (b1+1+1) bi bn wc):=Lib.hid ⟨K0.out,K2.out,K3.out,HX.out,HY.out⟩;clear y0 y1 z0 z1 z2
  go_wp2_with fail
  refine(tis_rules root i n s P pa pc b (b1+1) (b1+1+1) bi bn _ _ (HTB.out.below (balloc (Below.refl _ _) _)) ((HP.out.below HWB.out).below (balloc (Below.refl _ _) _)) HL.out HC.out HI.out HS.out (heap_alloc_new _ _)).mono ?_
  rintro e w2 ⟨rfl,hb⟩
  have HB2:Hid (Below w.heap.size w w2):=Lib.hid (bnext HWB.out (bnext (balloc (Below.refl _ _) _) hb));clear hb
  go_wp2
  go_ret
  exact⟨rfl,HB2.out⟩
end Go.Proofs.YtpobhbdomldecaaGreatDoor
namespace Go.Proofs.YtpobhbdomldecaaGreatDoor
open Go.RowKit
set_option linter.unusedSimpArgs false
set_option linter.unusedVariables false
structure IsB(root:ByteArray)(f t:Int)(s:ByteArray)(pa:Option Addr)(pl pc b0 b2 b3 bf bt bh:Nat)(x:Rcd)(w:World):Prop where
 r_:w.heap[b0]?=some (.cells #[.string root] 9 (0,0))
 s_:w.heap[b2]?=some (.cells #[.string s] 9 (0,0))
 p_:w.heap[b3]?=some (.cells #[.slice pa pl pc] 36 (0,0))
 f_:w.heap[bf]?=some (.cells #[.int .u64 f] 23 (0,0))
 t_:w.heap[bt]?=some (.cells #[.int .u64 t] 23 (0,0))
 h_:w.heap[bh]?=some (.cells #[.int .u64 (x 0).n,.string (x 1).s,.string (x 2).s,.string (x 3).s] 33 (0,0))
theorem IsB.below{root:ByteArray}{f t:Int}{s:ByteArray}{pa:Option Addr}{pl pc b0 b2 b3 bf bt bh:Nat}{x:Rcd}{w w':World}(h:IsB root f t s pa pl pc b0 b2 b3 bf bt bh x w)(hb:Below w.heap.size w w'):IsB root f t s pa pl pc b0 b2 b3 bf bt bh x w':=
 ⟨(hb.block _ (lt_of_block h.r_)).trans h.r_,(hb.block _ (lt_of_block h.s_)).trans h.s_,(hb.block _ (lt_of_block h.p_)).trans h.p_,(hb.block _ (lt_of_block h.f_)).trans h.f_,(hb.block _ (lt_of_block h.t_)).trans h.t_,(hb.block _ (lt_of_block h.h_)).trans h.h_⟩
set_option maxRecDepth 100000 in
set_option maxHeartbeats 2000000 in
theorem his1_any(root:ByteArray)(f t:Int)(s:ByteArray)(pa:Option Addr)(pl pc b0 b2 b3 bf bt bh:Nat)(x:Rcd)(w:World)(h:IsB root f t s pa pl pc b0 b2 b3 bf bt bh x w)(hf:U64 f)(ht:U64 t):
  Calls Tryz.prog 110 #[.pointer (some ⟨b0,0,none⟩),.pointer (some ⟨bt,0,none⟩),.pointer (some ⟨bf,0,none⟩)] w λ e w'=>e=.returned (.bool (isA root f t))∧Below w.heap.size w w':=by
 have c0:w.cell? ⟨b0,0,none⟩=some (.string root):=block_cell h.r_ 0;have c1:w.cell? ⟨bt,0,none⟩=some (.int .u64 t):=block_cell h.t_ 0;have c2:w.cell? ⟨bf,0,none⟩=some (.int .u64 f):=block_cell h.f_ 0;clear h
 by_cases h1:root.size=32
 ·have e1:((root.size:Nat):Int)=32:=by omega
  by_cases h2:f≤t
  ·have sb:IntKind.u64.wrap (t - f)=t - f:=by have:=hf.1;have:=ht.2;exact IntWalk.u64_in _ (by omega)
   by_cases h3:t - f<64
   ·have HE:Hid (isA root f t=true):=Lib.hid (by unfold isA;rw[decide_eq_true h1,decide_eq_true h2,decide_eq_true h3];rfl)
    clear h1 hf ht
    go_enter Tryz.func110,Tryz.ntmps110
    go_wp2
    go_ret
    exact⟨by rw[HE.out];rfl,Below.refl _ _⟩
   ·have HE:Hid (isA root f t=false):=Lib.hid (by unfold isA;rw[decide_eq_false h3];simp)
    clear h1 hf ht
    go_enter Tryz.func110,Tryz.ntmps110
    go_wp2
    go_ret
    exact⟨by rw[HE.out];rfl,Below.refl _ _⟩
  ·have HE:Hid (isA root f t=false):=Lib.hid (by unfold isA;rw[decide_eq_false h2];simp)
   clear h1 hf ht
   go_enter Tryz.func110,Tryz.ntmps110
   go_wp2
   go_ret
   exact⟨by rw[HE.out];rfl,Below.refl _ _⟩
 ·have e1:¬((root.size:Nat):Int)=32:=by omega
  have HE:Hid (isA root f t=false):=Lib.hid (by unfold isA;rw[decide_eq_false h1];rfl);clear h1 hf ht
  go_enter Tryz.func110,Tryz.ntmps110
  go_wp2
  go_ret
  exact⟨by rw[HE.out];rfl,Below.refl _ _⟩
set_option maxRecDepth 100000 in
theorem his3_any(root:ByteArray)(f t:Int)(s:ByteArray)(pa:Option Addr)(pl pc b0 b2 b3 bf bt bh:Nat)(x:Rcd)(w:World)(h:IsB root f t s pa pl pc b0 b2 b3 bf bt bh x w):
  Calls Tryz.prog 113 #[.pointer (some ⟨bh,0,none⟩),.pointer (some ⟨bf,0,none⟩),.pointer (some ⟨bt,0,none⟩)] w λ e w'=>e=.returned (.bool (decide (f≤(x 0).n) && decide ((x 0).n≤t)))∧Below w.heap.size w w':=by
 have c0:w.cell? ⟨bh,0,none⟩=some (.int .u64 (x 0).n):=block_cell h.h_ 0;have c1:w.cell? ⟨bt,0,none⟩=some (.int .u64 t):=block_cell h.t_ 0;have c2:w.cell? ⟨bf,0,none⟩=some (.int .u64 f):=block_cell h.f_ 0;clear h
 generalize (x 0).n=r at c0
 by_cases h1:f≤r
 ·by_cases h2:r≤t
  ·have HE:Hid ((decide (f≤r) && decide (r≤t))=true):=Lib.hid (by rw[decide_eq_true h1,decide_eq_true h2];rfl)
   go_enter Tryz.func113,Tryz.ntmps113
   go_wp2
   go_ret
   exact⟨by rw[HE.out];rfl,Below.refl _ _⟩
  ·have HE:Hid (decide (r≤t)=false):=Lib.hid (decide_eq_false h2)
   rw[decide_eq_true h1]
   go_enter Tryz.func113,Tryz.ntmps113
   go_wp2
   go_ret
   exact⟨by simp[HE.out],Below.refl _ _⟩
 ·rw[decide_eq_false h1]
  go_enter Tryz.func113,Tryz.ntmps113
  go_wp2
  go_ret
  exact⟨by simp,Below.refl _ _⟩
set_option maxRecDepth 100000 in
theorem his4_any(root:ByteArray)(f t:Int)(s:ByteArray)(P:List ByteArray)(pa:Option Addr)(pc b0 b2 b3 bf bt bh:Nat)(x:Rcd)(w:World)(h:IsB root f t s pa (len P) pc b0 b2 b3 bf bt bh x w)(hp:Txts w pa P)(hl:len P≤1000000)(hc:len P≤pc)(hf:U64 f)(ht:U64 t)(hft:f≤t∧t - f<64)(hr:f≤(x 0).n∧(x 0).n≤t)(hs:s.size≤1000000):
  Calls Tryz.prog 114 #[.pointer (some ⟨b0,0,none⟩),.pointer (some ⟨bh,0,none⟩),.pointer (some ⟨bf,0,none⟩),.pointer (some ⟨bt,0,none⟩),.pointer (some ⟨b2,0,none⟩),.pointer (some ⟨b3,0,none⟩)] w λ e w'=>e=.returned (.bool (decide (checkE root (t - f+1) [(x 0).n - f] [s] P=0)))∧Below w.heap.size w w':=by
 have c0:w.cell? ⟨b0,0,none⟩=some (.string root):=block_cell h.r_ 0;have c1:w.cell? ⟨bh,0,none⟩=some (.int .u64 (x 0).n):=block_cell h.h_ 0;have c2:w.cell? ⟨bf,0,none⟩=some (.int .u64 f):=block_cell h.f_ 0;have c3:w.cell? ⟨bt,0,none⟩=some (.int .u64 t):=block_cell h.t_ 0;have c4:w.cell? ⟨b2,0,none⟩=some (.string s):=block_cell h.s_ 0;have c5:w.cell? ⟨b3,0,none⟩=some (.slice pa (len P) pc):=block_cell h.p_ 0;have HR:=Lib.hid (iproved_any root ((x 0).n - f) (t - f+1) s P pa pc w hp hl hc ⟨by omega,by omega⟩ ⟨by omega,by omega⟩ hs);have s1:IntKind.u64.wrap ((x 0).n - f)=(x 0).n - f:=by have:=hf.1;have:=ht.2;exact IntWalk.u64_in _ (by omega)
 have s2:IntKind.u64.wrap (t - f)=t - f:=by have:=hf.1;have:=ht.2;exact IntWalk.u64_in _ (by omega)
 have s3:IntKind.u64.wrap (t - f+1)=t - f+1:=IntWalk.u64_in _ (by omega);clear h hp hl hc hf ht hft hr hs
 go_enter Tryz.func114,Tryz.ntmps114
 go_wp2_with fail
 refine HR.out.mono ?_
 rintro e w1 ⟨rfl,hb⟩
 have HB:=Lib.hid hb
 obtain⟨K,hK⟩:∃K,decide (checkE root (t - f+1) [(x 0).n - f] [s] P=0)=K:=⟨_,rfl⟩
 have HKK:=Lib.hid hK
 rw[hK]
 clear hK hb HR
 go_wp2
 go_ret
 exact⟨by rw[HKK.out];rfl,HB.out⟩
abbrev setH(w:World)(g:Nat)(y:Rcd):World:=
 (((w.setCell ⟨g,0,none⟩ (.int .u64 (y 0).n)).setCell ⟨g,1,none⟩ (.string (y 1).s)).setCell ⟨g,2,none⟩ (.string (y 2).s)).setCell ⟨g,3,none⟩ (.string (y 3).s)
theorem setH_ext(w:World)(g:Nat)(y:Rcd):ExtB (some g) w (setH w g y):=
 ExtB_trans _ _ _ _ (ExtB_trans _ _ _ _ (ExtB_trans _ _ _ _ (setB w g 0 _) (setB _ g 1 _)) (setB _ g 2 _)) (setB _ g 3 _)
theorem IsB.put{root:ByteArray}{f t:Int}{s:ByteArray}{pa:Option Addr}{pl pc b0 b2 b3 bf bt bh:Nat}{x:Rcd}{w:World}(h:IsB root f t s pa pl pc b0 b2 b3 bf bt bh x w)
  (n:b0≠bh∧b2≠bh∧b3≠bh∧bf≠bh∧bt≠bh) (y:Rcd):IsB root f t s pa pl pc b0 b2 b3 bf bt bh y (setH w bh y):=by
 have k:∀{b:Nat} {o:Obj},b≠bh→w.heap[b]?=some o→(setH w bh y).heap[b]?=some o:=λ hb hc=>extB_block (setH_ext w bh y) (λ e=>hb (Option.some.inj e)) hc
 exact⟨k n.1 h.r_,k n.2.1 h.s_,k n.2.2.1 h.p_,k n.2.2.2.1 h.f_,k n.2.2.2.2 h.t_,block_setCell (block_setCell (block_setCell (block_setCell h.h_ _) _) _) _⟩
def His2(B:Nat)(root:ByteArray)(f t:Int)(s:ByteArray)(pa:Option Addr)(pl pc b0 b2 b3 bf bt bh:Nat)(w:World)(e:Ending)(w':World):Prop:=
 e=.returned (.bool (isOkR (readR s (headerGs s) header0)))∧IsB root f t s pa pl pc b0 b2 b3 bf bt bh (recV (readR s (headerGs s) header0) header0) w'∧ExtB (some bh) w w'
set_option maxRecDepth 100000 in
set_option maxHeartbeats 2000000 in
theorem his2_any(B:Nat)(root:ByteArray)(f t:Int)(s:ByteArray)(pa:Option Addr)(pl pc b0 b2 b3 bf bt bh:Nat)(x:Rcd)(w:World)(hT:TE7 B w)(h:IsB root f t s pa pl pc b0 b2 b3 bf bt bh x w)(hs:s.size≤1000000)
  (n0:b0≠bh) (n2:b2≠bh) (n3:b3≠bh) (nf:bf≠bh) (nt:bt≠bh):
  Calls Tryz.prog 111 #[.pointer (some ⟨b2,0,none⟩),.pointer (some ⟨bh,0,none⟩)] w (His2 B root f t s pa pl pc b0 b2 b3 bf bt bh w):=by
 have c0:w.cell? ⟨b2,0,none⟩=some (.string s):=block_cell h.s_ 0;have HR:=Lib.hid (rqHeader_any B s w hT (Nat.le_trans hs (by decide)));have H:=Lib.hid h;have HNE:=Lib.hid (And.intro n0 (And.intro n2 (And.intro n3 (And.intro nf nt))));clear h hT hs n0 n2 n3 nf nt
 unfold His2
 obtain⟨r,hr⟩:∃r,readR s (headerGs s) header0=r:=⟨_,rfl⟩
 rw[hr]at HR ⊢
 clear hr
 go_enter Tryz.func111,Tryz.ntmps111
 go_wp2_with fail
 refine HR.out.mono ?_
 rintro e w1 ⟨ev,rfl,hev,hb⟩
 have HB:=Lib.hid hb;have H1:=Lib.hid (H.out.below hb);clear hb HR c0;have d:∀o,w1.cell? ⟨bh,o,none⟩=_:=block_cell H1.out.h_;have fz:∀o,w1.frozen? ⟨bh,o,none⟩=false:=block_free H1.out.h_;have hlt:bh<w1.heap.size:=lt_of_block H1.out.h_
 cases r with
 | ok y=>
  obtain rfl:ev=.nilIface:=hev
  rw[show cellsHeader (recV (.ok y) header0)=#[.int .u64 (y 0).n,.string (y 1).s,.string (y 2).s,.string (y 3).s]from rfl]
  have d0:w1.cell? ⟨bh,0,none⟩=some (.int .u64 (x 0).n):=d 0;have d1:w1.cell? ⟨bh,1,none⟩=some (.string (x 1).s):=d 1;have d2:w1.cell? ⟨bh,2,none⟩=some (.string (x 2).s):=d 2;have d3:w1.cell? ⟨bh,3,none⟩=some (.string (x 3).s):=d 3;clear d
  go_upto_region 3 with fail
  obtain⟨V,hV⟩:∃V,setH w1 bh y=V:=⟨_,rfl⟩
  have HV1:Hid (IsB root f t s pa pl pc b0 b2 b3 bf bt bh y V):=Lib.hid (by rw[←hV];exact H1.out.put HNE.out _);have HV2:Hid (ExtB (some bh) w V):=Lib.hid (by rw[←hV];exact ExtB_trans _ _ _ _ (below_extB HB.out bh) (setH_ext _ _ _))
  change Code.wp _ _ _ _ (setH w1 bh y)
  rw[hV]
  clear hV d0 d1 d2 d3 fz hlt
  go_wp2
  go_ret
  exact⟨rfl,HV1.out,HV2.out⟩
 | error k=>
  obtain⟨fb,rfl⟩:=hev
  rw[show cellsHeader (recV (.error k) header0)=#[.int .u64 0,.string ⟨#[]⟩,.string ⟨#[]⟩,.string ⟨#[]⟩]from rfl]
  have d0:w1.cell? ⟨bh,0,none⟩=some (.int .u64 (x 0).n):=d 0;have d1:w1.cell? ⟨bh,1,none⟩=some (.string (x 1).s):=d 1;have d2:w1.cell? ⟨bh,2,none⟩=some (.string (x 2).s):=d 2;have d3:w1.cell? ⟨bh,3,none⟩=some (.string (x 3).s):=d 3;clear d
  go_upto_region 3 with fail
  obtain⟨V,hV⟩:∃V,setH w1 bh header0=V:=⟨_,rfl⟩
  have HV1:Hid (IsB root f t s pa pl pc b0 b2 b3 bf bt bh header0 V):=Lib.hid (by rw[←hV];exact H1.out.put HNE.out _);have HV2:Hid (ExtB (some bh) w V):=Lib.hid (by rw[←hV];exact ExtB_trans _ _ _ _ (below_extB HB.out bh) (setH_ext _ _ _))
  change Code.wp _ _ _ _ (setH w1 bh header0)
  rw[hV]
  clear hV d0 d1 d2 d3 fz hlt
  go_wp2
  go_ret
  exact⟨rfl,HV1.out,HV2.out⟩
end Go.Proofs.YtpobhbdomldecaaGreatDoor
namespace Go.Proofs.YtpobhbdomldecaaGreatDoor
open Go.RowKit
set_option linter.unusedSimpArgs false
set_option linter.unusedVariables false
theorem isE_arg{root:ByteArray}{f t:Int}{s:ByteArray}{p:List ByteArray}(h:isA root f t=false):isE root f t s p=2:=by unfold isE;rw[h];rfl
theorem isE_form{root:ByteArray}{f t:Int}{s:ByteArray}{p:List ByteArray}(h:isA root f t=true){k:Flt}(hr:readR s (headerGs s) header0=.error k):isE root f t s p=5:=by unfold isE;rw[h,hr];rfl
theorem isE_none{root:ByteArray}{f t:Int}{s:ByteArray}{p:List ByteArray}(h:isA root f t=true){y:Rcd}(hr:readR s (headerGs s) header0=.ok y)(hn:¬(f≤(y 0).n∧(y 0).n≤t)):isE root f t s p=19:=by
 unfold isE;rw[h,hr,if_pos rfl];exact if_neg hn
theorem isE_proof{root:ByteArray}{f t:Int}{s:ByteArray}{p:List ByteArray}(h:isA root f t=true){y:Rcd}(hr:readR s (headerGs s) header0=.ok y)(hn:f≤(y 0).n∧(y 0).n≤t)(hc:¬checkE root (t - f+1) [(y 0).n - f] [s] p=0):isE root f t s p=20:=by
 unfold isE;rw[h,hr,if_pos rfl];exact(if_pos hn).trans (if_neg hc)
theorem isE_ok{root:ByteArray}{f t:Int}{s:ByteArray}{p:List ByteArray}(h:isA root f t=true){y:Rcd}(hr:readR s (headerGs s) header0=.ok y)(hn:f≤(y 0).n∧(y 0).n≤t)(hc:checkE root (t - f+1) [(y 0).n - f] [s] p=0):isE root f t s p=0:=by
 unfold isE;rw[h,hr,if_pos rfl];exact(if_pos hn).trans (if_pos hc)
theorem isA_at{root:ByteArray}{f t:Int}(h:isA root f t=true):root.size=32∧f≤t∧t - f<64:=by
 unfold isA at h
 simp only[Bool.and_eq_true,decide_eq_true_eq]at h
 exact⟨h.1.1,h.1.2,h.2⟩
theorem txts_ext{w w1:World}{bh:Nat}{pa:Option Addr}{P:List ByteArray}(h:Txts w pa P)(hE:ExtB (some bh) w w1)(hn:∀b o,pa=some ⟨b,o,none⟩→0<len P→b≠bh):Txts w1 pa P:=λ i hi=>by
 obtain⟨b,o,e,hc⟩:=h i hi
 refine⟨b,o,e,?_⟩
 rw[World.cell?_of_block (w:=w) (hE.block b (lt_of_cell hc) (λ e9=>hn b o e (by omega) (Option.some.inj e9)))]
 exact hc
def hisF(k:Nat):FuncId:=match k with | 0=>110 | 1=>111 | 2=>113 | _=>114
def hisC(b0 b2 b3 bf bt bh k:Nat):Array Value:=match k with
 | 0=>#[.pointer (some ⟨b0,0,none⟩),.pointer (some ⟨bt,0,none⟩),.pointer (some ⟨bf,0,none⟩)]
 | 1=>#[.pointer (some ⟨b2,0,none⟩),.pointer (some ⟨bh,0,none⟩)]
 | 2=>#[.pointer (some ⟨bh,0,none⟩),.pointer (some ⟨bf,0,none⟩),.pointer (some ⟨bt,0,none⟩)]
 | _=>#[.pointer (some ⟨b0,0,none⟩),.pointer (some ⟨bh,0,none⟩),.pointer (some ⟨bf,0,none⟩),.pointer (some ⟨bt,0,none⟩),.pointer (some ⟨b2,0,none⟩),.pointer (some ⟨b3,0,none⟩)]
def hisN(k:Nat):Int:=match k with | 0=>2 | 1=>5 | 2=>19 | _=>20
def hisX(r:Except Flt Rcd)(k:Nat):Rcd:=match k with | 0=>header0 | 1=>header0 | _=>recV r header0
structure HisI(root:ByteArray)(f t:Int)(s:ByteArray)(P:List ByteArray)(pa:Option Addr)(pc b0 b2 b3 bf bt bh:Nat)(w:World)(k:Nat)(w1:World):Prop where
 e:ExtB (some bh) w w1
 b:IsB root f t s pa (len P) pc b0 b2 b3 bf bt bh (hisX (readR s (headerGs s) header0) k) w1
 l:k≤1→Below w.heap.size w w1
 a:1≤k→isA root f t=true
 r:2≤k→∃y,readR s (headerGs s) header0=.ok y
 n:3≤k→f≤(recV (readR s (headerGs s) header0) header0 0).n∧(recV (readR s (headerGs s) header0) header0 0).n≤t
 c:4≤k→checkE root (t - f+1) [(recV (readR s (headerGs s) header0) header0 0).n - f] [s] P=0
def HisQ(root:ByteArray)(f t:Int)(s:ByteArray)(P:List ByteArray)(bh:Nat)(w:World)(x:Int)(w1:World):Prop:=
 x=isE root f t s P∧ExtB (some bh) w w1∧∃y:Rcd,(x=0→y=recV (readR s (headerGs s) header0) header0)∧w1.heap[bh]?=some (.cells #[.int .u64 (y 0).n,.string (y 1).s,.string (y 2).s,.string (y 3).s] 33 (0,0))
set_option maxRecDepth 100000 in
set_option maxHeartbeats 1000000 in
theorem his_rules(B:Nat)(root:ByteArray)(f t:Int)(s:ByteArray)(P:List ByteArray)(pa:Option Addr)(pc b0 b2 b3 bf bt bh rb:Nat)(w:World)(hT:TE7 B w)(h:IsB root f t s pa (len P) pc b0 b2 b3 bf bt bh header0 w)(hp:Txts w pa P)(hl:len P≤1000000)(hc:len P≤pc)(hf:U64 f)(ht:U64 t)(hs:s.size≤1000000)
  (hn:b0≠bh∧b2≠bh∧b3≠bh∧bf≠bh∧bt≠bh) (hnp:∀b o,pa=some ⟨b,o,none⟩→0<len P→b≠bh) (hnr:rb≠bh)
  (hr:w.heap[rb]?=some (.cells #[.func (.func 110) #[] (hisC b0 b2 b3 bf bt bh 0),.int .i64 2,.func (.func 111) #[] (hisC b0 b2 b3 bf bt bh 1),.int .i64 5,.func (.func 113) #[] (hisC b0 b2 b3 bf bt bh 2),.int .i64 19,.func (.func 114) #[] (hisC b0 b2 b3 bf bt bh 3),.int .i64 20] 140 (0,0))):
  Calls Tryz.prog 109 #[.slice (some ⟨rb,0,none⟩) 4 4] w λ e w'=>∃x,e=.returned (.int .i64 x)∧HisQ root f t s P bh w x w':=by
 refine ifirst_any 4 rb hisF (hisC b0 b2 b3 bf bt bh) hisN (HisI root f t s P pa pc b0 b2 b3 bf bt bh w) (HisQ root f t s P bh w) w (by decide) (λ k args w=>?_) (λ k w1 w2 h hb=>⟨ExtB_trans _ _ _ _ h.e (below_extB hb bh),h.b.below hb,λ hk=>bnext (h.l hk) hb,h.a,h.r,h.n,h.c⟩) (λ k hk w1 hI=>?_) ⟨ExtB_refl _ _,h,λ _=>Below.refl _ _,λ h=>absurd h (by decide),λ h=>absurd h (by decide),λ h=>absurd h (by decide),λ h=>absurd h (by decide)⟩ (λ k hk w1 hw hI=>?_) (λ w1 hI=>?_)
 ·unfold hisF;split <;> simp[go_sem]
 ·have hr1:=extB_block hI.e (λ e=>hnr (Option.some.inj e)) hr
  match k,hk with
  | 0,_=>exact⟨block_cell hr1 0,block_cell hr1 1⟩
  | 1,_=>exact⟨block_cell hr1 2,block_cell hr1 3⟩
  | 2,_=>exact⟨block_cell hr1 4,block_cell hr1 5⟩
  | 3,_=>exact⟨block_cell hr1 6,block_cell hr1 7⟩
 ·match k,hk,hI with
  | 0,_,hI=>
   refine(his1_any root f t s pa (len P) pc b0 b2 b3 bf bt bh header0 w1 hI.b hf ht).mono ?_
   rintro e w2 ⟨rfl,hb⟩
   refine⟨_,rfl,λ h1=>⟨ExtB_trans _ _ _ _ hI.e (below_extB hb bh),hI.b.below hb,λ _=>bnext (hI.l (by decide)) hb,λ _=>h1,λ h=>absurd h (by decide),λ h=>absurd h (by decide),λ h=>absurd h (by decide)⟩,λ h1=>⟨(isE_arg h1).symm,ExtB_trans _ _ _ _ hI.e (below_extB hb bh),header0,λ h=>absurd h (by decide),(hI.b.below hb).h_⟩,Keeps.of hb⟩
  | 1,_,hI=>
   refine(his2_any B root f t s pa (len P) pc b0 b2 b3 bf bt bh header0 w1 (hT.below (hI.l (by decide))) hI.b hs hn.1 hn.2.1 hn.2.2.1 hn.2.2.2.1 hn.2.2.2.2).mono ?_
   rintro e w2 ⟨rfl,hb,hE⟩
   refine⟨_,rfl,λ h1=>⟨ExtB_trans _ _ _ _ hI.e hE,hb,λ h=>absurd h (by decide),λ _=>hI.a (by decide),λ _=>?_,λ h=>absurd h (by decide),λ h=>absurd h (by decide)⟩,λ h1=>⟨?_,ExtB_trans _ _ _ _ hI.e hE,_,λ h=>absurd h (by decide),hb.h_⟩,⟨hE.size,λ i h1 h2=>hE.block i h2 (λ e=>absurd (Option.some.inj e) (by have:=lt_of_block h.h_;omega))⟩⟩
   ·cases hrr:readR s (headerGs s) header0 with
    | ok y=>exact⟨y,rfl⟩
    | error k=>rw[hrr]at h1;cases h1
   ·cases hrr:readR s (headerGs s) header0 with
    | ok y=>rw[hrr]at h1;cases h1
    | error k=>exact(isE_form (hI.a (by decide)) hrr).symm
  | 2,_,hI=>
   obtain⟨y,hy⟩:=hI.r (by decide)
   refine(his3_any root f t s pa (len P) pc b0 b2 b3 bf bt bh _ w1 hI.b).mono ?_
   rintro e w2 ⟨rfl,hb⟩
   refine⟨_,rfl,λ h1=>⟨ExtB_trans _ _ _ _ hI.e (below_extB hb bh),hI.b.below hb,λ h=>absurd h (by decide),λ _=>hI.a (by decide),λ _=>⟨y,hy⟩,λ _=>?_,λ h=>absurd h (by decide)⟩,λ h1=>⟨?_,ExtB_trans _ _ _ _ hI.e (below_extB hb bh),_,λ h=>absurd h (by decide),(hI.b.below hb).h_⟩,Keeps.of hb⟩
   ·simp only[Bool.and_eq_true,decide_eq_true_eq]at h1
    exact h1
   ·refine(isE_none (hI.a (by decide)) hy (λ h9=>?_)).symm
    have h9':f≤(hisX (readR s (headerGs s) header0) 2 0).n∧(hisX (readR s (headerGs s) header0) 2 0).n≤t:=by rw[hy];exact h9
    rw[decide_eq_true h9'.1,decide_eq_true h9'.2]at h1
    cases h1
  | 3,_,hI=>
   obtain⟨y,hy⟩:=hI.r (by decide)
   have hA:=isA_at (hI.a (by decide))
   refine(his4_any root f t s P pa pc b0 b2 b3 bf bt bh _ w1 hI.b (txts_ext hp hI.e hnp) hl hc hf ht hA.2 (hI.n (by decide)) hs).mono ?_
   rintro e w2 ⟨rfl,hb⟩
   refine⟨_,rfl,λ h1=>⟨ExtB_trans _ _ _ _ hI.e (below_extB hb bh),hI.b.below hb,λ h=>absurd h (by decide),λ _=>hI.a (by decide),λ _=>⟨y,hy⟩,λ _=>hI.n (by decide),λ _=>of_decide_eq_true h1⟩,λ h1=>⟨?_,ExtB_trans _ _ _ _ hI.e (below_extB hb bh),_,λ h=>absurd h (by decide),(hI.b.below hb).h_⟩,Keeps.of hb⟩
   have hn1:=hI.n (by decide);have h2:=of_decide_eq_false h1;have h2':¬checkE root (t - f+1) [(recV (readR s (headerGs s) header0) header0 0).n - f] [s] P=0:=h2
   rw[hy]at hn1 h2'
   exact(isE_proof (hI.a (by decide)) hy hn1 h2').symm
 ·obtain⟨y,hy⟩:=hI.r (by decide)
  have hn1:=hI.n (by decide);have h2:=hI.c (by decide)
  refine⟨?_,hI.e,_,λ _=>rfl,hI.b.h_⟩
  rw[hy]at hn1 h2
  exact(isE_ok (hI.a (by decide)) hy hn1 h2).symm
end Go.Proofs.YtpobhbdomldecaaGreatDoor
namespace Go.Proofs.YtpobhbdomldecaaGreatDoor
open Go.RowKit
set_option linter.unusedSimpArgs false
set_option linter.unusedVariables false
set_option maxRecDepth 100000 in
set_option maxHeartbeats 4000000 in
theorem ihis_any(B:Nat)(root:ByteArray)(f t:Int)(s:ByteArray)(P:List ByteArray)(pa:Option Addr)(pc:Nat)(w:World)(hT:TE7 B w)(hp:Txts w pa P)(hl:len P≤1000000)(hc:len P≤pc)(hf:U64 f)(ht:U64 t)(hs:s.size≤1000000):
  Calls Tryz.prog 57 #[.string root,.agg #[.int .u64 f,.int .u64 t],.string s,.slice pa (len P) pc] w (IsIs root f t s P w):=by
 have HT:=Lib.hid hT;have HP:=Lib.hid hp;have HPN:Hid (∀b o,pa=some ⟨b,o,none⟩→0<len P→b<w.heap.size):=Lib.hid (λ b o e h0=>by
  obtain⟨b9,o9,e9,h9⟩:=hp 0 h0
  rw[e]at e9
  cases e9
  exact lt_of_cell h9)
 have HL:=Lib.hid hl;have HC:=Lib.hid hc;have HF:=Lib.hid hf;have HTT:=Lib.hid ht;have HS:=Lib.hid hs;clear hT hp hl hc hf ht hs
 go_enter Tryz.func57,Tryz.ntmps57
 go_upto_region 1 with fail
 obtain⟨V,hV⟩:∃V,((((w.alloc (.cells #[.string root] 9)).alloc (.cells #[.int .u64 f,.int .u64 t] 76)).alloc (.cells #[.string s] 9)).alloc (.cells #[.slice pa (len P) pc] 36)).alloc (.cells #[.int .u64 0,.string ⟨#[]⟩,.string ⟨#[]⟩,.string ⟨#[]⟩] 33)=V:=⟨_,rfl⟩
 have HBV:Hid (Below w.heap.size w V):=Lib.hid (by rw[←hV];(repeat (first | exact Below.refl _ _ | assumption | (refine bdrew ?_) | (refine bdrewN ?_ _) | (refine balloc ?_ _) | (refine bset ?_ (by first | omega | (simp;done) | (simp;omega)) _) | (refine bnext ?_ (by assumption)))))
 have V0:Hid (V.heap[w.heap.size]?=some (.cells #[.string root] 9 (0,0))):=Lib.hid (by rw[←hV];(repeat (first | exact alloc_new_at _ (by repeat (first | rfl | refine alloc_size _ ?_)) | refine block_alloc ?_ _)))
 have V1:Hid (V.heap[w.heap.size+1]?=some (.cells #[.int .u64 f,.int .u64 t] 76 (0,0))):=Lib.hid (by rw[←hV];(repeat (first | exact alloc_new_at _ (by repeat (first | rfl | refine alloc_size _ ?_)) | refine block_alloc ?_ _)))
 have V2:Hid (V.heap[w.heap.size+1+1]?=some (.cells #[.string s] 9 (0,0))):=Lib.hid (by rw[←hV];(repeat (first | exact alloc_new_at _ (by repeat (first | rfl | refine alloc_size _ ?_)) | refine block_alloc ?_ _)))
 have V3:Hid (V.heap[w.heap.size+1+1+1]?=some (.cells #[.slice pa (len P) pc] 36 (0,0))):=Lib.hid (by rw[←hV];(repeat (first | exact alloc_new_at _ (by repeat (first | rfl | refine alloc_size _ ?_)) | refine block_alloc ?_ _)))
 have V4:Hid (V.heap[w.heap.size+1+1+1+1]?=some (.cells #[.int .u64 0,.string ⟨#[]⟩,.string ⟨#[]⟩,.string ⟨#[]⟩] 33 (0,0))):=Lib.hid (by rw[←hV];(repeat (first | exact alloc_new_at _ (by repeat (first | rfl | refine alloc_size _ ?_)) | refine block_alloc ?_ _)))
 have HSZ:Hid (V.heap.size=w.heap.size+5):=Lib.hid (by rw[←hV];simp)
 rw[hV]
 obtain⟨b,hb⟩:∃b,w.heap.size=b:=⟨_,rfl⟩
 rw[hb]at V0 V1 V2 V3 V4 HSZ ⊢
 have HWB:Hid (w.heap.size≤b):=Lib.hid (Nat.le_of_eq hb);clear hV hb
 obtain⟨b1,hb1⟩:∃b1,b+1=b1:=⟨_,rfl⟩
 have z0:b1<V.heap.size:=by have:=HSZ.out;omega
 have z1:b1≠V.heap.size:=by have:=HSZ.out;omega
 have z2:b1≠V.heap.size+1:=by have:=HSZ.out;omega
 have HB1:Hid (b+1=b1):=Lib.hid hb1
 rw[hb1]at V1 V2 V3 V4 ⊢
 clear hb1;have y0:V.cell? ⟨b1,0,none⟩=some (.int .u64 f):=block_cell V1.out 0;have y1:V.cell? ⟨b1,1,none⟩=some (.int .u64 t):=block_cell V1.out 1
 go_cut [10,11] (λ s9 s10 wx=>∃bf bt:Nat,s9=.pointer (some ⟨bf,0,none⟩)∧s10=.pointer (some ⟨bt,0,none⟩)∧Hid (wx.heap[bf]?=some (.cells #[.int .u64 f] 23 (0,0)))∧Hid (wx.heap[bt]?=some (.cells #[.int .u64 t] 23 (0,0)))∧Hid (Below V.heap.size V wx))
 case first=>
  go_region
  all_goals
   go_wp2_with fail
   go_meet
   first
    | exact⟨_,_,rfl,rfl,Lib.hid (block_alloc (heap_alloc_new _ _) _),Lib.hid (alloc_new_at _ (by simp)),Lib.hid (bdrew (balloc (balloc (Below.refl _ _) _) _))⟩
    | exact⟨_,_,rfl,rfl,Lib.hid (alloc_new_at _ (by simp)),Lib.hid (block_alloc (heap_alloc_new _ _) _),Lib.hid (bdrew (balloc (balloc (Below.refl _ _) _) _))⟩
 case rest=>
  obtain⟨bf,bt,rfl,rfl,HX,HY,HCB⟩:=hcut
  have K0:=Lib.hid ((HCB.out.block _ (lt_of_block V0.out)).trans V0.out);have K2:=Lib.hid ((HCB.out.block _ (lt_of_block V2.out)).trans V2.out);have K3:=Lib.hid ((HCB.out.block _ (lt_of_block V3.out)).trans V3.out);have K4:=Lib.hid ((HCB.out.block _ (lt_of_block V4.out)).trans V4.out);have HWC:Hid (Below w.heap.size w wc):=Lib.hid (bnext HBV.out HCB.out);clear y0 y1 z0 z1 z2
  go_upto_region 3 with fail
  obtain⟨U,hU⟩:∃U,wc.alloc (.cells #[.int .u64 0,.string ⟨#[]⟩,.string ⟨#[]⟩,.string ⟨#[]⟩] 33)=U:=⟨_,rfl⟩
  obtain⟨bh,hbh⟩:∃bh,wc.heap.size=bh:=⟨_,rfl⟩
  have HUB:Hid (Below wc.heap.size wc U):=Lib.hid (by rw[←hU];exact balloc (Below.refl _ _) _);have HIB:Hid (IsB root f t s pa (len P) pc b (b1+1) (b1+1+1) bf bt bh header0 U):=Lib.hid ⟨(HUB.out.block _ (lt_of_block K0.out)).trans K0.out,(HUB.out.block _ (lt_of_block K2.out)).trans K2.out,(HUB.out.block _ (lt_of_block K3.out)).trans K3.out,(HUB.out.block _ (lt_of_block HX.out)).trans HX.out,(HUB.out.block _ (lt_of_block HY.out)).trans HY.out,by rw[←hU,←hbh];exact heap_alloc_new _ _⟩;have K5:=Lib.hid ((HUB.out.block _ (lt_of_block K4.out)).trans K4.out);have HNE:Hid (b≠bh∧b1+1≠bh∧b1+1+1≠bh∧bf≠bh∧bt≠bh):=Lib.hid (by
   have q0:=lt_of_block K0.out;have q2:=lt_of_block K2.out;have q3:=lt_of_block K3.out;have q4:=lt_of_block HX.out;have q5:=lt_of_block HY.out
   omega)
  have HN8:Hid (b1+1+1+1≠bh∧w.heap.size≤bh∧bh<U.heap.size):=Lib.hid (by
   have q0:=lt_of_block K4.out;have q1:=HWC.out.size;have q2:=lt_of_block HIB.out.h_
   omega)
  have HWU:Hid (Below w.heap.size w U):=Lib.hid (bnext HWC.out HUB.out)
  rw[hU,hbh]
  clear hU hbh
  go_wp2_with fail
  refine(his_rules B root f t s P pa pc b (b1+1) (b1+1+1) bf bt bh _ _ ((HT.out.below HWU.out).below (balloc (Below.refl _ _) _)) (HIB.out.below (balloc (Below.refl _ _) _)) ((HP.out.below HWU.out).below (balloc (Below.refl _ _) _)) HL.out HC.out HF.out HTT.out HS.out HNE.out (λ b9 o9 e9 h9=>by have:=HPN.out b9 o9 e9 h9;have:=HN8.out;omega) (by have:=HN8.out;omega) (heap_alloc_new _ _)).mono ?_
  rintro e w2 ⟨x,rfl,hx,hE,y,hy,hh⟩
  have HEX:=Lib.hid hx;have HE:=Lib.hid hE;have HYY:=Lib.hid hy;have HH:=Lib.hid hh;have K6:Hid (w2.heap[b1+1+1+1]?=some (.cells #[.int .u64 0,.string ⟨#[]⟩,.string ⟨#[]⟩,.string ⟨#[]⟩] 33 (0,0))):=Lib.hid (extB_block hE (λ e=>HN8.out.1 (Option.some.inj e)) (block_alloc K5.out _));have HB2:Hid (Below w.heap.size w w2):=Lib.hid (by
   have q:=bnext HWU.out (balloc (Below.refl _ _) (.cells #[] 9));have q1:=HWU.out
   refine⟨hE.os.trans q1.os,hE.tape.trans q1.tape,hE.output.trans q1.output,Nat.le_trans (Nat.le_trans q1.size (by simp)) hE.size,λ i hi=>?_⟩
   rw[hE.block i (by simp;have:=q1.size;omega) (λ e9=>by have:=HN8.out;have:=Option.some.inj e9;omega)]
   exact((balloc (Below.refl U.heap.size U) _).block i (Nat.lt_of_lt_of_le hi q1.size)).trans (q1.block i hi))
  clear hx hE hy hh;have k0:w2.cell? ⟨b1+1+1+1,0,none⟩=some (.int .u64 0):=block_cell K6.out 0;have k1:w2.cell? ⟨b1+1+1+1,1,none⟩=some (.string ⟨#[]⟩):=block_cell K6.out 1;have k2:w2.cell? ⟨b1+1+1+1,2,none⟩=some (.string ⟨#[]⟩):=block_cell K6.out 2;have k3:w2.cell? ⟨b1+1+1+1,3,none⟩=some (.string ⟨#[]⟩):=block_cell K6.out 3;have kf:∀o,w2.frozen? ⟨b1+1+1+1,o,none⟩=false:=block_free K6.out;have h0:w2.cell? ⟨bh,0,none⟩=some (.int .u64 (y 0).n):=block_cell HH.out 0;have h1:w2.cell? ⟨bh,1,none⟩=some (.string (y 1).s):=block_cell HH.out 1;have h2:w2.cell? ⟨bh,2,none⟩=some (.string (y 2).s):=block_cell HH.out 2;have h3:w2.cell? ⟨bh,3,none⟩=some (.string (y 3).s):=block_cell HH.out 3;have H8:Hid (w.heap.size≤b1+1+1+1):=Lib.hid (by have:=HWB.out;have:=HB1.out;omega)
  by_cases hx0:x=0
  ·subst hx0
   go_wp2
   have hb:=block_setCell (block_setCell (block_setCell (block_setCell K6.out (o:=0) (.int .u64 (y 0).n)) (o:=1) (.string (y 1).s)) (o:=2) (.string (y 2).s)) (o:=3) (.string (y 3).s);have d:∀o,_=_:=block_cell hb
   refine bodyPost_ret (v:=.tuple #[.agg #[.int .u64 (y 0).n,.string (y 1).s,.string (y 2).s,.string (y 3).s],.int .i64 0]) ?_ rfl ⟨?_,(((HB2.out.setCell H8.out _).setCell H8.out _).setCell H8.out _).setCell H8.out _⟩
   ·simp[results,Tryz.results57,go_sem,d]
   ·rw[show isH root f t s P=y by unfold isH;rw[←HEX.out,if_pos rfl];exact(HYY.out (by first | trivial | rfl)).symm,←HEX.out]
  ·have hxb:(x == 0)=false:=by simp;exact hx0
   have HX0:=Lib.hid hx0
   go_wp2
   have hb:=block_setCell (block_setCell (block_setCell (block_setCell K6.out (o:=0) (.int .u64 0)) (o:=1) (.string ⟨#[]⟩)) (o:=2) (.string ⟨#[]⟩)) (o:=3) (.string ⟨#[]⟩);have d:∀o,_=_:=block_cell hb
   refine bodyPost_ret (v:=.tuple #[.agg #[.int .u64 0,.string ⟨#[]⟩,.string ⟨#[]⟩,.string ⟨#[]⟩],.int .i64 x]) ?_ rfl ⟨?_,(((HB2.out.setCell H8.out _).setCell H8.out _).setCell H8.out _).setCell H8.out _⟩
   ·simp[results,Tryz.results57,go_sem,d]
   ·rw[show isH root f t s P=header0 by unfold isH;rw[←HEX.out,if_neg HX0.out],←HEX.out];rfl
end Go.Proofs.YtpobhbdomldecaaGreatDoor

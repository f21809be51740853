/- Parts of the proof, one behind the other. -/
import Derived.Test.YtpobhbdomldecaaGreatDoorIhdP1
import Derived.Laws.BytesArg
import Derived.Shelf.Strings.Builder1
import Derived.Shelf.Strings.Builder2
import Derived.Shelf.Small.Bits
import Derived.Shelf.Strings.BuilderF
import Derived.Shelf.Strconv.Itoa0
import Derived.Shelf.Strings.Prefix
import Derived.Shelf.Bits.Mul64
import Derived.Shelf.Strings.Repeat
import Derived.Test.YtpobhbdomldecaaGreatDoorProg
import Derived.WalkMore
import Derived.Lib.SliceRun
import Derived.Laws.EntriesVeiled
import Derived.Deep.QuietTactic
import Derived.BigQuiet
import Derived.StillTailTactics
import Derived.Laws.Strings
import Derived.Maps.RangeRun
import Derived.Maps.RangeWalk
import Derived.Carry
set_option linter.unusedSimpArgs false
set_option linter.unusedVariables false
set_option maxRecDepth 100000
set_option maxHeartbeats 40000000
namespace Go.Proofs.YtpobhbdomldecaaGreatDoor
open Go.RowKit
def QcP(s':ByteArray)(b base:Nat)(w:World)(e:Ending)(w':World):Prop:=e=.returned (.int .i64 0)/\WrB w' b base s'/\WK base b w w'
theorem Qkg(B b base sort n:Nat)(s:ByteArray)(w:World)(ht:Qf5 B w)(hB:B<=base)(hW:WrB w b base s)(h5:sort<5)(hn:n<65536)(hs:s.size<=70000000000000):
  Calls Tryz.prog 261 #[.pointer (some ⟨b,0,none⟩),.int .i64 sort,.int .i64 n] w (QcP (s++baL (Xs sort n)) b base w):=by
 have H:=QLh (Qia B b base sort n s w ht hB hW h5 (by omega) (by omega) hs);have i1:decide ((65536:Int)<=(n:Int))=false:=decide_eq_false (by omega);have i2:IntKind.u64.wrap (n:Int)=n:=IntWalk.u64_in _ (by omega);clear ht hW
 go_enter Tryz.func261,Tryz.ntmps261
 go_wp2_with fail;refine H.out.mono ?_;rintro e w' ⟨rfl,h1,h2⟩;have H1:=QLh h1;have H2:=QLh h2;clear h1 h2;go_wp2;go_ret;exact⟨rfl,H1.out,H2.out⟩
theorem Qih(B b base sort:Nat)(t s:ByteArray)(w:World)(ht:Qf5 B w)(hB:B<=base)(hW:WrB w b base s)(h5:sort<5)(hn:t.size<65536)(hs:s.size<=70000000000000):
  Calls Tryz.prog 262 #[.pointer (some ⟨b,0,none⟩),.int .i64 sort,.string t] w (QcP (s++(baL (Xs sort t.size)++t)) b base w):=by
 have H:=QLh (Qkg B b base sort t.size s w ht hB hW h5 hn hs);have HBS:Hid (base<=w.heap.size):=QLh (by have:=hW.1;have:=hW.lt;omega);obtain⟨i0,hi,hz0,hz1,hz2⟩:=info_parts QmD;clear ht hW
 go_enter Tryz.func262,Tryz.ntmps262
 go_wp2_with fail;refine H.out.mono ?_;rintro e w1 ⟨rfl,h1,h2⟩;obtain⟨s1,hs1⟩:∃s1,s++baL (Xs sort t.size)=s1:=⟨_,rfl⟩;have hl2:s1.size<=70000000000009:=by have hl:=Qc9 sort t.size;rw[<-hs1,ByteArray.size_append,Vc];omega
 have HS1:Hid (s++(baL (Xs sort t.size)++t)=s1++t):=QLh (by rw[<-hs1,ByteArray.append_assoc]);rw[hs1]at h1;clear hs1;obtain⟨hb,v,hv,hown⟩:=h1;have HV:=QLh hv;have HOWN:=QLh hown;have H2:=QLh h2;have cb:=Qa hv 0;simp only[List.getElem?_toArray,List.getElem?_cons_zero]at cb;clear hv hown h2
 go_wp2_with (at_builtin;refine Lib.wpList_append_own_string _ rfl _ _ 41 9 rfl base 5 i0 Tryz.underlying41 Tryz.underlying9 hi hz0 hz1 hz2 _ _ _ rfl HOWN.out t rfl (by unfold maxLen;omega) (by omega) (by have:=HBS.out;have:=H2.out.bel.size;omega) ?_)
 intro v' w2 hown' hgrow _;have hst:=QbO (s':=s1++t) hb HV.out HOWN.out (w1:=w2) ⟨hgrow.os,hgrow.tape,hgrow.output,hgrow.size,hgrow.block⟩ (v':=v') (ys:=Lib.strCells s1++Lib.strCells t) (by rw[ByteArray.size_append];exact hown') (by rw[<-J9]);have HST:=QLh hst;have hc4:=hst.1;have hf4:=hst.2.1;have hsl:∃g cap,v'=.slice (some ⟨g,0,none⟩) (s1.size+t.size) cap \/ v'=.slice none 0 0:=by
  rcases hown'.2 with⟨h,_⟩ | ⟨g,cap,cur,h,_⟩
  ·exact⟨0,0,.inr h⟩
  ·exact⟨g,cap,.inl h⟩
 clear hst hown' hgrow;obtain⟨ga,gc,rfl | rfl⟩:=hsl
 ·go_wp2
  go_ret;exact⟨rfl,by rw[HS1.out];exact HST.out.2.2.1,H2.out.trans HST.out.2.2.2⟩
 ·go_wp2
  go_ret;exact⟨rfl,by rw[HS1.out];exact HST.out.2.2.1,H2.out.trans HST.out.2.2.2⟩
theorem QuD(B b base:Nat)(n:Int)(s:ByteArray)(w:World)(ht:Qf5 B w)(hB:B<=base)(hW:WrB w b base s)(h0:0<=n)(h1:n<=18446744073709551615)(hs:s.size<=70000000000000):
  Calls Tryz.prog 205 #[.pointer (some ⟨b,0,none⟩),.int .u64 n] w (QcP (s++Qef n) b base w):=by
 have H:=QLh (Qia B b base 0 n s w ht hB hW (by decide) h0 h1 hs);clear ht hW
 go_enter Tryz.func205,Tryz.ntmps205
 go_wp2_with fail;refine H.out.mono ?_;rintro e w' ⟨rfl,h1,h2⟩;have H1:=QLh h1;have H2:=QLh h2;clear h1 h2;go_wp2;go_ret;have e:Qef n=baL (Xs 0 n):=by unfold Qef Yy;exact Jc (by simp)
 exact⟨rfl,by rw[e];exact H1.out,H2.out⟩
theorem QuZ(B b base:Nat)(t s:ByteArray)(w:World)(ht:Qf5 B w)(hB:B<=base)(hW:WrB w b base s)(hn:t.size<65536)(hs:s.size<=70000000000000):
  Calls Tryz.prog 201 #[.pointer (some ⟨b,0,none⟩),.string t] w (QcP (s++QjP t) b base w):=by
 have H:=QLh (Qih B b base 2 t s w ht hB hW (by decide) hn hs);clear ht hW
 go_enter Tryz.func201,Tryz.ntmps201
 go_wp2_with fail;refine H.out.mono ?_;rintro e w' ⟨rfl,h1,h2⟩;have H1:=QLh h1;have H2:=QLh h2;clear h1 h2;go_wp2;go_ret;exact⟨rfl,H1.out,H2.out⟩
theorem Qu5(B b base:Nat)(t s:ByteArray)(w:World)(ht:Qf5 B w)(hB:B<=base)(hW:WrB w b base s)(hn:t.size<65536)(hs:s.size<=70000000000000):
  Calls Tryz.prog 212 #[.pointer (some ⟨b,0,none⟩),.string t] w (QcP (s++Vw t) b base w):=by
 have H:=QLh (Qih B b base 1 t s w ht hB hW (by decide) hn hs);clear ht hW
 go_enter Tryz.func212,Tryz.ntmps212
 go_wp2_with fail;refine H.out.mono ?_;rintro e w' ⟨rfl,h1,h2⟩;have H1:=QLh h1;have H2:=QLh h2;clear h1 h2;go_wp2;go_ret;exact⟨rfl,H1.out,H2.out⟩
theorem Qu2(B b base n:Nat)(s:ByteArray)(w:World)(ht:Qf5 B w)(hB:B<=base)(hW:WrB w b base s)(hn:n<65536)(hs:s.size<=70000000000000):
  Calls Tryz.prog 200 #[.pointer (some ⟨b,0,none⟩),.int .i64 n] w (QcP (s++Qfe n) b base w):=by
 have H:=QLh (Qkg B b base 4 n s w ht hB hW (by decide) hn hs);clear ht hW
 go_enter Tryz.func200,Tryz.ntmps200
 go_wp2_with fail;refine H.out.mono ?_;rintro e w' ⟨rfl,h1,h2⟩;have H1:=QLh h1;have H2:=QLh h2;clear h1 h2;go_wp2;go_ret;have e:Qfe n=baL (Xs 4 n):=by unfold Qfe Yy;exact Jc (by simp)
 exact⟨rfl,by rw[e];exact H1.out,H2.out⟩
theorem QsB(s:ByteArray):strOfNums (s.data.toList.map λ b=>(b.toNat:Int))=s:=by
 refine Jc ?_;rw[strOfNums_data,List.map_map]
 conv=>rhs;rw[<-List.map_id s.data.toList]
 refine List.map_congr_left λ x _=>?_;simp
theorem QoL(b base:Nat)(s:ByteArray)(w:World)(hW:WrB w b base s):Calls Tryz.prog 150 #[.pointer (some ⟨b,0,none⟩)] w λ e w'=>e=.returned (.string s)/\w=w':=by
 obtain⟨hb,v,hv,hown⟩:=hW;have cb:=Qa hv 0;simp only[List.getElem?_toArray,List.getElem?_cons_zero]at cb;have hc:∀t,Tryz.prog.underlying t=some .string->(convert 41 t v).run Tryz.prog w=.ok (.string s) w:=by
  intro t ht
  rcases hown.2 with⟨rfl,h0⟩ | ⟨g,cap,cur,rfl,_,_,_,_,_,_⟩
  ·have e:s=ByteArray.empty:=Jc (by
    have:s.data.toList.length=0:=by rw[Xc];exact h0
    rw[List.eq_nil_of_length_eq_zero this];rfl)
   rw[e];exact run_convert_bytes_nil w 41 5 Tryz.underlying41 Tryz.underlying5 0 0 t ht
  ·have h:=run_convert_bytes_arg (P:=Tryz.prog) w 41 5 Tryz.underlying41 Tryz.underlying5 g 0 s.size cap (s.data.toList.map λ b=>(b.toNat:Int)) (by rw[List.length_map,Xc]) (λ i hi=>by
    have h1:=hown.cellAt i (by omega);rw[Nat.zero_add,h1];have hi2:i<s.data.toList.length:=by rw[Xc];exact hi
    unfold Lib.strCells;rw[List.getElem?_map,List.getElem?_eq_getElem hi2,List.getD_eq_getElem?_getD,List.getElem?_map,List.getElem?_eq_getElem hi2];rfl) t ht
   rw[QsB]at h;exact h
 have hcv:=hc 9 Tryz.underlying9;clear hc hown hv
 go_enter Tryz.func150,Tryz.ntmps150
 go_wp2;go_ret;exact⟨rfl,rfl⟩
theorem Qp6(w:World):Calls Tryz.prog 148 #[] w λ e w'=>e=.returned (.pointer (some ⟨w.heap.size,0,none⟩))/\WrB w' w.heap.size w.heap.size ByteArray.empty/\Below w.heap.size w w':=by
 go_enter Tryz.func148,Tryz.ntmps148
 go_wp2;go_ret;exact⟨rfl,⟨Nat.le_refl _,.slice none 0 0,heap_alloc_new _ _,World.ownsRow_nil _ _ _ _⟩,by(repeat (first | exact Below.refl _ _ | assumption | (refine Zy ?_) | (refine Zg ?_ _) | (refine Qf ?_ _) | (refine Ji ?_ (by first | omega | (simp;done) | (simp;omega)) _) | (refine Qj ?_ (by assumption))))⟩
structure Zu where
 key:ByteArray
 must:Bool
 ef:Nat
 ec:Array Value
 mf:Nat
 mc:Array Value
 pf:Nat
 pc:Array Value
 gf:Nat
 gc:Array Value
abbrev Zu.val(r:Zu):Value:=.agg #[.string r.key,.bool r.must,.func (.func r.ef) #[] r.ec,.func (.func r.mf) #[] r.mc,.func (.func r.pf) #[] r.pc,.func (.func r.gf) #[] r.gc]
def Zu.cells(r:Zu):List Value:=[.string r.key,.bool r.must,.func (.func r.ef) #[] r.ec,.func (.func r.mf) #[] r.mc,.func (.func r.pf) #[] r.pc,.func (.func r.gf) #[] r.gc]
theorem Zu.cells_len(r:Zu):r.cells.length=6:=rfl
theorem Zu.cells_one(r:Zu):∀u ∈ r.cells,u.oneCell'=true:=by intro u hu;simp only[Zu.cells,List.mem_cons,List.not_mem_nil,or_false]at hu;rcases hu with rfl | rfl | rfl | rfl | rfl | rfl <;> rfl
def Zu.zero:Zu:=⟨ByteArray.empty,false,0,#[],0,#[],0,#[],0,#[]⟩
def fth(l:List Zu)(i:Nat):Zu:=l.getD i Zu.zero
theorem Kv(l:List Zu)(i:Nat)(h:i<l.length):fth l i=l[i]:=by unfold fth;rw[List.getD_eq_getElem?_getD,List.getElem?_eq_getElem h];rfl
structure Qf1(w:World)(b o:Nat)(r:Zu):Prop where
 c0:w.cell? ⟨b,o,none⟩=some (.string r.key)
 c1:w.cell? ⟨b,o+1,none⟩=some (.bool r.must)
 c2:w.cell? ⟨b,o+2,none⟩=some (.func (.func r.ef) #[] r.ec)
 c3:w.cell? ⟨b,o+3,none⟩=some (.func (.func r.mf) #[] r.mc)
 c4:w.cell? ⟨b,o+4,none⟩=some (.func (.func r.pf) #[] r.pc)
 c5:w.cell? ⟨b,o+5,none⟩=some (.func (.func r.gf) #[] r.gc)
theorem Qf1.below{w w':World}{b o:Nat}{r:Zu}(h:Qf1 w b o r)(hb:Below w.heap.size w w'):Qf1 w' b o r:=by
 have hl:=Ql h.c0;have e:∀q,w'.cell? ⟨b,q,none⟩=w.cell? ⟨b,q,none⟩:=λ q=>hb.cell (p:=⟨b,q,none⟩) hl;obtain⟨c0,c1,c2,c3,c4,c5⟩:=h
 constructor <;> (rw[e];assumption)
def Qa6(w:World)(a:Option Addr)(l:List Zu):Prop:=∀i,i<len l->∃b off,a=some ⟨b,off,none⟩/\Qf1 w b (off+i * 6) (fth l i)
theorem Qa6.nil(w:World)(a:Option Addr):Qa6 w a []:=λ i hi=>absurd hi (by simp[len])
theorem Qa6.below{w w':World}{a:Option Addr}{l:List Zu}(h:Qa6 w a l)(hb:Below w.heap.size w w'):Qa6 w' a l:=λ i hi=>by obtain⟨b,off,rfl,hc⟩:=h i hi;exact⟨b,off,rfl,hc.below hb⟩
theorem Qa6.take{w:World}{a:Option Addr}{l:List Zu}(h:Qa6 w a l)(k:Nat):Qa6 w a (l.take k):=λ i hi=>by
 have hi2:i<l.length/\i<k:=by simp only[len,List.length_take]at hi;omega
 have hi3:i<(l.take k).length:=hi;have e:fth (l.take k) i=fth l i:=by rw[Kv l i hi2.1,Kv _ i hi3,List.getElem_take]
 rw[e];exact h i hi2.1
theorem Qa6.drop{w:World}{b off:Nat}{l:List Zu}(h:Qa6 w (some ⟨b,off,none⟩) l)(k:Nat):Qa6 w (some ⟨b,off+k * 6,none⟩) (l.drop k):=λ i hi=>by
 have hi2:k+i<l.length:=by simp only[len,List.length_drop]at hi;omega
 have hi3:i<(l.drop k).length:=hi;have e:fth (l.drop k) i=fth l (k+i):=by rw[Kv l _ hi2,Kv _ i hi3,List.getElem_drop]
 obtain⟨b',off',e2,hc⟩:=h (k+i) hi2
 cases e2
 exact⟨b,_,rfl,by rw[e,show off+k * 6+i * 6=off+(k+i) * 6 by omega];exact hc⟩
theorem Qa6.block{w:World}{g:Nat}{l:List Zu}{t:TypeId}{fr:Nat × Nat}(h:w.heap[g]?=some (.cells (l.flatMap Zu.cells).toArray t fr)):Qa6 w (some ⟨g,0,none⟩) l:=λ i hi=>⟨g,0,rfl,by
 have key:∀r,r<6->w.cell? ⟨g,0+i * 6+r,none⟩=(fth l i).cells[r]?:=λ r hr=>by rw[Nat.zero_add,Qa h,List.getElem?_toArray,V9 Zu.cells 6 Zu.cells_len l i r hi hr,Kv l i hi]
 exact⟨key 0 (by decide),key 1 (by decide),key 2 (by decide),key 3 (by decide),key 4 (by decide),key 5 (by decide)⟩⟩
structure Yk(B:Nat)(W0 w:World):Prop where
 s0:B<=W0.heap.size
 s1:W0.heap.size<=w.heap.size
 low:∀k:Nat,k<B->w.heap[k]?=W0.heap[k]?
 keep:∀(k:Nat) (x:Obj),W0.heap[k]?=some x->QhG x->w.heap[k]?=some x
theorem Yk.refl{B:Nat}{w:World}(h:B<=w.heap.size):Yk B w w:=⟨h,Nat.le_refl _,λ _ _=>rfl,λ _ _ h _=>h⟩
theorem Yk.trans{B:Nat}{a b c:World}(h:Yk B a b)(k:Yk B b c):Yk B a c:=⟨h.s0,Nat.le_trans h.s1 k.s1,λ i hi=>(k.low i hi).trans (h.low i hi),λ i x hx hn=>k.keep i x (h.keep i x hx hn) hn⟩
theorem Yk.of_below{B:Nat}{w w':World}(h:Below w.heap.size w w')(hB:B<=w.heap.size):Yk B w w':=⟨hB,h.size,λ k hk=>h.block k (Nat.lt_of_lt_of_le hk hB),λ k x hx _=>(h.block k (lt_of_block hx)).trans hx⟩
theorem Yk.next{B:Nat}{W0 w w':World}(h:Yk B W0 w)(hb:Below w.heap.size w w'):Yk B W0 w':=h.trans (Yk.of_below hb (Nat.le_trans h.s0 h.s1))
theorem Yk.base{B B':Nat}{W0 w w':World}(h:Yk B W0 w)(hb:Below B' w w')(hB:W0.heap.size<=B'):Yk B W0 w':=
 ⟨h.s0,Nat.le_trans h.s1 hb.size,λ k hk=>(hb.block k (Nat.lt_of_lt_of_le hk (Nat.le_trans h.s0 hB))).trans (h.low k hk),λ k x hx hn=>(hb.block k (Nat.lt_of_lt_of_le (lt_of_block hx) hB)).trans (h.keep k x hx hn)⟩
def QoU(W0:World)(b:Nat):Prop:=∀x,W0.heap[b]?=some x->¬QhG x
theorem QoU.of_le{W0:World}{b:Nat}(h:W0.heap.size<=b):QoU W0 b:=λ x hx=>by have:=lt_of_block hx;omega
theorem QoU.ne{W0:World}{b k:Nat}{x:Obj}(h:QoU W0 b)(hk:W0.heap[k]?=some x)(hn:QhG x):k≠b:=λ e=>by subst e;exact h x hk hn
theorem QoU.early{B b:Nat}{W0 W1:World}(h:QoU W1 b)(hk:Yk B W0 W1):QoU W0 b:=λ x hx hn=>h x (hk.keep b x hx hn) hn
theorem Yk.wk{B base b:Nat}{W0 w w':World}(h:Yk B W0 w)(hk:WK base b w w')(hb:QoU W0 b)(hB:B<=base):Yk B W0 w':=
 ⟨h.s0,Nat.le_trans h.s1 hk.bel.size,λ k hk2=>(hk.bel.block k (Nat.lt_of_lt_of_le hk2 hB)).trans (h.low k hk2),λ k x hx hn=>hk.keep k x (h.keep k x hx hn) (hb.ne hx hn) hn⟩
structure QkR(B:Nat)(W0:World)(v:Zu)(f:Xb):Prop where
 key:v.key=f.key
 must:v.must=f.must
 ksz:f.key.size<65536
 ee:∀args w,(callFunc v.ef args).run Tryz.prog w=.ok (.enter v.ef args) w
 em:∀args w,(callFunc v.mf args).run Tryz.prog w=.ok (.enter v.mf args) w
 ep:∀args w,(callFunc v.pf args).run Tryz.prog w=.ok (.enter v.pf args) w
 empty:∀w,Yk B W0 w->Calls Tryz.prog v.ef v.ec w λ e w'=>e=.returned (.bool f.empty)/\Below w.heap.size w w'
 may:∀w,Yk B W0 w->Calls Tryz.prog v.mf v.mc w λ e w'=>e=.returned (.bool f.may)/\Below w.heap.size w w'
 put:f.may=true->f.empty=false->∀w b base s,Yk B W0 w->QoU W0 b->Qf5 B w->B<=base->WrB w b base s->s.size+f.bytes.size<=60000000000000->
  Calls Tryz.prog v.pf (#[.pointer (some ⟨b,0,none⟩)]++v.pc) w λ e w'=>e=.returned (.tuple #[])/\WrB w' b base (s++f.bytes)/\WK base b w w'
theorem QkR.later{B:Nat}{W0 W1:World}{v:Zu}{f:Xb}(h:QkR B W0 v f)(hk:Yk B W0 W1):QkR B W1 v f:=
 ⟨h.key,h.must,h.ksz,h.ee,h.em,h.ep,λ w hw=>h.empty w (hk.trans hw),λ w hw=>h.may w (hk.trans hw),λ h1 h2 w b base s hw hb=>h.put h1 h2 w b base s (hk.trans hw) (hb.early hk)⟩
def Qbs(l:List Xb)(i:Nat):Xb:=l.getD i ⟨ByteArray.empty,false,false,false,ByteArray.empty⟩
theorem U7(l:List Xb)(i:Nat)(h:i<l.length):Qbs l i=l[i]:=by unfold Qbs;rw[List.getD_eq_getElem?_getD,List.getElem?_eq_getElem h];rfl
def QiQ(B:Nat)(W0:World)(l:List Zu)(fs:List Xb):Prop:=len fs=len l/\∀i,i<len l->QkR B W0 (fth l i) (Qbs fs i)
def QlM(w:World)(l:List Zu)(g:Nat)(lb:Array Value)(p:Nat->Bool):Prop:=
 (∀args w',(callFunc g args).run Tryz.prog w'=.ok (.enter g args) w')/\∀i,i<len l->∀w',Below w.heap.size w w'->Calls Tryz.prog g (#[(fth l i).val]++lb) w' λ e w''=>e=.returned (.bool (p i))/\Below w'.heap.size w' w''
def Qum(n:Nat)(p:Nat->Bool)(w:World)(e:Ending)(w':World):Prop:=
 ∃r:Int,e=.returned (.int .i64 r)/\((r=-1/\∀i,i<n->p i=false) \/ ∃k:Nat,k<n/\r=k/\p k=true/\∀i,i<k->p i=false)/\Below w.heap.size w w'
theorem Qee(a:Option Addr)(c:Nat)(l:List Zu)(g:Nat)(lb:Array Value)(p:Nat->Bool)(w:World)(hl:Qa6 w a l)(hn:len l<=1000)(hp:QlM w l g lb p):
  Calls Tryz.prog 248 #[.slice a (len l) c,.func (.func g) #[] lb] w (Qum (len l) p w):=by
 have HL:=QLh hl;have HP:=QLh hp.2;have eg:=hp.1;clear hl hp
 go_enter Tryz.func248,Tryz.ntmps248
 go_wp2
 go_loopg [8] (len l) (λ g i wr=>∃m:Nat,g+m=len l/\i=.int .i64 m/\Hid (∀i,i<m->p i=false)/\Hid (Below w.heap.size w wr))
 case atStart=>exact⟨0,rfl,rfl,λ i hi=>by omega,Below.refl _ _⟩
 case round=>
  obtain⟨m,hm,rfl,HN,HB⟩:=hrel
  by_cases hlt:m<len l
  ·obtain⟨b,off,rfl,c0,c1,c2,c3,c4,c5⟩:=(HL.out.below HB.out) m hlt
   have i1:(m:Int)<len l:=by omega
   have hcall:=HP.out m hlt wr HB.out;unfold Zu.val at hcall;have HC:=QLh hcall;clear hcall;generalize fth l m=v at c0 c1 c2 c3 c4 c5 HC;go_wp2_with fail;refine HC.out.mono ?_;rintro e w1 ⟨rfl,hb⟩;have HB1:Hid (Below w.heap.size w w1):=QLh (Qj HB.out hb);clear hb c0 c1 c2 c3 c4 c5
   cases hpm:p m with
   | true=>
    go_wp2;go_ret;exact⟨m,rfl,.inr ⟨m,hlt,rfl,hpm,HN.out⟩,HB1.out⟩
   | false=>
    have HN2:Hid (∀i,i<m+1->p i=false):=QLh (λ i hi=>by
     by_cases e:i=m
     ·subst e;exact hpm
     ·exact HN.out i (by omega))
    clear hpm;go_wp2
    go_roundg (len l - (m+1))
    case rel=>exact⟨m+1,by omega,by go_num,HN2.out,HB1.out⟩
    case measure=>omega
  ·obtain rfl:m=len l:=by omega
   have i1:¬((len l:Nat):Int)<len l:=by omega
   go_wp2;go_ret;exact⟨-1,rfl,.inl ⟨rfl,HN.out⟩,HB.out⟩
theorem Qcj(a:Option Addr)(c:Nat)(l:List Zu)(g:Nat)(lb:Array Value)(p:Nat->Bool)(w:World)(hl:Qa6 w a l)(hn:len l<=1000)(hp:QlM w l g lb p):
  Calls Tryz.prog 195 #[.slice a (len l) c,.func (.func g) #[] lb] w λ e w'=>∃b,e=.returned (.bool b)/\(b=true ↔ ∃i,i<len l/\p i=true)/\Below w.heap.size w w':=by
 have H:=QLh (Qee a c l g lb p w hl hn hp);clear hl hp
 go_enter Tryz.func195,Tryz.ntmps195
 go_wp2_with fail;refine H.out.mono ?_;rintro e w1 ⟨r,rfl,hr,hb⟩;have HB:=QLh hb;clear hb
 rcases hr with⟨rfl,hall⟩ | ⟨k,hk,rfl,hpk,-⟩
 ·have HA:=QLh hall
  clear hall;go_wp2;go_ret;exact⟨false,rfl,⟨λ h=>(by cases h),fun ⟨i,hi,h⟩=>by rw[HA.out i hi]at h;cases h⟩,HB.out⟩
 ·have HK:=QLh hpk
  clear hpk;go_wp2;go_ret;exact⟨true,rfl,⟨λ _=>⟨k,hk,HK.out⟩,λ _=>rfl⟩,HB.out⟩
structure Chg(rb tb:Nat)(w w':World):Prop where
 os:w'.os=w.os
 tape:w'.tape=w.tape
 output:w'.output=w.output
 size:w.heap.size<=w'.heap.size
 block:∀i,i<w.heap.size->i≠rb->i≠tb->w'.heap[i]?=w.heap[i]?
theorem Chg.refl(rb tb:Nat)(w:World):Chg rb tb w w:=⟨rfl,rfl,rfl,Nat.le_refl _,λ _ _ _ _=>rfl⟩
theorem Chg.trans{rb tb:Nat}{a b c:World}(h:Chg rb tb a b)(k:Chg rb tb b c):Chg rb tb a c:=
 ⟨k.os.trans h.os,k.tape.trans h.tape,k.output.trans h.output,Nat.le_trans h.size k.size,λ i hi h1 h2=>(k.block i (Nat.lt_of_lt_of_le hi h.size) h1 h2).trans (h.block i hi h1 h2)⟩
theorem Chg.of_below{rb tb:Nat}{w w':World}(h:Below w.heap.size w w'):Chg rb tb w w':=⟨h.os,h.tape,h.output,h.size,λ i hi _ _=>h.block i hi⟩
theorem Chg.of_ext{rb tb:Nat}{w w':World}(h:Xe (some rb) w w'):Chg rb tb w w':=⟨h.os,h.tape,h.output,h.size,λ i hi h1 _=>h.block i hi (by simpa using h1)⟩
theorem Chg.next{rb tb:Nat}{a b c:World}(h:Chg rb tb a b)(k:Below b.heap.size b c):Chg rb tb a c:=h.trans (Chg.of_below k)
theorem Chg.ext{rb tb:Nat}{a b c:World}(h:Chg rb tb a b)(k:Xe (some rb) b c):Chg rb tb a c:=h.trans (Chg.of_ext k)
theorem Chg.set{rb tb:Nat}{a b:World}(h:Chg rb tb a b)(o:Nat)(v:Value):Chg rb tb a (b.setCell ⟨tb,o,none⟩ v):=
 ⟨h.os,h.tape,h.output,by simpa using h.size,λ i hi h1 h2=>by rw[Below.heap_setCell _ _ _ _ h2];exact h.block i hi h1 h2⟩
theorem Chg.setNew{rb tb:Nat}{a b:World}(h:Chg rb tb a b){p:Addr}(hp:a.heap.size<=p.block)(v:Value):Chg rb tb a (b.setCell p v):=
 ⟨h.os,h.tape,h.output,by simpa using h.size,λ i hi h1 h2=>by rw[Below.heap_setCell _ _ _ _ (by omega)];exact h.block i hi h1 h2⟩
def Off(rb tb:Nat)(a:Option Addr):Prop:=∀b off,a=some ⟨b,off,none⟩->rb<b/\tb<b
def Tx(w:World)(a:Option Addr)(l:List ByteArray):Prop:=Txs w a l/\∀b off,a=some ⟨b,off,none⟩->∃cs,w.heap[b]?=some (.cells cs 9 (0,0))
def Ux(w:World)(a:Option Addr)(l:List Int):Prop:=QaO w a l/\∀b off,a=some ⟨b,off,none⟩->∃cs,w.heap[b]?=some (.cells cs 23 (0,0))
theorem Tx.keep{w w':World}{a:Option Addr}{l:List ByteArray}(h:Tx w a l)(hb:∀b off cs,a=some ⟨b,off,none⟩->w.heap[b]?=some (.cells cs 9 (0,0))->w'.heap[b]?=w.heap[b]?):Tx w' a l:=by
 refine⟨λ i hi=>?_,λ b off e=>?_⟩
 ·obtain⟨b,off,rfl,h1⟩:=h.1 i hi
  obtain⟨cs,h2⟩:=h.2 b off rfl;exact⟨b,off,rfl,by rw[World.cell?_of_block (w:=w) (hb b off cs rfl h2)];exact h1⟩
 ·obtain⟨cs,h2⟩:=h.2 b off e
  exact⟨cs,(hb b off cs e h2).trans h2⟩
theorem Ux.keep{w w':World}{a:Option Addr}{l:List Int}(h:Ux w a l)(hb:∀b off cs,a=some ⟨b,off,none⟩->w.heap[b]?=some (.cells cs 23 (0,0))->w'.heap[b]?=w.heap[b]?):Ux w' a l:=by
 refine⟨λ i hi=>?_,λ b off e=>?_⟩
 ·obtain⟨b,off,rfl,h1⟩:=h.1 i hi
  obtain⟨cs,h2⟩:=h.2 b off rfl;exact⟨b,off,rfl,by rw[World.cell?_of_block (w:=w) (hb b off cs rfl h2)];exact h1⟩
 ·obtain⟨cs,h2⟩:=h.2 b off e
  exact⟨cs,(hb b off cs e h2).trans h2⟩
theorem Tx.chg{rb tb:Nat}{w w':World}{a:Option Addr}{l:List ByteArray}(h:Tx w a l)(ho:Off rb tb a)(hc:Chg rb tb w w'):Tx w' a l:=
 h.keep λ b off cs e h2=>hc.block b (lt_of_block h2) (by have:=(ho b off e).1;omega) (by have:=(ho b off e).2;omega)
theorem Ux.chg{rb tb:Nat}{w w':World}{a:Option Addr}{l:List Int}(h:Ux w a l)(ho:Off rb tb a)(hc:Chg rb tb w w'):Ux w' a l:=
 h.keep λ b off cs e h2=>hc.block b (lt_of_block h2) (by have:=(ho b off e).1;omega) (by have:=(ho b off e).2;omega)
theorem Qut.chg{rb tb:Nat}{w w':World}{a:Option Addr}{l:List Rev}(h:Qut w a l)(ho:Off rb tb a)(hc:Chg rb tb w w'):Qut w' a l:=λ i hi=>by obtain⟨b,off,rfl,h1⟩:=h i hi;have hb:=hc.block b (Ql h1.c0) (by have:=(ho b off rfl).1;omega) (by have:=(ho b off rfl).2;omega);have e:∀q,w'.cell? ⟨b,q,none⟩=w.cell? ⟨b,q,none⟩:=λ q=>World.cell?_of_block (w:=w) hb;obtain⟨c0,c1,c2,c3,c4,c5,c6,c7,c8,c9,c10⟩:=h1;exact⟨b,off,rfl,by constructor <;> (rw[e];assumption)⟩
def lth(l:List QrC)(i:Nat):QrC:=l.getD i ⟨0,0,false,0,[],[],⟨#[]⟩,0,0,0,0⟩
structure Qmo(rb tb:Nat)(w:World)(r:Rev)(d:QrC):Prop where
 pos:r.pos=d.pos
 L:r.L=d.L
 signed:r.signed=d.signed
 idx:r.idx=d.idx
 wn:r.wn=len d.ws
 ws:Tx w r.wa d.ws
 wo:Off rb tb r.wa
 pn:r.pn=len d.ps
 ps:Tx w r.pa d.ps
 po:Off rb tb r.pa
 root:r.root=d.root
 wt:r.wt=d.wt
 first:r.first=d.first
 life:r.life=d.life
 keys:r.keys=d.keys
theorem Qmo.chg{rb tb:Nat}{w w':World}{r:Rev}{d:QrC}(h:Qmo rb tb w r d)(hc:Chg rb tb w w'):Qmo rb tb w' r d:=
 ⟨h.pos,h.L,h.signed,h.idx,h.wn,h.ws.chg h.wo hc,h.wo,h.pn,h.ps.chg h.po hc,h.po,h.root,h.wt,h.first,h.life,h.keys⟩
def Kw(rb tb:Nat)(w:World)(v:Value):DV->Prop
 | .num n=>v=.int .u64 n
 | .flag q=>v=.bool q
 | .str s=>v=.string s
 | .strs l=>∃a c,v=.slice a (len l) c/\(len l=0->a=none/\c=0)/\Off rb tb a/\Tx w a l
 | .nums l=>∃a c,v=.slice a (len l) c/\(len l=0->a=none/\c=0)/\Off rb tb a/\Ux w a l
 | .revs l=>∃a c,v=.slice a (len l) c/\(len l=0->a=none/\c=0)/\Off rb tb a/\∃rs:List Rev,len rs=len l/\Qut w a rs/\∀i,i<len l->Qmo rb tb w (Qry rs i) (lth l i)
theorem Kw.chg{rb tb:Nat}{w w':World}{v:Value}{d:DV}(h:Kw rb tb w v d)(hc:Chg rb tb w w'):Kw rb tb w' v d:=by
 cases d with
 | num n=>exact h
 | flag q=>exact h
 | str s=>exact h
 | strs l=>obtain⟨a,c,h1,h2,h3,h4⟩:=h;exact⟨a,c,h1,h2,h3,h4.chg h3 hc⟩
 | nums l=>obtain⟨a,c,h1,h2,h3,h4⟩:=h;exact⟨a,c,h1,h2,h3,h4.chg h3 hc⟩
 | revs l=>obtain⟨a,c,h1,h2,h3,rs,h4,h5,h6⟩:=h;exact⟨a,c,h1,h2,h3,rs,h4,h5.chg h3 hc,λ i hi=>(h6 i hi).chg hc⟩
def Xx(rb tb:Nat)(T:TypeId)(n:Nat)(w:World)(x:Rcd):Prop:=
 ∃cs:Array Value,w.heap[tb]?=some (.cells cs T (0,0))/\cs.size=n/\∀i,i<n->∃v,cs[i]?=some v/\Kw rb tb w v (x i)
theorem Xx.keep{rb tb:Nat}{T:TypeId}{n:Nat}{w w':World}{x:Rcd}(h:Xx rb tb T n w x)(hb:w'.heap[tb]?=w.heap[tb]?)(hc:Chg rb tb w w'):Xx rb tb T n w' x:=by obtain⟨cs,h1,h2,h3⟩:=h;refine⟨cs,hb.trans h1,h2,λ i hi=>?_⟩;obtain⟨v,h4,h5⟩:=h3 i hi;exact⟨v,h4,h5.chg hc⟩
theorem Xx.lt{rb tb:Nat}{T:TypeId}{n:Nat}{w:World}{x:Rcd}(h:Xx rb tb T n w x):tb<w.heap.size:=by obtain⟨cs,h1,_⟩:=h;exact lt_of_block h1
theorem Xx.below{rb tb:Nat}{T:TypeId}{n:Nat}{w w':World}{x:Rcd}(h:Xx rb tb T n w x)(hb:Below w.heap.size w w'):Xx rb tb T n w' x:=h.keep (hb.block _ h.lt) (Chg.of_below hb)
theorem Xx.ext{rb tb:Nat}{T:TypeId}{n:Nat}{w w':World}{x:Rcd}(h:Xx rb tb T n w x)(hE:Xe (some rb) w w')(hne:tb≠rb):Xx rb tb T n w' x:=h.keep (hE.block _ h.lt (by simpa using hne)) (Chg.of_ext hE)
theorem Xx.get{rb tb:Nat}{T:TypeId}{n:Nat}{w:World}{x:Rcd}(h:Xx rb tb T n w x){o:Nat}(ho:o<n):∃v,w.cell? ⟨tb,o,none⟩=some v/\Kw rb tb w v (x o):=by obtain⟨cs,h1,h2,h3⟩:=h;obtain⟨v,h4,h5⟩:=h3 o ho;exact⟨v,by rw[Qa h1];exact h4,h5⟩
theorem Xx.free{rb tb:Nat}{T:TypeId}{n:Nat}{w:World}{x:Rcd}(h:Xx rb tb T n w x)(o:Nat):w.frozen? ⟨tb,o,none⟩=false:=by obtain⟨cs,h1,_⟩:=h;exact Qk h1 o
theorem Xx.set{rb tb:Nat}{T:TypeId}{n:Nat}{w:World}{x:Rcd}(h:Xx rb tb T n w x){o:Nat}(ho:o<n){v:Value}{d:DV}(hv:Kw rb tb w v d):Xx rb tb T n (w.setCell ⟨tb,o,none⟩ v) (upd x o d):=by
 obtain⟨cs,h1,h2,h3⟩:=h;have hc:Chg rb tb w (w.setCell ⟨tb,o,none⟩ v):=(Chg.refl rb tb w).set o v;refine⟨_,Qc h1 v,by simpa using h2,λ i hi=>?_⟩
 by_cases e:i=o
 ·subst e
  exact⟨v,by rw[Array.getElem?_setIfInBounds_self_of_lt (by omega)],by rw[Qa7];exact hv.chg hc⟩
 ·obtain⟨u,h4,h5⟩:=h3 i hi
  exact⟨u,by rw[Array.getElem?_setIfInBounds_ne (λ e2=>e e2.symm)];exact h4,by rw[Qhs e];exact h5.chg hc⟩
theorem Xx.put{rb tb:Nat}{T:TypeId}{n:Nat}{w w':World}{x:Rcd}{cs:Array Value}(h1:w.heap[tb]?=some (.cells cs T (0,0)))(h:Xx rb tb T n w x){o:Nat}(ho:o<n){v:Value}{d:DV}(hc:Chg rb tb w w')(h2:w'.heap[tb]?=some (.cells (cs.setIfInBounds o v) T (0,0)))(hv:Kw rb tb w' v d):Xx rb tb T n w' (upd x o d):=by
 obtain⟨cs',h1',h2',h3⟩:=h;rw[h1]at h1'
 cases h1'
 refine⟨_,h2,by simpa using h2',λ i hi=>?_⟩
 by_cases e:i=o
 ·subst e
  exact⟨v,by rw[Array.getElem?_setIfInBounds_self_of_lt (by omega)],by rw[Qa7];exact hv⟩
 ·obtain⟨u,h4,h5⟩:=h3 i hi
  exact⟨u,by rw[Array.getElem?_setIfInBounds_ne (λ e2=>e e2.symm)];exact h4,by rw[Qhs e];exact h5.chg hc⟩
def QuH(tb:Nat)(T:TypeId)(n:Nat)(w:World):Prop:=∃cs,w.heap[tb]?=some (.cells cs T (0,0))/\cs.size=n
theorem Xx.thAt{rb tb:Nat}{T:TypeId}{n:Nat}{w:World}{x:Rcd}(h:Xx rb tb T n w x):QuH tb T n w:=by obtain⟨cs,h1,h2,_⟩:=h;exact⟨cs,h1,h2⟩
def QiF(res:Except Flt (Rcd × Nat))(rb tb:Nat)(T:TypeId)(n:Nat)(s:ByteArray)(w:World)(e:Ending)(w':World):Prop:=
 Chg rb tb w w'/\match res with
  | .ok x=>e=.returned (.tuple #[])/\RdB w' rb s x.2 10240/\x.2<=s.size/\Xx rb tb T n w' x.1
  | .error f=>∃fb,e=.panicked (Qcp fb)/\Qd5 w' fb f.1 f.2/\QuH tb T n w'
theorem Qka{x:Rcd × Nat}{rb tb:Nat}{T:TypeId}{n:Nat}{s:ByteArray}{w w':World}{e:Ending}(h:QiF (.ok x) rb tb T n s w e w'):e=.returned (.tuple #[])/\RdB w' rb s x.2 10240/\x.2<=s.size/\Xx rb tb T n w' x.1/\Chg rb tb w w':=⟨h.2.1,h.2.2.1,h.2.2.2.1,h.2.2.2.2,h.1⟩
theorem Qh8{f:Flt}{rb tb:Nat}{T:TypeId}{n:Nat}{s:ByteArray}{w w':World}{e:Ending}(h:QiF (.error f) rb tb T n s w e w'):∃fb,e=.panicked (Qcp fb)/\Qd5 w' fb f.1 f.2/\Chg rb tb w w':=by obtain⟨h1,fb,h2,h3,h4⟩:=h;exact⟨fb,h2,h3,h1⟩
theorem QjR{f:Flt}{rb tb:Nat}{T:TypeId}{n:Nat}{s:ByteArray}{w w':World}{e:Ending}(h:QiF (.error f) rb tb T n s w e w'):QuH tb T n w':=by obtain⟨h1,fb,h2,h3,h4⟩:=h;exact h4
def Qfn(x0:Rcd)(g:Zv)(x:Rcd):Prop:=∀i,i ∈ g.offs->x i=x0 i
theorem Qaz.chg{B:Nat}{w w':World}{qb rb tb:Nat}{s:ByteArray}{a a':Nat}(h:Qaz B w qb rb s a)(hc:Chg rb tb w w')(hqt:qb≠tb)(hBt:B<=tb)(hr:RdB w' rb s a' 10240)(ha:a'<=s.size):Qaz B w' qb rb s a':=by
 refine⟨(hc.block _ (lt_of_block h.q) h.ne hqt).trans h.q,hr,?_,h.bq,h.br,h.ne,ha,h.sz⟩;have key:∀g l,Qbp B w g l->Qbp B w' g l:=λ g l ⟨t,tq,rc,h1,h2,h3,h4,h5⟩=>by
  have e:∀b,b<B->w'.heap[b]?=w.heap[b]?:=λ b hb=>hc.block b (by omega) (by have:=h.br;omega) (by omega);refine⟨t,tq,rc,h1,h2,Nat.le_trans h3 hc.size,by rw[World.cell?_of_block (w:=w) (e g h1)];exact h4,λ i hi=>?_⟩;obtain⟨b,off,e2,hr⟩:=h5 i hi
  cases e2
  have e3:∀q,w'.cell? ⟨t,q,none⟩=w.cell? ⟨t,q,none⟩:=λ q=>World.cell?_of_block (w:=w) (e t h2);obtain⟨c0,c1,c2,c3⟩:=hr;exact⟨t,tq,rfl,by constructor <;> (rw[e3];assumption)⟩
 exact⟨key _ _ h.tabs.nums,h.tabs.lists.imp key,key _ _ h.tabs.bins,key _ _ h.tabs.strs,key _ _ h.tabs.pairs⟩
structure Qmj(B qb rb tb:Nat)(x0:Rcd)(T:TypeId)(n:Nat)(s:ByteArray)(W0:World)(v:Zu)(g:Zv):Prop where
 key:v.key=g.key
 must:v.must=g.must
 ee:∀args w,(callFunc v.ef args).run Tryz.prog w=.ok (.enter v.ef args) w
 eg:∀args w,(callFunc v.gf args).run Tryz.prog w=.ok (.enter v.gf args) w
 empty:∀w x,Chg rb tb W0 w->Xx rb tb T n w x->Kd x0 x->Calls Tryz.prog v.ef v.ec w λ e w'=>e=.returned (.bool (g.empty x))/\Below w.heap.size w w'
 read:∀w x a,Chg rb tb W0 w->Xx rb tb T n w x->Qaz B w qb rb s a->Qfn x0 g x->Kd x0 x->Calls Tryz.prog v.gf (#[.pointer (some ⟨qb,0,none⟩)]++v.gc) w (QiF (g.read x a) rb tb T n s w)
theorem Qmj.later{B qb rb tb:Nat}{x0:Rcd}{T:TypeId}{n:Nat}{s:ByteArray}{W0 W1:World}{v:Zu}{g:Zv}(h:Qmj B qb rb tb x0 T n s W0 v g)(hk:Chg rb tb W0 W1):Qmj B qb rb tb x0 T n s W1 v g:=
 ⟨h.key,h.must,h.ee,h.eg,λ w x hw=>h.empty w x (hk.trans hw),λ w x a hw=>h.read w x a (hk.trans hw)⟩
def QnS(B qb rb tb:Nat)(x0:Rcd)(T:TypeId)(n:Nat)(s:ByteArray)(W0:World)(l:List Zu)(gs:List Zv):Prop:=len gs=len l/\∀i,i<len l->Qmj B qb rb tb x0 T n s W0 (fth l i) (gth gs i)
theorem Kb{row:Option Nat}{w w1:World}(h:Xe row w.drew w1):Xe row w w1:=Q7 _ _ _ _ (QdK (Zy (Below.refl _ _))) h
theorem Vn{P:Program}{o:Oper}{a:Act}{w:World}{f:FuncId}{args:Array Value}{R:Value->World->Prop}{K:Act->World->Prop}{Q:Exit->Act->World->Prop}(h:(execOp a.eval o).run P w=.ok (.enter f args) w)
  (hc:Calls P f args w (λ e w'=>∃v,e=.returned v/\R v w')) (hK:∀v w',R v w'->K (a.put o.dst v) w'):o.wp P a w K Q:=by
 unfold Oper.wp;rw[h];exact hc.mono λ e w' ⟨v,he,hR⟩=>by subst he;exact hK v w' hR
theorem Qii{P:Program}{o:Oper}{a:Act}{w:World}{f:FuncId}{args:Array Value}{R:Nat->World->Prop}{K:Act->World->Prop}{Q:Exit->Act->World->Prop}(h:(execOp a.eval o).run P w=.ok (.enter f args) w)
  (hc:Calls P f args w (λ e w'=>∃fb,e=.panicked (Qcp fb)/\R fb w')) (hK:∀fb w',R fb w'->Q (.panic (Qcp fb)) a w'):o.wp P a w K Q:=by
 unfold Oper.wp;rw[h];exact hc.mono λ e w' ⟨v,he,hR⟩=>by subst he;exact hK v w' hR
theorem Qqk(B qb rb tb o bx:Nat)(T:TypeId)(n:Nat)(s key:ByteArray)(a:Nat)(x:Rcd)(w:World)(h1:w.heap[bx]?=some (.cells #[.pointer (some ⟨tb,o,none⟩)] 185 (0,0)))(hbr:bx≠rb)(htr:tb≠rb)(ho:o<n)
  (hx:Xx rb tb T n w x) (h:Qaz B w qb rb s a):Calls Tryz.prog 206 #[.pointer (some ⟨qb,0,none⟩),.pointer (some ⟨bx,0,none⟩)] w (QiF ((QbM s key o).read x a) rb tb T n s w):=by
 have H:=QLh h;have HX:=QLh hx;have hqr:=h.ne;have c0:w.cell? ⟨qb,0,none⟩=some (.pointer (some ⟨rb,0,none⟩)):=Qa h.q 0;have c1:w.cell? ⟨bx,0,none⟩=some (.pointer (some ⟨tb,o,none⟩)):=Qa h1 0;clear h1 hx h
 cases hr:tkR 0 s a with
 | error f=>
  have HR:Hid ((QbM s key o).read x a=.error f):=QLh (by simp only[QbM,Qpj,hr]);have HN:Hid (∀w',Below w.heap.size w w'->Calls Tryz.prog 208 #[.pointer (some ⟨rb,0,none⟩)] w' (λ e w2=>∃u,e=.returned u/\((∃fb,u=.tuple #[.int .u64 0,.iface 290 (.pointer (some ⟨fb,0,none⟩))]/\Qd5 w2 fb f.1 f.2/\fb≠rb)/\Xe (some rb) w' w2))):=QLh (λ w' hb=>(Qrt w' B qb rb s a (H.out.below hb)).mono λ e w2 hh=>by rw[hr]at hh;obtain⟨fb,h1,h2,h3,h4⟩:=QdV hh;exact⟨_,h1,⟨fb,rfl,h2,by have:=lt_of_block H.out.r;have:=hb.size;omega⟩,h3⟩);clear hr
  go_enter Tryz.func206,Tryz.ntmps206
  refine Qp 10 5 (some rb) (Kx [λ u _=>u=(.pointer (some ⟨tb,o,none⟩)),λ u _=>u=(.pointer (some ⟨qb,0,none⟩)),λ u _=>u=(.pointer (some ⟨qb,0,none⟩)),λ u _=>u=(.pointer (some ⟨qb,0,none⟩)),λ u _=>u=(.pointer (some ⟨rb,0,none⟩)),λ u w'=>∃fb,u=.tuple #[.int .u64 0,.iface 290 (.pointer (some ⟨fb,0,none⟩))]/\Qd5 w' fb f.1 f.2/\fb≠rb,λ u _=>u=(.int .u64 0),λ u w'=>∃fb,u=.iface 290 (.pointer (some ⟨fb,0,none⟩))/\Qd5 w' fb f.1 f.2/\fb≠rb,λ _ _=>False,λ u _=>u=(.pointer (some ⟨tb,o,none⟩))]) rfl (by kernel_rfl) (by kernel_rfl) (Q9 ⟨Qd,Qd,Qd,Qd,Qd,?m5,Qd,?m7,Qd,Qd,trivial⟩) (Q6 10 ⟨?s0,?s1,?s2,?s3,?s4,?s5,?s6,?s7,?s8,?s9,trivial⟩) ?_
  case m5=>exact⟨λ u w1 w2 h ⟨fb,h1,h2,h3⟩=>⟨fb,h1,h2.below h,h3⟩,λ hn=>absurd rfl hn⟩
  case m7=>exact⟨λ u w1 w2 h ⟨fb,h1,h2,h3⟩=>⟨fb,h1,h2.below h,h3⟩,λ _ u w1 w2 h ⟨fb,h1,h2,h3⟩=>⟨fb,h1,Qw h (λ e=>h3 (Option.some.inj e)) h2,h3⟩⟩
  case s0=>refine qV (λ _=>rfl) rfl λ av wv hE hO hD=>?_;simp[go_sem,qF av 1 (.pointer (some ⟨bx,0,none⟩)) (hO.2.2 1 rfl),Qb hE (λ e=>hbr (Option.some.inj e)) c1,Qb hE (λ e=>hqr (Option.some.inj e)) c0]
  case s1=>refine qV (λ _=>rfl) rfl λ av wv hE hO hD=>?_;simp[go_sem,qF av 0 (.pointer (some ⟨qb,0,none⟩)) (hO.2.2 0 rfl)]
  case s2=>refine qV (λ _=>rfl) rfl λ av wv hE hO hD=>?_;simp[go_sem,qE (hD.1 rfl _ rfl)]
  case s3=>refine qV (λ _=>rfl) rfl λ av wv hE hO hD=>?_;simp[go_sem,qE (hD.1 rfl _ rfl)]
  case s4=>refine qV (λ _=>rfl) rfl λ av wv hE hO hD=>?_;simp[go_sem,qE (hD.1 rfl _ rfl),Qb hE (λ e=>hbr (Option.some.inj e)) c1,Qb hE (λ e=>hqr (Option.some.inj e)) c0]
  case s5=>refine Qu (λ av wv hE hS hO hD=>⟨rfl,?_⟩);have f7:=qE (hD.1 rfl _ rfl);refine Vn (f:=208) (args:=#[.pointer (some ⟨rb,0,none⟩)]) (by simp[go_sem,f7]) (HN.out wv (Qj (Zy (Below.refl _ _)) (hS rfl))) (λ u w2 ⟨h1,h3⟩=>⟨u,rfl,QcH h3,h1⟩)
  case s6=>refine Qu (λ av wv hE hS hO hD=>⟨rfl,?_⟩);have d8:(λ u w'=>∃fb,u=.tuple #[.int .u64 0,.iface 290 (.pointer (some ⟨fb,0,none⟩))]/\Qd5 w' fb f.1 f.2/\fb≠rb) (av.eval (.tmp 8)) wv:=hD.1 rfl _ rfl;obtain⟨fb,hu8,-,-⟩:=d8;have f8:=(Xd av 8).symm.trans hu8;exact Zn (v:=.int .u64 0) (by simp[go_sem,f8]) ⟨_,rfl,Qo (Zj _),rfl⟩
  case s7=>refine Qu (λ av wv hE hS hO hD=>⟨rfl,?_⟩);have d8:(λ u w'=>∃fb,u=.tuple #[.int .u64 0,.iface 290 (.pointer (some ⟨fb,0,none⟩))]/\Qd5 w' fb f.1 f.2/\fb≠rb) (av.eval (.tmp 8)) wv:=hD.1 rfl _ rfl;obtain⟨fb,hu8,hf8,hn8⟩:=d8;have f8:=(Xd av 8).symm.trans hu8;exact Zn (v:=.iface 290 (.pointer (some ⟨fb,0,none⟩))) (by simp[go_sem,f8]) ⟨_,rfl,Qo (Zj _),fb,rfl,hf8,hn8⟩
  case s8=>refine Qu (λ av wv hE hS hO hD=>⟨rfl,?_⟩);have f9:=qE (hD.1 rfl _ rfl);have d10:(λ u w'=>∃fb,u=.iface 290 (.pointer (some ⟨fb,0,none⟩))/\Qd5 w' fb f.1 f.2/\fb≠rb) (av.eval (.tmp 10)) wv:=hD.2.1 rfl _ rfl;obtain⟨fb,hu10,hf,hn8⟩:=d10;have f10:=(Xd av 10).symm.trans hu10;refine Qe1 (chain:=Qcp fb) (by simp[go_sem,f9,f10]) ((Qpf 0 fb wv).mono (λ e w2 ⟨h1,h2⟩=>⟨h1,by rw[h2];exact Below.refl _ _⟩)) (λ w2 hb=>?_);exact⟨hO.1,by rw[HR.out];exact⟨(Chg.of_ext (Kb hE)).next hb,fb,rfl,hf.below hb,((HX.out.ext (Kb hE) htr).below hb).thAt⟩⟩
  case s9=>refine qV (λ _=>rfl) rfl λ av wv hE hO hD=>?_;simp[go_sem,qE (hD.1 rfl _ rfl)]
  intro a' w' hE hO hall;have hA:=Qn (ds:=[3,4,5,6,7,8,9,10,11,12]) rfl hO (by kernel_rfl);obtain⟨j0,j1,j2,j3,j4,j5,j6,j7,j8,j9,-⟩:=hall;have e8:(λ u w'=>∃fb,u=.tuple #[.int .u64 0,.iface 290 (.pointer (some ⟨fb,0,none⟩))]/\Qd5 w' fb f.1 f.2/\fb≠rb) (a'.eval (.tmp 8)) w':=j5 _ rfl;have e10:(λ u w'=>∃fb,u=.iface 290 (.pointer (some ⟨fb,0,none⟩))/\Qd5 w' fb f.1 f.2/\fb≠rb) (a'.eval (.tmp 10)) w':=j7 _ rfl;have e11:(λ _ _=>False) (a'.eval (.tmp 11)) w':=j8 _ rfl;obtain⟨v8,hv8⟩:∃v,a'.eval (.tmp 8)=v:=⟨_,rfl⟩;rw[hv8]at e8;obtain⟨v10,hv10⟩:∃v,a'.eval (.tmp 10)=v:=⟨_,rfl⟩;rw[hv10]at e10;obtain⟨v11,hv11⟩:∃v,a'.eval (.tmp 11)=v:=⟨_,rfl⟩;rw[hv11]at e11;simp only[List.foldl_cons,List.foldl_nil,Act.put,List.setIfInBounds_toArray,List.set_cons_succ,List.set_cons_zero,qJ 3 (j0 _ rfl),qJ 4 (j1 _ rfl),qJ 5 (j2 _ rfl),qJ 6 (j3 _ rfl),qJ 7 (j4 _ rfl),hv8,qJ 9 (j6 _ rfl),hv10,hv11,qJ 12 (j9 _ rfl)]at hA;clear hO j5 j7 j8 j0 j1 j2 j3 j4 hv8 j6 hv10 hv11 j9;subst hA;exact e11.elim
 | ok y=>
  have HR:Hid ((QbM s key o).read x a=.ok (upd x o (.num y.1),y.2.2)):=QLh (by simp only[QbM,Qpj,hr]);have HN:Hid (∀w',Below w.heap.size w w'->Calls Tryz.prog 208 #[.pointer (some ⟨rb,0,none⟩)] w' (λ e w2=>∃u,e=.returned u/\(u=.tuple #[.int .u64 y.1,.nilIface]/\RdB w2 rb s y.2.2 10240/\Xe (some rb) w' w2))):=QLh (λ w' hb=>(Qrt w' B qb rb s a (H.out.below hb)).mono λ e w2 hh=>by rw[hr]at hh;obtain⟨h1,h2,h3⟩:=Qgq hh;exact⟨_,h1,rfl,h2,h3⟩);have hle:y.2.2<=s.size:=(Qd2 (by decide) hr).1;clear hr
  go_enter Tryz.func206,Tryz.ntmps206
  refine Qp 10 5 (some rb) (Kx [λ u _=>u=(.pointer (some ⟨tb,o,none⟩)),λ u _=>u=(.pointer (some ⟨qb,0,none⟩)),λ u _=>u=(.pointer (some ⟨qb,0,none⟩)),λ u _=>u=(.pointer (some ⟨qb,0,none⟩)),λ u _=>u=(.pointer (some ⟨rb,0,none⟩)),λ u w'=>u=.tuple #[.int .u64 y.1,.nilIface]/\RdB w' rb s y.2.2 10240,λ u _=>u=(.int .u64 y.1),λ u _=>u=(.nilIface),λ u _=>u=(.int .u64 y.1),λ u _=>u=(.pointer (some ⟨tb,o,none⟩))]) rfl (by kernel_rfl) (by kernel_rfl) (Q9 ⟨Qd,Qd,Qd,Qd,Qd,?m5,Qd,Qd,Qd,Qd,trivial⟩) (Q6 10 ⟨?s0,?s1,?s2,?s3,?s4,?s5,?s6,?s7,?s8,?s9,trivial⟩) ?_
  case m5=>exact⟨λ u w1 w2 h ⟨h1,h2⟩=>⟨h1,h2.below h⟩,λ hn=>absurd rfl hn⟩
  case s0=>refine qV (λ _=>rfl) rfl λ av wv hE hO hD=>?_;simp[go_sem,qF av 1 (.pointer (some ⟨bx,0,none⟩)) (hO.2.2 1 rfl),Qb hE (λ e=>hbr (Option.some.inj e)) c1,Qb hE (λ e=>hqr (Option.some.inj e)) c0]
  case s1=>refine qV (λ _=>rfl) rfl λ av wv hE hO hD=>?_;simp[go_sem,qF av 0 (.pointer (some ⟨qb,0,none⟩)) (hO.2.2 0 rfl)]
  case s2=>refine qV (λ _=>rfl) rfl λ av wv hE hO hD=>?_;simp[go_sem,qE (hD.1 rfl _ rfl)]
  case s3=>refine qV (λ _=>rfl) rfl λ av wv hE hO hD=>?_;simp[go_sem,qE (hD.1 rfl _ rfl)]
  case s4=>refine qV (λ _=>rfl) rfl λ av wv hE hO hD=>?_;simp[go_sem,qE (hD.1 rfl _ rfl),Qb hE (λ e=>hbr (Option.some.inj e)) c1,Qb hE (λ e=>hqr (Option.some.inj e)) c0]
  case s5=>refine Qu (λ av wv hE hS hO hD=>⟨rfl,?_⟩);have f7:=qE (hD.1 rfl _ rfl);refine Vn (f:=208) (args:=#[.pointer (some ⟨rb,0,none⟩)]) (by simp[go_sem,f7]) (HN.out wv (Qj (Zy (Below.refl _ _)) (hS rfl))) (λ u w2 ⟨h1,h2,h3⟩=>⟨u,rfl,QcH h3,h1,h2⟩)
  case s6=>refine Qu (λ av wv hE hS hO hD=>⟨rfl,?_⟩);have d8:(λ u w'=>u=.tuple #[.int .u64 y.1,.nilIface]/\RdB w' rb s y.2.2 10240) (av.eval (.tmp 8)) wv:=hD.1 rfl _ rfl;have f8:=(Xd av 8).symm.trans d8.1;exact Zn (v:=.int .u64 y.1) (by simp[go_sem,f8]) ⟨_,rfl,Qo (Zj _),rfl⟩
  case s7=>refine Qu (λ av wv hE hS hO hD=>⟨rfl,?_⟩);have d8:(λ u w'=>u=.tuple #[.int .u64 y.1,.nilIface]/\RdB w' rb s y.2.2 10240) (av.eval (.tmp 8)) wv:=hD.1 rfl _ rfl;have f8:=(Xd av 8).symm.trans d8.1;exact Zn (v:=.nilIface) (by simp[go_sem,f8]) ⟨_,rfl,Qo (Zj _),rfl⟩
  case s8=>refine Qu (λ av wv hE hS hO hD=>⟨rfl,?_⟩);have f9:=qE (hD.1 rfl _ rfl);have f10:=qE (hD.2.1 rfl _ rfl);refine Zb (v:=.int .u64 y.1) (by simp[go_sem,f9,f10]) ((Qmt y.1 wv).mono (λ e w2 ⟨h1,h2⟩=>⟨h1,by rw[h2];exact Below.refl _ _⟩)) (λ w2 hb=>⟨_,rfl,Qo hb,rfl⟩)
  case s9=>refine qV (λ _=>rfl) rfl λ av wv hE hO hD=>?_;simp[go_sem,qE (hD.1 rfl _ rfl)]
  intro a' w' hE hO hall;have hA:=Qn (ds:=[3,4,5,6,7,8,9,10,11,12]) rfl hO (by kernel_rfl);obtain⟨j0,j1,j2,j3,j4,j5,j6,j7,j8,j9,-⟩:=hall;have e8:(λ u w'=>u=.tuple #[.int .u64 y.1,.nilIface]/\RdB w' rb s y.2.2 10240) (a'.eval (.tmp 8)) w':=j5 _ rfl;obtain⟨v8,hv8⟩:∃v,a'.eval (.tmp 8)=v:=⟨_,rfl⟩;rw[hv8]at e8;simp only[List.foldl_cons,List.foldl_nil,Act.put,List.setIfInBounds_toArray,List.set_cons_succ,List.set_cons_zero,qJ 3 (j0 _ rfl),qJ 4 (j1 _ rfl),qJ 5 (j2 _ rfl),qJ 6 (j3 _ rfl),qJ 7 (j4 _ rfl),hv8,qJ 9 (j6 _ rfl),qJ 10 (j7 _ rfl),qJ 11 (j8 _ rfl),qJ 12 (j9 _ rfl)]at hA;clear hO j5 j0 j1 j2 j3 j4 hv8 j6 j7 j8 j9;subst hA;have HRD:=QLh e8.2;have hX2:=HX.out.ext (Kb hE) htr;obtain⟨u,hu,-⟩:=hX2.get ho;have hfz:=hX2.free o;have HX2:=QLh hX2;have HE:=QLh (Kb hE);have e81:=e8.1;clear hE hX2 e8;subst e81;go_wp2
  go_end0
  rw[HR.out];exact⟨(Chg.of_ext HE.out).set o _,rfl,Qh HRD.out (by exact λ e=>htr e.symm) _,hle,HX2.out.set ho rfl⟩
theorem QrU{s:ByteArray}{a:Nat}{y:ByteArray × Nat}(h:Qhf s a=.ok y):y.2<=s.size:=by
 unfold Qhf at h
 split at h
 ·cases h
 ·next x hx=>
  split at h
  ·cases h;exact(Qd2 (by decide) hx).1
  ·cases h
theorem QiM(B qb rb tb o bx:Nat)(T:TypeId)(n:Nat)(s key:ByteArray)(a:Nat)(x:Rcd)(w:World)(h1:w.heap[bx]?=some (.cells #[.pointer (some ⟨tb,o,none⟩)] 187 (0,0)))(hbr:bx≠rb)(htr:tb≠rb)(ho:o<n)
  (hx:Xx rb tb T n w x) (h:Qaz B w qb rb s a):Calls Tryz.prog 213 #[.pointer (some ⟨qb,0,none⟩),.pointer (some ⟨bx,0,none⟩)] w (QiF ((Qax s key o).read x a) rb tb T n s w):=by
 have H:=QLh h;have HX:=QLh hx;have hqr:=h.ne;have c0:w.cell? ⟨qb,0,none⟩=some (.pointer (some ⟨rb,0,none⟩)):=Qa h.q 0;have c1:w.cell? ⟨bx,0,none⟩=some (.pointer (some ⟨tb,o,none⟩)):=Qa h1 0;clear h1 hx h
 cases hr:Qhf s a with
 | error f=>
  have HR:Hid ((Qax s key o).read x a=.error f):=QLh (by simp only[Qax,hr]);have HN:Hid (∀w',Below w.heap.size w w'->Calls Tryz.prog 214 #[.pointer (some ⟨qb,0,none⟩)] w' (λ e w2=>∃fb,e=.panicked (Qcp fb)/\(Qd5 w2 fb f.1 f.2/\Xe (some rb) w' w2))):=QLh (λ w' hb=>(QfP B qb rb s a w' (H.out.below hb)).mono λ e w2 hh=>by rw[hr]at hh;obtain⟨fb,h1,h2,h3⟩:=QsM hh;exact⟨fb,h1,h2,h3⟩);clear hr
  go_enter Tryz.func213,Tryz.ntmps213
  refine Qp 4 2 (some rb) (Kx [λ u _=>u=(.pointer (some ⟨tb,o,none⟩)),λ u _=>u=(.pointer (some ⟨qb,0,none⟩)),λ _ _=>False,λ u _=>u=(.pointer (some ⟨tb,o,none⟩))]) rfl (by kernel_rfl) (by kernel_rfl) (Q9 ⟨Qd,Qd,Qd,Qd,trivial⟩) (Q6 4 ⟨?s0,?s1,?s2,?s3,trivial⟩) ?_
  case s0=>refine qV (λ _=>rfl) rfl λ av wv hE hO hD=>?_;simp[go_sem,qF av 1 (.pointer (some ⟨bx,0,none⟩)) (hO.2.2 1 rfl),Qb hE (λ e=>hbr (Option.some.inj e)) c1,Qb hE (λ e=>hqr (Option.some.inj e)) c0]
  case s1=>refine qV (λ _=>rfl) rfl λ av wv hE hO hD=>?_;simp[go_sem,qF av 0 (.pointer (some ⟨qb,0,none⟩)) (hO.2.2 0 rfl)]
  case s2=>refine Qu (λ av wv hE hS hO hD=>⟨rfl,?_⟩);have f4:=qE (hD.1 rfl _ rfl);refine Qii (f:=214) (args:=#[.pointer (some ⟨qb,0,none⟩)]) (by simp[go_sem,f4]) (HN.out wv (Qj (Zy (Below.refl _ _)) (hS rfl))) (λ fb w2 ⟨hf,hE2⟩=>?_);exact⟨hO.1,by rw[HR.out];exact⟨(Chg.of_ext (Kb hE)).ext hE2,fb,rfl,hf,((HX.out.ext (Kb hE) htr).ext hE2 htr).thAt⟩⟩
  case s3=>refine qV (λ _=>rfl) rfl λ av wv hE hO hD=>?_;simp[go_sem,qE (hD.1 rfl _ rfl)]
  intro a' w' hE hO hall;have hA:=Qn (ds:=[3,4,5,6]) rfl hO (by kernel_rfl);obtain⟨j0,j1,j2,j3,-⟩:=hall;have e5:(λ _ _=>False) (a'.eval (.tmp 5)) w':=j2 _ rfl;obtain⟨v5,hv5⟩:∃v,a'.eval (.tmp 5)=v:=⟨_,rfl⟩;rw[hv5]at e5;simp only[List.foldl_cons,List.foldl_nil,Act.put,List.setIfInBounds_toArray,List.set_cons_succ,List.set_cons_zero,qJ 3 (j0 _ rfl),qJ 4 (j1 _ rfl),hv5,qJ 6 (j3 _ rfl)]at hA;clear hO j2 j0 j1 hv5 j3;subst hA;exact e5.elim
 | ok y=>
  have HR:Hid ((Qax s key o).read x a=.ok (upd x o (.str y.1),y.2)):=QLh (by simp only[Qax,hr]);have HN:Hid (∀w',Below w.heap.size w w'->Calls Tryz.prog 214 #[.pointer (some ⟨qb,0,none⟩)] w' (λ e w2=>∃u,e=.returned u/\(u=.string y.1/\RdB w2 rb s y.2 10240/\Xe (some rb) w' w2))):=QLh (λ w' hb=>(QfP B qb rb s a w' (H.out.below hb)).mono λ e w2 hh=>by rw[hr]at hh;obtain⟨h1,h2,h4,h3⟩:=QtT hh;exact⟨_,h1,rfl,h2,h3⟩);have hle:y.2<=s.size:=QrU hr;clear hr
  go_enter Tryz.func213,Tryz.ntmps213
  refine Qp 4 2 (some rb) (Kx [λ u _=>u=(.pointer (some ⟨tb,o,none⟩)),λ u _=>u=(.pointer (some ⟨qb,0,none⟩)),λ u w'=>u=.string y.1/\RdB w' rb s y.2 10240,λ u _=>u=(.pointer (some ⟨tb,o,none⟩))]) rfl (by kernel_rfl) (by kernel_rfl) (Q9 ⟨Qd,Qd,?m2,Qd,trivial⟩) (Q6 4 ⟨?s0,?s1,?s2,?s3,trivial⟩) ?_
  case m2=>exact⟨λ u w1 w2 h ⟨h1,h2⟩=>⟨h1,h2.below h⟩,λ hn=>absurd rfl hn⟩
  case s0=>refine qV (λ _=>rfl) rfl λ av wv hE hO hD=>?_;simp[go_sem,qF av 1 (.pointer (some ⟨bx,0,none⟩)) (hO.2.2 1 rfl),Qb hE (λ e=>hbr (Option.some.inj e)) c1,Qb hE (λ e=>hqr (Option.some.inj e)) c0]
  case s1=>refine qV (λ _=>rfl) rfl λ av wv hE hO hD=>?_;simp[go_sem,qF av 0 (.pointer (some ⟨qb,0,none⟩)) (hO.2.2 0 rfl)]
  case s2=>refine Qu (λ av wv hE hS hO hD=>⟨rfl,?_⟩);have f4:=qE (hD.1 rfl _ rfl);refine Vn (f:=214) (args:=#[.pointer (some ⟨qb,0,none⟩)]) (by simp[go_sem,f4]) (HN.out wv (Qj (Zy (Below.refl _ _)) (hS rfl))) (λ u w2 ⟨h1,h2,h3⟩=>⟨u,rfl,QcH h3,h1,h2⟩)
  case s3=>refine qV (λ _=>rfl) rfl λ av wv hE hO hD=>?_;simp[go_sem,qE (hD.1 rfl _ rfl)]
  intro a' w' hE hO hall;have hA:=Qn (ds:=[3,4,5,6]) rfl hO (by kernel_rfl);obtain⟨j0,j1,j2,j3,-⟩:=hall;have e5:(λ u w'=>u=.string y.1/\RdB w' rb s y.2 10240) (a'.eval (.tmp 5)) w':=j2 _ rfl;obtain⟨v5,hv5⟩:∃v,a'.eval (.tmp 5)=v:=⟨_,rfl⟩;rw[hv5]at e5;simp only[List.foldl_cons,List.foldl_nil,Act.put,List.setIfInBounds_toArray,List.set_cons_succ,List.set_cons_zero,qJ 3 (j0 _ rfl),qJ 4 (j1 _ rfl),hv5,qJ 6 (j3 _ rfl)]at hA;clear hO j2 j0 j1 hv5 j3;subst hA;have HRD:=QLh e5.2;have hX2:=HX.out.ext (Kb hE) htr;obtain⟨u,hu,-⟩:=hX2.get ho;have hfz:=hX2.free o;have HX2:=QLh hX2;have HE:=QLh (Kb hE);have e51:=e5.1;clear hE hX2 e5;subst e51;go_wp2
  go_end0
  rw[HR.out];exact⟨(Chg.of_ext HE.out).set o _,rfl,Qh HRD.out (by exact λ e=>htr e.symm) _,hle,HX2.out.set ho rfl⟩
end Go.Proofs.YtpobhbdomldecaaGreatDoor
namespace Go.Proofs
open Go.Shelf
def Tryz.lays169_ren:Go.Shelf.Ren:=⟨λ | 169=>146 | n=>n,λ | 70=>170 | 9=>9 | 0=>0 | 72=>172 | 37=>41 | 127=>229 | 3=>3 | 5=>5 | n=>n,λ | n=>n⟩
theorem Tryz.lays169:Go.Proofs.Lays.n169 Tryz.prog Tryz.lays169_ren:={
 mixed:=by kernel_rfl
 f169:=Tryz.func146.trans (congrArg some (by kernel_rfl))
 t0:=Tryz.underlying0
 a0:=Tryz.isAgg0
 z0:=Tryz.sizeOf0
 v0:=Tryz.zeroValue0
 t3:=Tryz.underlying3
 a3:=Tryz.isAgg3
 z3:=Tryz.sizeOf3
 v3:=Tryz.zeroValue3
 t9:=Tryz.underlying9
 a9:=Tryz.isAgg9
 z9:=Tryz.sizeOf9
 v9:=Tryz.zeroValue9
 t37:=Tryz.underlying41
 a37:=Tryz.isAgg41
 z37:=Tryz.sizeOf41
 v37:=Tryz.zeroValue41
 t70:=Tryz.underlying170
 a70:=Tryz.isAgg170
 z70:=Tryz.sizeOf170
 v70:=Tryz.zeroValue170
 t72:=Tryz.underlying172
 a72:=Tryz.isAgg172
 z72:=Tryz.sizeOf172
 v72:=Tryz.zeroValue172
 t127:=Tryz.underlying229
 a127:=Tryz.isAgg229
 z127:=Tryz.sizeOf229
 v127:=Tryz.zeroValue229 }
theorem Tryz.Builder_Extra_169:Builder.Extra Tryz.prog Tryz.lays169_ren:={
 sizeBuilder:=by kernel_rfl
 liesBuilder:=by kernel_rfl
 t5:=Tryz.underlying5
 a5:=Tryz.isAgg5
 z5:=Tryz.sizeOf5
 v5:=Tryz.zeroValue5
 infoByte:=by kernel_rfl
 cellsByte:=by kernel_rfl
 sizeByte:=by kernel_rfl
 neB5:=by decide }
open Go.RowKit in
theorem Tryz.Builder_String_any(B b:Nat)(l:List UInt8)(w:World)(h:Lib.IsBuilder 172 5 B b (Lib.byteCells l) w)(hBw:B<=w.heap.size):
  Calls Tryz.prog 146 #[.pointer (some ⟨b,0,none⟩)] w λ e w'=>e=.returned (.string ⟨l.toArray⟩)/\Below B w w':=Any.Builder_String_any Tryz.lays169 Tryz.Builder_Extra_169 B b l w h hBw
def Tryz.lays125_ren:Go.Shelf.Ren:=⟨λ | 125=>153 | 128=>215 | 129=>216 | n=>n,λ | 46=>61 | 3=>3 | 51=>221 | 53=>23 | 4=>4 | 5=>5 | 9=>9 | n=>n,λ | n=>n⟩
theorem Tryz.lays125:Go.Proofs.Lays.n125 Tryz.prog Tryz.lays125_ren:={
 mixed:=by kernel_rfl
 f125:=Tryz.func153.trans (congrArg some (by kernel_rfl))
 f128:=Tryz.func215.trans (congrArg some (by kernel_rfl))
 f129:=Tryz.func216.trans (congrArg some (by kernel_rfl))
 t3:=Tryz.underlying3
 a3:=Tryz.isAgg3
 z3:=Tryz.sizeOf3
 v3:=Tryz.zeroValue3
 t4:=Tryz.underlying4
 a4:=Tryz.isAgg4
 z4:=Tryz.sizeOf4
 v4:=Tryz.zeroValue4
 t5:=Tryz.underlying5
 a5:=Tryz.isAgg5
 z5:=Tryz.sizeOf5
 v5:=Tryz.zeroValue5
 t9:=Tryz.underlying9
 a9:=Tryz.isAgg9
 z9:=Tryz.sizeOf9
 v9:=Tryz.zeroValue9
 t46:=Tryz.underlying61
 a46:=Tryz.isAgg61
 z46:=Tryz.sizeOf61
 v46:=Tryz.zeroValue61
 t51:=Tryz.underlying221
 a51:=Tryz.isAgg221
 z51:=Tryz.sizeOf221
 v51:=Tryz.zeroValue221
 t53:=Tryz.underlying23
 a53:=Tryz.isAgg23
 z53:=Tryz.sizeOf23
 v53:=Tryz.zeroValue23 }
theorem Tryz.bits_Len(x:Int)(w:World)(h0:0<=x)(h1:x<=18446744073709551615):
  Calls Tryz.prog 153 #[.int .u64 x] w λ e w'=>e=.returned (.int .i64 (Lib.bitLen x.toNat))/\w'=w:=Any.bits_Len Tryz.lays125 x w h0 h1
end Go.Proofs
namespace Go.Proofs.YtpobhbdomldecaaGreatDoor
open Go.RowKit
theorem Qu1(w:World)(B k:Nat)(v:Value):Xe (some B) w (w.setCell ⟨B,k,none⟩ v):=⟨rfl,rfl,rfl,by simp[World.setCell],λ i hi hn=>Below.heap_setCell _ _ _ _ (λ e=>hn (by rw[e]))⟩
theorem Qh2(w:World)(B n cap:Nat)(h:∀j,j<n->∃v,w.cell? ⟨B,j,none⟩=some (.int .u8 v)):∃t:ByteArray,t.size=n/\(convert 41 9 (.slice (some ⟨B,0,none⟩) n cap)).run Tryz.prog w=.ok (.string t) w:=by
 have h':∀j,∃v,j<n->w.cell? ⟨B,j,none⟩=some (.int .u8 v):=λ j=>by
  by_cases hj:j<n
  ·obtain⟨v,hv⟩:=h j hj;exact⟨v,λ _=>hv⟩
  ·exact⟨0,λ h=>absurd h hj⟩
 let f:Nat->Int:=λ j=>Classical.choose (h' j)
 have hf:∀j,j<n->w.cell? ⟨B,j,none⟩=some (.int .u8 (f j)):=λ j=>Classical.choose_spec (h' j);refine⟨strOfNums ((List.range n).map f),by rw[strOfNums_size];simp,?_⟩;exact run_convert_bytes_arg (P:=Tryz.prog) w 41 5 Tryz.underlying41 Tryz.underlying5 B 0 n cap ((List.range n).map f) (by simp) (λ i hi=>by
  rw[Nat.zero_add,hf i hi];simp[hi]) 9 Tryz.underlying9
theorem Qio(w:World)(e:TypeId)(s:ByteArray):Below w.heap.size w (Lib.bytesWorld w e s):=by have h:Below w.heap.size w (w.drew.alloc (.cells (Lib.bytesCells w e s) e)):=((Below.refl _ _).drew).alloc (by simp) _;exact⟨h.os,h.tape,h.output,by rw[Lib.bytesWorld_size];omega,λ i hi=>Lib.bytesWorld_at_old _ _ _ _ hi⟩
theorem Y6(n:Int)(k:Nat):(baL ((hiL n k).map toB)).size=k:=by rw[Vc,List.length_map,Vg]
theorem QdP(n:Int)(w:World)(h0:0<=n)(h1:n<=255):Calls Tryz.prog 289 #[.int .u64 n] w λ e w'=>e=.returned (.string (baL [toB n]))/\Below w.heap.size w w':=by
 have y0:IntKind.u8.wrap n=n:=IntWalk.u8_in _ (by omega);have y1:n % 256=n:=by omega
 have hc:(convert 41 9 (.slice (some ⟨w.heap.size,0,none⟩) 1 1)).run Tryz.prog (w.alloc (.cells #[.int .u8 n] 5))=.ok (.string (baL [toB n])) (w.alloc (.cells #[.int .u8 n] 5)):=
  run_convert_bytes_arg (P:=Tryz.prog) _ 41 5 Tryz.underlying41 Tryz.underlying5 w.heap.size 0 1 1 [n] rfl (λ i hi=>by
   obtain rfl:i=0:=by omega
   exact Qa (heap_alloc_new _ _) 0) 9 Tryz.underlying9
 go_enter Tryz.func289,Tryz.ntmps289
 go_wp2;go_ret;exact⟨rfl,by(repeat (first | exact Below.refl _ _ | assumption | (refine Zy ?_) | (refine Zg ?_ _) | (refine Qf ?_ _) | (refine Ji ?_ (by first | omega | (simp;done) | (simp;omega)) _) | (refine Qj ?_ (by assumption))))⟩
theorem Jv(n:Int)(k:Nat)(w:World)(hk:k<=8)(h0:0<=n)(h1:n<=18446744073709551615):Calls Tryz.prog 290 #[.int .u64 n,.int .i64 k] w λ e w'=>e=.returned (.string (baL ((hiL n k).map toB)))/\Below w.heap.size w w':=by
 go_enter Tryz.func290,Tryz.ntmps290
 go_wp2
 go_loopg [0,5,6] k (λ g nn s i wr=>∃j:Nat,∃N:Int,∃b:ByteArray,g+j=k/\nn=.int .u64 N/\s=.string b/\i=.int .i64 j/\Hid (N=n / 256 ^ j/\0<=N/\N<=18446744073709551615)/\Hid (b=baL ((hiL n j).map toB))/\Hid (Below w.heap.size w wr))
 case atStart=>exact⟨0,n,_,rfl,rfl,rfl,rfl,⟨by simp,h0,h1⟩,rfl,Below.refl _ _⟩
 case round=>
  obtain⟨j,N,b,hj,rfl,rfl,rfl,HN,HS,HB⟩:=hrel
  by_cases hlt:j<k
  ·have i1:(j:Int)<k:=by omega
   have hn0:=HN.out.2.1;have hn1:=HN.out.2.2;obtain⟨x,hx⟩:∃x,N % 256=x:=⟨_,rfl⟩;have hx0:0<=x/\x<=255:=by omega
   have y0:N.tmod 256=x:=by rw[Int.tmod_eq_emod_of_nonneg hn0];exact hx
   have y1:IntKind.u8.wrap x=x:=IntWalk.u8_in _ (by omega);have y2:N.tdiv 256=N / 256:=Int.tdiv_eq_ediv_of_nonneg hn0;have y3:x % 256=x:=by omega
   obtain⟨M,hM⟩:∃M,N / 256=M:=⟨_,rfl⟩;have hM0:0<=M/\M<=18446744073709551615:=by omega
   have HM:Hid (M=n / 256 ^ (j+1)):=QLh (by
    have hp:(0:Int)<256 ^ j:=Int.pow_pos (by decide);rw[<-hM,HN.out.1,Int.pow_succ,Int.ediv_ediv,if_neg (by omega),Int.sub_zero])
   have HX:Hid (baL ((hiL n (j+1)).map toB)=baL [toB x]++b):=QLh (by
    rw[hiL,List.map_cons,HS.out,<-QiI,<-HN.out.1,hx];rfl)
   have hbs:b.size=j:=by rw[HS.out,Y6]
   have hbz:(baL [toB x]).size=1:=rfl;have hc:=run_convert_bytes_arg (P:=Tryz.prog) (wr.alloc (.cells #[.int .u8 x] 5)) 41 5 Tryz.underlying41 Tryz.underlying5 wr.heap.size 0 1 1 [x] rfl (λ i hi=>by
    obtain rfl:i=0:=by omega
    exact Qa (heap_alloc_new _ _) 0) 9 Tryz.underlying9
   rw[show strOfNums [x]=baL [toB x]from rfl]at hc;have HBB:Hid (Below w.heap.size w (wr.alloc (.cells #[.int .u8 x] 5))):=QLh (Qf HB.out _);obtain⟨z,hz⟩:∃z,baL [toB x]=z:=⟨_,rfl⟩;rw[hz]at hc hbz HX;rw[hM]at y2;clear hz HN HS;go_wp2
   go_roundg (k - (j+1))
   case rel=>exact⟨j+1,M,z++b,by omega,by first | rfl | simp[hM],rfl,by go_num,⟨HM.out,hM0⟩,HX.out.symm,HBB.out⟩
   case measure=>omega
  ·obtain rfl:j=k:=by omega
   have i1:¬(j:Int)<j:=by omega
   go_wp2;go_ret;exact⟨by rw[HS.out];rfl,HB.out⟩
theorem QmI(n:Int)(w:World)(h0:0<=n)(h1:n<=18446744073709551615):Calls Tryz.prog 255 #[.int .u64 n] w λ e w'=>e=.returned (.string (baL (Xs 0 n)))/\Below w.heap.size w w':=by
 have EQ:=QLh (Qn4 n)
 by_cases c1:n<128
 ·have EQ:Hid (Xs 0 n=[toB n]):=QLh (by rw[EQ.out,if_pos c1])
  go_enter Tryz.func255,Tryz.ntmps255
  go_wp2_with fail;refine(QdP (n) w (by omega) (by omega)).mono ?_;rintro e w1 ⟨rfl,hb⟩;have HB:=QLh hb;clear hb;go_wp2;go_ret;exact⟨congrArg (λ s=>Ending.returned (.string s)) (Jc (by rw[EQ.out])),HB.out⟩
 by_cases c2:n<256
 ·have EQ:Hid (Xs 0 n=toB 204 :: (hiL n 1).map toB):=QLh (by rw[EQ.out,if_neg c1,if_pos c2])
  go_enter Tryz.func255,Tryz.ntmps255
  have zz:=Y6 n 1;go_wp2_with fail;refine(Jv n 1 w (by decide) h0 h1).mono ?_;rintro e w1 ⟨rfl,hb⟩;have HB:=QLh hb;clear hb;go_wp2;go_ret;exact⟨congrArg (λ s=>Ending.returned (.string s)) (Jc (by rw[EQ.out];simp[baL];rfl)),HB.out⟩
 by_cases c3:n<65536
 ·have EQ:Hid (Xs 0 n=toB 205 :: (hiL n 2).map toB):=QLh (by rw[EQ.out,if_neg c1,if_neg c2,if_pos c3])
  go_enter Tryz.func255,Tryz.ntmps255
  have zz:=Y6 n 2;go_wp2_with fail;refine(Jv n 2 w (by decide) h0 h1).mono ?_;rintro e w1 ⟨rfl,hb⟩;have HB:=QLh hb;clear hb;go_wp2;go_ret;exact⟨congrArg (λ s=>Ending.returned (.string s)) (Jc (by rw[EQ.out];simp[baL];rfl)),HB.out⟩
 by_cases c4:n<4294967296
 ·have EQ:Hid (Xs 0 n=toB 206 :: (hiL n 4).map toB):=QLh (by rw[EQ.out,if_neg c1,if_neg c2,if_neg c3,if_pos c4])
  go_enter Tryz.func255,Tryz.ntmps255
  have zz:=Y6 n 4;go_wp2_with fail;refine(Jv n 4 w (by decide) h0 h1).mono ?_;rintro e w1 ⟨rfl,hb⟩;have HB:=QLh hb;clear hb;go_wp2;go_ret;exact⟨congrArg (λ s=>Ending.returned (.string s)) (Jc (by rw[EQ.out];simp[baL];rfl)),HB.out⟩
 have EQ:Hid (Xs 0 n=toB 207 :: (hiL n 8).map toB):=QLh (by rw[EQ.out,if_neg c1,if_neg c2,if_neg c3,if_neg c4])
 go_enter Tryz.func255,Tryz.ntmps255
 have zz:=Y6 n 8;go_wp2_with fail;refine(Jv n 8 w (by decide) h0 h1).mono ?_;rintro e w1 ⟨rfl,hb⟩;have HB:=QLh hb;clear hb;go_wp2;go_ret;exact⟨congrArg (λ s=>Ending.returned (.string s)) (Jc (by rw[EQ.out];simp[baL];rfl)),HB.out⟩
theorem Qh9(sort:Nat)(n:Int)(w:World)(hs1:1<=sort)(hs5:sort<5)(h0:0<=n)(hn:n<65536):Calls Tryz.prog 256 #[.int .i64 sort,.int .u64 n] w λ e w'=>e=.returned (.string (baL (Xs sort n)))/\Below w.heap.size w w':=by
 have h1:n<=18446744073709551615:=by omega
 have hs:sort=1 \/ sort=2 \/ sort=3 \/ sort=4:=by omega
 rcases hs with rfl | rfl | rfl | rfl
 ·have EQ:=QLh (QmA hn)
  by_cases c1:n<256
  ·have EQ:Hid (Xs 1 n=toB 196 :: (hiL n 1).map toB):=QLh (by rw[EQ.out,if_pos c1])
   show Calls Tryz.prog 256 #[.int .i64 1,.int .u64 n] w _
   go_enter Tryz.func256,Tryz.ntmps256
   have zz:=Y6 n 1;go_wp2_with fail;refine(Jv n 1 w (by decide) h0 h1).mono ?_;rintro e w1 ⟨rfl,hb⟩;have HB:=QLh hb;clear hb;go_wp2;go_ret;exact⟨congrArg (λ s=>Ending.returned (.string s)) (Jc (by rw[EQ.out];simp[baL];rfl)),HB.out⟩
  have EQ:Hid (Xs 1 n=toB 197 :: (hiL n 2).map toB):=QLh (by rw[EQ.out,if_neg c1]);show Calls Tryz.prog 256 #[.int .i64 1,.int .u64 n] w _
  go_enter Tryz.func256,Tryz.ntmps256
  have zz:=Y6 n 2;go_wp2_with fail;refine(Jv n 2 w (by decide) h0 h1).mono ?_;rintro e w1 ⟨rfl,hb⟩;have HB:=QLh hb;clear hb;go_wp2;go_ret;exact⟨congrArg (λ s=>Ending.returned (.string s)) (Jc (by rw[EQ.out];simp[baL];rfl)),HB.out⟩
 ·have EQ:=QLh (Qob hn)
  by_cases c1:n<32
  ·have EQ:Hid (Xs 2 n=[toB (160+n)]):=QLh (by rw[EQ.out,if_pos c1])
   show Calls Tryz.prog 256 #[.int .i64 2,.int .u64 n] w _
   go_enter Tryz.func256,Tryz.ntmps256
   go_wp2_with fail;refine(QdP (160+n) w (by omega) (by omega)).mono ?_;rintro e w1 ⟨rfl,hb⟩;have HB:=QLh hb;clear hb;go_wp2;go_ret;exact⟨congrArg (λ s=>Ending.returned (.string s)) (Jc (by rw[EQ.out])),HB.out⟩
  by_cases c2:n<256
  ·have EQ:Hid (Xs 2 n=toB 217 :: (hiL n 1).map toB):=QLh (by rw[EQ.out,if_neg c1,if_pos c2])
   show Calls Tryz.prog 256 #[.int .i64 2,.int .u64 n] w _
   go_enter Tryz.func256,Tryz.ntmps256
   have zz:=Y6 n 1;go_wp2_with fail;refine(Jv n 1 w (by decide) h0 h1).mono ?_;rintro e w1 ⟨rfl,hb⟩;have HB:=QLh hb;clear hb;go_wp2;go_ret;exact⟨congrArg (λ s=>Ending.returned (.string s)) (Jc (by rw[EQ.out];simp[baL];rfl)),HB.out⟩
  have EQ:Hid (Xs 2 n=toB 218 :: (hiL n 2).map toB):=QLh (by rw[EQ.out,if_neg c1,if_neg c2]);show Calls Tryz.prog 256 #[.int .i64 2,.int .u64 n] w _
  go_enter Tryz.func256,Tryz.ntmps256
  have zz:=Y6 n 2;go_wp2_with fail;refine(Jv n 2 w (by decide) h0 h1).mono ?_;rintro e w1 ⟨rfl,hb⟩;have HB:=QLh hb;clear hb;go_wp2;go_ret;exact⟨congrArg (λ s=>Ending.returned (.string s)) (Jc (by rw[EQ.out];simp[baL];rfl)),HB.out⟩
 ·have EQ:=QLh (Qn2 hn)
  by_cases c1:n<16
  ·have EQ:Hid (Xs 3 n=[toB (144+n)]):=QLh (by rw[EQ.out,if_pos c1])
   show Calls Tryz.prog 256 #[.int .i64 3,.int .u64 n] w _
   go_enter Tryz.func256,Tryz.ntmps256
   go_wp2_with fail;refine(QdP (144+n) w (by omega) (by omega)).mono ?_;rintro e w1 ⟨rfl,hb⟩;have HB:=QLh hb;clear hb;go_wp2;go_ret;exact⟨congrArg (λ s=>Ending.returned (.string s)) (Jc (by rw[EQ.out])),HB.out⟩
  have EQ:Hid (Xs 3 n=toB 220 :: (hiL n 2).map toB):=QLh (by rw[EQ.out,if_neg c1]);show Calls Tryz.prog 256 #[.int .i64 3,.int .u64 n] w _
  go_enter Tryz.func256,Tryz.ntmps256
  have zz:=Y6 n 2;go_wp2_with fail;refine(Jv n 2 w (by decide) h0 h1).mono ?_;rintro e w1 ⟨rfl,hb⟩;have HB:=QLh hb;clear hb;go_wp2;go_ret;exact⟨congrArg (λ s=>Ending.returned (.string s)) (Jc (by rw[EQ.out];simp[baL];rfl)),HB.out⟩
 ·have EQ:=QLh (QmL hn)
  by_cases c1:n<16
  ·have EQ:Hid (Xs 4 n=[toB (128+n)]):=QLh (by rw[EQ.out,if_pos c1])
   show Calls Tryz.prog 256 #[.int .i64 4,.int .u64 n] w _
   go_enter Tryz.func256,Tryz.ntmps256
   go_wp2_with fail;refine(QdP (128+n) w (by omega) (by omega)).mono ?_;rintro e w1 ⟨rfl,hb⟩;have HB:=QLh hb;clear hb;go_wp2;go_ret;exact⟨congrArg (λ s=>Ending.returned (.string s)) (Jc (by rw[EQ.out])),HB.out⟩
  have EQ:Hid (Xs 4 n=toB 222 :: (hiL n 2).map toB):=QLh (by rw[EQ.out,if_neg c1]);show Calls Tryz.prog 256 #[.int .i64 4,.int .u64 n] w _
  go_enter Tryz.func256,Tryz.ntmps256
  have zz:=Y6 n 2;go_wp2_with fail;refine(Jv n 2 w (by decide) h0 h1).mono ?_;rintro e w1 ⟨rfl,hb⟩;have HB:=QLh hb;clear hb;go_wp2;go_ret;exact⟨congrArg (λ s=>Ending.returned (.string s)) (Jc (by rw[EQ.out];simp[baL];rfl)),HB.out⟩
def Qst(b:ByteArray)(w:World)(e:Ending)(w':World):Prop:=e=.returned (.tuple #[.string b,.int .i64 0])/\Below w.heap.size w w'
theorem Qiu(n:Int)(t:ByteArray)(w:World)(h0:0<=n)(h1:n<=18446744073709551615):Calls Tryz.prog 185 #[.int .i64 0,.int .u64 n,.string t] w (Qst (Qef n) w):=by
 have H:=QLh (QmI n w h0 h1);have e:Qef n=baL (Xs 0 n):=by unfold Qef Yy;exact Jc (by simp)
 rw[e];clear e
 go_enter Tryz.func185,Tryz.ntmps185
 go_wp2_with fail;refine H.out.mono ?_;rintro e w1 ⟨rfl,hb⟩;have HB:=QLh hb;clear hb;go_wp2
 go_ret2
 exact⟨rfl,HB.out⟩
theorem QcD(sort:Nat)(n:Int)(t:ByteArray)(w:World)(hs:sort=1 \/ sort=2)(ht:t.size<65536):Calls Tryz.prog 185 #[.int .i64 sort,.int .u64 n,.string t] w (Qst (Yy sort t.size t) w):=by
 have H:=QLh (Qh9 sort t.size w (by omega) (by omega) (by omega) (by omega));have e:Yy sort t.size t=baL (Xs sort t.size)++t:=by unfold Yy;rw[if_pos hs]
 rw[e];have hl:=Qc9 sort t.size;have hz:(baL (Xs sort t.size)).size<=9:=by rw[Vc];exact hl
 have hw:IntKind.u64.wrap (t.size:Int)=t.size:=IntWalk.u64_in _ (by omega);obtain⟨z,hzz⟩:∃z,baL (Xs sort t.size)=z:=⟨_,rfl⟩;rw[hzz]at H hz ⊢;have hd:decide ((65536:Int)<=(t.size:Int))=false:=decide_eq_false (by omega);have hi:(t.size:Int)<=70000:=by omega
 clear e hl hzz ht
 rcases hs with rfl | rfl
 ·show Calls Tryz.prog 185 #[.int .i64 1,.int .u64 n,.string t] w _
  go_enter Tryz.func185,Tryz.ntmps185
  go_wp2_with fail;refine H.out.mono ?_;rintro e w1 ⟨rfl,hb⟩;have HB:=QLh hb;clear hb;go_wp2
  go_ret2
  exact⟨rfl,HB.out⟩
 ·show Calls Tryz.prog 185 #[.int .i64 2,.int .u64 n,.string t] w _
  go_enter Tryz.func185,Tryz.ntmps185
  go_wp2_with fail;refine H.out.mono ?_;rintro e w1 ⟨rfl,hb⟩;have HB:=QLh hb;clear hb;go_wp2
  go_ret2
  exact⟨rfl,HB.out⟩
theorem QgQ(sort n:Nat)(t:ByteArray)(w:World)(hs:sort=3 \/ sort=4)(hn:n<65536):Calls Tryz.prog 185 #[.int .i64 sort,.int .u64 n,.string t] w (Qst (Yy sort n ByteArray.empty) w):=by
 have H:=QLh (Qh9 sort n w (by omega) (by omega) (by omega) (by omega));have e:Yy sort n ByteArray.empty=baL (Xs sort n):=by unfold Yy;rw[if_neg (by omega)];exact Jc (by simp)
 rw[e];have hw:IntKind.i64.wrap (n:Int)=n:=IntWalk.i64_in _ (by omega);have hd:decide ((65536:Int)<=(n:Int))=false:=decide_eq_false (by omega);clear e hn
 rcases hs with rfl | rfl
 ·show Calls Tryz.prog 185 #[.int .i64 3,.int .u64 n,.string t] w _
  go_enter Tryz.func185,Tryz.ntmps185
  go_wp2_with fail;refine H.out.mono ?_;rintro e w1 ⟨rfl,hb⟩;have HB:=QLh hb;clear hb;go_wp2
  go_ret2
  exact⟨rfl,HB.out⟩
 ·show Calls Tryz.prog 185 #[.int .i64 4,.int .u64 n,.string t] w _
  go_enter Tryz.func185,Tryz.ntmps185
  go_wp2_with fail;refine H.out.mono ?_;rintro e w1 ⟨rfl,hb⟩;have HB:=QLh hb;clear hb;go_wp2
  go_ret2
  exact⟨rfl,HB.out⟩
theorem QqG{B:Nat}{W0 w:World}{l:List Zu}{fs:List Xb}(h:QiQ B W0 l fs)(hk:Yk B W0 w):QlM w l 196 #[] (λ i=>!(Qbs fs i).may):=by
 refine⟨enters_of Tryz.func196 (by kernel_rfl) rfl,λ i hi w' hb=>?_⟩;show Calls Tryz.prog 196 (#[(fth l i).val]++#[]) w' (λ e w''=>e=.returned (.bool (!(Qbs fs i).may))/\Below w'.heap.size w' w'');have hs:=h.2 i hi;generalize fth l i=v at hs;generalize Qbs fs i=f at hs;have em:=hs.em;have HM:Hid (∀x,Below w'.heap.size w' x->Calls Tryz.prog v.mf v.mc x λ e w'=>e=.returned (.bool f.may)/\Below x.heap.size x w'):=QLh (λ x hx=>hs.may x ((hk.next hb).next hx));clear hs;show Calls Tryz.prog 196 #[v.val] w' _;unfold Zu.val
 go_enter Tryz.func196,Tryz.ntmps196
 go_wp2_with fail;refine(HM.out _ (Qf (Below.refl _ _) _)).mono ?_;rintro e w1 ⟨rfl,hb1⟩;have HB1:Hid (Below w'.heap.size w' w1):=QLh (Qj (Qf (Below.refl _ _) _) hb1);clear hb1;go_wp2;go_ret;exact⟨rfl,HB1.out⟩
theorem QkE{B:Nat}{W0 w:World}{l:List Zu}{fs:List Xb}(h:QiQ B W0 l fs)(hk:Yk B W0 w):QlM w l 199 #[] (λ i=>(Qbs fs i).empty):=by
 refine⟨enters_of Tryz.func199 (by kernel_rfl) rfl,λ i hi w' hb=>?_⟩;show Calls Tryz.prog 199 (#[(fth l i).val]++#[]) w' (λ e w''=>e=.returned (.bool ((Qbs fs i).empty))/\Below w'.heap.size w' w'');have hs:=h.2 i hi;generalize fth l i=v at hs;generalize Qbs fs i=f at hs;have ee:=hs.ee;have HM:Hid (∀x,Below w'.heap.size w' x->Calls Tryz.prog v.ef v.ec x λ e w'=>e=.returned (.bool f.empty)/\Below x.heap.size x w'):=QLh (λ x hx=>hs.empty x ((hk.next hb).next hx));clear hs;show Calls Tryz.prog 199 #[v.val] w' _;unfold Zu.val
 go_enter Tryz.func199,Tryz.ntmps199
 go_wp2_with fail;refine(HM.out _ (Qf (Below.refl _ _) _)).mono ?_;rintro e w1 ⟨rfl,hb1⟩;have HB1:Hid (Below w'.heap.size w' w1):=QLh (Qj (Qf (Below.refl _ _) _) hb1);clear hb1;go_wp2;go_ret;exact⟨rfl,HB1.out⟩
theorem Qmf(fs:List Xb)(n:Nat)(h:len fs=n):(Jn fs=false ↔ ∃i,i<n/\(!(Qbs fs i).may)=true):=by
 unfold Jn;subst h;rw[List.all_eq_false]
 constructor
 ·rintro⟨x,hx,hm⟩
  obtain⟨i,hi,rfl⟩:=List.getElem_of_mem hx;exact⟨i,hi,by rw[U7 fs i hi];simpa using hm⟩
 ·rintro⟨i,hi,hm⟩
  have hi':i<fs.length:=hi;exact⟨fs[i],List.getElem_mem _,by rw[U7 fs i hi']at hm;simpa using hm⟩
theorem QrV(B:Nat)(W0:World)(a:Option Addr)(c:Nat)(l:List Zu)(fs:List Xb)(w:World)(hl:Qa6 w a l)(hn:len l<=1000)(hS:QiQ B W0 l fs)(hk:Yk B W0 w):
  Calls Tryz.prog 147 #[.slice a (len l) c] w λ e w'=>e=.returned (.bool (Jn fs))/\Below w.heap.size w w':=by
 have H:=QLh (Qcj a c l 196 #[] _ w hl hn (QqG hS hk));have HI:=QLh (Qmf fs (len l) hS.1);clear hl hS hk
 go_enter Tryz.func147,Tryz.ntmps147
 go_wp2_with fail;refine H.out.mono ?_;rintro e w1 ⟨b,rfl,hb1,hb⟩;have HB:=QLh hb;have HE:Hid ((!b)=Jn fs):=QLh (by
  have h:=HI.out
  cases b with
  | true=>rw[h.2 (hb1.1 rfl)];rfl
  | false=>
   cases hm:Jn fs with
   | true=>rfl
   | false=>exact absurd (hb1.2 (h.1 hm)) (by decide))
 clear hb hb1;go_wp2;go_ret;exact⟨Xv HE.out,HB.out⟩
theorem QkT:(Tryz.prog.info? 183).map (λ i=>(i.zero,i.size,i.bytes))=some (some (.agg #[.string ByteArray.empty,.bool false,.nilFunc,.nilFunc,.nilFunc,.nilFunc]),6,56):=by kernel_rfl
theorem Qny{w:World}{b off:Nat}{l:List Zu}(h:Qa6 w (some ⟨b,off,none⟩) l):∀j u,(l.flatMap Zu.cells)[j]?=some u->w.cell? ((⟨b,off,none⟩:Addr).add j)=some u:=by
 intro j u hu;have hj:j<(l.flatMap Zu.cells).length:=(List.getElem?_eq_some_iff.1 hu).1;rw[Yr Zu.cells 6 Zu.cells_len]at hj;have hi:j / 6<l.length:=by omega
 have e:=V9 Zu.cells 6 Zu.cells_len l (j / 6) (j % 6) hi (by omega);rw[show j / 6 * 6+j % 6=j by omega]at e;rw[e]at hu;obtain⟨b',off',e2,c0,c1,c2,c3,c4,c5⟩:=h (j / 6) hi
 cases e2
 rw[Kv l _ hi]at c0 c1 c2 c3 c4 c5;have ha:(⟨b,off,none⟩:Addr).add j=⟨b,off+j,none⟩:=by
  unfold Addr.add;split
  ·rename_i h0;subst h0;rfl
  ·rfl
 rw[ha];have hr:j % 6=0 \/ j % 6=1 \/ j % 6=2 \/ j % 6=3 \/ j % 6=4 \/ j % 6=5:=by omega
 have hq:off+j=off+j / 6 * 6+j % 6:=by omega
 rw[hq]
 rcases hr with h0 | h0 | h0 | h0 | h0 | h0 <;> rw[h0]at hu ⊢
 ·rw[Nat.add_zero,c0];exact hu
 ·rw[c1];exact hu
 ·rw[c2];exact hu
 ·rw[c3];exact hu
 ·rw[c4];exact hu
 ·rw[c5];exact hu
theorem Qp9(l:List Zu):∀u ∈ l.flatMap Zu.cells,u.oneCell'=true:=by intro u hu;obtain⟨v,_,hv⟩:=List.mem_flatMap.1 hu;exact v.cells_one u hv
theorem QoZ(b off c:Nat)(l:List Zu)(w:World)(hl:Qa6 w (some ⟨b,off,none⟩) l)(hn:len l<=1000):
  Calls Tryz.prog 198 #[.slice (some ⟨b,off,none⟩) (len l) c] w λ e w'=>∃v,e=.returned v/\w'.ownsRow w.heap.size 183 6 v (len l) (l.flatMap Zu.cells)/\Below w.heap.size w w':=by
 have HL:=QLh hl;obtain⟨i0,hi,hz0,hz1,hz2⟩:=info_parts QkT;have HZ:=QLh hz0;have E0:Hid ((w.alloc (.cells #[] 183)).ownsRow w.heap.size 183 6 (.slice (some ⟨w.heap.size,0,none⟩) 0 0) 0 []):=QLh (World.ownsRow_lit w #[] 0 (Nat.le_refl _) (Nat.zero_le _) rfl);have heq:∀W,(binOp .eql 111 (.slice (some ⟨b,off,none⟩) (len l) c) (.slice none 0 0)).run Tryz.prog W=.ok (.bool false) W:=λ W=>Lib.run_eql_slice_nil W 111 183 (some ⟨b,off,none⟩) (len l) c 0 0 Tryz.underlying111;clear hl hz0
 go_enter Tryz.func198,Tryz.ntmps198
 go_wp2_with (at_builtin;refine wpList_append_own _ rfl _ _ 111 rfl w.heap.size 183 i0 (.agg #[.string ByteArray.empty,.bool false,.nilFunc,.nilFunc,.nilFunc,.nilFunc]) 6 56 Tryz.underlying111 hi HZ.out hz1 hz2 rfl (by decide) _ 0 [] rfl E0.out ⟨b,off,none⟩ (len l) c (l.flatMap Zu.cells) rfl (Yr Zu.cells 6 Zu.cells_len l) (Qny (HL.out.below (Qf (Below.refl _ _) _))) (Qp9 l) (by unfold maxLen;omega) (by omega) (by simp) ?_)
 intro v' w2 hown hgrow _;have HB:Hid (Below w.heap.size w w2):=QLh (Qq (Qf (Below.refl _ _) _) hgrow (λ k hk=>by simp[Value.ownBlock]at hk;omega));have HO:Hid (w2.ownsRow w.heap.size 183 6 v' (len l) (l.flatMap Zu.cells)):=QLh (by simpa using hown);clear hown hgrow;go_wp2;go_ret;exact⟨_,rfl,HO.out,HB.out⟩
def Qgv(w:World)(g n:Nat)(R:List Zu):Prop:=len R=n/\∃cur,w.heap[g]?=some (.cells cur 183 (0,0))/\n * 6<=cur.size/\∀i,i<n->∀r,r<6->cur[i * 6+r]?=(fth R i).cells[r]?
theorem Qgv.of_own{w:World}{base n:Nat}{v:Value}{l:List Zu}(h:w.ownsRow base 183 6 v n (l.flatMap Zu.cells))(hn:0<n):∃g cap,v=.slice (some ⟨g,0,none⟩) n cap/\base<=g/\n<=cap/\Qgv w g n l:=by
 have hl:len l=n:=by have:=h.1;rw[Yr Zu.cells 6 Zu.cells_len]at this;rw[Qy];omega
 rcases h.2 with⟨_,h0⟩ | ⟨g,cap,cur,rfl,hg,hh,hc1,hc2,hc3,hc4⟩
 ·omega
 ·refine⟨g,cap,rfl,hg,hc1,hl,cur,hh,by omega,λ i hi r hr=>?_⟩
  have hil:i<l.length:=by rw[<-Qy,hl];exact hi
  have e:=V9 Zu.cells 6 Zu.cells_len l i r hil hr;rw[Kv l i hil,<-e,<-hc4,List.getElem?_take,if_pos (by omega)];simp
theorem Qgv.at{w:World}{g n:Nat}{R:List Zu}(h:Qgv w g n R){i:Nat}(hi:i<n):Qf1 w g (i * 6) (fth R i):=by
 obtain⟨_,cur,h1,h2,h3⟩:=h;have key:∀r,r<6->w.cell? ⟨g,i * 6+r,none⟩=(fth R i).cells[r]?:=λ r hr=>by rw[Qa h1];exact h3 i hi r hr
 exact⟨key 0 (by decide),key 1 (by decide),key 2 (by decide),key 3 (by decide),key 4 (by decide),key 5 (by decide)⟩
theorem Qgv.flds{w:World}{g n:Nat}{R:List Zu}(h:Qgv w g n R):Qa6 w (some ⟨g,0,none⟩) R:=λ i hi=>⟨g,0,rfl,by rw[Nat.zero_add];exact h.at (by rw[<-h.1];exact hi)⟩
theorem Qgv.free{w:World}{g n:Nat}{R:List Zu}(h:Qgv w g n R)(o:Nat):w.frozen? ⟨g,o,none⟩=false:=by obtain⟨_,cur,h1,_⟩:=h;exact Qk h1 o
theorem Qgv.keep{w w':World}{g n:Nat}{R:List Zu}(h:Qgv w g n R)(hk:w'.heap[g]?=w.heap[g]?):Qgv w' g n R:=by obtain⟨h0,cur,h1,h2⟩:=h;exact⟨h0,cur,hk.trans h1,h2⟩
theorem Qgv.lt{w:World}{g n:Nat}{R:List Zu}(h:Qgv w g n R):g<w.heap.size:=by obtain⟨_,cur,h1,_⟩:=h;exact lt_of_block h1
def Ya(p:Nat->Bool)(l:List Zu):Nat->List Zu
 | 0=>[]
 | m+1=>if p m then Ya p l m else Ya p l m++[fth l m]
theorem Qn9{p:Nat->Bool}{l:List Zu}{k:Nat}(hk:k<len l)(h:∀i,i<k->p i=false)(hp:p k=true):Ya p l (k+1)=l.take k:=by
 have key:∀m,m<=k->Ya p l m=l.take m:=by
  intro m
  induction m with
  | zero=>intro _;simp[Ya]
  | succ m ih=>
   intro hm;have hm':m<l.length:=by have:k<l.length:=hk;omega
   rw[Ya,h m (by omega),ih (by omega),List.take_succ_eq_append_getElem hm',Kv l m hm'];simp
 rw[Ya,if_pos hp,key k (Nat.le_refl _)]
theorem Qh1(p:Nat->Bool)(l:List Zu):∀m,len (Ya p l m)<=m
 | 0=>Nat.le_refl _
 | m+1=>by
  have:=Qh1 p l m;rw[Ya]
  split
  ·omega
  ·rw[Qy]at this ⊢;simp;omega
theorem QpY{l:List Zu}{k t:Nat}(h:t<k)(hk:k<=len l):fth (l.take k) t=fth l t:=by have hk':k<=l.length:=hk;rw[Kv _ t (by rw[List.length_take];omega),Kv l t (by omega),List.getElem_take]
theorem Qkz{l:List Zu}{v:Zu}{t:Nat}(h:t<len l):fth (l++[v]) t=fth l t:=by have h':t<l.length:=h;rw[Kv _ t (by simp;omega),Kv l t h',List.getElem_append_left h']
theorem QjY(l:List Zu)(v:Zu):fth (l++[v]) (len l)=v:=by rw[Qy,Kv _ l.length (by simp)];simp
theorem QiX{R:List Zu}{q t:Nat}{v:Zu}(hq:q<len R):fth (R.set q v) t=if t=q then v else fth R t:=by
 have hq':q<R.length:=hq
 by_cases e:t=q
 ·subst e;rw[if_pos rfl,Kv _ t (by simpa using hq'),List.getElem_set_self]
 ·rw[if_neg e]
  unfold fth;rw[List.getD_eq_getElem?_getD,List.getD_eq_getElem?_getD,List.getElem?_set_ne (λ e2=>e e2.symm)]
structure Qev(base:Nat)(p:Nat->Bool)(l:List Zu)(w:World)(g m q:Nat)(R:List Zu)(wr:World):Prop where
 cnt:len (Ya p l m)=q
 lt:q<m
 low:∀t,t<q->fth R t=fth (Ya p l m) t
 high:∀t,m<=t->t<len l->fth R t=fth l t
 row:Qgv wr g (len l) R
 bel:Below base w wr
theorem Qev.below{base g m q:Nat}{p:Nat->Bool}{l R:List Zu}{w wr w':World}(h:Qev base p l w g m q R wr)(hb:Below wr.heap.size wr w')(hbw:base<=w.heap.size):Qev base p l w g m q R w':=
 ⟨h.cnt,h.lt,h.low,h.high,h.row.keep (hb.block _ h.row.lt),h.bel.trans (hb.mono (Nat.le_trans hbw h.bel.size))⟩
abbrev Qus(w:World)(g q:Nat)(v:Zu):World:=
 (((((w.setCell ⟨g,q * 6,none⟩ (.string v.key)).setCell ⟨g,q * 6+1,none⟩ (.bool v.must)).setCell ⟨g,q * 6+2,none⟩ (.func (.func v.ef) #[] v.ec)).setCell ⟨g,q * 6+3,none⟩ (.func (.func v.mf) #[] v.mc)).setCell ⟨g,q * 6+4,none⟩ (.func (.func v.pf) #[] v.pc)).setCell ⟨g,q * 6+5,none⟩ (.func (.func v.gf) #[] v.gc)
theorem Qgv.put{w:World}{g n q:Nat}{R:List Zu}(h:Qgv w g n R)(hq:q<n)(v:Zu):Qgv (Qus w g q v) g n (R.set q v):=by
 obtain⟨h0,cur,h1,h2,h3⟩:=h;refine⟨by rw[Qy,List.length_set,<-Qy];exact h0,_,Qc (Qc (Qc (Qc (Qc (Qc h1 _) _) _) _) _) _,by simpa using h2,λ i hi r hr=>?_⟩;rw[QiX (by omega)]
 by_cases e:i=q
 ·subst e
  rw[if_pos rfl];have hs:i * 6+5<cur.size:=by omega
  have hr':r=0 \/ r=1 \/ r=2 \/ r=3 \/ r=4 \/ r=5:=by omega
  rcases hr' with rfl | rfl | rfl | rfl | rfl | rfl
  ·simp only[Nat.add_zero]
   rw[Array.getElem?_setIfInBounds_ne (by omega),Array.getElem?_setIfInBounds_ne (by omega),Array.getElem?_setIfInBounds_ne (by omega),Array.getElem?_setIfInBounds_ne (by omega),Array.getElem?_setIfInBounds_ne (by omega),Array.getElem?_setIfInBounds_self_of_lt (by omega)];rfl
  ·rw[Array.getElem?_setIfInBounds_ne (by omega),Array.getElem?_setIfInBounds_ne (by omega),Array.getElem?_setIfInBounds_ne (by omega),Array.getElem?_setIfInBounds_ne (by omega),Array.getElem?_setIfInBounds_self_of_lt (by simp;omega)];rfl
  ·rw[Array.getElem?_setIfInBounds_ne (by omega),Array.getElem?_setIfInBounds_ne (by omega),Array.getElem?_setIfInBounds_ne (by omega),Array.getElem?_setIfInBounds_self_of_lt (by simp;omega)];rfl
  ·rw[Array.getElem?_setIfInBounds_ne (by omega),Array.getElem?_setIfInBounds_ne (by omega),Array.getElem?_setIfInBounds_self_of_lt (by simp;omega)];rfl
  ·rw[Array.getElem?_setIfInBounds_ne (by omega),Array.getElem?_setIfInBounds_self_of_lt (by simp;omega)];rfl
  ·rw[Array.getElem?_setIfInBounds_self_of_lt (by simp;omega)];rfl
 ·rw[if_neg e,Array.getElem?_setIfInBounds_ne (by omega),Array.getElem?_setIfInBounds_ne (by omega),Array.getElem?_setIfInBounds_ne (by omega),Array.getElem?_setIfInBounds_ne (by omega),Array.getElem?_setIfInBounds_ne (by omega),Array.getElem?_setIfInBounds_ne (by omega)]
  exact h3 i hi r hr
theorem QkW{base g q:Nat}{a w:World}(h:Below base a w)(hg:base<=g)(v:Zu):Below base a (Qus w g q v):=
 (((((h.setCell hg _).setCell hg _).setCell hg _).setCell hg _).setCell hg _).setCell hg _
theorem Qev.put{base g m q:Nat}{p:Nat->Bool}{l R:List Zu}{w wr:World}(h:Qev base p l w g m q R wr)(hm:m<len l)(hp:p m=false)(hg:base<=g):Qev base p l w g (m+1) (q+1) (R.set q (fth l m)) (Qus wr g q (fth l m)):=by
 obtain⟨a1,a2,a3,a4,a5,a6⟩:=h;have hR:=a5.1;have e:Ya p l (m+1)=Ya p l m++[fth l m]:=by rw[Ya,if_neg (by rw[hp];decide)]
 refine⟨by rw[e,<-a1,Qy,Qy];simp,by omega,λ t ht=>?_,λ t h1 h2=>?_,a5.put (by omega) _,QkW a6 hg _⟩
 ·rw[QiX (by omega),e]
  by_cases et:t=q
  ·subst et;rw[if_pos rfl,<-a1,QjY]
  ·rw[if_neg et,Qkz (by omega)];exact a3 t (by omega)
 ·rw[QiX (by omega),if_neg (by omega)];exact a4 t (by omega) h2
theorem QjQ{B b:Nat}{a:World}(hb:B<=b):∀(vs:List Value) (o:Nat) (w:World),Below B a w->Below B a (w.setCells b o vs)
 | [],_,_,h=>h
 | v :: r,o,w,h=>QjQ hb r (o+1) _ (h.setCell hb v)
theorem QkO{b:Nat}{T:TypeId}{fr:Nat × Nat}:∀(vs:List Value) (o:Nat) (w:World) (cur:Array Value),w.heap[b]?=some (.cells cur T fr)->∃cur',(w.setCells b o vs).heap[b]?=some (.cells cur' T fr)
 | [],_,_,cur,h=>⟨cur,h⟩
 | v :: r,o,w,cur,h=>QkO r (o+1) _ _ (Qc h v)
theorem QmO{w:World}{g n q c:Nat}{R:List Zu}(h:Qgv w g n R)(hq:q<n)(ty:TypeId):∃w7,(Builtin.clear_ #[111] ty #[.slice (some ⟨g,q * 6,none⟩) (n - q) c]).run Tryz.prog w=.ok (.tuple #[]) w7/\(∀t,t<q->Qf1 w7 g (t * 6) (fth R t))/\(∀base a,base<=g->Below base a w->Below base a w7)/\∃cur,w7.heap[g]?=some (.cells cur 183 (0,0)):=by
 obtain⟨zs,hzs⟩:∃zs,(Builtin.zeroCells (Value.agg #[.string ⟨#[]⟩,.bool false,.nilFunc,.nilFunc,.nilFunc,.nilFunc]).cells (n - q)).toList=zs:=⟨_,rfl⟩;have hzl:zs.length=(n - q) * 6:=by rw[<-hzs];simp[Builtin.zeroCells,Value.cells]
 have hz1:∀u ∈ zs,u.oneCell'=true:=by
  intro u hu;rw[<-hzs]at hu;simp[Builtin.zeroCells,Value.cells]at hu;obtain⟨i,hi,rfl⟩:=hu;have:i % 6=0 \/ i % 6=1 \/ i % 6=2 \/ i % 6=3 \/ i % 6=4 \/ i % 6=5:=by omega
  rcases this with e | e | e | e | e | e <;> simp[e] <;> rfl
 have hc:∀j,j<zs.length->(w.cell? ⟨g,q * 6+j,none⟩).isSome=true:=λ j hj=>by obtain⟨_,cur,h1,h2,_⟩:=h;rw[Qa h1,Array.getElem?_eq_getElem (by omega)];rfl
 have hst:=run_storeCells_cells (P:=Tryz.prog) g (q * 6) zs 0 w (by simpa using hc) (λ j _=>h.free _) hz1;simp only[Nat.add_zero]at hst;refine⟨w.setCells g (q * 6) zs,?_,λ t ht=>?_,λ base a hb hbel=>QjQ hb zs (q * 6) w hbel,by obtain⟨_,cur,h,_⟩:=h;exact QkO zs (q * 6) w cur h⟩
 ·obtain⟨m,hm⟩:∃m,n - q=m+1:=⟨n - q - 1,by omega⟩
  rw[hm]at hzs ⊢;simp[Builtin.clear_,run_underlying Tryz.underlying111,Tryz.zeroValue183,hzs,hst]
 ·obtain⟨c0,c1,c2,c3,c4,c5⟩:=h.at (i:=t) (by omega)
  have e:∀o,o<q * 6->(w.setCells g (q * 6) zs).cell? ⟨g,o,none⟩=w.cell? ⟨g,o,none⟩:=λ o ho=>World.cell?_setCells_out g zs (q * 6) w ⟨g,o,none⟩ (λ _ _=>.inl ho);exact⟨(e _ (by omega)).trans c0,(e _ (by omega)).trans c1,(e _ (by omega)).trans c2,(e _ (by omega)).trans c3,(e _ (by omega)).trans c4,(e _ (by omega)).trans c5⟩
def Qt6(base:Nat)(p:Nat->Bool)(l:List Zu)(w:World)(e:Ending)(w':World):Prop:=
 ∃g cap,e=.returned (.slice (some ⟨g,0,none⟩) (len (Ya p l (len l))) cap)/\Qa6 w' (some ⟨g,0,none⟩) (Ya p l (len l))/\Below base w w'/\base<=g/\∃cur,w'.heap[g]?=some (.cells cur 183 (0,0))
theorem Qq6(base:Nat)(v:Value)(l:List Zu)(g0:Nat)(lb:Array Value)(p:Nat->Bool)(w:World)(hown:w.ownsRow base 183 6 v (len l) (l.flatMap Zu.cells))(hn:len l<=1000)(h0:0<len l)(hbw:base<=w.heap.size)
  (eg:∀args w',(callFunc g0 args).run Tryz.prog w'=.ok (.enter g0 args) w') (hp:∀i,i<len l->∀w',Below base w w'->Calls Tryz.prog g0 (#[(fth l i).val]++lb) w' λ e w''=>e=.returned (.bool (p i))/\Below w'.heap.size w' w''):
  Calls Tryz.prog 197 #[v,.func (.func g0) #[] lb] w (Qt6 base p l w):=by
 obtain⟨g,cap,rfl,hg,hcap,hrow⟩:=Qgv.of_own hown h0;have HROW:=QLh hrow;have HP:=QLh hp;have HI:=QLh (Qee (some ⟨g,0,none⟩) cap l g0 lb p w hrow.flds hn ⟨eg,λ i hi w' hb=>hp i hi w' (hb.mono hbw)⟩);clear hown hrow hp
 go_enter Tryz.func197,Tryz.ntmps197
 go_wp2_with fail;refine HI.out.mono ?_;rintro e w1 ⟨r,rfl,hr,hb⟩;have HB1:=QLh hb;have HROW1:=QLh (HROW.out.keep (hb.block _ HROW.out.lt));clear hb HROW
 rcases hr with⟨rfl,hall⟩ | ⟨k,hk,rfl,hpk,hlow⟩
 ·have HK:Hid (Ya p l (len l)=l):=QLh (by
   have key:∀m,m<=len l->Ya p l m=l.take m:=by
    intro m
    induction m with
    | zero=>intro _;simp[Ya]
    | succ m ih=>
     intro hm;have hm':m<l.length:=hm;rw[Ya,hall m hm,ih (by omega),List.take_succ_eq_append_getElem hm',Kv l m hm'];simp
   rw[key _ (Nat.le_refl _)];exact Xh l)
  clear hall;go_wp2;go_ret;exact⟨g,cap,by rw[HK.out];rfl,by rw[HK.out];exact HROW1.out.flds,HB1.out.mono hbw,hg,by obtain⟨_,cur,h,_⟩:=HROW1.out;exact⟨cur,h⟩⟩
 ·have HPK:=QLh hpk
  have HLOW:=QLh hlow;clear hpk hlow;go_wp2;have ST:Hid (Qev base p l w g (k+1) k l w1):=QLh (by
   have e:=Qn9 hk HLOW.out HPK.out;have hk':k<l.length:=hk;refine⟨by rw[e,Qy,List.length_take];omega,Nat.lt_succ_self _,λ t ht=>by rw[e,QpY ht (Nat.le_of_lt hk)],λ t _ _=>rfl,HROW1.out,HB1.out.mono hbw⟩)
  clear HROW1 HI HLOW HPK
  go_loopg [5,6] (len l - (k+1)) (λ gg i j wr=>∃m q:Nat,∃R:List Zu,gg+m=len l/\i=.int .i64 q/\j=.int .i64 m/\Hid (Qev base p l w g m q R wr))
  case atStart=>exact⟨k+1,k,l,by omega,rfl,by first | rfl | simp,ST.out⟩
  case round=>
   clear ST;obtain⟨m,q,R,hm,rfl,rfl,HST⟩:=hrel;have hqm:=HST.out.lt
   by_cases hlt:m<len l
   ·have i1:(m:Int)<len l:=by omega
    obtain⟨c0,c1,c2,c3,c4,c5⟩:=HST.out.row.at hlt;rw[HST.out.high m (Nat.le_refl _) hlt]at c0 c1 c2 c3 c4 c5;have hcall:=HP.out m hlt;unfold Zu.val at hcall;obtain⟨v,hv⟩:∃v,fth l m=v:=⟨_,rfl⟩;have HV:=QLh hv;rw[hv]at c0 c1 c2 c3 c4 c5 hcall;have HC:=QLh hcall;clear hcall hv;go_wp2_with fail;refine(HC.out _ (HST.out.bel.trans (Below.mono (Qf (Below.refl _ _) _) (Nat.le_trans hbw HST.out.bel.size)))).mono ?_;rintro e w5 ⟨rfl,hb5⟩;have HST5:Hid (Qev base p l w g m q R w5):=QLh (HST.out.below (Qj (Qf (Below.refl _ _) _) hb5) hbw);have HBX:Hid (w5.heap[wr.heap.size]?=some (.cells #[.string v.key,.bool v.must,.func (.func v.ef) #[] v.ec,.func (.func v.mf) #[] v.mc,.func (.func v.pf) #[] v.pc,.func (.func v.gf) #[] v.gc] 183 (0,0))):=QLh ((hb5.block _ (by simp)).trans (heap_alloc_new _ _));clear hb5 c0 c1 c2 c3 c4 c5 HC HST
    cases hpm:p m with
    | true=>
     have HST6:Hid (Qev base p l w g (m+1) q R w5):=QLh (by
      obtain⟨a1,a2,a3,a4,a5,a6⟩:=HST5.out;have e:Ya p l (m+1)=Ya p l m:=by rw[Ya,if_pos hpm]
      exact⟨by rw[e];exact a1,by omega,λ t ht=>by rw[e];exact a3 t ht,λ t h1 h2=>a4 t (by omega) h2,a5,a6⟩)
     clear hpm HST5 HBX;go_wp2
     go_roundg (len l - (m+1))
     case rel=>exact⟨m+1,q,R,by omega,rfl,by go_num,HST6.out⟩
     case measure=>omega
    | false=>
     have hqn:q<len l:=by omega
     obtain⟨d0,d1,d2,d3,d4,d5⟩:=HST5.out.row.at hqn;have hfr:=HST5.out.row.free;have bx:∀o,w5.cell? ⟨wr.heap.size,o,none⟩=_:=Qa HBX.out;have iq:(q:Int)<len l:=by omega
     have HST6:Hid (Qev base p l w g (m+1) (q+1) (R.set q v) (Qus w5 g q v)):=QLh (by
      rw[<-HV.out];exact HST5.out.put hlt hpm hg)
     clear hpm HST5 HBX;go_wp2_with fail;clear d0 d1 d2 d3 d4 d5 hfr bx
     go_roundg (len l - (m+1))
     case rel=>exact⟨m+1,q+1,R.set q v,by omega,by go_num,by go_num,HST6.out⟩
     case measure=>omega
   ·obtain rfl:m=len l:=by omega
    have i1:¬((len l:Nat):Int)<len l:=by omega
    obtain⟨w7,hcl,hfl,hb7,hc7⟩:=QmO (c:=cap - q) HST.out.row HST.out.lt 0;have HFL:Hid (Qa6 w7 (some ⟨g,0,none⟩) (Ya p l (len l))):=QLh (λ i hi=>⟨g,0,rfl,by
     rw[HST.out.cnt]at hi;rw[Nat.zero_add,<-HST.out.low i hi];exact hfl i hi⟩)
    have HB7:=QLh (hb7 base w hg HST.out.bel);have HC7:=QLh hc7;have HCN:=QLh HST.out.cnt;clear hfl hb7 hc7 HST;go_wp2;go_ret;exact⟨g,cap,by rw[HCN.out];rfl,HFL.out,HB7.out,hg,HC7.out⟩
theorem QnF{l:List Xb}{v:Xb}{t:Nat}(h:t<len l):Qbs (l++[v]) t=Qbs l t:=by have h':t<l.length:=h;rw[U7 _ t (by simp;omega),U7 l t h',List.getElem_append_left h']
theorem Qm0(l:List Xb)(v:Xb):Qbs (l++[v]) (len l)=v:=by rw[Qy,U7 _ l.length (by simp)];simp
theorem Qhm{B:Nat}{W0:World}{l:List Zu}{fs:List Xb}(h:QiQ B W0 l fs)(hm:Jn fs=true):∀m,m<=len l->len (Jo (fs.take m))=len (Ya (λ i=>(Qbs fs i).empty) l m)/\∀t,t<len (Jo (fs.take m))->QkR B W0 (fth (Ya (λ i=>(Qbs fs i).empty) l m) t) (Qbs (Jo (fs.take m)) t)/\(Qbs (Jo (fs.take m)) t).empty=false/\(Qbs (Jo (fs.take m)) t).may=true
 | 0,_=>⟨by simp[Jo,Ya,len],λ t ht=>by simp[Jo,len]at ht⟩
 | m+1,hm1=>by
  obtain⟨ih1,ih2⟩:=Qhm h hm m (by omega);have hfl:m<fs.length:=by have:=h.1;rw[Qy]at this;omega
  have e1:fs.take (m+1)=fs.take m++[Qbs fs m]:=by rw[List.take_succ_eq_append_getElem hfl,U7 fs m hfl]
  have hmay:(Qbs fs m).may=true:=by unfold Jn at hm;rw[List.all_eq_true]at hm;rw[U7 fs m hfl];exact hm _ (List.getElem_mem _)
  cases he:(Qbs fs m).empty with
  | true=>
   have e2:Jo (fs.take (m+1))=Jo (fs.take m):=by rw[e1];unfold Jo;rw[List.filter_append,List.filter_cons_of_neg (by simp[he])];simp
   have e3:Ya (λ i=>(Qbs fs i).empty) l (m+1)=Ya (λ i=>(Qbs fs i).empty) l m:=by rw[Ya,if_pos he]
   rw[e2,e3];exact⟨ih1,ih2⟩
  | false=>
   have e2:Jo (fs.take (m+1))=Jo (fs.take m)++[Qbs fs m]:=by rw[e1];unfold Jo;rw[List.filter_append,List.filter_cons_of_pos (by simp[he])];simp
   have e3:Ya (λ i=>(Qbs fs i).empty) l (m+1)=Ya (λ i=>(Qbs fs i).empty) l m++[fth l m]:=by rw[Ya,if_neg (by simp[he])]
   rw[e2,e3];have hl2:len (Jo (fs.take m)++[Qbs fs m])=len (Jo (fs.take m))+1:=by simp[len]
   refine⟨by rw[hl2,ih1];simp[len],λ t ht=>?_⟩;rw[hl2]at ht
   by_cases et:t<len (Jo (fs.take m))
   ·rw[Qkz (by rw[<-ih1];exact et),QnF et];exact ih2 t et
   ·obtain rfl:t=len (Jo (fs.take m)):=by omega
    rw[Qm0];refine⟨?_,he,hmay⟩;rw[ih1,QjY];exact h.2 m (by omega)
theorem Qoc{L:List ByteArray}{t:Nat}(h:t<L.length):(Qag (L.take t)).size+L[t].size<=(Qag L).size:=by
 have e:Qag L=Qag (L.take t)++(L[t]++Qag (L.drop (t+1))):=by
  conv=>lhs;rw[<-List.take_append_drop t L,List.drop_eq_getElem_cons h]
  rw[QdS,Qag]
 rw[e,ByteArray.size_append,ByteArray.size_append];omega
theorem Qok{w w':World}{g:Nat}{l:List Zu}(h:Qa6 w (some ⟨g,0,none⟩) l)(hk:w'.heap[g]?=w.heap[g]?):Qa6 w' (some ⟨g,0,none⟩) l:=λ i hi=>by
 obtain⟨b,off,e,c0,c1,c2,c3,c4,c5⟩:=h i hi
 cases e
 have e2:∀o,w'.cell? ⟨g,o,none⟩=w.cell? ⟨g,o,none⟩:=λ o=>by unfold World.cell?;rw[hk]
 exact⟨g,0,rfl,(e2 _).trans c0,(e2 _).trans c1,(e2 _).trans c2,(e2 _).trans c3,(e2 _).trans c4,(e2 _).trans c5⟩
def QtI(s':ByteArray)(b base:Nat)(w:World)(e:Ending)(w':World):Prop:=e=.returned (.tuple #[])/\WrB w' b base s'/\WK base b w w'
theorem Qs8(B b base b1 off c:Nat)(W0:World)(l:List Zu)(fs:List Xb)(s:ByteArray)(w:World)(hl:Qa6 w (some ⟨b1,off,none⟩) l)(hn:len l<=1000)(h0:0<len l)(hS:QiQ B W0 l fs)(hm:Jn fs=true)(hk:Yk B W0 w)(hb0:QoU W0 b)
  (ht:Qf5 B w) (hB:B<=base) (hW:WrB w b base s) (hs:s.size+(Qdo fs).size<=60000000000000):
  Calls Tryz.prog 149 #[.pointer (some ⟨b,0,none⟩),.slice (some ⟨b1,off,none⟩) (len l) c] w (QtI (s++Qdo fs) b base w):=by
 have HL:=QLh hl;have HS:=QLh hS;have HK:=QLh hk;have hsz:=hk.s1;have HT:=QLh ht;have HWR:=QLh hW;have HBS:Hid (base<=w.heap.size):=QLh (by have:=hW.1;have:=hW.lt;omega);have HKS:=QLh (Qhm hS hm (len l) (Nat.le_refl _));have e0:fs.take (len l)=fs:=List.take_of_length_le (by have:=hS.1;rw[Qy]at this;omega);rw[e0]at HKS;have eg:=(QkE hS hk).1;clear hl hS hk ht hW e0
 go_enter Tryz.func149,Tryz.ntmps149
 go_wp2_with fail;refine(QoZ b1 off c l w HL.out hn).mono ?_;rintro e w1 ⟨v,rfl,hown,hb1⟩;have HO:=QLh hown;have HB1:=QLh hb1;clear hown hb1;go_wp2_with fail;refine(Qq6 w.heap.size v l 199 #[] (λ i=>(Qbs fs i).empty) w1 HO.out hn h0 HB1.out.size eg (λ i hi w' hb=>((QkE HS.out ((HK.out.base HB1.out hsz).base hb hsz)).2 i hi w' (Below.refl _ _)))).mono ?_;rintro e w2 ⟨g,cap,rfl,hfl,hb2,hg,cur,hcur⟩;have HFL:=QLh hfl;have HB2:Hid (Below w.heap.size w w2):=QLh (HB1.out.trans hb2);have HCUR:=QLh hcur;clear hfl hb2 hcur HO HB1 HL;obtain⟨K,hK⟩:∃K,len (Ya (λ i=>(Qbs fs i).empty) l (len l))=K:=⟨_,rfl⟩;obtain⟨kl,hkl⟩:∃kl,Ya (λ i=>(Qbs fs i).empty) l (len l)=kl:=⟨_,rfl⟩;obtain⟨ks,hks⟩:∃ks,Jo fs=ks:=⟨_,rfl⟩;have hK1000:K<=1000:=by rw[<-hK];exact Nat.le_trans (Qh1 _ _ _) hn
 have HLP:Hid (Qdo fs=Qfe K++Qag (ks.map Jp)):=QLh (by
  unfold Qdo;rw[hks];have:=HKS.out.1;rw[hks,hK,Qy]at this;rw[this])
 rw[hK];rw[hkl]at HFL hK HKS;rw[hks]at HKS;have HKK:Hid (len ks=K/\len kl=K):=QLh ⟨by rw[HKS.out.1,hK],hK⟩;clear hK hkl hks;have HS2:Hid (s.size+(Qfe K).size+(Qag (ks.map Jp)).size<=60000000000000):=QLh (by rw[HLP.out,ByteArray.size_append]at hs;omega);have hs0:s.size<=60000000000000:=by omega
 have hbw:b<w.heap.size:=HWR.out.lt;have hgb:g≠b:=by omega
 have n8:QhG (.cells cur 183 (0,0)):=X6 (by decide);clear hs;go_wp2_with fail;refine(Qu2 B b base K s w2 (HT.out.keep HB2.out (by have:=HBS.out;omega)) hB (HWR.out.below HB2.out) (by omega) (by omega)).mono ?_;rintro e w3 ⟨rfl,hw3,hk3⟩;have HW3:Hid (WrB w3 b base (s++Qfe K++Qag ((ks.map Jp).take 0))):=QLh (by
  have e:s++Qfe K++Qag ((ks.map Jp).take 0)=s++Qfe K:=Jc (by simp[Qag]);rw[e];exact hw3)
 have HK3:Hid (WK base b w2 w3):=QLh hk3;clear hw3 hk3;go_wp2
 go_loopg [15] K (λ gg i wr=>∃m:Nat,gg+m=K/\i=.int .i64 m/\Hid (WrB wr b base (s++Qfe K++Qag ((ks.map Jp).take m)))/\Hid (WK base b w2 wr))
 case atStart=>exact⟨0,rfl,rfl,HW3.out,HK3.out⟩
 case round=>
  clear HW3 HK3;obtain⟨m,hm2,rfl,HWW,HWK⟩:=hrel
  by_cases hlt:m<K
  ·have i1:(m:Int)<K:=by omega
   obtain⟨b',off',hbe,c0,c1,c2,c3,c4,c5⟩:=Qok HFL.out ((HWK.out.keep g _ HCUR.out hgb n8).trans HCUR.out.symm) m (by rw[HKK.out.2];exact hlt)
   cases hbe
   rw[Nat.zero_add]at c0 c1 c2 c3 c4 c5;obtain⟨hsem,hemp,hmay⟩:=HKS.out.2 m (by rw[HKK.out.1];exact hlt);have hsn:(ks.map Jp).take (m+1)=(ks.map Jp).take m++[Jp (Qbs ks m)]:=by
    have hml:m<ks.length:=by have:=HKK.out.1;rw[Qy]at this;omega
    rw[List.take_succ_eq_append_getElem (by simpa using hml),List.getElem_map,U7 ks m hml]
   have hct:=Qoc (L:=ks.map Jp) (t:=m) (by have:=HKK.out.1;rw[Qy]at this;simp;omega);have hfm:(ks.map Jp)[m]'(by have:=HKK.out.1;rw[Qy]at this;simp;omega)=Jp (Qbs ks m):=by rw[List.getElem_map,U7 ks m (by have:=HKK.out.1;rw[Qy]at this;omega)]
   rw[hfm]at hct;obtain⟨v,hv⟩:∃v,fth kl m=v:=⟨_,rfl⟩;obtain⟨f,hf⟩:∃f,Qbs ks m=f:=⟨_,rfl⟩;rw[hv]at c0 c1 c2 c3 c4 c5 hsem;rw[hf]at hsem hemp hmay hsn hct;have hkey:=hsem.key;have hksz:=hsem.ksz;have ep:=hsem.ep;have hput:=hsem.put hmay hemp;obtain⟨s1,hs1⟩:∃s1,s++Qfe K++Qag ((ks.map Jp).take m)=s1:=⟨_,rfl⟩;rw[hs1]at HWW;have hfsz:(Jp f).size=(QjP f.key).size+f.bytes.size:=by unfold Jp;rw[ByteArray.size_append]
   have hs1s:s1.size+(QjP f.key).size+f.bytes.size<=60000000000000:=by rw[<-hs1,ByteArray.size_append,ByteArray.size_append];have:=HS2.out;omega
   have HSN:Hid (s++Qfe K++Qag ((ks.map Jp).take (m+1))=s1++QjP f.key++f.bytes):=QLh (by
    rw[hsn,QmE,<-hs1];unfold Jp;simp only[ByteArray.append_assoc])
   have HPUT:=QLh hput;have hbw2:base<=w2.heap.size:=by have:=HBS.out;have:=HB2.out.size;omega
   have HBW2:=QLh hbw2;have HK8:Hid (Yk B W0 wr):=QLh ((HK.out.base HB2.out hsz).wk HWK.out hb0 hB);have HTR:Hid (Qf5 B wr):=QLh ((HT.out.keep HB2.out (by have:=HBS.out;omega)).keep HWK.out.bel hB);rw[<-hkey]at HSN hs1s hksz;have HKEY:=QLh hkey;clear hsem hemp hmay hsn hct hfm hs1 hfsz hput hv hf hbw2 hkey;go_wp2_with fail;refine(QuZ B b base v.key s1 _ (HTR.out.keep (Qf (Below.refl _ _) _) (by have:=HTR.out.size;omega)) hB (HWW.out.below (Qf (Below.refl _ _) _)) hksz (by omega)).mono ?_;rintro e w4 ⟨rfl,hw4,hk4⟩;have HW4:=QLh hw4;have hbx:w4.heap[wr.heap.size]?=some (.cells #[.string v.key,.bool v.must,.func (.func v.ef) #[] v.ec,.func (.func v.mf) #[] v.mc,.func (.func v.pf) #[] v.pc,.func (.func v.gf) #[] v.gc] 183 (0,0)):=
    hk4.keep _ _ (heap_alloc_new _ _) (by have:=HWW.out.lt;omega) (X6 (by decide))
   have HKA:Hid (WK base b wr w4):=QLh ((WK.of_below (Qf (Below.refl _ _) _) (by have:=HWK.out.bel.size;have:=HBW2.out;omega)).trans hk4);have bx4:=Qa hbx 4;simp only[List.getElem?_toArray,List.getElem?_cons_zero,List.getElem?_cons_succ]at bx4;have lbx:=lt_of_block hbx;clear hw4 hk4 hbx c0 c1 c2 c3 c4 c5;go_wp2_with fail;refine(HPUT.out w4 b base _ (HK8.out.wk HKA.out hb0 hB) hb0 (HTR.out.keep HKA.out.bel hB) hB HW4.out (by rw[ByteArray.size_append];omega)).mono ?_;rintro e w5 ⟨rfl,hw5,hk5⟩;have HW5:Hid (WrB w5 b base (s++Qfe K++Qag ((ks.map Jp).take (m+1)))):=QLh (by rw[HSN.out];exact hw5);have HK5:Hid (WK base b w2 w5):=QLh ((HWK.out.trans HKA.out).trans hk5);clear hw5 hk5 HW4 HKA HWW HWK bx4 lbx;go_wp2
   go_roundg (K - (m+1))
   case rel=>exact⟨m+1,by omega,by go_num,HW5.out,HK5.out⟩
   case measure=>omega
  ·obtain rfl:m=K:=by omega
   have i1:¬(m:Int)<m:=by omega
   go_wp2
   go_end0
   refine⟨rfl,?_,(WK.of_below HB2.out HBS.out).trans HWK.out⟩;have h:=HWW.out;rw[List.take_of_length_le (by have:=HKK.out.1;rw[Qy]at this;simp;omega),ByteArray.append_assoc,<-HLP.out]at h;exact h
def QeE(fs:List Xb)(w:World)(e:Ending)(w':World):Prop:=
 e=.returned (if Jn fs then .tuple #[.string (Qdo fs),.int .i64 0]else .tuple #[.string ⟨#[]⟩,.int .i64 2])/\Below w.heap.size w w'
theorem Qmm(B b1 off c:Nat)(W0:World)(l:List Zu)(fs:List Xb)(w:World)(hl:Qa6 w (some ⟨b1,off,none⟩) l)(hn:len l<=1000)(h0:0<len l)(hS:QiQ B W0 l fs)(hk:Yk B W0 w)(ht:Qf5 B w)(hs:Jn fs=true->(Qdo fs).size<=60000000000000):
  Calls Tryz.prog 88 #[.slice (some ⟨b1,off,none⟩) (len l) c] w (QeE fs w):=by
 have HL:=QLh hl;have HS:=QLh hS;have HK:=QLh hk;have hsz:=hk.s1;have HSS:=QLh hs;clear hs;have HT:=QLh ht;clear hl hS hk ht
 go_enter Tryz.func88,Tryz.ntmps88
 go_wp2_with fail;refine(QrV B W0 (some ⟨b1,off,none⟩) c l fs w HL.out hn HS.out HK.out).mono ?_;rintro e w1 ⟨rfl,hb1⟩;have HB1:=QLh hb1;clear hb1
 cases hm:Jn fs with
 | false=>
  have HM:=QLh hm;clear hm;go_wp2
  go_ret2
  exact⟨by rw[HM.out];rfl,HB1.out⟩
 | true=>
  have HM:=QLh hm;have HT1:=QLh (HT.out.keep HB1.out HT.out.size);have hs:=HSS.out hm;clear hm;go_wp2_with fail;refine(Qp6 w1).mono ?_;rintro e w2 ⟨rfl,hw2,hb2⟩;have HW2:=QLh hw2;have HB2:=QLh hb2;clear hw2 hb2;go_wp2_with fail;refine(Qs8 B w1.heap.size w1.heap.size b1 off c W0 l fs ByteArray.empty w2 ((HL.out.below HB1.out).below HB2.out) hn h0 HS.out HM.out ((HK.out.next HB1.out).next HB2.out) (QoU.of_le (by have:=HB1.out.size;omega)) (HT1.out.keep HB2.out HT1.out.size) HT1.out.size HW2.out (by show 0+(Qdo fs).size<=60000000000000;omega)).mono ?_;rintro e w3 ⟨rfl,hw3,hk3⟩;have HW3:Hid (WrB w3 w1.heap.size w1.heap.size (Qdo fs)):=QLh (by
   have e:ByteArray.empty++Qdo fs=Qdo fs:=Jc (by simp);rw[e]at hw3;exact hw3)
  have HB3:Hid (Below w.heap.size w w3):=QLh ((Qj HB1.out HB2.out).trans (hk3.bel.mono HB1.out.size));clear hw3 hk3;go_wp2_with fail;refine(QoL _ _ _ w3 HW3.out).mono ?_;rintro e w4 ⟨rfl,rfl⟩;go_wp2
  go_ret2
  exact⟨by rw[HM.out];rfl,HB3.out⟩
structure Jg(B:Nat)(w:World)(b o:Nat)(x:Value):Prop where
 cell:w.cell? ⟨b,o,none⟩=some x
 ex:b<B \/ ∃y,w.heap[b]?=some y/\QhG y
theorem Jg.lt{B:Nat}{w:World}{b o:Nat}{x:Value}(h:Jg B w b o x):b<w.heap.size:=Ql h.cell
theorem Jg.keep{B:Nat}{w w':World}{b o:Nat}{x:Value}(h:Jg B w b o x)(hk:Yk B w w'):Jg B w' b o x:=by
 have e:w'.heap[b]?=w.heap[b]?:=by
  rcases h.ex with h1 | ⟨y,h1,h2⟩
  ·exact hk.low b h1
  ·rw[h1];exact hk.keep b y h1 h2
 refine⟨?_,?_⟩
 ·have:w'.cell? ⟨b,o,none⟩=w.cell? ⟨b,o,none⟩:=by unfold World.cell?;rw[e]
  rw[this];exact h.cell
 ·rw[e];exact h.ex
theorem Jg.below{B:Nat}{w w':World}{b o:Nat}{x:Value}(h:Jg B w b o x)(hb:Below w.heap.size w w'):Jg B w' b o x:=by
 have e:w'.heap[b]?=w.heap[b]?:=hb.block b h.lt;refine⟨?_,by rw[e];exact h.ex⟩;have:w'.cell? ⟨b,o,none⟩=w.cell? ⟨b,o,none⟩:=by unfold World.cell?;rw[e]
 rw[this];exact h.cell
theorem Qsi(w:World):Calls Tryz.prog 203 #[] w λ e w'=>e=.returned (.bool true)/\Below w.heap.size w w':=by
 go_enter Tryz.func203,Tryz.ntmps203
 go_wp2;go_ret;exact⟨rfl,Below.refl _ _⟩
theorem QkD(B bx pb po:Nat)(n:Int)(w:World)(h1:Jg B w bx 0 (.pointer (some ⟨pb,po,none⟩)))(h2:Jg B w pb po (.int .u64 n)):Calls Tryz.prog 202 #[.pointer (some ⟨bx,0,none⟩)] w λ e w'=>e=.returned (.bool (n == 0))/\Below w.heap.size w w':=by
 have c1:=h1.cell;have c2:=h2.cell;clear h1 h2
 go_enter Tryz.func202,Tryz.ntmps202
 go_wp2;go_ret;exact⟨rfl,Below.refl _ _⟩
theorem QpA(B b base bx pb po:Nat)(n:Int)(s:ByteArray)(w:World)(h1:Jg B w bx 0 (.pointer (some ⟨pb,po,none⟩)))(h2:Jg B w pb po (.int .u64 n))(h0:0<=n)(hn:n<=18446744073709551615)(ht:Qf5 B w)(hB:B<=base)(hW:WrB w b base s)(hs:s.size+(Qef n).size<=60000000000000):
  Calls Tryz.prog 204 #[.pointer (some ⟨b,0,none⟩),.pointer (some ⟨bx,0,none⟩)] w λ e w'=>e=.returned (.tuple #[])/\WrB w' b base (s++Qef n)/\WK base b w w':=by
 have c1:=h1.cell;have c2:=h2.cell;have H:=QLh (QuD B b base n s w ht hB hW h0 hn (by omega));clear h1 h2 ht hW
 go_enter Tryz.func204,Tryz.ntmps204
 go_wp2_with fail;refine H.out.mono ?_;rintro e w' ⟨rfl,h3,h4⟩;have H3:=QLh h3;have H4:=QLh h4;clear h3 h4;go_wp2
 go_end0
 exact⟨rfl,H3.out,H4.out⟩
theorem Yu{B:Nat}{w:World}{n:Nat}{cs:Array Value}{T:TypeId}{o:Nat}{x:Value}(h:w.heap[n]?=some (.cells cs T (0,0)))(hT:T≠5)(hx:cs[o]?=some x):Jg B w n o x:=⟨by rw[Qa h];exact hx,.inr ⟨_,h,X6 hT⟩⟩
theorem Qeo(w:World):Calls Tryz.prog 209 #[] w λ e w'=>e=.returned (.bool false)/\Below w.heap.size w w':=by
 go_enter Tryz.func209,Tryz.ntmps209
 go_wp2;go_ret;exact⟨rfl,Below.refl _ _⟩
theorem Qjh(B bx pb po:Nat)(x:ByteArray)(w:World)(h1:Jg B w bx 0 (.pointer (some ⟨pb,po,none⟩)))(h2:Jg B w pb po (.string x))(hx:x.size<=9223372036854775807):Calls Tryz.prog 210 #[.pointer (some ⟨bx,0,none⟩)] w λ e w'=>e=.returned (.bool (decide (x.size=32)))/\Below w.heap.size w w':=by
 have c1:=h1.cell;have c2:=h2.cell;have HE:Hid (((x.size:Int) == 32)=decide (x.size=32)):=QLh (by rw[Bool.eq_iff_iff];simp;omega);clear h1 h2
 go_enter Tryz.func210,Tryz.ntmps210
 go_wp2;go_ret;exact⟨Xv HE.out,Below.refl _ _⟩
theorem QiH(B b base bx pb po:Nat)(x s:ByteArray)(w:World)(h1:Jg B w bx 0 (.pointer (some ⟨pb,po,none⟩)))(h2:Jg B w pb po (.string x))(hx:x.size=32)(ht:Qf5 B w)(hB:B<=base)(hW:WrB w b base s)(hs:s.size+(Vw x).size<=60000000000000):
  Calls Tryz.prog 211 #[.pointer (some ⟨b,0,none⟩),.pointer (some ⟨bx,0,none⟩)] w λ e w'=>e=.returned (.tuple #[])/\WrB w' b base (s++Vw x)/\WK base b w w':=by
 have c1:=h1.cell;have c2:=h2.cell;have H:=QLh (Qu5 B b base x s w ht hB hW (by omega) (by omega));clear h1 h2 ht hW hx
 go_enter Tryz.func211,Tryz.ntmps211
 go_wp2_with fail;refine H.out.mono ?_;rintro e w' ⟨rfl,h3,h4⟩;have H3:=QLh h3;have H4:=QLh h4;clear h3 h4;go_wp2
 go_end0
 exact⟨rfl,H3.out,H4.out⟩
theorem QqB(B:Nat)(key:ByteArray)(pb po:Nat)(n:Int)(w:World)(hk:key.size<65536)(hBw:B<=w.heap.size)(hc:Jg B w pb po (.int .u64 n))(h0:0<=n)(h1:n<=18446744073709551615):
  Calls Tryz.prog 151 #[.string key,.pointer (some ⟨pb,po,none⟩)] w λ e w'=>∃v:Zu,e=.returned v.val/\QkR B w' v ⟨key,false,n == 0,true,Qef n⟩/\Below w.heap.size w w':=by
 have HC:=QLh hc;clear hc
 go_enter Tryz.func151,Tryz.ntmps151
 go_wp2;obtain⟨bx,hbx⟩:∃bx,w.heap.size=bx:=⟨_,rfl⟩;obtain⟨V,hV⟩:∃V,((w.alloc (.cells #[.pointer (some ⟨pb,po,none⟩)] 185)).alloc (.cells #[.string key,.bool false,.func (.func 202) #[] #[.pointer (some ⟨w.heap.size,0,none⟩)],.func (.func 203) #[] #[],.func (.func 204) #[] #[.pointer (some ⟨w.heap.size,0,none⟩)],.func (.func 206) #[] #[.pointer (some ⟨w.heap.size,0,none⟩)]] 183))=V:=⟨_,rfl⟩;have VB:Below w.heap.size w V:=by rw[<-hV];(repeat (first | exact Below.refl _ _ | assumption | (refine Zy ?_) | (refine Zg ?_ _) | (refine Qf ?_ _) | (refine Ji ?_ (by first | omega | (simp;done) | (simp;omega)) _) | (refine Qj ?_ (by assumption))))
 have V0:V.heap[bx]?=some (.cells #[.pointer (some ⟨pb,po,none⟩)] 185 (0,0)):=by rw[<-hV,<-hbx];exact Qe (heap_alloc_new _ _) _
 have V1:V.heap[bx+1]?=some (.cells #[.string key,.bool false,.func (.func 202) #[] #[.pointer (some ⟨bx,0,none⟩)],.func (.func 203) #[] #[],.func (.func 204) #[] #[.pointer (some ⟨bx,0,none⟩)],.func (.func 206) #[] #[.pointer (some ⟨bx,0,none⟩)]] 183 (0,0)):=by rw[<-hV,<-hbx];exact Qg _ (by simp)
 have d:∀o,V.cell? ⟨bx+1,o,none⟩=_:=Qa V1;rw[hV];simp only[hbx];clear hV;have C0:Jg B V bx 0 (.pointer (some ⟨pb,po,none⟩)):=Yu V0 (by decide) rfl;have C1:Jg B V pb po (.int .u64 n):=HC.out.below VB;refine bodyPost_ret (v:=.agg #[.string key,.bool false,.func (.func 202) #[] #[.pointer (some ⟨bx,0,none⟩)],.func (.func 203) #[] #[],.func (.func 204) #[] #[.pointer (some ⟨bx,0,none⟩)],.func (.func 206) #[] #[.pointer (some ⟨bx,0,none⟩)]]) ?_ rfl ⟨⟨key,false,202,#[.pointer (some ⟨bx,0,none⟩)],203,#[],204,#[.pointer (some ⟨bx,0,none⟩)],206,#[.pointer (some ⟨bx,0,none⟩)]⟩,rfl,?_,by rw[<-hbx];exact VB⟩
 ·simp[results,Tryz.results151,go_sem,d]
 ·refine⟨rfl,rfl,hk,enters_of Tryz.func202 (by kernel_rfl) rfl,enters_of Tryz.func203 (by kernel_rfl) rfl,enters_of Tryz.func204 (by kernel_rfl) rfl,λ w' hw=>QkD B bx pb po n w' (C0.keep hw) (C1.keep hw),λ w' hw=>Qsi w',λ hm he w' b base s hw hb ht hB hW hs=>QpA B b base bx pb po n s w' (C0.keep hw) (C1.keep hw) h0 h1 ht hB hW hs⟩
theorem QbB(B:Nat)(key:ByteArray)(pb po:Nat)(x:ByteArray)(w:World)(hk:key.size<65536)(hBw:B<=w.heap.size)(hc:Jg B w pb po (.string x))(hx:x.size<=9223372036854775807):
  Calls Tryz.prog 152 #[.string key,.pointer (some ⟨pb,po,none⟩)] w λ e w'=>∃v:Zu,e=.returned v.val/\QkR B w' v ⟨key,true,false,decide (x.size=32),Vw x⟩/\Below w.heap.size w w':=by
 have HC:=QLh hc;clear hc
 go_enter Tryz.func152,Tryz.ntmps152
 go_wp2;obtain⟨bx,hbx⟩:∃bx,w.heap.size=bx:=⟨_,rfl⟩;obtain⟨V,hV⟩:∃V,((w.alloc (.cells #[.pointer (some ⟨pb,po,none⟩)] 187)).alloc (.cells #[.string key,.bool true,.func (.func 209) #[] #[],.func (.func 210) #[] #[.pointer (some ⟨w.heap.size,0,none⟩)],.func (.func 211) #[] #[.pointer (some ⟨w.heap.size,0,none⟩)],.func (.func 213) #[] #[.pointer (some ⟨w.heap.size,0,none⟩)]] 183))=V:=⟨_,rfl⟩;have VB:Below w.heap.size w V:=by rw[<-hV];(repeat (first | exact Below.refl _ _ | assumption | (refine Zy ?_) | (refine Zg ?_ _) | (refine Qf ?_ _) | (refine Ji ?_ (by first | omega | (simp;done) | (simp;omega)) _) | (refine Qj ?_ (by assumption))))
 have V0:V.heap[bx]?=some (.cells #[.pointer (some ⟨pb,po,none⟩)] 187 (0,0)):=by rw[<-hV,<-hbx];exact Qe (heap_alloc_new _ _) _
 have V1:V.heap[bx+1]?=some (.cells #[.string key,.bool true,.func (.func 209) #[] #[],.func (.func 210) #[] #[.pointer (some ⟨bx,0,none⟩)],.func (.func 211) #[] #[.pointer (some ⟨bx,0,none⟩)],.func (.func 213) #[] #[.pointer (some ⟨bx,0,none⟩)]] 183 (0,0)):=by rw[<-hV,<-hbx];exact Qg _ (by simp)
 have d:∀o,V.cell? ⟨bx+1,o,none⟩=_:=Qa V1;rw[hV];simp only[hbx];clear hV;have C0:Jg B V bx 0 (.pointer (some ⟨pb,po,none⟩)):=Yu V0 (by decide) rfl;have C1:Jg B V pb po (.string x):=HC.out.below VB;refine bodyPost_ret (v:=.agg #[.string key,.bool true,.func (.func 209) #[] #[],.func (.func 210) #[] #[.pointer (some ⟨bx,0,none⟩)],.func (.func 211) #[] #[.pointer (some ⟨bx,0,none⟩)],.func (.func 213) #[] #[.pointer (some ⟨bx,0,none⟩)]]) ?_ rfl ⟨⟨key,true,209,#[],210,#[.pointer (some ⟨bx,0,none⟩)],211,#[.pointer (some ⟨bx,0,none⟩)],213,#[.pointer (some ⟨bx,0,none⟩)]⟩,rfl,?_,by rw[<-hbx];exact VB⟩
 ·simp[results,Tryz.results152,go_sem,d]
 ·refine⟨rfl,rfl,hk,enters_of Tryz.func209 (by kernel_rfl) rfl,enters_of Tryz.func210 (by kernel_rfl) rfl,enters_of Tryz.func211 (by kernel_rfl) rfl,λ w' hw=>Qeo w',λ w' hw=>Qjh B bx pb po x w' (C0.keep hw) (C1.keep hw) hx,λ hm he w' b base s hw hb ht hB hW hs=>QiH B b base bx pb po x s w' (C0.keep hw) (C1.keep hw) (by simpa using hm) ht hB hW hs⟩
abbrev BPs:=List (ByteArray × ByteArray)
def QiA(ps:BPs):ByteArray:=Qag ((Qaw ps).map λ p=>QjP p.1++p.2)
def LyB(w:World)(b:Nat)(ps:BPs):Prop:=w.heap[b]?=some (.cells #[.int .u64 ((Qaw ps).length:Nat),.string (QiA ps)] 161 (0,0))
theorem LyB.below{w w':World}{b:Nat}{ps:BPs}(h:LyB w b ps)(hb:Below w.heap.size w w'):LyB w' b ps:=by unfold LyB;rw[hb.block b (lt_of_block h)];exact h
theorem Qgd(ps:BPs)(key:ByteArray)(v:ByteArray)(h:v.size=0):Qaw (ps++[(key,v)])=Qaw ps:=by unfold Qaw;rw[List.filter_append,List.filter_cons_of_neg (by simp[h])];simp
theorem QfB(ps:BPs)(key:ByteArray)(v:ByteArray)(h:v.size≠0):Qaw (ps++[(key,v)])=Qaw ps++[(key,v)]:=by unfold Qaw;rw[List.filter_append,List.filter_cons_of_pos (by simp[h])];simp
theorem Qi0(ps:BPs)(key:ByteArray)(v:ByteArray)(h:v.size≠0):QiA (ps++[(key,v)])=QiA ps++QjP key++v:=by unfold QiA;rw[QfB ps key v h,List.map_append,QdS];simp[Qag,ByteArray.append_assoc]
theorem QfF{b:Nat}{w w1:World}(h:Below w.heap.size w w1):Xe (some b) w w1:=⟨h.os,h.tape,h.output,h.size,λ i hi _=>h.block i hi⟩
theorem Qk5{b:Nat}{w w1:World}(h:Xe (some b) w w1)(o:Nat)(v:Value):Xe (some b) w (w1.setCell ⟨b,o,none⟩ v):=by refine⟨h.os,h.tape,h.output,by rw[show(w1.setCell ⟨b,o,none⟩ v).heap.size=w1.heap.size by simp];exact h.size,λ i hi hne=>?_⟩;rw[Below.heap_setCell _ _ _ _ (by rintro e;exact hne (by rw[e]))];exact h.block i hi hne
theorem QgA{b n:Nat}{w w1:World}(h:Xe (some b) w w1)(hn:n<=b)(hw:n<=w.heap.size):Below n w w1:=⟨h.os,h.tape,h.output,h.size,λ i hi=>h.block i (by omega) (by rintro e;cases e;omega)⟩
theorem Qu8{t:ByteArray}(h:t.size≠0):t.toList.isEmpty=false:=by rw[ByteArray.toList_eq];cases t with | mk d=>simp_all [ByteArray.size]
theorem QdN(b:Nat)(ps:BPs)(key v:ByteArray)(w:World)(h:LyB w b ps)(hk:key.size<65536)(hn:ps.length<=1000)(hs:(QiA ps).size<=30000000000000)(hv:v.size<=10000000000000):
  Calls Tryz.prog 132 #[.pointer (some ⟨b,0,none⟩),.string key,.string v] w λ e w'=>e=.returned (.tuple #[])/\Xe (some b) w w'/\LyB w' b (ps++[(key,v)]):=by
 have H:=QLh h;have HN:=QLh hn
 by_cases h0:v.size=0
 ·have hv0:v=⟨#[]⟩:=by
   have:v=ByteArray.empty:=Jc (by have:=Xc v;rw[h0]at this;rw[List.length_eq_zero_iff.1 this];rfl);exact this
  have HV0:=QLh h0;clear h0;subst hv0;clear h hn
  go_enter Tryz.func132,Tryz.ntmps132
  go_wp2;refine bodyPost_ret (results_none rfl _ _ _) rfl ?_;exact⟨rfl,QfF (by(repeat (first | exact Below.refl _ _ | assumption | (refine Zy ?_) | (refine Zg ?_ _) | (refine Qf ?_ _) | (refine Ji ?_ (by first | omega | (simp;done) | (simp;omega)) _) | (refine Qj ?_ (by assumption))))),by unfold LyB QiA;rw[Qgd _ _ _ rfl];exact H.out.below (by(repeat (first | exact Below.refl _ _ | assumption | (refine Zy ?_) | (refine Zg ?_ _) | (refine Qf ?_ _) | (refine Ji ?_ (by first | omega | (simp;done) | (simp;omega)) _) | (refine Qj ?_ (by assumption)))))⟩
 ·have e1:v.toList.isEmpty=false:=Qu8 h0
  have HV:=QLh h0;have HL:=QLh (QcD 2 0 key w (.inr rfl) hk);obtain⟨K,hK⟩:∃K,Yy 2 key.size key=K:=⟨_,rfl⟩;have hKs:K.size<=70000:=by rw[<-hK];unfold Yy;rw[if_pos (.inr rfl)];have:=Qc9 2 key.size;rw[ByteArray.size_append,Vc];omega
  have HKK:Hid (QjP key=K):=QLh hK;rw[hK]at HL;obtain⟨C,hC⟩:∃C,QiA ps=C:=⟨_,rfl⟩;have HC:=QLh hC;rw[hC]at hs;have hr:(Qaw ps).length<=1000:=Nat.le_trans (List.length_filter_le _ _) hn;obtain⟨m,hm⟩:∃m,(Qaw ps).length=m:=⟨_,rfl⟩;have HM:=QLh hm;rw[hm]at hr;have yy:IntKind.u64.wrap ((m:Int)+1)=((m+1:Nat):Int):=by rw[IntWalk.u64_in _ (by omega)];omega
  clear h hn h0 hk hK hC hm
  go_enter Tryz.func132,Tryz.ntmps132
  go_wp2_with fail;refine HL.out.mono ?_;rintro e w1 ⟨rfl,hb⟩;have HB:=QLh hb;have hblk:=H.out.below hb;unfold LyB at hblk;rw[HC.out,HM.out]at hblk;have c0:w1.cell? ⟨b,0,none⟩=some (.int .u64 m):=Qa hblk 0;have c1:w1.cell? ⟨b,1,none⟩=some (.string C):=Qa hblk 1;have f0:∀o,w1.frozen? ⟨b,o,none⟩=false:=Qk hblk;have HBK:=QLh hblk;clear hb hblk;go_wp2_with fail;go_upto_region 3 with fail;obtain⟨V,hV⟩:∃V,w1.setCell ⟨b,1,none⟩ (.string (C++K++v))=V:=⟨_,rfl⟩;have hVb:V.heap[b]?=some (.cells #[.int .u64 m,.string (C++K++v)] 161 (0,0)):=by rw[<-hV];exact Qc HBK.out _
  have HVE:Hid (Xe (some b) w V):=QLh (by rw[<-hV];exact Qk5 (QfF HB.out) _ _);have c0:V.cell? ⟨b,0,none⟩=some (.int .u64 m):=Qa hVb 0;have f0:∀o,V.frozen? ⟨b,o,none⟩=false:=Qk hVb;have HBK:=QLh hVb;rw[hV];clear hV hVb;go_wp2
  go_end0
  refine⟨rfl,Qk5 HVE.out _ _,?_⟩;unfold LyB;rw[QfB _ _ _ HV.out,Qi0 _ _ _ HV.out,HC.out,HKK.out,List.length_append,HM.out];exact Qc HBK.out _
theorem Vi(sort:Nat)(n:Int)(t:ByteArray):(Yy sort n t).size<=9+t.size:=by
 unfold Yy;have:=Qc9 sort n;rw[ByteArray.size_append,Vc]
 split
 ·omega
 ·show _+0<=_;omega
theorem QlT(b:Nat)(ps:BPs)(w:World)(h:LyB w b ps)(hn:ps.length<=1000)(hs:(QiA ps).size<=30000000000000):
  Calls Tryz.prog 135 #[.pointer (some ⟨b,0,none⟩)] w λ e w'=>e=.returned (.string (Qln ps))/\Below w.heap.size w w':=by
 have H:=QLh h;have hr:(Qaw ps).length<=1000:=Nat.le_trans (List.length_filter_le _ _) hn;have HE:Hid (Qln ps=Qfe (Qaw ps).length++QiA ps):=QLh rfl;obtain⟨m,hm⟩:∃m,(Qaw ps).length=m:=⟨_,rfl⟩;obtain⟨C,hC⟩:∃C,QiA ps=C:=⟨_,rfl⟩;unfold LyB at h;rw[hm,hC]at h HE;rw[hm]at hr;rw[hC]at hs;have c0:w.cell? ⟨b,0,none⟩=some (.int .u64 m):=Qa h 0;have c1:w.cell? ⟨b,1,none⟩=some (.string C):=Qa h 1;have HL:=QLh (QgQ 4 m ⟨#[]⟩ w (.inr rfl) (by omega));have hz:(Qfe m).size<=9:=Vi 4 m ByteArray.empty;have HE2:=QLh HE.out;unfold Qfe at HE hz;obtain⟨K,hK⟩:∃K,Yy 4 m ByteArray.empty=K:=⟨_,rfl⟩;rw[hK]at HL HE hz;have hzi:(K.size:Int)<=9:=by omega
 clear h H hm hC HE2 hK hr
 go_enter Tryz.func135,Tryz.ntmps135
 go_wp2_with fail;refine HL.out.mono ?_;rintro e w1 ⟨rfl,hb⟩;have HB:=QLh hb;have c1':w1.cell? ⟨b,1,none⟩=some (.string C):=(hb.cell (Ql c1)).trans c1;clear hb c0 c1;go_wp2;go_ret;exact⟨by rw[HE.out];rfl,HB.out⟩
def QmY(n:Int):ByteArray:=if n=0 then⟨#[]⟩else Qef n
theorem Qpd(n:Int)(w:World)(h0:0<=n)(h1:n<=18446744073709551615):Calls Tryz.prog 134 #[.int .u64 n] w λ e w'=>e=.returned (.string (QmY n))/\Below w.heap.size w w':=by
 by_cases hz:n=0
 ·subst hz
  go_enter Tryz.func134,Tryz.ntmps134
  go_wp2;go_ret;exact⟨rfl,by(repeat (first | exact Below.refl _ _ | assumption | (refine Zy ?_) | (refine Zg ?_ _) | (refine Qf ?_ _) | (refine Ji ?_ (by first | omega | (simp;done) | (simp;omega)) _) | (refine Qj ?_ (by assumption))))⟩
 ·have HL:=QLh (Qiu n ⟨#[]⟩ w h0 h1)
  have HE:Hid (QmY n=Qef n):=QLh (by unfold QmY;rw[if_neg hz]);obtain⟨K,hK⟩:∃K,Qef n=K:=⟨_,rfl⟩;rw[hK]at HL HE;have hz':decide (n=0)=false:=decide_eq_false hz;have hz2:(n == 0)=false:=by simp[hz]
  clear hz hK
  go_enter Tryz.func134,Tryz.ntmps134
  go_wp2_with fail;refine HL.out.mono ?_;rintro e w1 ⟨rfl,hb⟩;have HB:=QLh hb;clear hb;go_wp2;go_ret;exact⟨by rw[HE.out];rfl,HB.out⟩
theorem Qgi(s:ByteArray)(w:World)(hs:s.size<65536):Calls Tryz.prog 133 #[.string s] w λ e w'=>e=.returned (.string (Vw s))/\Below w.heap.size w w':=by
 have HL:=QLh (QcD 1 0 s w (.inl rfl) hs);have HE:Hid (Vw s=Yy 1 s.size s):=QLh rfl;obtain⟨K,hK⟩:∃K,Yy 1 s.size s=K:=⟨_,rfl⟩;rw[hK]at HL HE;clear hs hK
 go_enter Tryz.func133,Tryz.ntmps133
 go_wp2_with fail;refine HL.out.mono ?_;rintro e w1 ⟨rfl,hb⟩;have HB:=QLh hb;clear hb;go_wp2;go_ret;exact⟨by rw[HE.out];rfl,HB.out⟩
theorem Qed(s:ByteArray)(w:World)(hs:s.size<=9223372036854775807):Calls Tryz.prog 131 #[.string s] w λ e w'=>e=.returned (.bool (decide (s.size=32)))/\Below w.heap.size w w':=by
 have h1:((s.size:Int) == 32)=decide (s.size=32):=by
  by_cases h:s.size=32
  ·rw[decide_eq_true h,h];rfl
  ·rw[decide_eq_false h];simp;omega
 go_enter Tryz.func131,Tryz.ntmps131
 go_wp2;go_ret;exact⟨by simp,by(repeat (first | exact Below.refl _ _ | assumption | (refine Zy ?_) | (refine Zg ?_ _) | (refine Qf ?_ _) | (refine Ji ?_ (by first | omega | (simp;done) | (simp;omega)) _) | (refine Qj ?_ (by assumption))))⟩
structure FRow(w:World)(g:Nat)(l:List Zu):Prop where
 flds:Qa6 w (some ⟨g,0,none⟩) l
 ex:∃cur,w.heap[g]?=some (.cells cur 183 (0,0))
theorem Qae{P:Program}{o:Oper}{a:Act}{w:World}{f:FuncId}{args:Array Value}{R:Value->World->Prop}{K:Act->World->Prop}{Q:Exit->Act->World->Prop}(h:(execOp a.eval o).run P w=.ok (.enter f args) w)
  (hc:Calls P f args w (λ e w'=>∃v,e=.returned v/\R v w')) (hK:∀v w',R v w'->K (a.put o.dst v) w'):o.wp P a w K Q:=by
 unfold Oper.wp;rw[h];exact hc.mono λ e w' ⟨v,he,hR⟩=>by subst he;exact hK v w' hR
def FIn(B:Nat)(w:World)(v:Zu)(f:Xb):Prop:=B<=w.heap.size/\QkR B w v f
theorem FIn.below{B:Nat}{w w':World}{v:Zu}{f:Xb}(h:FIn B w v f)(hb:Below w.heap.size w w'):FIn B w' v f:=⟨Nat.le_trans h.1 hb.size,h.2.later (Yk.of_below hb h.1)⟩
def QuA(B:Nat)(f:Xb)(w:World)(e:Ending)(w':World):Prop:=∃u,e=.returned u/\∃v:Zu,u=v.val/\FIn B w' v f/\Below w.heap.size w w'
theorem Qpx{B:Nat}{f:Xb}{w w':World}{e:Ending}(hB:B<=w.heap.size)(h:∃v:Zu,e=.returned v.val/\QkR B w' v f/\Below w.heap.size w w'):QuA B f w e w':=by obtain⟨v,he,hs,hb⟩:=h;exact⟨v.val,he,v,rfl,⟨Nat.le_trans hB hb.size,hs⟩,hb⟩
def Qu4(B:Nat)(specs:List Xb)(w:World)(e:Ending)(w':World):Prop:=
 ∃g c,∃l:List Zu,e=.returned (.slice (some ⟨g,0,none⟩) (len l) c)/\FRow w' g l/\QiQ B w' l specs/\Below w.heap.size w w'
def Qql(x:Int):Prop:=0<=x/\x<=18446744073709551615
theorem Qth(ps:BPs)(k v:ByteArray):(QiA (ps++[(k,v)])).size<=(QiA ps).size+k.size+9+v.size:=by
 by_cases h:v.size=0
 ·unfold QiA;rw[Qgd _ _ _ h];omega
 ·rw[Qi0 _ _ _ h,ByteArray.size_append,ByteArray.size_append]
  have:(QjP k).size<=9+k.size:=Vi 2 _ _;omega
theorem Quv{j:Nat}{ps:BPs}{k v:ByteArray}(h:Hid ((QiA ps).size<=j * 25000000000))(hk:k.size=1)(hv:v.size<=24900000000):Hid ((QiA (ps++[(k,v)])).size<=(j+1) * 25000000000):=QLh (by
 have h1:=h.out;have h2:=Qth ps k v;omega)
theorem QjM(n:Int):(QmY n).size<=9:=by
 unfold QmY
 split
 ·decide
 ·exact Vi 0 n ByteArray.empty
theorem Qbb(s:ByteArray):(Vw s).size<=9+s.size:=Vi 1 _ _
def FPs:List Xb->BPs->Prop
 | [],[]=>True
 | f :: l,p :: r=>(f.key=p.1/\(f.empty=true ↔ p.2.size=0)/\(f.empty=false->f.bytes=p.2))/\FPs l r
 | _,_=>False
theorem Qjx:∀(l:List Xb) (r:BPs),FPs l r->l.length=r.length/\∀i (h:i<l.length) (h':i<r.length),l[i].key=r[i].1/\(l[i].empty=true ↔ r[i].2.size=0)/\(l[i].empty=false->l[i].bytes=r[i].2)
 | [],[],_=>⟨rfl,λ i h=>absurd h (by simp)⟩
 | [],_ :: _,h=>h.elim
 | _ :: _,[],h=>h.elim
 | f :: l,p :: r,h=>by
  obtain⟨h1,h2⟩:=h;obtain⟨h3,h4⟩:=Qjx l r h2;refine⟨by simp[h3],λ i hi hi'=>?_⟩
  cases i with
  | zero=>exact h1
  | succ j=>exact h4 j (by simpa using hi) (by simpa using hi')
theorem QsI{l:List Xb}{r:BPs}(h:FPs l r):Qdo l=Qln r:=QrE (Qjx l r h).1 (Qjx l r h).2
theorem QqH(sort:Nat)(n:Int)(h:sort<5)(h1:sort≠0->n<65536):0<(Xs sort n).length:=by
 have hs:sort=0 \/ sort=1 \/ sort=2 \/ sort=3 \/ sort=4:=by omega
 rcases hs with rfl | rfl | rfl | rfl | rfl
 ·rw[Qn4];repeat (first | split | simp)
 ·rw[QmA (h1 (by decide))];repeat (first | split | simp)
 ·rw[Qob (h1 (by decide))];repeat (first | split | simp)
 ·rw[Qn2 (h1 (by decide))];repeat (first | split | simp)
 ·rw[QmL (h1 (by decide))];repeat (first | split | simp)
theorem Qkt(sort:Nat)(n:Int)(t:ByteArray)(h:sort<5)(h1:sort≠0->n<65536):0<(Yy sort n t).size:=by unfold Yy;rw[ByteArray.size_append,Vc];have:=QqH sort n h h1;omega
theorem Qui(key:ByteArray)(n:Int):((n == 0)=true ↔ (QmY n).size=0)/\((n == 0)=false->Qef n=QmY n):=by
 unfold QmY
 by_cases h:n=0
 ·rw[if_pos h,h]
  exact⟨⟨λ _=>rfl,λ _=>rfl⟩,λ h=>absurd h (by decide)⟩
 ·rw[if_neg h]
  have e:(n == 0)=false:=by simp[h]
  rw[e];have h1:0<(Qef n).size:=Qkt 0 n ByteArray.empty (by decide) (λ h=>absurd rfl h);exact⟨⟨λ h=>absurd h (by decide),λ h=>by omega⟩,λ _=>rfl⟩
theorem QoN(s:ByteArray)(hs:s.size<65536):(false=true ↔ (Vw s).size=0)/\(false=false->Vw s=Vw s):=by have:0<(Vw s).size:=Qkt 1 _ _ (by decide) (λ _=>by omega);exact⟨⟨λ h=>absurd h (by decide),λ h=>by omega⟩,λ _=>rfl⟩
section
open Go.RowKit Go.ChangeMaps
theorem Qru(a b:ByteArray):(a == b)=decide (a=b):=by
 show ByteArray.instBEq.beq a b=_;obtain⟨x⟩:=a;obtain⟨y⟩:=b;have h:ByteArray.instBEq.beq (⟨x⟩:ByteArray) ⟨y⟩=(x == y):=rfl;rw[h]
 by_cases e:x=y
 ·subst e;simp
 ·have:(x == y)=false:=by simpa using e
  rw[this];symm;rw[decide_eq_false_iff_not];intro h2;cases h2;exact e rfl
instance:LawfulBEq ByteArray where
 rfl:=by intro a;rw[Qru];exact decide_eq_true rfl
 eq_of_beq:=by intro a b h;rw[Qru]at h;exact of_decide_eq_true h
def Qct:Nat->List (ByteArray × Value)->List MapEntry
 | _,[]=>[]
 | n,p :: r=>⟨.string p.1,p.2,n⟩ :: Qct (n+1) r
def QaF(l:List (ByteArray × Value)):Obj:=.map (Qct 0 l).toArray l.length
def Qb3(l:List (ByteArray × Value))(k:ByteArray):Option Value:=(l.find? (λ p=>p.1 == k)).map (·.2)
def QaI:List (ByteArray × Value)->ByteArray->Value->List (ByteArray × Value)
 | [],k,v=>[(k,v)]
 | p :: r,k,v=>if p.1=k then(k,v) :: r else p :: QaI r k v
theorem Qh6:∀(n:Nat) (l:List (ByteArray × Value)) (i:Nat) (h:i<l.length),(Qct n l)[i]?=some ⟨.string l[i].1,l[i].2,n+i⟩
 | n,p :: r,0,_=>rfl
 | n,p :: r,i+1,h=>by
  simp only[Qct,List.getElem?_cons_succ,List.getElem_cons_succ];rw[Qh6 (n+1) r i (by simpa using h)]
  congr 2;omega
theorem Qf3(k:ByteArray)(v:Value):∀(n:Nat) (l:List (ByteArray × Value)),Qct n (l++[(k,v)])=Qct n l++[⟨.string k,v,n+l.length⟩]
 | n,[]=>rfl
 | n,p :: r=>by
  simp only[List.cons_append,Qct,Qf3 k v (n+1) r,List.length_cons]
  congr 4;omega
theorem K9(k:ByteArray):∀(n m:Nat) (l:List (ByteArray × Value)),
  Instr.findNow .string (.string k) (Qct n l) m=some (((l.zipIdx m).find? (λ p=>p.1.1 == k)).map (λ p=>(p.2,p.1.2)))
 | _,_,[]=>rfl
 | n,m,p :: r=>by
  simp only[Qct,Instr.findNow,Instr.sameNow,if_true,List.zipIdx_cons,List.find?_cons]
  by_cases h:p.1=k
  ·subst h;simp
  ·have h1:(k == p.1)=false:=by simpa using λ e=>h e.symm
   have h2:(p.1 == k)=false:=by simpa using h
   simp only[h1,h2,K9 k (n+1) (m+1) r]
theorem Qcq(k:ByteArray):∀(m:Nat) (l:List (ByteArray × Value)),(((l.zipIdx m).find? (λ p=>p.1.1 == k)).map (λ p=>p.1.2))=Qb3 l k
 | _,[]=>rfl
 | m,p :: r=>by
  simp only[Qb3,List.zipIdx_cons,List.find?_cons]
  by_cases h:(p.1 == k)=true
  ·simp[h]
  ·simp only[Bool.not_eq_true]at h
   simp only[h];exact Qcq k (m+1) r
theorem Qb0(k:ByteArray)(v:Value):∀(m:Nat) (l:List (ByteArray × Value)),(l.zipIdx m).find? (λ p=>p.1.1 == k)=none->QaI l k v=l++[(k,v)]
 | _,[],_=>rfl
 | m,p :: r,h=>by
  simp only[List.zipIdx_cons,List.find?_cons]at h
  by_cases h1:(p.1 == k)=true
  ·simp[h1]at h
  ·simp only[Bool.not_eq_true]at h1
   simp only[h1]at h;have h2:¬p.1=k:=by simpa using h1
   simp only[QaI,h2,if_false,List.cons_append,Qb0 k v (m+1) r h]
theorem Qbz(k:ByteArray)(v:Value):∀(n m:Nat) (l:List (ByteArray × Value)) (i:Nat) (x:Value),
  ((l.zipIdx m).find? (λ p=>p.1.1 == k)).map (λ p=>(p.2,p.1.2))=some (i,x)->
  m<=i/\∃h:i - m<l.length,l[i - m].1=k/\(Qct n l).modify (i - m) (λ e=>{ e with key:=.string k,val:=v })=Qct n (QaI l k v)/\(QaI l k v).length=l.length
 | n,m,p :: r,i,x,h=>by
  simp only[List.zipIdx_cons,List.find?_cons]at h
  by_cases h1:(p.1 == k)=true
  ·simp only[h1]at h
   simp at h;obtain⟨rfl,rfl⟩:=h;have h2:p.1=k:=by simpa using h1
   refine⟨Nat.le_refl _,by simp,by simpa using h2,?_,?_⟩
   ·simp[Qct,QaI,h2]
   ·simp[QaI,h2]
  ·simp only[Bool.not_eq_true]at h1
   simp only[h1]at h;have h2:¬p.1=k:=by simpa using h1
   obtain⟨a,b,c,d,e⟩:=Qbz k v (n+1) (m+1) r i x h;have e1:i - m=(i - (m+1))+1:=by omega
   refine⟨by omega,by simp;omega,?_,?_,?_⟩
   ·simp only[e1,List.getElem_cons_succ];exact c
   ·simp only[e1,Qct,QaI,h2,if_false,List.modify_succ_cons,d]
   ·simp only[QaI,h2,if_false,List.length_cons,e]
section
open Go.MapKept
variable {P : Program} {K E t : TypeId} {w : World} {b : Nat} {l : List (ByteArray × Value)}
theorem Qbi(k:ByteArray):IsKey .string (.string k):=by simp[IsKey]
theorem QgF(ht:P.underlying t=some (.map K E))(hK:P.underlying K=some .string){z:Value}(hz:(zeroValue E).run P w=.ok z w)(hb:w.heap[b]?=some (QaF l))(k:ByteArray):
  (Instr.lookup t (.map (some b)) (.string k) false).run P w=.ok ((Qb3 l k).getD z) w:=by
 unfold QaF at hb;rw[<-Qcq k 0 l];simp only[Instr.lookup,run_underlying ht,MapKept.run_getObj_map hb,MapKept.run_checkKey hK (Qbi k),MapKept.run_findKey hK (K9 k 0 0 l),Result.andThen,Sem.run_bind,Sem.run_pure]
 cases h:(l.zipIdx 0).find? (λ p=>p.1.1 == k) <;> simp[hz,Result.andThen]
theorem QdE(ht:P.underlying t=some (.map K E))(hK:P.underlying K=some .string)(hb:w.heap[b]?=some (QaF l))(k:ByteArray)(v:Value):
  (Instr.mapUpdate t (.map (some b)) (.string k) v).run P w=.ok () (setBlock w b (QaF (QaI l k v))):=by
 have hb0:=hb;unfold QaF at hb
 cases h:(l.zipIdx 0).find? (λ p=>p.1.1 == k)with
 | none=>
  simp only[Instr.mapUpdate,run_underlying ht,MapKept.run_getObj_map hb,MapKept.run_checkKey hK (Qbi k),MapKept.run_findKey hK (K9 k 0 0 l),h,Result.andThen,Sem.run_bind,Sem.run_pure,Option.map_none,MapKept.run_setObj_map _ hb];rw[Qb0 k v 0 l h];unfold QaF setBlock;rw[Qf3,Nat.zero_add];simp
 | some p=>
  obtain⟨_,h1,h2,h3,h4⟩:=Qbz k v 0 0 l p.2 p.1.2 (by rw[h];rfl);have h5:(((Qct 0 l).toArray[p.2]?).map (·.key)).getD (.string k)=.string k:=by have:=Qh6 0 l p.2 (by simpa using h1);simp only[List.getElem?_toArray,this,Option.map_some,Option.getD_some];have h2':l[p.2].1=k:=h2;rw[h2']
  simp only[Instr.mapUpdate,run_underlying ht,MapKept.run_getObj_map hb,MapKept.run_checkKey hK (Qbi k),MapKept.run_findKey hK (K9 k 0 0 l),h,Result.andThen,Sem.run_bind,Sem.run_pure,Option.map_some,MapKept.run_setObj_map _ hb,h5,MapKept.run_keyThatStays (Qbi k)];unfold QaF setBlock;rw[h4,<-h3];simp
section
variable {ops : Array Oper} {rest : List Oper} {o : Oper} {a : Act} {Q : Exit → Act → World → Prop}
theorem Qb4(hg:o.guard=none)(m x v:Operand)(t K E:TypeId)(hop:o.op=Op.mapUpdate t m x v)(ht:P.underlying t=some (.map K E))(hK:P.underlying K=some .string)
  (b:Nat) (l:List (ByteArray × Value)) (hm:a.eval m=.map (some b)) (hb:w.heap[b]?=some (QaF l)) (k:ByteArray) (val:Value) (hx:a.eval x=.string k) (hv:a.eval v=val)
  (hN:wpList P ops Q rest (a.put o.dst undef) (setBlock w b (QaF (QaI l k val)))):wpList P ops Q (o :: rest) a w:=by
 refine wpList_plain hg λ K' hK'=>?_;unfold Oper.wp;simp[execOp,hop,hm,hx,hv,QdE ht hK hb,Result.andThen];exact hK' _ _ hN
end
end
end
section
open Go.RowKit Go.ChangeMaps Go.MapKept
theorem Ug(p:ByteArray × Value)(l:List (ByteArray × Value))(k:ByteArray):Qb3 (p :: l) k=if p.1=k then some p.2 else Qb3 l k:=by
 unfold Qb3;rw[List.find?_cons]
 by_cases h:p.1=k
 ·simp[h]
 ·have:(p.1 == k)=false:=by simpa using h
  simp[h,this]
theorem Qjl(l:List (ByteArray × Value))(k j:ByteArray)(v:Value):Qb3 (QaI l k v) j=if k=j then some v else Qb3 l j:=by
 induction l with
 | nil=>rw[QaI,Ug]
 | cons p r ih=>
  unfold QaI
  by_cases h:p.1=k
  ·rw[if_pos h,Ug,Ug]
   by_cases h2:k=j
   ·simp[h2]
   ·have:¬p.1=j:=λ e=>h2 (h.symm.trans e)
    simp[h2,this]
  ·rw[if_neg h,Ug,Ug,ih]
   by_cases h2:k=j
   ·have:¬p.1=j:=λ e=>h (e.trans h2.symm)
    simp[h2,this]
   ·simp[h2]
def Qfu(gs:List Zv):Prop:=∀i j,i<gs.length->j<gs.length->(gth gs i).key=(gth gs j).key->i=j
def Qt9(gs:List Zv):Prop:=∀i j,i<gs.length->j<gs.length->i≠j->∀o,o ∈ (gth gs i).offs->o ∉ (gth gs j).offs
def Qko(gs:List Zv)(L:List (ByteArray × Value))(seen:List Nat):Prop:=∀i,i<gs.length->Qb3 L (gth gs i).key=if i ∈ seen then some (.int .i64 1)else none
theorem Qko.put{gs:List Zv}{L:List (ByteArray × Value)}{seen:List Nat}(h:Qko gs L seen)(hk:Qfu gs){j:Nat}(hj:j<gs.length):Qko gs (QaI L (gth gs j).key (.int .i64 1)) (j :: seen):=λ i hi=>by
 rw[Qjl]
 by_cases e:(gth gs j).key=(gth gs i).key
 ·have:=hk j i hj hi e
  subst this;rw[if_pos rfl,if_pos (List.mem_cons_self ..)]
 ·rw[if_neg e,h i hi]
  have:i≠j:=λ e2=>e (by rw[e2])
  by_cases hm:i ∈ seen
  ·rw[if_pos hm,if_pos (List.mem_cons_of_mem _ hm)]
  ·rw[if_neg hm,if_neg (by simp[this,hm])]
theorem Qa6.chg{rb tb:Nat}{w w':World}{b off:Nat}{l:List Zu}(h:Qa6 w (some ⟨b,off,none⟩) l)(hc:Chg rb tb w w')(h1:b≠rb)(h2:b≠tb):Qa6 w' (some ⟨b,off,none⟩) l:=λ i hi=>by
 obtain⟨b',off',e,h3⟩:=h i hi
 cases e
 have hb:=hc.block b (Ql h3.c0) h1 h2;have e:∀q,w'.cell? ⟨b,q,none⟩=w.cell? ⟨b,q,none⟩:=λ q=>World.cell?_of_block (w:=w) hb;obtain⟨c0,c1,c2,c3,c4,c5⟩:=h3;exact⟨b,off,rfl,by constructor <;> (rw[e];assumption)⟩
theorem Chg.setBlock{rb tb:Nat}{a b:World}(h:Chg rb tb a b){k:Nat}(hk:a.heap.size<=k)(x:Obj):Chg rb tb a (setBlock b k x):=
 ⟨h.os,h.tape,h.output,by show a.heap.size<=(b.heap.setIfInBounds k x).size;rw[Array.size_setIfInBounds];exact h.size,λ i hi h1 h2=>by
  show(b.heap.setIfInBounds k x)[i]?=_;rw[Array.getElem?_setIfInBounds_ne (by omega)];exact h.block i hi h1 h2⟩
theorem QjF(kb:Nat)(k:ByteArray)(w:World)(l:List Zu)(h:w.heap[kb]?=some (.cells #[.string k] 9 (0,0))):QlM w l 249 #[.pointer (some ⟨kb,0,none⟩)] (λ i=>(fth l i).key.toList == k.toList):=by
 refine⟨enters_of Tryz.func249 (by kernel_rfl) rfl,λ i hi w' hb=>?_⟩;have c0:w'.cell? ⟨kb,0,none⟩=some (.string k):=Qa ((hb.block _ (lt_of_block h)).trans h) 0;clear h;show Calls Tryz.prog _ _ _ (λ e w''=>e=.returned (.bool ((fth l i).key.toList == k.toList))/\Below w'.heap.size w' w'');generalize fth l i=v;show Calls Tryz.prog 249 #[v.val,.pointer (some ⟨kb,0,none⟩)] w' (λ e w''=>e=.returned (.bool (v.key.toList == k.toList))/\Below w'.heap.size w' w'');unfold Zu.val;have hz:kb<w'.heap.size:=Ql c0
 go_enter Tryz.func249,Tryz.ntmps249
 go_upto_region 1 with fail;obtain⟨vb,hvb⟩:∃vb,w'.heap.size=vb:=⟨_,rfl⟩;obtain⟨V,hV⟩:∃V,w'.alloc (.cells #[.string v.key,.bool v.must,.func (.func v.ef) #[] v.ec,.func (.func v.mf) #[] v.mc,.func (.func v.pf) #[] v.pc,.func (.func v.gf) #[] v.gc] 183)=V:=⟨_,rfl⟩;have HBV:Hid (Below w'.heap.size w' V):=QLh (by rw[<-hV];exact Qf (Below.refl _ _) _);have hbk:V.heap[vb]?=some (.cells #[.string v.key,.bool v.must,.func (.func v.ef) #[] v.ec,.func (.func v.mf) #[] v.mc,.func (.func v.pf) #[] v.pc,.func (.func v.gf) #[] v.gc] 183 (0,0)):=by rw[<-hV,<-hvb];exact heap_alloc_new _ _
 have d0:V.cell? ⟨kb,0,none⟩=some (.string k):=by rw[World.cell?_of_block (w:=w') (HBV.out.block kb hz)];exact c0
 have d1:V.cell? ⟨vb,0,none⟩=some (.string v.key):=Qa hbk 0
 try rw[hV]
 try simp only[hvb]
 clear hV c0 hbk hb;go_wp2;go_ret;exact⟨rfl,HBV.out⟩
theorem Qmw(sb mb:Nat)(L:List (ByteArray × Value))(w:World)(l:List Zu)(hL:∀i,i<len l->Qb3 L (fth l i).key=none \/ Qb3 L (fth l i).key=some (.int .i64 1))(h1:w.heap[sb]?=some (.cells #[.map (some mb)] 283 (0,0)))(h2:w.heap[mb]?=some (QaF L)):QlM w l 251 #[.pointer (some ⟨sb,0,none⟩)] (λ i=>(fth l i).must && (Qb3 L (fth l i).key).isNone):=by
 refine⟨enters_of Tryz.func251 (by kernel_rfl) rfl,λ i hi w' hb=>?_⟩;have c0:w'.cell? ⟨sb,0,none⟩=some (.map (some mb)):=Qa ((hb.block _ (lt_of_block h1)).trans h1) 0;have c1:=(hb.block _ (lt_of_block h2)).trans h2;clear h1 h2;have hLi:=hL i hi;show Calls Tryz.prog _ _ _ (λ e w''=>e=.returned (.bool ((fth l i).must && (Qb3 L (fth l i).key).isNone))/\Below w'.heap.size w' w'');generalize fth l i=v at hLi;show Calls Tryz.prog 251 #[v.val,.pointer (some ⟨sb,0,none⟩)] w' (λ e w''=>e=.returned (.bool (v.must && (Qb3 L v.key).isNone))/\Below w'.heap.size w' w'');unfold Zu.val;have hrun:=fun (W:World) (hW:W.heap[mb]?=some (QaF L))=>QgF (P:=Tryz.prog) (t:=283) (K:=9) (E:=3) Tryz.underlying283 Tryz.underlying9 (Tryz.zeroValue3 W) hW v.key;have hz:sb<w'.heap.size:=Ql c0;have hz2:mb<w'.heap.size:=lt_of_block c1
 go_enter Tryz.func251,Tryz.ntmps251
 go_upto_region 1 with fail;obtain⟨vb,hvb⟩:∃vb,w'.heap.size=vb:=⟨_,rfl⟩;obtain⟨V,hV⟩:∃V,w'.alloc (.cells #[.string v.key,.bool v.must,.func (.func v.ef) #[] v.ec,.func (.func v.mf) #[] v.mc,.func (.func v.pf) #[] v.pc,.func (.func v.gf) #[] v.gc] 183)=V:=⟨_,rfl⟩;have HBV:Hid (Below w'.heap.size w' V):=QLh (by rw[<-hV];exact Qf (Below.refl _ _) _);have hbk:V.heap[vb]?=some (.cells #[.string v.key,.bool v.must,.func (.func v.ef) #[] v.ec,.func (.func v.mf) #[] v.mc,.func (.func v.pf) #[] v.pc,.func (.func v.gf) #[] v.gc] 183 (0,0)):=by rw[<-hV,<-hvb];exact heap_alloc_new _ _
 have d0:V.cell? ⟨sb,0,none⟩=some (.map (some mb)):=by rw[World.cell?_of_block (w:=w') (HBV.out.block sb hz)];exact c0
 have d1:V.cell? ⟨vb,0,none⟩=some (.string v.key):=Qa hbk 0;have d2:V.cell? ⟨vb,1,none⟩=some (.bool v.must):=Qa hbk 1;have hr:=hrun V ((HBV.out.block mb hz2).trans c1)
 try rw[hV]
 try simp only[hvb]
 clear hV hrun c0 c1 hbk hb
 cases hm:v.must with
 | false=>
  rw[hm]at d2;go_wp2;go_ret;exact⟨Xv (by simp[hm]),HBV.out⟩
 | true=>
  rw[hm]at d2
  rcases hLi with hLi | hLi
  ·rw[hLi]at hr
   have hr':Sem.run Tryz.prog (Instr.lookup 283 (.map (some mb)) (.string v.key) false) V=.ok (.int .i64 0) V:=hr;have HL2:=QLh hLi;clear hr hLi hL;go_wp2;go_ret;exact⟨Xv (by rw[HL2.out];simp[hm]),HBV.out⟩
  ·rw[hLi]at hr
   have hr':Sem.run Tryz.prog (Instr.lookup 283 (.map (some mb)) (.string v.key) false) V=.ok (.int .i64 1) V:=hr;have HL2:=QLh hLi;clear hr hLi hL;go_wp2;go_ret;exact⟨Xv (by rw[HL2.out];simp[hm]),HBV.out⟩
end
section
open Go.RowKit Go.ChangeMaps Go.MapKept
theorem Qhk{s:ByteArray}{gs:List Zv}{x:Rcd}{a:Nat}{f:Flt}(h:tkR 4 s a=.error f):Qfg s gs x a=.error f:=by unfold Qfg;rw[h]
theorem Ur{s:ByteArray}{gs:List Zv}{x:Rcd}{a:Nat}{f:Flt}{y:Int × ByteArray × Nat}(h:tkR 4 s a=.ok y)(h2:Zf s gs y.1.toNat 0 x [] y.2.2=.error f):Qfg s gs x a=.error f:=by unfold Qfg;rw[h];simp only[h2]
theorem Qiy{s:ByteArray}{gs:List Zv}{x:Rcd}{a:Nat}{y:Int × ByteArray × Nat}{z:Rcd × List Nat × Nat}(h:tkR 4 s a=.ok y)(h2:Zf s gs y.1.toNat 0 x [] y.2.2=.ok z)(h3:Ky gs z.2.1=true):Qfg s gs x a=.error (5,0):=by unfold Qfg;rw[h];simp only[h2,h3,if_true]
theorem Qjg{s:ByteArray}{gs:List Zv}{x:Rcd}{a:Nat}{y:Int × ByteArray × Nat}{z:Rcd × List Nat × Nat}(h:tkR 4 s a=.ok y)(h2:Zf s gs y.1.toNat 0 x [] y.2.2=.ok z)(h3:Ky gs z.2.1=false):Qfg s gs x a=.ok (z.1,z.2.2):=by unfold Qfg;rw[h];simp only[h2,h3];rfl
theorem Qe7(gs:List Zv)(seen:List Nat):Ky gs seen=true ↔ ∃i,i<gs.length/\((gth gs i).must && !seen.contains i)=true:=by unfold Ky;rw[List.any_eq_true];simp only[List.mem_range]
def QcZ(w w':World):Prop:=∀(b:Nat) (cs:Array Value) (T:TypeId) (fz:Nat × Nat),w.heap[b]?=some (.cells cs T fz)->w'.heap[b]?=w.heap[b]?
theorem Qg6{w:World}{b o:Nat}{v:Value}(h:w.cell? ⟨b,o,none⟩=some v):∃(cs:Array Value) (T:TypeId) (fz:Nat × Nat),w.heap[b]?=some (.cells cs T fz):=by
 unfold World.cell? at h
 split at h
 ·next cs T fz he=>exact⟨_,_,_,he⟩
 ·cases h
theorem QcZ.cell{w w':World}(hk:QcZ w w'){b o:Nat}{v:Value}(h:w.cell? ⟨b,o,none⟩=some v):w'.cell? ⟨b,o,none⟩=some v:=by obtain⟨cs,T,fz,h2⟩:=Qg6 h;rw[World.cell?_of_block (w:=w) (hk _ _ _ _ h2)];exact h
theorem QcZ.tx{w w':World}(hk:QcZ w w'){a:Option Addr}{l:List ByteArray}(h:Tx w a l):Tx w' a l:=h.keep λ b off cs e h2=>hk _ _ _ _ h2
theorem QcZ.ux{w w':World}(hk:QcZ w w'){a:Option Addr}{l:List Int}(h:Ux w a l):Ux w' a l:=h.keep λ b off cs e h2=>hk _ _ _ _ h2
theorem QcZ.rev{w w':World}(hk:QcZ w w'){rb tb:Nat}{r:Rev}{d:QrC}(h:Qmo rb tb w r d):Qmo rb tb w' r d:=
 ⟨h.pos,h.L,h.signed,h.idx,h.wn,hk.tx h.ws,h.wo,h.pn,hk.tx h.ps,h.po,h.root,h.wt,h.first,h.life,h.keys⟩
theorem QcZ.holds{w w':World}(hk:QcZ w w'){rb tb:Nat}{v:Value}{d:DV}(h:Kw rb tb w v d):Kw rb tb w' v d:=by
 cases d with
 | num n=>exact h
 | flag q=>exact h
 | str s=>exact h
 | strs l=>obtain⟨a,c,h1,h2,h3,h4⟩:=h;exact⟨a,c,h1,h2,h3,hk.tx h4⟩
 | nums l=>obtain⟨a,c,h1,h2,h3,h4⟩:=h;exact⟨a,c,h1,h2,h3,hk.ux h4⟩
 | revs l=>
  obtain⟨a,c,h1,h2,h3,rs,h4,h5,h6⟩:=h;refine⟨a,c,h1,h2,h3,rs,h4,λ i hi=>?_,λ i hi=>hk.rev (h6 i hi)⟩;obtain⟨b,off,e,⟨c0,c1,c2,c3,c4,c5,c6,c7,c8,c9,c10⟩⟩:=h5 i hi;exact⟨b,off,e,⟨hk.cell c0,hk.cell c1,hk.cell c2,hk.cell c3,hk.cell c4,hk.cell c5,hk.cell c6,hk.cell c7,hk.cell c8,hk.cell c9,hk.cell c10⟩⟩
theorem QcZ.rec{w w':World}(hk:QcZ w w'){rb tb:Nat}{T:TypeId}{n:Nat}{x:Rcd}(h:Xx rb tb T n w x):Xx rb tb T n w' x:=by obtain⟨cs,h1,h2,h3⟩:=h;refine⟨cs,(hk _ _ _ _ h1).trans h1,h2,λ i hi=>?_⟩;obtain⟨v,h4,h5⟩:=h3 i hi;exact⟨v,h4,hk.holds h5⟩
theorem QeZ{a b:ByteArray}(h:(a.toList == b.toList)=true):a=b:=by rw[ByteArray.toList_eq,ByteArray.toList_eq]at h;exact Jc (by simpa using h)
theorem Qlu{gs:List Zv}{fn j:Nat}{k:ByteArray}(h:Ys gs fn k=some j):(gth gs (fn+j)).key=k:=by unfold Ys at h;exact QeZ (List.find?_some (p:=λ i=>(gth gs (fn+i)).key.toList == k.toList) h)
theorem Qqa(l:List Zu)(fn i:Nat)(h:fn+i<l.length):fth (l.drop fn) i=fth l (fn+i):=by rw[Kv _ i (by simp;omega),Kv _ _ h,List.getElem_drop]
theorem Qe5{B qb rb tb:Nat}{x0:Rcd}{T:TypeId}{n:Nat}{s:ByteArray}{W0:World}{l:List Zu}{gs:List Zv}(h:QnS B qb rb tb x0 T n s W0 l gs)(fn i:Nat)(hi:fn+i<len l):(fth (l.drop fn) i).key=(gth gs (fn+i)).key:=by rw[Qqa l fn i hi];exact(h.2 _ hi).key
theorem Qhj{B qb rb tb:Nat}{x0:Rcd}{T:TypeId}{n:Nat}{s:ByteArray}{W0:World}{l:List Zu}{gs:List Zv}(h:QnS B qb rb tb x0 T n s W0 l gs)(fn:Nat)(k:ByteArray)(hh:∀i,i<len (l.drop fn)->((fth (l.drop fn) i).key.toList == k.toList)=false):Ys gs fn k=none:=by
 have hl:gs.length=l.length:=h.1;have hd:len (l.drop fn)=l.length - fn:=by simp[len]
 refine QeS λ i hi=>?_;have:=hh i (by omega);rw[Qe5 h fn i (by omega:fn+i<l.length)]at this;exact this
theorem QlL{B qb rb tb:Nat}{x0:Rcd}{T:TypeId}{n:Nat}{s:ByteArray}{W0:World}{l:List Zu}{gs:List Zv}(h:QnS B qb rb tb x0 T n s W0 l gs)(fn j:Nat)(k:ByteArray)(hj:j<len (l.drop fn))(hp:((fth (l.drop fn) j).key.toList == k.toList)=true)(hh:∀i,i<j->((fth (l.drop fn) i).key.toList == k.toList)=false):Ys gs fn k=some j:=by
 have hl:gs.length=l.length:=h.1;have hd:len (l.drop fn)=l.length - fn:=by simp[len]
 refine QbK (by omega) ?_ λ i hi=>?_
 ·rw[Qe5 h fn j (by omega:fn+j<l.length)]at hp;exact hp
 ·have:=hh i hi
  rw[Qe5 h fn i (by omega:fn+i<l.length)]at this;exact this
theorem QaY{s:ByteArray}{gs:List Zv}{g fn a:Nat}{x:Rcd}{seen:List Nat}{z:Int × ByteArray × Nat}(h1:tkR 2 s a=.ok z)(h2:Ys gs fn z.2.1=none):Zf s gs (g+1) fn x seen a=.error (5,0):=by rw[Zf,h1];simp only[h2]
theorem QeO{s:ByteArray}{gs:List Zv}{g fn a j:Nat}{x:Rcd}{seen:List Nat}{z:Int × ByteArray × Nat}{f:Flt}(h1:tkR 2 s a=.ok z)(h2:Ys gs fn z.2.1=some j)(h3:(gth gs (fn+j)).read x z.2.2=.error f):Zf s gs (g+1) fn x seen a=.error f:=by rw[Zf,h1];simp only[h2,h3]
theorem QbR{s:ByteArray}{gs:List Zv}{g fn a j:Nat}{x:Rcd}{seen:List Nat}{z:Int × ByteArray × Nat}{y:Rcd × Nat}(h1:tkR 2 s a=.ok z)(h2:Ys gs fn z.2.1=some j)(h3:(gth gs (fn+j)).read x z.2.2=.ok y)(h4:(gth gs (fn+j)).empty y.1=true):Zf s gs (g+1) fn x seen a=.error (5,0):=by rw[Zf,h1];simp only[h2,h3,h4,if_true]
theorem QaS{s:ByteArray}{gs:List Zv}{g fn a j:Nat}{x:Rcd}{seen:List Nat}{z:Int × ByteArray × Nat}{y:Rcd × Nat}(h1:tkR 2 s a=.ok z)(h2:Ys gs fn z.2.1=some j)(h3:(gth gs (fn+j)).read x z.2.2=.ok y)(h4:(gth gs (fn+j)).empty y.1=false):Zf s gs (g+1) fn x seen a=Zf s gs g (fn+j+1) y.1 ((fn+j) :: seen) y.2:=by rw[Zf,h1];simp only[h2,h3,h4];rfl
theorem Qjs(B qb rb tb b1 off c:Nat)(x0:Rcd)(T:TypeId)(n:Nat)(s:ByteArray)(W0 w:World)(l:List Zu)(gs:List Zv)(a:Nat)(x:Rcd)
  (hl:Qa6 w (some ⟨b1,off,none⟩) l) (hc:len l<=c) (hn:len l<=1000) (hS:QnS B qb rb tb x0 T n s W0 l gs) (hk:Chg rb tb W0 w) (hb1:b1≠rb/\b1≠tb) (hqt:qb≠tb) (hBt:B<=tb) (htr:tb≠rb)
  (hKeys:Qfu gs) (hDis:Qt9 gs) (hFr:∀g ∈ gs,g.Frames) (hKi:∀g ∈ gs,g.Kinds x0) (hkd:Kd x0 x) (hx:Xx rb tb T n w x) (h:Qaz B w qb rb s a) (hfresh:∀i,i<gs.length->Qfn x0 (gth gs i) x):
  Calls Tryz.prog 183 #[.pointer (some ⟨qb,0,none⟩),.slice (some ⟨b1,off,none⟩) (len l) c] w (QiF (Qfg s gs x a) rb tb T n s w):=by
 have H:=QLh h;have HX:=QLh hx;have HL:=QLh hl;have HS:=QLh hS;have HK:=QLh hk;have HKE:=QLh hKeys;have HDI:=QLh hDis;have HFR:=QLh hFr;have HKI:=QLh hKi;have HKX:=QLh hkd;have HFS:=QLh hfresh;have hqr:=h.ne;have c0:w.cell? ⟨qb,0,none⟩=some (.pointer (some ⟨rb,0,none⟩)):=Qa h.q 0;have hqs:qb<w.heap.size:=lt_of_block h.q;have hrs:rb<w.heap.size:=lt_of_block h.r;have hts:tb<w.heap.size:=hx.lt;clear hl hS hk hKeys hDis hFr hKi hkd hx h hfresh;have hmm:=@run_makeMap Tryz.prog
 go_enter Tryz.func183,Tryz.ntmps183
 go_upto_region 2 with fail;obtain⟨mb,hmb⟩:∃mb,w.heap.size=mb:=⟨_,rfl⟩;obtain⟨V,hV⟩:∃V,(w.alloc (.map #[] 0)).alloc (.cells #[.map (some mb)] 283)=V:=⟨_,rfl⟩;have HV:Hid (Below w.heap.size w V):=QLh (by rw[<-hV];exact Qf (Qf (Below.refl _ _) _) _);have HM:Hid (V.heap[mb]?=some (QaF [])):=QLh (by rw[<-hV,<-hmb];exact Qe (heap_alloc_new _ _) _);have HSB:Hid (V.heap[mb+1]?=some (.cells #[.map (some mb)] 283 (0,0))):=QLh (by rw[<-hV];exact Qg _ (by simp[hmb]));have d0:V.cell? ⟨qb,0,none⟩=some (.pointer (some ⟨rb,0,none⟩)):=by rw[World.cell?_of_block (w:=w) (HV.out.block qb hqs)];exact c0
 try simp only[hmb]
 try rw[hV]
 clear hV c0;go_wp2_with fail;refine(Qt3 V B qb rb s a (H.out.below HV.out)).mono ?_;intro e w1 hh
 cases hr:tkR 4 s a with
 | error f=>
  rw[hr]at hh;obtain⟨fb,rfl,hf,hE,-⟩:=QdV hh;have HF:=QLh hf;have HE:=QLh hE;have HR:Hid (Qfg s gs x a=.error f):=QLh (Qhk hr);clear hh hf hE hr;go_wp2_with fail;refine(Qm2 _ fb w1).mono ?_;rintro e w2 ⟨rfl,rfl⟩;go_wp2;refine⟨rfl,?_⟩;rw[HR.out];exact⟨(Chg.of_below HV.out).ext HE.out,fb,rfl,HF.out,((HX.out.below HV.out).ext HE.out htr).thAt⟩
 | ok y=>
  rw[hr]at hh;obtain⟨rfl,hrd,hE⟩:=Qgq hh;have HR:=QLh hr;have hbd:=Qd2 (by decide) hr;have hy:y.1=((y.1.toNat:Nat):Int):=by omega
  obtain⟨N,hN⟩:∃N,y.1.toNat=N:=⟨_,rfl⟩;have hN2:N<=10240:=by have:=hbd.2.2.1 (by decide);omega
  have HNN:=QLh hN;obtain⟨a0,ha0⟩:∃a0,y.2.2=a0:=⟨_,rfl⟩;have HA0:=QLh ha0;rw[ha0]at hrd hbd;have hle:=hbd.1;rw[hN]at hy;have hmr:rb<mb:=by omega
  have hmt:tb<mb:=by omega
  have HC1:Hid (Chg rb tb w w1):=QLh ((Chg.of_below HV.out).ext hE);have HM1:Hid (w1.heap[mb]?=some (QaF [])):=QLh ((hE.block _ (lt_of_block HM.out) (by simp;omega)).trans HM.out);have HSB1:Hid (w1.heap[mb+1]?=some (.cells #[.map (some mb)] 283 (0,0))):=QLh ((hE.block _ (lt_of_block HSB.out) (by simp;omega)).trans HSB.out);have HRD1:=QLh hrd;have HLE1:=QLh hle;have HX1:Hid (Xx rb tb T n w1 x):=QLh ((HX.out.below HV.out).ext hE htr);clear hh hrd hE hr hbd hN ha0 hle HM HSB d0;rw[hy];clear hy;go_wp2_with fail;refine(QoV _ w1).mono ?_;rintro e w2 ⟨rfl,rfl⟩;go_wp2;clear HV V
  go_loopg [4,6,7,8,18] N (λ g fr t6 t7 t8 i wr=>∃(m fn a':Nat) (xx:Rcd) (seen:List Nat) (L:List (ByteArray × Value)),g+m=N/\i=.int .i64 m/\fr=.int .i64 fn/\fn<=len l/\Hid (Zf s gs N 0 x [] a0=Zf s gs g fn xx seen a')/\Hid (a'<=s.size)/\Hid (RdB wr rb s a' 10240)/\Hid (Chg rb tb w wr)/\
   Hid (Xx rb tb T n wr xx)/\Hid (wr.heap[mb]?=some (QaF L))/\Hid (wr.heap[mb+1]?=some (.cells #[.map (some mb)] 283 (0,0)))/\Hid (Qko gs L seen)/\Hid (∀i,fn<=i->i<gs.length->Qfn x0 (gth gs i) xx)/\Hid (Kd x0 xx))
  case atStart=>exact⟨0,0,a0,x,[],[],rfl,rfl,rfl,Nat.zero_le _,rfl,HLE1.out,HRD1.out,HC1.out,HX1.out,HM1.out,HSB1.out,λ i _=>by simp[Qb3],λ i _ hi=>HFS.out i hi,HKX.out⟩
  case round=>
   clear HRD1 HLE1 HC1 HX1 HM1 HSB1;obtain⟨m,fn,a',xx,seen,L,hgm,rfl,rfl,hfn,HLO,HLE,HRD,HC,HX2,HM,HSB,HSN,HFF,HKD⟩:=hrel;have HEV:Hid (Qaz B wr qb rb s a'):=QLh (H.out.chg HC.out hqt hBt HRD.out HLE.out);have HFL:Hid (Qa6 wr (some ⟨b1,off,none⟩) l):=QLh (HL.out.chg HC.out hb1.1 hb1.2)
   by_cases hlt:m<N
   ·have i1:(m:Int)<N:=by omega
    obtain⟨g',rfl⟩:∃g',gk=g'+1:=⟨gk - 1,by omega⟩;have d0:wr.cell? ⟨qb,0,none⟩=some (.pointer (some ⟨rb,0,none⟩)):=Qa HEV.out.q 0;go_wp2_with fail;refine(QtR wr B qb rb s a' HEV.out).mono ?_;intro e w2 hh
    cases hr2:tkR 2 s a' with
    | error f=>
     rw[hr2]at hh;obtain⟨fb,rfl,hf,hE,-⟩:=QdV hh;have HF:=QLh hf;have HE:=QLh hE;have HE2:Hid (Zf s gs N 0 x [] a0=.error f):=QLh (by rw[HLO.out,Zf,hr2]);clear hh hf hE hr2 d0;go_wp2_with fail;refine(Qh7 _ fb w2).mono ?_;rintro e w3 ⟨rfl,rfl⟩;go_wp2;refine⟨rfl,?_⟩;rw[Ur HR.out (by rw[HNN.out,HA0.out];exact HE2.out)];exact⟨HC.out.ext HE.out,fb,rfl,HF.out,(HX2.out.ext HE.out htr).thAt⟩
    | ok z=>
     rw[hr2]at hh;obtain⟨rfl,hrd,hE⟩:=Qgq hh;have HR2:=QLh hr2;have HE:=QLh hE;have HRD2:=QLh hrd;have HLE2:Hid (z.2.2<=s.size):=QLh (Qd2 (by decide) hr2).1;obtain⟨k,hk⟩:∃k,z.2.1=k:=⟨_,rfl⟩;have HKK:=QLh hk;rw[hk];clear hh hrd hE hr2 hk d0;go_wp2_with fail;refine(Qix _ w2).mono ?_;rintro e w3 ⟨rfl,rfl⟩;go_upto_region 5 with fail;obtain⟨kb,hkb⟩:∃kb,w3.heap.size=kb:=⟨_,rfl⟩;obtain⟨V,hV⟩:∃V,w3.alloc (.cells #[.string k] 9)=V:=⟨_,rfl⟩;have HV:Hid (Below w3.heap.size w3 V):=QLh (by rw[<-hV];exact Qf (Below.refl _ _) _);have HKB:Hid (V.heap[kb]?=some (.cells #[.string k] 9 (0,0))):=QLh (by rw[<-hV,<-hkb];exact heap_alloc_new _ _)
     try rw[hV]
     try simp only[hkb]
     clear hV;have hkw:w.heap.size<=kb:=by rw[<-hkb];exact Nat.le_trans HC.out.size HE.out.size
     have HCV:Hid (Chg rb tb w V):=QLh ((HC.out.ext HE.out).next HV.out);have HFV:Hid (Qa6 V (some ⟨b1,off+fn * 6,none⟩) (l.drop fn)):=QLh (Qa6.drop (HL.out.chg HCV.out hb1.1 hb1.2) fn);have i2:(0:Int)<=fn:=by omega
     have i3:(fn:Int)<=len l:=by omega
     have i4:(len l:Int)<=c:=by omega
     have hld:len (l.drop fn)=len l - fn:=by simp[len]
     go_wp2_with fail
     ·have hd0:l.drop fn=[]:=by
       apply List.eq_nil_of_length_eq_zero;have:len (l.drop fn)=0:=by omega
       exact this
      have HK1:Hid (∀i,i<len (l.drop fn)->((fth (l.drop fn) i).key.toList == k.toList)=false):=QLh (λ i hi=>by rw[hd0]at hi;simp[len]at hi);rw[<-hld];refine(Qee (some ⟨b1,off,none⟩) 0 (l.drop fn) 249 #[.pointer (some ⟨kb,0,none⟩)] _ V (by rw[hd0];exact Qa6.nil _ _) (by omega) (QjF kb k V _ HKB.out)).mono ?_;rintro e w4 ⟨r,rfl,hr,hb⟩;obtain rfl:r=-1:=by
       rcases hr with⟨h1,-⟩ | ⟨j,hj,-⟩
       ·exact h1
       ·exfalso;omega
      have HB4:=QLh hb;have HE2:Hid (Zf s gs N 0 x [] a0=.error (5,0)):=QLh (HLO.out.trans (QaY HR2.out (by rw[HKK.out];exact Qhj HS.out fn k HK1.out)));clear hr hb hd0 hld;go_wp2_with fail;refine(Qew 5 w4).mono ?_;rintro e w5 ⟨rfl,rfl⟩;go_wp2;refine⟨rfl,?_⟩;rw[Ur HR.out (by rw[HNN.out,HA0.out];exact HE2.out)];exact⟨(HCV.out.next HB4.out).next (Qf (Below.refl _ _) _),_,rfl,heap_alloc_new _ _,((((HX2.out.ext HE.out htr).below HV.out).below HB4.out).below (Qf (Below.refl _ _) _)).thAt⟩
     ·rw[<-hld]
      refine(Qee (some ⟨b1,off+fn * 6,none⟩) _ (l.drop fn) 249 #[.pointer (some ⟨kb,0,none⟩)] _ V HFV.out (by omega) (QjF kb k V _ HKB.out)).mono ?_;rintro e w4 ⟨r,rfl,hr,hb⟩;have HB4:=QLh hb
      rcases hr with⟨rfl,hno⟩ | ⟨j,hj,rfl,hp,hno⟩
      ·have HE2:Hid (Zf s gs N 0 x [] a0=.error (5,0)):=QLh (HLO.out.trans (QaY HR2.out (by rw[HKK.out];exact Qhj HS.out fn k hno)))
       clear hno hb hld;go_wp2_with fail;refine(Qew 5 w4).mono ?_;rintro e w5 ⟨rfl,rfl⟩;go_wp2;refine⟨rfl,?_⟩;rw[Ur HR.out (by rw[HNN.out,HA0.out];exact HE2.out)];exact⟨(HCV.out.next HB4.out).next (Qf (Below.refl _ _) _),_,rfl,heap_alloc_new _ _,((((HX2.out.ext HE.out htr).below HV.out).below HB4.out).below (Qf (Below.refl _ _) _)).thAt⟩
      ·have HKJ:Hid (Ys gs fn z.2.1=some j):=QLh (by rw[HKK.out];exact QlL HS.out fn j k hj hp hno)
       have hjl:fn+j<len l:=by omega
       have t1:decide ((0:Int)<=(j:Int))=true:=decide_eq_true (by omega);clear hp hno hb hj hld;go_wp2_with fail;refine(Qgf 5 w4).mono ?_;rintro e w5 ⟨rfl,rfl⟩;obtain⟨b',off',hbe,d0,d1,d2,d3,d4,d5⟩:=(HL.out.chg (HCV.out.next HB4.out) hb1.1 hb1.2) (fn+j) hjl
       cases hbe
       have i5:IntKind.i64.wrap ((fn:Int)+(j:Int))=(fn:Int)+(j:Int):=IntWalk.i64_in _ (by omega);have i6:(0:Int)<=(fn:Int)+(j:Int):=by omega
       have i7:(fn:Int)+(j:Int)<len l:=by omega
       have i8:((fn:Int)+(j:Int)).toNat=fn+j:=by omega
       have hgs:=HS.out.2 (fn+j) hjl;obtain⟨v,hv⟩:∃v,fth l (fn+j)=v:=⟨_,rfl⟩;rw[hv]at d0 d1 d2 d3 d4 d5 hgs;have HGS:=QLh hgs;clear hv hgs;go_upto_region 8 with fail;obtain⟨vb,hvb⟩:∃vb,w5.heap.size=vb:=⟨_,rfl⟩;obtain⟨U,hU⟩:∃U,w5.alloc (.cells #[.string v.key,.bool v.must,.func (.func v.ef) #[] v.ec,.func (.func v.mf) #[] v.mc,.func (.func v.pf) #[] v.pc,.func (.func v.gf) #[] v.gc] 183)=U:=⟨_,rfl⟩;have HU:Hid (Below w5.heap.size w5 U):=QLh (by rw[<-hU];exact Qf (Below.refl _ _) _);have HVB:Hid (U.heap[vb]?=some (.cells #[.string v.key,.bool v.must,.func (.func v.ef) #[] v.ec,.func (.func v.mf) #[] v.mc,.func (.func v.pf) #[] v.pc,.func (.func v.gf) #[] v.gc] 183 (0,0))):=QLh (by rw[<-hU,<-hvb];exact heap_alloc_new _ _)
       try rw[hU]
       try simp only[hvb]
       clear hU d0 d1 d2 d3 d4 d5 i5 i6 i7 i8;have hvw:w.heap.size<=vb:=by rw[<-hvb];exact(HCV.out.next HB4.out).size
       have HCU:Hid (Chg rb tb w U):=QLh ((HCV.out.next HB4.out).next HU.out);have HB3U:Hid (Below w3.heap.size w3 U):=QLh (Qj (Qj HV.out HB4.out) HU.out);have HRU:Hid (Qaz B U qb rb s z.2.2):=QLh (H.out.chg HCU.out hqt hBt (HRD2.out.below HB3U.out) HLE2.out);have HXU:Hid (Xx rb tb T n U xx):=QLh ((HX2.out.ext HE.out htr).below HB3U.out);have HMU:Hid (U.heap[mb]?=some (QaF L)):=QLh ((HB3U.out.block _ (by have:=HE.out.size;have:=lt_of_block HM.out;omega)).trans ((HE.out.block _ (lt_of_block HM.out) (by simp;omega)).trans HM.out));have HSU:Hid (U.heap[mb+1]?=some (.cells #[.map (some mb)] 283 (0,0))):=QLh ((HB3U.out.block _ (by have:=HE.out.size;have:=lt_of_block HSB.out;omega)).trans ((HE.out.block _ (lt_of_block HSB.out) (by simp;omega)).trans HSB.out));have HKU:Hid (U.heap[kb]?=some (.cells #[.string k] 9 (0,0))):=QLh (((Qj HB4.out HU.out).block _ (lt_of_block HKB.out)).trans HKB.out);have c5:U.cell? ⟨vb,5,none⟩=some (.func (.func v.gf) #[] v.gc):=Qa HVB.out 5;have eg:=HGS.out.eg;have hgl:fn+j<gs.length:=by have:gs.length=l.length:=HS.out.1;have:fn+j<l.length:=hjl;omega
       go_wp2_with fail;refine(HGS.out.read U xx z.2.2 (HK.out.trans HCU.out) HXU.out HRU.out (HFF.out (fn+j) (by omega) hgl) HKD.out).mono ?_;intro e w6 hh;clear c5 eg
       cases hr6:(gth gs (fn+j)).read xx z.2.2 with
       | error f=>
        rw[hr6]at hh;have HTH:=QLh (QjR hh);obtain⟨fb,rfl,hf,hc6⟩:=Qh8 hh;have HF:=QLh hf;have HC6:Hid (Chg rb tb w w6):=QLh (HCU.out.trans hc6);have HE2:Hid (Zf s gs N 0 x [] a0=.error f):=QLh (HLO.out.trans (QeO HR2.out HKJ.out hr6));clear hh hf hc6 hr6;go_wp2;refine⟨rfl,?_⟩;rw[Ur HR.out (by rw[HNN.out,HA0.out];exact HE2.out)];exact⟨HC6.out,fb,rfl,HF.out,HTH.out⟩
       | ok q=>
        rw[hr6]at hh;obtain⟨rfl,hrd6,hle6,hx6,hc6⟩:=Qka hh;have HRD6:=QLh hrd6;have HLE6:=QLh hle6;have HX6:=QLh hx6;have HC6:Hid (Chg rb tb w w6):=QLh (HCU.out.trans hc6);have HR6:=QLh hr6;have HKD6:Hid (Kd x0 q.1):=QLh (HKI.out _ (by rw[V7 gs _ hgl];exact List.getElem_mem _) _ _ _ hr6 HKD.out);have hch:∀b y,w.heap.size<=b->U.heap[b]?=some y->w6.heap[b]?=some y:=λ b y hb hy=>(hc6.block b (lt_of_block hy) (by omega) (by omega)).trans hy;have HV6:=QLh (hch vb _ hvw HVB.out);have HM6:=QLh (hch mb _ (by omega) HMU.out);have HS6:=QLh (hch (mb+1) _ (by omega) HSU.out);have HK6:=QLh (hch kb _ hkw HKU.out);have c2:w6.cell? ⟨vb,2,none⟩=some (.func (.func v.ef) #[] v.ec):=Qa HV6.out 2;have ee:=HGS.out.ee;clear hh hrd6 hle6 hx6 hc6 hr6 hch HVB HMU HSU HKU;go_wp2_with fail;refine(HGS.out.empty w6 q.1 (HK.out.trans HC6.out) HX6.out HKD6.out).mono ?_;rintro e w7 ⟨rfl,hb⟩;have HB7:=QLh hb;clear hb c2 ee
        cases hem:(gth gs (fn+j)).empty q.1 with
        | true=>
         have HE2:Hid (Zf s gs N 0 x [] a0=.error (5,0)):=QLh (HLO.out.trans (QbR HR2.out HKJ.out HR6.out hem));clear hem;go_wp2_with fail;refine(Qew 5 w7).mono ?_;rintro e w8 ⟨rfl,rfl⟩;go_wp2;refine⟨rfl,?_⟩;rw[Ur HR.out (by rw[HNN.out,HA0.out];exact HE2.out)];exact⟨(HC6.out.next HB7.out).next (Qf (Below.refl _ _) _),_,rfl,heap_alloc_new _ _,((HX6.out.below HB7.out).below (Qf (Below.refl _ _) _)).thAt⟩
        | false=>
         have HE2:Hid (Zf s gs N 0 x [] a0=Zf s gs g' (fn+j+1) q.1 ((fn+j) :: seen) q.2):=QLh (HLO.out.trans (QaS HR2.out HKJ.out HR6.out hem));clear hem;go_wp2_with fail;refine(Qgf 5 w7).mono ?_;rintro e w8 ⟨rfl,rfl⟩;have i5:IntKind.i64.wrap ((j:Int)+1)=(j:Int)+1:=IntWalk.i64_in _ (by omega);have i6:IntKind.i64.wrap ((fn:Int)+((j:Int)+1))=(fn:Int)+((j:Int)+1):=IntWalk.i64_in _ (by omega);have HM8:Hid (w8.heap[mb]?=some (QaF L)):=QLh ((HB7.out.block _ (lt_of_block HM6.out)).trans HM6.out);have HS8:Hid (w8.heap[mb+1]?=some (.cells #[.map (some mb)] 283 (0,0))):=QLh ((HB7.out.block _ (lt_of_block HS6.out)).trans HS6.out);have d5:w8.cell? ⟨mb+1,0,none⟩=some (.map (some mb)):=Qa HS8.out 0;have d6:w8.cell? ⟨kb,0,none⟩=some (.string k):=Qa ((HB7.out.block _ (lt_of_block HK6.out)).trans HK6.out) 0
         go_wp2_with (at_mapUpdate;refine Qb4 rfl _ _ _ 283 9 3 rfl Tryz.underlying283 Tryz.underlying9 mb _ rfl HM8.out _ _ rfl rfl ?_)
         have HKY:Hid ((gth gs (fn+j)).key=k):=QLh ((Qlu HKJ.out).trans HKK.out);have hms:mb<w8.heap.size:=lt_of_block HM8.out;have sbo:∀i,i≠mb->(setBlock w8 mb (QaF (QaI L k (.int .i64 1)))).heap[i]?=w8.heap[i]?:=λ i hi=>by show(w8.heap.setIfInBounds mb _)[i]?=_;rw[Array.getElem?_setIfInBounds_ne (Ne.symm hi)]
         go_roundg g'
         case rel=>
          refine⟨m+1,fn+j+1,q.2,q.1,(fn+j) :: seen,QaI L k (.int .i64 1),by omega,by go_num,by go_num,by omega,HE2.out,HLE6.out,?_,?_,?_,?_,?_,?_,?_,HKD6.out⟩
          ·exact QLh ((sbo rb (by omega)).trans (HRD6.out.below HB7.out))
          ·exact QLh ((HC6.out.next HB7.out).setBlock (by omega) _)
          ·exact QLh (QcZ.rec (λ b cs T fz hb=>sbo b (λ e=>by subst e;have h9:=hb.symm.trans HM8.out;cases h9)) (HX6.out.below HB7.out))
          ·exact QLh (by show(w8.heap.setIfInBounds mb _)[mb]?=_;rw[Array.getElem?_setIfInBounds_self_of_lt hms])
          ·exact QLh ((sbo _ (by omega)).trans HS8.out)
          ·exact QLh (by have h:=HSN.out.put HKE.out hgl;rw[HKY.out]at h;exact h)
          ·exact QLh (λ i h1 h2 o ho=>by
            have hfr:=HFR.out _ (by rw[V7 gs _ hgl];exact List.getElem_mem _) xx z.2.2 q HR6.out;rw[hfr o (λ hin=>HDI.out i (fn+j) h2 hgl (by omega) o ho hin)];exact HFF.out i (by omega) h2 o ho)
         case measure=>omega
   ·obtain rfl:m=N:=by omega
    have i1:¬((m:Nat):Int)<m:=by omega
    obtain rfl:gk=0:=by omega
    have hgl:gs.length=l.length:=HS.out.1;have HLK:Hid (∀i,i<len l->(fth l i).key=(gth gs i).key):=QLh (λ i hi=>(HS.out.2 i hi).key);have HLM:Hid (∀i,i<len l->(fth l i).must=(gth gs i).must):=QLh (λ i hi=>(HS.out.2 i hi).must);have HOK:Hid (Zf s gs m 0 x [] a0=.ok (xx,seen,a')):=QLh HLO.out;go_wp2_with fail;refine(Qcj (some ⟨b1,off,none⟩) c l 251 #[.pointer (some ⟨mb+1,0,none⟩)] _ wr HFL.out hn (Qmw (mb+1) mb L wr l (λ i hi=>by
     rw[HLK.out i hi,HSN.out i (by have:i<l.length:=hi;omega)]
     by_cases h:i ∈ seen
     ·rw[if_pos h];exact .inr rfl
     ·rw[if_neg h];exact .inl rfl) HSB.out HM.out)).mono ?_
    rintro e w2 ⟨q,rfl,hq,hb⟩;have HB:=QLh hb;have hqm:q=Ky gs seen:=by
     rw[Bool.eq_iff_iff,hq,Qe7]
     constructor
     ·rintro⟨i,hi,h⟩
      have hi':i<gs.length:=by have:i<l.length:=hi;omega
      refine⟨i,hi',?_⟩;simp only[Bool.and_eq_true]at h ⊢;refine⟨by rw[<-HLM.out i hi];exact h.1,?_⟩;have h2:=h.2;rw[HLK.out i hi,HSN.out i hi']at h2
      by_cases hm:i ∈ seen
      ·rw[if_pos hm]at h2;cases h2
      ·simpa using hm
     ·rintro⟨i,hi,h⟩
      have hi':i<len l:=by show i<l.length;omega
      refine⟨i,hi',?_⟩;simp only[Bool.and_eq_true]at h ⊢;refine⟨by rw[HLM.out i hi'];exact h.1,?_⟩;have h2:=h.2;have hm:i ∉ seen:=by simpa using h2
      rw[HLK.out i hi',HSN.out i hi,if_neg hm];rfl
    have HQ:=QLh hqm;clear hq hb hqm
    cases q with
    | true=>
     go_wp2_with fail;refine(Qew 5 w2).mono ?_;rintro e w3 ⟨rfl,rfl⟩;go_wp2;refine⟨rfl,?_⟩;rw[Qiy HR.out (by rw[HNN.out,HA0.out];exact HOK.out) HQ.out.symm];exact⟨(HC.out.next HB.out).next (Qf (Below.refl _ _) _),_,rfl,heap_alloc_new _ _,((HX2.out.below HB.out).below (Qf (Below.refl _ _) _)).thAt⟩
    | false=>
     go_wp2_with fail;refine(Qgf 5 w2).mono ?_;rintro e w3 ⟨rfl,rfl⟩;go_wp2
     go_end0
     refine⟨HC.out.next HB.out,?_⟩;rw[Qjg HR.out (by rw[HNN.out,HA0.out];exact HOK.out) HQ.out.symm];exact⟨rfl,HRD.out.below HB.out,HLE.out,HX2.out.below HB.out⟩
end
def NumS(w:World)(lo:Nat)(key:ByteArray)(pb po:Nat)(v:Zu):Prop:=∃bx,lo<=bx/\w.heap[bx]?=some (.cells #[.pointer (some ⟨pb,po,none⟩)] 185 (0,0))/\v=⟨key,false,202,#[.pointer (some ⟨bx,0,none⟩)],203,#[],204,#[.pointer (some ⟨bx,0,none⟩)],206,#[.pointer (some ⟨bx,0,none⟩)]⟩
theorem Qrm(key:ByteArray)(pb po:Nat)(w:World):Calls Tryz.prog 151 #[.string key,.pointer (some ⟨pb,po,none⟩)] w λ e w'=>∃v:Zu,e=.returned v.val/\NumS w' w.heap.size key pb po v/\Below w.heap.size w w':=by
 go_enter Tryz.func151,Tryz.ntmps151
 go_wp2;obtain⟨bx,hbx⟩:∃bx,w.heap.size=bx:=⟨_,rfl⟩;obtain⟨V,hV⟩:∃V,((w.alloc (.cells #[.pointer (some ⟨pb,po,none⟩)] 185)).alloc (.cells #[.string key,.bool false,.func (.func 202) #[] #[.pointer (some ⟨w.heap.size,0,none⟩)],.func (.func 203) #[] #[],.func (.func 204) #[] #[.pointer (some ⟨w.heap.size,0,none⟩)],.func (.func 206) #[] #[.pointer (some ⟨w.heap.size,0,none⟩)]] 183))=V:=⟨_,rfl⟩;have VB:Below w.heap.size w V:=by rw[<-hV];(repeat (first | exact Below.refl _ _ | assumption | (refine Zy ?_) | (refine Zg ?_ _) | (refine Qf ?_ _) | (refine Ji ?_ (by first | omega | (simp;done) | (simp;omega)) _) | (refine Qj ?_ (by assumption))))
 have V0:V.heap[bx]?=some (.cells #[.pointer (some ⟨pb,po,none⟩)] 185 (0,0)):=by rw[<-hV,<-hbx];exact Qe (heap_alloc_new _ _) _
 have V1:V.heap[bx+1]?=some (.cells #[.string key,.bool false,.func (.func 202) #[] #[.pointer (some ⟨bx,0,none⟩)],.func (.func 203) #[] #[],.func (.func 204) #[] #[.pointer (some ⟨bx,0,none⟩)],.func (.func 206) #[] #[.pointer (some ⟨bx,0,none⟩)]] 183 (0,0)):=by rw[<-hV,<-hbx];exact Qg _ (by simp)
 have d:∀o,V.cell? ⟨bx+1,o,none⟩=_:=Qa V1;rw[hV];simp only[hbx];clear hV;refine bodyPost_ret (v:=.agg #[.string key,.bool false,.func (.func 202) #[] #[.pointer (some ⟨bx,0,none⟩)],.func (.func 203) #[] #[],.func (.func 204) #[] #[.pointer (some ⟨bx,0,none⟩)],.func (.func 206) #[] #[.pointer (some ⟨bx,0,none⟩)]]) ?_ rfl ⟨⟨key,false,202,#[.pointer (some ⟨bx,0,none⟩)],203,#[],204,#[.pointer (some ⟨bx,0,none⟩)],206,#[.pointer (some ⟨bx,0,none⟩)]⟩,rfl,⟨bx,by omega,V0,rfl⟩,by rw[<-hbx];exact VB⟩;simp[results,Tryz.results151,go_sem,d]
def DigS(w:World)(lo:Nat)(key:ByteArray)(pb po:Nat)(v:Zu):Prop:=∃bx,lo<=bx/\w.heap[bx]?=some (.cells #[.pointer (some ⟨pb,po,none⟩)] 187 (0,0))/\v=⟨key,true,209,#[],210,#[.pointer (some ⟨bx,0,none⟩)],211,#[.pointer (some ⟨bx,0,none⟩)],213,#[.pointer (some ⟨bx,0,none⟩)]⟩
theorem Qjr(key:ByteArray)(pb po:Nat)(w:World):Calls Tryz.prog 152 #[.string key,.pointer (some ⟨pb,po,none⟩)] w λ e w'=>∃v:Zu,e=.returned v.val/\DigS w' w.heap.size key pb po v/\Below w.heap.size w w':=by
 go_enter Tryz.func152,Tryz.ntmps152
 go_wp2;obtain⟨bx,hbx⟩:∃bx,w.heap.size=bx:=⟨_,rfl⟩;obtain⟨V,hV⟩:∃V,((w.alloc (.cells #[.pointer (some ⟨pb,po,none⟩)] 187)).alloc (.cells #[.string key,.bool true,.func (.func 209) #[] #[],.func (.func 210) #[] #[.pointer (some ⟨w.heap.size,0,none⟩)],.func (.func 211) #[] #[.pointer (some ⟨w.heap.size,0,none⟩)],.func (.func 213) #[] #[.pointer (some ⟨w.heap.size,0,none⟩)]] 183))=V:=⟨_,rfl⟩;have VB:Below w.heap.size w V:=by rw[<-hV];(repeat (first | exact Below.refl _ _ | assumption | (refine Zy ?_) | (refine Zg ?_ _) | (refine Qf ?_ _) | (refine Ji ?_ (by first | omega | (simp;done) | (simp;omega)) _) | (refine Qj ?_ (by assumption))))
 have V0:V.heap[bx]?=some (.cells #[.pointer (some ⟨pb,po,none⟩)] 187 (0,0)):=by rw[<-hV,<-hbx];exact Qe (heap_alloc_new _ _) _
 have V1:V.heap[bx+1]?=some (.cells #[.string key,.bool true,.func (.func 209) #[] #[],.func (.func 210) #[] #[.pointer (some ⟨bx,0,none⟩)],.func (.func 211) #[] #[.pointer (some ⟨bx,0,none⟩)],.func (.func 213) #[] #[.pointer (some ⟨bx,0,none⟩)]] 183 (0,0)):=by rw[<-hV,<-hbx];exact Qg _ (by simp)
 have d:∀o,V.cell? ⟨bx+1,o,none⟩=_:=Qa V1;rw[hV];simp only[hbx];clear hV;refine bodyPost_ret (v:=.agg #[.string key,.bool true,.func (.func 209) #[] #[],.func (.func 210) #[] #[.pointer (some ⟨bx,0,none⟩)],.func (.func 211) #[] #[.pointer (some ⟨bx,0,none⟩)],.func (.func 213) #[] #[.pointer (some ⟨bx,0,none⟩)]]) ?_ rfl ⟨⟨key,true,209,#[],210,#[.pointer (some ⟨bx,0,none⟩)],211,#[.pointer (some ⟨bx,0,none⟩)],213,#[.pointer (some ⟨bx,0,none⟩)]⟩,rfl,⟨bx,by omega,V0,rfl⟩,by rw[<-hbx];exact VB⟩;simp[results,Tryz.results152,go_sem,d]
def Qlo(P:World->Zu->Prop)(w:World)(e:Ending)(w':World):Prop:=∃u,e=.returned u/\∃v:Zu,u=v.val/\P w' v/\Below w.heap.size w w'
def Qmc(P:World->Zu->Prop):Prop:=∀w w' v,Below w.heap.size w w'->P w v->P w' v
def Quw(P:World->List Zu->Prop)(u:Value)(w:World):Prop:=∃g c,∃l:List Zu,u=.slice (some ⟨g,0,none⟩) (len l) c/\len l<=c/\FRow w g l/\P w l
def Quc(P:World->List Zu->Prop)(w:World)(e:Ending)(w':World):Prop:=∃u,e=.returned u/\Quw P u w'/\Below w.heap.size w w'
def QhF(P0 P1 P2 P3:World->Zu->Prop):World->List Zu->Prop:=λ w l=>∃x0 x1 x2 x3,l=[x0,x1,x2,x3]/\P0 w x0/\P1 w x1/\P2 w x2/\P3 w x3
theorem Qc4(sb so:Nat)(w:World)(P0 P1 P2 P3:World->Zu->Prop)
  (hp0:∀w',Below w.heap.size w w'->Calls Tryz.prog 152 #[.string ⟨#[112]⟩,.pointer (some ⟨sb,so+1,none⟩)] w' (Qlo P0 w'))
  (hP0:Qmc P0)
  (hp1:∀w',Below w.heap.size w w'->Calls Tryz.prog 151 #[.string ⟨#[114]⟩,.pointer (some ⟨sb,so,none⟩)] w' (Qlo P1 w'))
  (hP1:Qmc P1)
  (hp2:∀w',Below w.heap.size w w'->Calls Tryz.prog 152 #[.string ⟨#[115]⟩,.pointer (some ⟨sb,so+3,none⟩)] w' (Qlo P2 w'))
  (hP2:Qmc P2)
  (hp3:∀w',Below w.heap.size w w'->Calls Tryz.prog 152 #[.string ⟨#[116]⟩,.pointer (some ⟨sb,so+2,none⟩)] w' (Qlo P3 w'))
  (hP3:Qmc P3):
  Calls Tryz.prog 95 #[.pointer (some ⟨sb,so,none⟩)] w (Quc (QhF P0 P1 P2 P3) w):=by
 have HP0:=QLh hp0;have HP1:=QLh hp1;have HP2:=QLh hp2;have HP3:=QLh hp3;clear hp0 hp1 hp2 hp3
 go_enter Tryz.func95,Tryz.ntmps95
 go_upto_region 1 with fail;refine Qp 16 1000 (none) (Kx [λ u _=>u=(.pointer (some ⟨sb,so,none⟩)),λ u _=>u=(.pointer (some ⟨sb,so,none⟩)),λ u _=>u=(.pointer (some ⟨sb,so+1,none⟩)),λ u w'=>∃v:Zu,u=v.val/\P0 w' v,λ u _=>u=(.pointer (some ⟨sb,so,none⟩)),λ u _=>u=(.pointer (some ⟨sb,so,none⟩)),λ u _=>u=(.pointer (some ⟨sb,so,none⟩)),λ u w'=>∃v:Zu,u=v.val/\P1 w' v,λ u _=>u=(.pointer (some ⟨sb,so,none⟩)),λ u _=>u=(.pointer (some ⟨sb,so,none⟩)),λ u _=>u=(.pointer (some ⟨sb,so+3,none⟩)),λ u w'=>∃v:Zu,u=v.val/\P2 w' v,λ u _=>u=(.pointer (some ⟨sb,so,none⟩)),λ u _=>u=(.pointer (some ⟨sb,so,none⟩)),λ u _=>u=(.pointer (some ⟨sb,so+2,none⟩)),λ u w'=>∃v:Zu,u=v.val/\P3 w' v]) rfl (by kernel_rfl) (by kernel_rfl) (Q9 ⟨Qd,Qd,Qd,?m3,Qd,Qd,Qd,?m7,Qd,Qd,Qd,?m11,Qd,Qd,Qd,?m15,trivial⟩) (Q6 16 ⟨?s0,?s1,?s2,?s3,?s4,?s5,?s6,?s7,?s8,?s9,?s10,?s11,?s12,?s13,?s14,?s15,trivial⟩) ?_
 case m3=>exact⟨λ u w1 w2 h ⟨v,h1,h2⟩=>⟨v,h1,hP0 _ _ _ h h2⟩,λ _ u w1 w2 h ⟨v,h1,h2⟩=>⟨v,h1,hP0 _ _ _ (Yb h) h2⟩⟩
 case m7=>exact⟨λ u w1 w2 h ⟨v,h1,h2⟩=>⟨v,h1,hP1 _ _ _ h h2⟩,λ _ u w1 w2 h ⟨v,h1,h2⟩=>⟨v,h1,hP1 _ _ _ (Yb h) h2⟩⟩
 case m11=>exact⟨λ u w1 w2 h ⟨v,h1,h2⟩=>⟨v,h1,hP2 _ _ _ h h2⟩,λ _ u w1 w2 h ⟨v,h1,h2⟩=>⟨v,h1,hP2 _ _ _ (Yb h) h2⟩⟩
 case m15=>exact⟨λ u w1 w2 h ⟨v,h1,h2⟩=>⟨v,h1,hP3 _ _ _ h h2⟩,λ _ u w1 w2 h ⟨v,h1,h2⟩=>⟨v,h1,hP3 _ _ _ (Yb h) h2⟩⟩
 case s0=>refine qV (λ _=>rfl) rfl λ av wv hE hO hD=>?_;simp[go_sem,qF av 0 (.pointer (some ⟨sb,so,none⟩)) (hO.2.2 0 rfl)]
 case s1=>refine qV (λ _=>rfl) rfl λ av wv hE hO hD=>?_;simp[go_sem,qE (hD.1 rfl _ rfl)]
 case s2=>refine qV (λ _=>rfl) rfl λ av wv hE hO hD=>?_;simp[go_sem,qE (hD.1 rfl _ rfl)]
 case s3=>refine Qu (λ av wv hE hS hO hD=>⟨rfl,?_⟩);have f5:=qE (hD.1 rfl _ rfl);refine Qae (f:=152) (args:=#[.string ⟨#[112]⟩,.pointer (some ⟨sb,so+1,none⟩)]) (by simp[go_sem,f5]) (HP0.out wv (Q0 hE)) (λ u w2 ⟨v,hu,hs,hb⟩=>⟨u,rfl,Qo hb,v,hu,hs⟩)
 case s4=>refine qV (λ _=>rfl) rfl λ av wv hE hO hD=>?_;simp[go_sem,qF av 0 (.pointer (some ⟨sb,so,none⟩)) (hO.2.2 0 rfl)]
 case s5=>refine qV (λ _=>rfl) rfl λ av wv hE hO hD=>?_;simp[go_sem,qE (hD.1 rfl _ rfl)]
 case s6=>refine qV (λ _=>rfl) rfl λ av wv hE hO hD=>?_;simp[go_sem,qE (hD.1 rfl _ rfl)]
 case s7=>refine Qu (λ av wv hE hS hO hD=>⟨rfl,?_⟩);have f9:=qE (hD.1 rfl _ rfl);refine Qae (f:=151) (args:=#[.string ⟨#[114]⟩,.pointer (some ⟨sb,so,none⟩)]) (by simp[go_sem,f9]) (HP1.out wv (Q0 hE)) (λ u w2 ⟨v,hu,hs,hb⟩=>⟨u,rfl,Qo hb,v,hu,hs⟩)
 case s8=>refine qV (λ _=>rfl) rfl λ av wv hE hO hD=>?_;simp[go_sem,qF av 0 (.pointer (some ⟨sb,so,none⟩)) (hO.2.2 0 rfl)]
 case s9=>refine qV (λ _=>rfl) rfl λ av wv hE hO hD=>?_;simp[go_sem,qE (hD.1 rfl _ rfl)]
 case s10=>refine qV (λ _=>rfl) rfl λ av wv hE hO hD=>?_;simp[go_sem,qE (hD.1 rfl _ rfl)]
 case s11=>refine Qu (λ av wv hE hS hO hD=>⟨rfl,?_⟩);have f13:=qE (hD.1 rfl _ rfl);refine Qae (f:=152) (args:=#[.string ⟨#[115]⟩,.pointer (some ⟨sb,so+3,none⟩)]) (by simp[go_sem,f13]) (HP2.out wv (Q0 hE)) (λ u w2 ⟨v,hu,hs,hb⟩=>⟨u,rfl,Qo hb,v,hu,hs⟩)
 case s12=>refine qV (λ _=>rfl) rfl λ av wv hE hO hD=>?_;simp[go_sem,qF av 0 (.pointer (some ⟨sb,so,none⟩)) (hO.2.2 0 rfl)]
 case s13=>refine qV (λ _=>rfl) rfl λ av wv hE hO hD=>?_;simp[go_sem,qE (hD.1 rfl _ rfl)]
 case s14=>refine qV (λ _=>rfl) rfl λ av wv hE hO hD=>?_;simp[go_sem,qE (hD.1 rfl _ rfl)]
 case s15=>refine Qu (λ av wv hE hS hO hD=>⟨rfl,?_⟩);have f17:=qE (hD.1 rfl _ rfl);refine Qae (f:=152) (args:=#[.string ⟨#[116]⟩,.pointer (some ⟨sb,so+2,none⟩)]) (by simp[go_sem,f17]) (HP3.out wv (Q0 hE)) (λ u w2 ⟨v,hu,hs,hb⟩=>⟨u,rfl,Qo hb,v,hu,hs⟩)
 intro a' w' hE hO hall;have hA:=Qn (ds:=[3,4,5,6,7,8,9,10,11,12,13,14,15,16,17,18]) rfl hO (by kernel_rfl);obtain⟨j0,j1,j2,j3,j4,j5,j6,j7,j8,j9,j10,j11,j12,j13,j14,j15,-⟩:=hall;have e6:(λ u w'=>∃v:Zu,u=v.val/\P0 w' v) (a'.eval (.tmp 6)) w':=j3 _ rfl;have e10:(λ u w'=>∃v:Zu,u=v.val/\P1 w' v) (a'.eval (.tmp 10)) w':=j7 _ rfl;have e14:(λ u w'=>∃v:Zu,u=v.val/\P2 w' v) (a'.eval (.tmp 14)) w':=j11 _ rfl;have e18:(λ u w'=>∃v:Zu,u=v.val/\P3 w' v) (a'.eval (.tmp 18)) w':=j15 _ rfl;obtain⟨v6,hv6⟩:∃v,a'.eval (.tmp 6)=v:=⟨_,rfl⟩;rw[hv6]at e6;obtain⟨v10,hv10⟩:∃v,a'.eval (.tmp 10)=v:=⟨_,rfl⟩;rw[hv10]at e10;obtain⟨v14,hv14⟩:∃v,a'.eval (.tmp 14)=v:=⟨_,rfl⟩;rw[hv14]at e14;obtain⟨v18,hv18⟩:∃v,a'.eval (.tmp 18)=v:=⟨_,rfl⟩;rw[hv18]at e18;simp only[List.foldl_cons,List.foldl_nil,Act.put,List.setIfInBounds_toArray,List.set_cons_succ,List.set_cons_zero,qJ 3 (j0 _ rfl),qJ 4 (j1 _ rfl),qJ 5 (j2 _ rfl),hv6,qJ 7 (j4 _ rfl),qJ 8 (j5 _ rfl),qJ 9 (j6 _ rfl),hv10,qJ 11 (j8 _ rfl),qJ 12 (j9 _ rfl),qJ 13 (j10 _ rfl),hv14,qJ 15 (j12 _ rfl),qJ 16 (j13 _ rfl),qJ 17 (j14 _ rfl),hv18]at hA;clear hO j3 j7 j11 j15 j0 j1 j2 hv6 j4 j5 j6 hv10 j8 j9 j10 hv14 j12 j13 j14 hv18;subst hA;obtain⟨x0,rfl,s0⟩:=e6;obtain⟨x1,rfl,s1⟩:=e10;obtain⟨x2,rfl,s2⟩:=e14;obtain⟨x3,rfl,s3⟩:=e18;have HSS:Hid (∀o,QhF P0 P1 P2 P3 (w'.alloc o) [x0,x1,x2,x3]):=QLh (λ o=>⟨x0,x1,x2,x3,rfl,hP0 _ _ _ (Qf (Below.refl _ _) _) s0,hP1 _ _ _ (Qf (Below.refl _ _) _) s1,hP2 _ _ _ (Qf (Below.refl _ _) _) s2,hP3 _ _ _ (Qf (Below.refl _ _) _) s3⟩);have HBW:Hid (Below w.heap.size w w'):=QLh (Q0 hE);clear s0 s1 s2 s3 hE;unfold Zu.val;go_wp2;go_ret;exact⟨_,rfl,⟨w'.heap.size,4,[x0,x1,x2,x3],rfl,Nat.le_refl _,⟨Qa6.block (l:=[x0,x1,x2,x3]) (heap_alloc_new w' _),_,heap_alloc_new w' _⟩,HSS.out _⟩,Qj HBW.out (Qf (Below.refl _ _) _)⟩
theorem Qcw(B:Nat)(S:Xb):Qmc (λ w v=>FIn B w v S):=λ w w' v hb h=>h.below hb
structure QbV(B:Nat)(w:World)(b o:Nat)(rnd:Int)(prev:ByteArray)(txns:ByteArray)(seed:ByteArray):Prop where
 c0:Jg B w b (o) (.int .u64 rnd)
 c1:Jg B w b (o+1) (.string prev)
 c2:Jg B w b (o+2) (.string txns)
 c3:Jg B w b (o+3) (.string seed)
theorem QbV.below{B:Nat}{w w':World}{b o:Nat}{rnd:Int}{prev:ByteArray}{txns:ByteArray}{seed:ByteArray}(h:QbV B w b o rnd prev txns seed)(hb:Below w.heap.size w w'):QbV B w' b o rnd prev txns seed:=⟨h.c0.below hb,h.c1.below hb,h.c2.below hb,h.c3.below hb⟩
def Zd(rnd:Int)(prev:ByteArray)(txns:ByteArray)(seed:ByteArray):List Xb:=
 [⟨⟨#[112]⟩,true,false,decide (prev.size=32),Vw prev⟩,⟨⟨#[114]⟩,false,rnd == 0,true,Qef rnd⟩,⟨⟨#[115]⟩,true,false,decide (seed.size=32),Vw seed⟩,⟨⟨#[116]⟩,true,false,decide (txns.size=32),Vw txns⟩]
theorem Qi4(B sb so:Nat)(rnd:Int)(prev:ByteArray)(txns:ByteArray)(seed:ByteArray)(w:World)(hB:B<=w.heap.size)(h:QbV B w sb so rnd prev txns seed)(h0:Qql rnd)(h1:prev.size<=9223372036854775807)(h2:txns.size<=9223372036854775807)(h3:seed.size<=9223372036854775807):
  Calls Tryz.prog 95 #[.pointer (some ⟨sb,so,none⟩)] w (Qu4 B (Zd rnd prev txns seed) w):=by
 obtain⟨S0,hS0⟩:∃S:Xb,(⟨⟨#[112]⟩,true,false,decide (prev.size=32),Vw prev⟩:Xb)=S:=⟨_,rfl⟩;obtain⟨S1,hS1⟩:∃S:Xb,(⟨⟨#[114]⟩,false,rnd == 0,true,Qef rnd⟩:Xb)=S:=⟨_,rfl⟩;obtain⟨S2,hS2⟩:∃S:Xb,(⟨⟨#[115]⟩,true,false,decide (seed.size=32),Vw seed⟩:Xb)=S:=⟨_,rfl⟩;obtain⟨S3,hS3⟩:∃S:Xb,(⟨⟨#[116]⟩,true,false,decide (txns.size=32),Vw txns⟩:Xb)=S:=⟨_,rfl⟩;refine(Qc4 sb so w (λ w v=>FIn B w v S0) (λ w v=>FIn B w v S1) (λ w v=>FIn B w v S2) (λ w v=>FIn B w v S3) (λ w' hb=>?p0) (Qcw B S0) (λ w' hb=>?p1) (Qcw B S1) (λ w' hb=>?p2) (Qcw B S2) (λ w' hb=>?p3) (Qcw B S3)).mono ?_
 case p0=>rw[<-hS0];exact(QbB B ⟨#[112]⟩ sb (so+1) prev w' (by decide) (Nat.le_trans hB hb.size) (h.c1.below hb) h1).mono (λ e w'' hh=>Qpx (Nat.le_trans hB hb.size) hh)
 case p1=>rw[<-hS1];exact(QqB B ⟨#[114]⟩ sb (so) rnd w' (by decide) (Nat.le_trans hB hb.size) (h.c0.below hb) h0.1 h0.2).mono (λ e w'' hh=>Qpx (Nat.le_trans hB hb.size) hh)
 case p2=>rw[<-hS2];exact(QbB B ⟨#[115]⟩ sb (so+3) seed w' (by decide) (Nat.le_trans hB hb.size) (h.c3.below hb) h3).mono (λ e w'' hh=>Qpx (Nat.le_trans hB hb.size) hh)
 case p3=>rw[<-hS3];exact(QbB B ⟨#[116]⟩ sb (so+2) txns w' (by decide) (Nat.le_trans hB hb.size) (h.c2.below hb) h2).mono (λ e w'' hh=>Qpx (Nat.le_trans hB hb.size) hh)
 rintro e w' ⟨u,rfl,⟨g,c,l,rfl,hc,hF,⟨x0,x1,x2,x3,rfl,p0,p1,p2,p3⟩⟩,hb⟩;refine⟨g,c,[x0,x1,x2,x3],rfl,hF,⟨rfl,λ i hi=>?_⟩,hb⟩;have hi:i<4:=by simpa [len] using hi
 match i,hi with
 | 0,_=>show QkR B w' x0 (⟨⟨#[112]⟩,true,false,decide (prev.size=32),Vw prev⟩);rw[hS0];exact p0.2
 | 1,_=>show QkR B w' x1 (⟨⟨#[114]⟩,false,rnd == 0,true,Qef rnd⟩);rw[hS1];exact p1.2
 | 2,_=>show QkR B w' x2 (⟨⟨#[115]⟩,true,false,decide (seed.size=32),Vw seed⟩);rw[hS2];exact p2.2
 | 3,_=>show QkR B w' x3 (⟨⟨#[116]⟩,true,false,decide (txns.size=32),Vw txns⟩);rw[hS3];exact p3.2
theorem Qim(B:Nat)(rnd:Int)(prev:ByteArray)(txns:ByteArray)(seed:ByteArray)(w:World)(ht:Qf5 B w)(h0:Qql rnd)(h1:prev.size<=9223372036854775807)(h2:txns.size<=9223372036854775807)(h3:seed.size<=9223372036854775807)
  (hsz:Jn (Zd rnd prev txns seed)=true->(Qdo (Zd rnd prev txns seed)).size<=60000000000000):
  Calls Tryz.prog 44 #[.agg #[.int .u64 rnd,.string prev,.string txns,.string seed]] w (QeE (Zd rnd prev txns seed) w):=by
 have HT:=QLh ht;clear ht
 go_enter Tryz.func44,Tryz.ntmps44
 go_wp2_with fail;obtain⟨V,hV⟩:∃V,w.alloc (.cells #[.int .u64 rnd,.string prev,.string txns,.string seed] 33)=V:=⟨_,rfl⟩;have HB:Hid (Below w.heap.size w V):=QLh (by rw[<-hV];(repeat (first | exact Below.refl _ _ | assumption | (refine Zy ?_) | (refine Zg ?_ _) | (refine Qf ?_ _) | (refine Ji ?_ (by first | omega | (simp;done) | (simp;omega)) _) | (refine Qj ?_ (by assumption)))))
 have hblk:V.heap[w.heap.size]?=some (.cells #[.int .u64 rnd,.string prev,.string txns,.string seed] 33 (0,0)):=by rw[<-hV];exact heap_alloc_new _ _
 have HSL:Hid (QbV B V w.heap.size 0 rnd prev txns seed):=QLh ⟨Yu hblk (by decide) rfl,Yu hblk (by decide) rfl,Yu hblk (by decide) rfl,Yu hblk (by decide) rfl⟩;have HTV:=QLh (HT.out.keep HB.out HT.out.size)
 try rw[hV]
 clear hV hblk HT;refine(Qi4 B w.heap.size 0 rnd prev txns seed V HTV.out.size HSL.out h0 h1 h2 h3).mono ?_;rintro e w1 ⟨g,c,l,rfl,hF,hS,hb⟩;have HF:=QLh hF;have HS:=QLh hS;have HB1:Hid (Below w.heap.size w w1):=QLh (Qj HB.out hb);have HT1:=QLh (HTV.out.keep hb HTV.out.size);have hl:len l=4:=hS.1.symm;have HL:=QLh hl;clear hF hS hb hl HTV HSL;go_wp2_with fail;refine(Qmm B g 0 c w1 l (Zd rnd prev txns seed) w1 HF.out.flds (by rw[HL.out];decide) (by rw[HL.out];decide) HS.out (Yk.refl HT1.out.size) HT1.out hsz).mono ?_;rintro e w2 ⟨rfl,hb2⟩;have HB2:Hid (Below w.heap.size w w2):=QLh (Qj HB1.out hb2);clear hb2
 cases hm:Jn (Zd rnd prev txns seed)with
 | true=>
  have HM:=QLh hm;clear hm;rw[if_pos rfl];go_wp2
  go_ret2
  exact⟨by rw[HM.out];rfl,HB2.out⟩
 | false=>
  have HM:=QLh hm;clear hm;rw[if_neg (by decide)];go_wp2
  go_ret2
  exact⟨by rw[HM.out];rfl,HB2.out⟩
def Qq9(rnd:Int)(prev:ByteArray)(txns:ByteArray)(seed:ByteArray):BPs:=[(⟨#[112]⟩,Vw prev),(⟨#[114]⟩,QmY rnd),(⟨#[115]⟩,Vw seed),(⟨#[116]⟩,Vw txns)]
theorem QiW(rnd:Int)(prev:ByteArray)(txns:ByteArray)(seed:ByteArray)(h1:prev.size<65536)(h2:txns.size<65536)(h3:seed.size<65536):Qdo (Zd rnd prev txns seed)=Qln (Qq9 rnd prev txns seed):=
 QsI ⟨⟨rfl,QoN prev h1⟩,⟨rfl,Qui ⟨#[]⟩ rnd⟩,⟨rfl,QoN seed h3⟩,⟨rfl,QoN txns h2⟩,trivial⟩
theorem Qfs(rnd:Int)(prev:ByteArray)(txns:ByteArray)(seed:ByteArray):Jn (Zd rnd prev txns seed)=(decide (prev.size=32) && decide (seed.size=32) && decide (txns.size=32)):=by
 show((decide (prev.size=32) && (true && (decide (seed.size=32) && (decide (txns.size=32) && true)))))=_
 cases decide (prev.size=32) <;> cases decide (seed.size=32) <;> cases decide (txns.size=32) <;> rfl
theorem Qjy(rnd:Int)(prev:ByteArray)(txns:ByteArray)(seed:ByteArray)(w:World)(h0:Qql rnd)(h1:prev.size<=9223372036854775807)(h2:txns.size<=9223372036854775807)(h3:seed.size<=9223372036854775807):
  Calls Tryz.prog 80 #[.agg #[.int .u64 rnd,.string prev,.string txns,.string seed]] w (QeE (Zd rnd prev txns seed) w):=by
 have HM:=QLh (Qfs rnd prev txns seed)
 go_enter Tryz.func80,Tryz.ntmps80
 go_wp2_with fail;obtain⟨V,hV⟩:∃V,w.alloc (.cells #[.int .u64 rnd,.string prev,.string txns,.string seed] 33)=V:=⟨_,rfl⟩;have HB:Hid (Below w.heap.size w V):=QLh (by rw[<-hV];(repeat (first | exact Below.refl _ _ | assumption | (refine Zy ?_) | (refine Zg ?_ _) | (refine Qf ?_ _) | (refine Ji ?_ (by first | omega | (simp;done) | (simp;omega)) _) | (refine Qj ?_ (by assumption)))))
 have HP:Hid (V.heap[w.heap.size]?=some (.cells #[.int .u64 rnd,.string prev,.string txns,.string seed] 33 (0,0))):=QLh (by rw[<-hV];exact heap_alloc_new _ _)
 try rw[hV]
 clear hV;refine(Qed prev V h1).mono ?_;rintro e v0 ⟨rfl,hb⟩;have HP:=QLh ((hb.block _ (lt_of_block HP.out)).trans HP.out);have HB:=QLh (Qj HB.out hb);have cP:∀o,World.cell? v0 ⟨w.heap.size,o,none⟩=_:=Qa HP.out;clear hb
 by_cases q1:prev.size=32
 ·have HQ1:=QLh q1
  rw[decide_eq_true q1];clear q1;go_wp2_with fail;refine(Qed seed v0 h3).mono ?_;rintro e v1 ⟨rfl,hb⟩;have HP:=QLh ((hb.block _ (lt_of_block HP.out)).trans HP.out);have HB:=QLh (Qj HB.out hb);have cP:∀o,World.cell? v1 ⟨w.heap.size,o,none⟩=_:=Qa HP.out;clear hb
  by_cases q3:seed.size=32
  ·have HQ3:=QLh q3
   rw[decide_eq_true q3];clear q3;go_wp2_with fail;refine(Qed txns v1 h2).mono ?_;rintro e v2 ⟨rfl,hb⟩;have HP:=QLh ((hb.block _ (lt_of_block HP.out)).trans HP.out);have HB:=QLh (Qj HB.out hb);have cP:∀o,World.cell? v2 ⟨w.heap.size,o,none⟩=_:=Qa HP.out;clear hb
   by_cases q2:txns.size=32
   ·have HQ2:=QLh q2
    rw[decide_eq_true q2];clear q2;have HM:Hid (Jn (Zd rnd prev txns seed)=true):=QLh (by rw[HM.out,decide_eq_true HQ1.out,decide_eq_true HQ3.out,decide_eq_true HQ2.out];rfl);have HS:=QLh (QiW rnd prev txns seed (by rw[HQ1.out];decide) (by rw[HQ2.out];decide) (by rw[HQ3.out];decide));have HR1:Hid (prev.size<65536):=QLh (by rw[HQ1.out];decide);have HR2:Hid (txns.size<65536):=QLh (by rw[HQ2.out];decide);have HR3:Hid (seed.size<65536):=QLh (by rw[HQ3.out];decide);clear h1 h2 h3;go_upto_region 4 with fail;obtain⟨lb,hlb⟩:∃lb,v2.heap.size=lb:=⟨_,rfl⟩;have hwl:=lt_of_block HP.out;obtain⟨V0,hV0⟩:∃V0,v2.alloc (.cells #[.int .u64 0,.string ⟨#[]⟩] 161)=V0:=⟨_,rfl⟩;have HL:Hid (w.heap.size<lb):=QLh (by omega);have HY:Hid (LyB V0 lb []):=QLh (by rw[<-hV0,<-hlb];exact heap_alloc_new _ _);have HP:=QLh (Qe HP.out (.cells #[.int .u64 0,.string ⟨#[]⟩] 161));have HB:=QLh (Qf HB.out (.cells #[.int .u64 0,.string ⟨#[]⟩] 161));rw[hV0]at HP HB ⊢
    try rw[hlb]
    clear hV0 hlb hwl cP;have cP:∀o,World.cell? V0 ⟨w.heap.size,o,none⟩=_:=Qa HP.out;have HZ:Hid ((QiA []).size<=0 * 25000000000):=QLh (by decide);go_wp2_with fail;refine(Qgi prev V0 HR1.out).mono ?_;rintro e m0 ⟨rfl,hb⟩;have HP:=QLh ((hb.block _ (lt_of_block HP.out)).trans HP.out);have HY:=QLh (HY.out.below hb);have HB:=QLh (Qj HB.out hb);clear hb
    try clear cP
    go_wp2_with fail;have bz0:(Vw prev).size<=65545:=by have:=Qbb prev;have:=HR1.out;omega
    refine(QdN _ _ ⟨#[112]⟩ (Vw prev) m0 HY.out (by decide) (by simp) (by have:=HZ.out;omega) (by have:=bz0;omega)).mono ?_;rintro e q0 ⟨rfl,hx,hl⟩;have HZ:=Quv (k:=⟨#[112]⟩) (v:=Vw prev) HZ rfl (by have:=bz0;omega);have HP:=QLh (Qw hx (λ e=>absurd (Option.some.inj e) (Nat.ne_of_lt HL.out)) HP.out);have HY:=QLh hl;have HB:=QLh (HB.out.trans (QgA hx (Nat.le_of_lt HL.out) HB.out.size));have cP:∀o,World.cell? q0 ⟨w.heap.size,o,none⟩=_:=Qa HP.out;clear hx hl;clear bz0;go_wp2_with fail;refine(Qpd rnd q0 h0.1 h0.2).mono ?_;rintro e m1 ⟨rfl,hb⟩;have HP:=QLh ((hb.block _ (lt_of_block HP.out)).trans HP.out);have HY:=QLh (HY.out.below hb);have HB:=QLh (Qj HB.out hb);clear hb
    try clear cP
    go_wp2_with fail;refine(QdN _ _ ⟨#[114]⟩ (QmY rnd) m1 HY.out (by decide) (by simp) (by have:=HZ.out;omega) (by have:=QjM rnd;omega)).mono ?_;rintro e q1 ⟨rfl,hx,hl⟩;have HZ:=Quv (k:=⟨#[114]⟩) (v:=QmY rnd) HZ rfl (by have:=QjM rnd;omega);have HP:=QLh (Qw hx (λ e=>absurd (Option.some.inj e) (Nat.ne_of_lt HL.out)) HP.out);have HY:=QLh hl;have HB:=QLh (HB.out.trans (QgA hx (Nat.le_of_lt HL.out) HB.out.size));have cP:∀o,World.cell? q1 ⟨w.heap.size,o,none⟩=_:=Qa HP.out;clear hx hl;go_wp2_with fail;refine(Qgi seed q1 HR3.out).mono ?_;rintro e m2 ⟨rfl,hb⟩;have HP:=QLh ((hb.block _ (lt_of_block HP.out)).trans HP.out);have HY:=QLh (HY.out.below hb);have HB:=QLh (Qj HB.out hb);clear hb
    try clear cP
    go_wp2_with fail;have bz2:(Vw seed).size<=65545:=by have:=Qbb seed;have:=HR3.out;omega
    refine(QdN _ _ ⟨#[115]⟩ (Vw seed) m2 HY.out (by decide) (by simp) (by have:=HZ.out;omega) (by have:=bz2;omega)).mono ?_;rintro e q2 ⟨rfl,hx,hl⟩;have HZ:=Quv (k:=⟨#[115]⟩) (v:=Vw seed) HZ rfl (by have:=bz2;omega);have HP:=QLh (Qw hx (λ e=>absurd (Option.some.inj e) (Nat.ne_of_lt HL.out)) HP.out);have HY:=QLh hl;have HB:=QLh (HB.out.trans (QgA hx (Nat.le_of_lt HL.out) HB.out.size));have cP:∀o,World.cell? q2 ⟨w.heap.size,o,none⟩=_:=Qa HP.out;clear hx hl;clear bz2;go_wp2_with fail;refine(Qgi txns q2 HR2.out).mono ?_;rintro e m3 ⟨rfl,hb⟩;have HP:=QLh ((hb.block _ (lt_of_block HP.out)).trans HP.out);have HY:=QLh (HY.out.below hb);have HB:=QLh (Qj HB.out hb);clear hb
    try clear cP
    go_wp2_with fail;have bz3:(Vw txns).size<=65545:=by have:=Qbb txns;have:=HR2.out;omega
    refine(QdN _ _ ⟨#[116]⟩ (Vw txns) m3 HY.out (by decide) (by simp) (by have:=HZ.out;omega) (by have:=bz3;omega)).mono ?_;rintro e q3 ⟨rfl,hx,hl⟩;have HZ:=Quv (k:=⟨#[116]⟩) (v:=Vw txns) HZ rfl (by have:=bz3;omega);have HP:=QLh (Qw hx (λ e=>absurd (Option.some.inj e) (Nat.ne_of_lt HL.out)) HP.out);have HY:=QLh hl;have HB:=QLh (HB.out.trans (QgA hx (Nat.le_of_lt HL.out) HB.out.size));have cP:∀o,World.cell? q3 ⟨w.heap.size,o,none⟩=_:=Qa HP.out;clear hx hl;clear bz3;go_wp2_with fail;refine(QlT _ _ q3 HY.out (by simp) (by have:=HZ.out;omega)).mono ?_;rintro e wz ⟨rfl,hb⟩;have HB:=QLh (Qj HB.out hb);clear hb cP;go_wp2
    go_ret2
    exact⟨by rw[HM.out,HS.out];rfl,HB.out⟩
   ·have HM:Hid (Jn (Zd rnd prev txns seed)=false):=QLh (by rw[HM.out,decide_eq_true HQ1.out,decide_eq_true HQ3.out,decide_eq_false q2];rfl)
    rw[decide_eq_false q2];clear q2 h2;go_wp2
    go_ret2
    exact⟨by rw[HM.out];rfl,HB.out⟩
  ·have HM:Hid (Jn (Zd rnd prev txns seed)=false):=QLh (by rw[HM.out,decide_eq_true HQ1.out,decide_eq_false q3];rfl)
   rw[decide_eq_false q3];clear q3 h3;go_wp2
   go_ret2
   exact⟨by rw[HM.out];rfl,HB.out⟩
 ·have HM:Hid (Jn (Zd rnd prev txns seed)=false):=QLh (by rw[HM.out,decide_eq_false q1];rfl)
  rw[decide_eq_false q1];clear q1 h1;go_wp2
  go_ret2
  exact⟨by rw[HM.out];rfl,HB.out⟩
section
structure Qjw(B qb rb tb n:Nat)(T:TypeId)(w:World):Prop where
 rd:∃cs,w.heap[rb]?=some (.cells cs 282 (0,0))
 th:∃cs,w.heap[tb]?=some (.cells cs T (0,0))
 ne:tb≠rb
 nq:qb≠tb
 le:B<=tb
 t8:T≠5
 tf:T≠183
theorem Qjw.below{B qb rb tb n:Nat}{T:TypeId}{w w':World}(h:Qjw B qb rb tb n T w)(hb:Below w.heap.size w w'):Qjw B qb rb tb n T w':=by obtain⟨cs,h1⟩:=h.rd;obtain⟨ct,h2⟩:=h.th;exact⟨⟨cs,(hb.block _ (lt_of_block h1)).trans h1⟩,⟨ct,(hb.block _ (lt_of_block h2)).trans h2⟩,h.ne,h.nq,h.le,h.t8,h.tf⟩
theorem Qjw.rlt{B qb rb tb n:Nat}{T:TypeId}{w:World}(h:Qjw B qb rb tb n T w):rb<w.heap.size:=by obtain⟨cs,h1⟩:=h.rd;exact lt_of_block h1
theorem Qjw.tlt{B qb rb tb n:Nat}{T:TypeId}{w:World}(h:Qjw B qb rb tb n T w):tb<w.heap.size:=by obtain⟨cs,h1⟩:=h.th;exact lt_of_block h1
theorem Qjw.apart{B qb rb tb n:Nat}{T:TypeId}{w:World}(h:Qjw B qb rb tb n T w){g:Nat}(hg:∃cs,w.heap[g]?=some (.cells cs 183 (0,0))):g≠rb/\g≠tb:=by
 obtain⟨cs,h1⟩:=h.rd;obtain⟨ct,h2⟩:=h.th;obtain⟨cg,h3⟩:=hg;refine⟨λ e=>?_,λ e=>?_⟩
 ·subst e;rw[h1]at h3;cases h3
 ·subst e;rw[h2]at h3;cases h3;exact h.tf rfl
theorem Xx.cellAt{B rb tb:Nat}{T:TypeId}{n:Nat}{w:World}{x:Rcd}(h:Xx rb tb T n w x)(hT:T≠5){o:Nat}(ho:o<n):∃v,Jg B w tb o v/\Kw rb tb w v (x o):=by obtain⟨cs,h1,h2,h3⟩:=h;obtain⟨v,h4,h5⟩:=h3 o ho;exact⟨v,Yu h1 hT h4,h5⟩
section
variable {B qb rb tb n : Nat} {T : TypeId} {w : World} {x0 : Rcd} {s : ByteArray}
theorem Qpo{lo:Nat}{key:ByteArray}{o:Nat}{v:Zu}(E:Qjw B qb rb tb n T w)(h:NumS w lo key tb o v)(hr:rb<lo)(ht:tb<lo)(ho:o<n)(h0:Qbr (x0 o)=0):Qmj B qb rb tb x0 T n s w v (QbM s key o):=by obtain⟨bx,hlo,hb,rfl⟩:=h;have hbk:∀w',Chg rb tb w w'->w'.heap[bx]?=some (.cells #[.pointer (some ⟨tb,o,none⟩)] 185 (0,0)):=λ w' hc=>(hc.block bx (lt_of_block hb) (by omega) (by omega)).trans hb;refine⟨rfl,rfl,enters_of Tryz.func202 (by kernel_rfl) rfl,enters_of Tryz.func206 (by kernel_rfl) rfl,λ w' x hc hx hk=>?_,λ w' x a hc hx he hf hk=>Qqk B qb rb tb o bx T n s key a x w' (hbk w' hc) (by omega) E.ne ho hx he⟩;obtain⟨m,hm⟩:=hk.num h0;obtain⟨u,hu,hv⟩:=hx.cellAt (B:=B) E.t8 ho;rw[hm]at hv;obtain rfl:u=.int .u64 m:=hv;show Calls Tryz.prog _ _ _ λ e w''=>e=.returned (.bool (Qpc (x o)))/\Below w'.heap.size w' w'';rw[hm];exact QkD B bx tb o m w' (Yu (hbk w' hc) (by decide) rfl) hu
theorem QqK{lo:Nat}{key:ByteArray}{o:Nat}{v:Zu}(E:Qjw B qb rb tb n T w)(h:DigS w lo key tb o v)(hr:rb<lo)(ht:tb<lo)(ho:o<n):Qmj B qb rb tb x0 T n s w v (Qax s key o):=by obtain⟨bx,hlo,hb,rfl⟩:=h;have hbk:∀w',Chg rb tb w w'->w'.heap[bx]?=some (.cells #[.pointer (some ⟨tb,o,none⟩)] 187 (0,0)):=λ w' hc=>(hc.block bx (lt_of_block hb) (by omega) (by omega)).trans hb;exact⟨rfl,rfl,enters_of Tryz.func209 (by kernel_rfl) rfl,enters_of Tryz.func213 (by kernel_rfl) rfl,λ w' x hc hx hk=>Qeo w',λ w' x a hc hx he hf hk=>QiM B qb rb tb o bx T n s key a x w' (hbk w' hc) (by omega) E.ne ho hx he⟩
end
structure GOk(x0:Rcd)(gs:List Zv):Prop where
 keys:Qfu gs
 disj:Qt9 gs
 frames:∀g ∈ gs,g.Frames
 kinds:∀g ∈ gs,g.Kinds x0
end
section
section
variable {B qb rb tb n : Nat} {T : TypeId} {w : World} {x0 : Rcd} {s : ByteArray}
theorem QpS(E:Qjw B qb rb tb n T w)(key:ByteArray){o:Nat}(ho:o<n)(h0:Qbr (x0 o)=0):Calls Tryz.prog 151 #[.string key,.pointer (some ⟨tb,o,none⟩)] w (Qlo (λ w v=>Qmj B qb rb tb x0 T n s w v (QbM s key o)) w):=
 (Qrm key tb o w).mono λ e w2 ⟨v,he,hs,hb⟩=>⟨v.val,he,v,rfl,Qpo (E.below hb) hs E.rlt E.tlt ho h0,hb⟩
theorem Qgp(E:Qjw B qb rb tb n T w)(key:ByteArray){o:Nat}(ho:o<n):Calls Tryz.prog 152 #[.string key,.pointer (some ⟨tb,o,none⟩)] w (Qlo (λ w v=>Qmj B qb rb tb x0 T n s w v (Qax s key o)) w):=
 (Qjr key tb o w).mono λ e w2 ⟨v,he,hs,hb⟩=>⟨v.val,he,v,rfl,QqK (E.below hb) hs E.rlt E.tlt ho,hb⟩
theorem Qbl(g:Zv):Qmc (λ w v=>Qmj B qb rb tb x0 T n s w v g):=λ w w' v hb h=>h.later (Chg.of_below hb)
end
theorem Quw.imp{P Q:World->List Zu->Prop}{u:Value}{w:World}(h:Quw P u w)(hi:∀l,P w l->Q w l):Quw Q u w:=by obtain⟨g,c,l,hu,hc,hF,hp⟩:=h;exact⟨g,c,l,hu,hc,hF,hi l hp⟩
theorem Qoq{gs:List Zv}{ks:List ByteArray}(h:gs.map (λ g=>g.key)=ks)(hn:ks.Nodup):Qfu gs:=λ i j hi hj e=>by subst h;rw[V7 gs i hi,V7 gs j hj]at e;exact(List.getElem_inj (i:=i) (j:=j) (h₀:=by simpa using hi) (h₁:=by simpa using hj) hn).1 (by simpa using e)
theorem QsW{gs:List Zv}{L:List (List Nat)}(h:gs.map (λ g=>g.offs)=L)(hp:L.Pairwise (λ a b=>∀o,o ∈ a->o ∉ b)):Qt9 gs:=λ i j hi hj hne o ho hin=>by
 subst h;rw[V7 gs i hi]at ho;rw[V7 gs j hj]at hin
 rcases Nat.lt_or_gt_of_ne hne with hlt | hlt
 ·exact List.pairwise_iff_getElem.1 hp i j (by simpa using hi) (by simpa using hj) hlt o (by simpa using ho) (by simpa using hin)
 ·exact List.pairwise_iff_getElem.1 hp j i (by simpa using hj) (by simpa using hi) hlt o (by simpa using hin) (by simpa using ho)
theorem QdU(s:ByteArray):GOk Qm (Qv s):=by
 refine⟨Qoq (ks:=[⟨#[112]⟩,⟨#[114]⟩,⟨#[115]⟩,⟨#[116]⟩]) rfl (by decide),QsW rfl ?_,λ g hg=>?_,λ g hg=>?_⟩
 ·simp only[Qv,Qtn,Qt7,Qtv,QbM,Qtq,Qax,Qsg,QtL,Qur,List.map_cons,List.map_nil,List.flatMap_cons,List.flatMap_nil,List.pairwise_cons,List.mem_cons,List.mem_append,List.not_mem_nil,or_false,List.Pairwise.nil,and_true,List.append_nil,List.singleton_append,List.cons_append,List.nil_append,forall_eq_or_imp,forall_eq];(repeat' apply And.intro) <;> first | omega | (intro a h;exact h.elim)
 ·simp only[Qv,List.mem_cons,List.not_mem_nil,or_false]at hg;rcases hg with rfl | rfl | rfl | rfl
  ·exact QbN _ _ _
  ·exact Qj1 _ _ _
  ·exact QbN _ _ _
  ·exact QbN _ _ _
 ·simp only[Qv,List.mem_cons,List.not_mem_nil,or_false]at hg;rcases hg with rfl | rfl | rfl | rfl
  ·exact Qdj _ _ (rfl)
  ·exact Qlm _ _ (rfl)
  ·exact Qdj _ _ (rfl)
  ·exact Qdj _ _ (rfl)
theorem Qg5{B qb rb tb:Nat}{T:TypeId}{w:World}{s:ByteArray}(E:Qjw B qb rb tb 4 T w):Calls Tryz.prog 95 #[.pointer (some ⟨tb,0,none⟩)] w (Quc (λ w l=>QnS B qb rb tb Qm T 4 s w l (Qv s)) w):=by
 refine(Qc4 tb 0 w
  (λ w v=>Qmj B qb rb tb Qm T 4 s w v (Qax s ⟨#[112]⟩ (1))) (λ w v=>Qmj B qb rb tb Qm T 4 s w v (QbM s ⟨#[114]⟩ (0))) (λ w v=>Qmj B qb rb tb Qm T 4 s w v (Qax s ⟨#[115]⟩ (3))) (λ w v=>Qmj B qb rb tb Qm T 4 s w v (Qax s ⟨#[116]⟩ (2)))
  (λ w' hb=>Qgp (E.below hb) ⟨#[112]⟩ (by omega))
  (Qbl _)
  (λ w' hb=>QpS (E.below hb) ⟨#[114]⟩ (by omega) rfl)
  (Qbl _)
  (λ w' hb=>Qgp (E.below hb) ⟨#[115]⟩ (by omega))
  (Qbl _)
  (λ w' hb=>Qgp (E.below hb) ⟨#[116]⟩ (by omega))
  (Qbl _)).mono ?_
 rintro e w' ⟨u,he,hu,hb⟩;refine⟨u,he,hu.imp λ l h=>?_,hb⟩;obtain⟨x0,x1,x2,x3,rfl,p0,p1,p2,p3⟩:=h;refine⟨rfl,λ i hi=>?_⟩
 match i,hi with
 | 0,_=>exact p0
 | 1,_=>exact p1
 | 2,_=>exact p2
 | 3,_=>exact p3
end
section
theorem QjX{rb tb:Nat}{T:TypeId}{w:World}{x:Rcd}{cs:Array Value}(h:w.heap[tb]?=some (.cells cs T (0,0))){n:Nat}(hn:cs.size=n)(hz:∀i,i<n->∃v,cs[i]?=some v/\(match x i with | .num k=>v=.int .u64 k | .flag q=>v=.bool q | .str t=>v=.string t | .strs l=>l=[]/\v=.slice none 0 0 | .nums l=>l=[]/\v=.slice none 0 0 | .revs l=>l=[]/\v=.slice none 0 0)):Xx rb tb T n w x:=by
 refine⟨cs,h,hn,λ i hi=>?_⟩;obtain⟨v,h1,h2⟩:=hz i hi;refine⟨v,h1,?_⟩
 cases hx:x i with
 | num k=>rw[hx]at h2;exact h2
 | flag q=>rw[hx]at h2;exact h2
 | str t=>rw[hx]at h2;exact h2
 | strs l=>
  rw[hx]at h2;obtain⟨rfl,rfl⟩:=h2;exact⟨none,0,rfl,λ _=>⟨rfl,rfl⟩,λ b off e=>(by cases e),λ i hi=>(by simp[len]at hi),λ b off e=>(by cases e)⟩
 | nums l=>
  rw[hx]at h2;obtain⟨rfl,rfl⟩:=h2;exact⟨none,0,rfl,λ _=>⟨rfl,rfl⟩,λ b off e=>(by cases e),λ i hi=>(by simp[len]at hi),λ b off e=>(by cases e)⟩
 | revs l=>
  rw[hx]at h2;obtain⟨rfl,rfl⟩:=h2;exact⟨none,0,rfl,λ _=>⟨rfl,rfl⟩,λ b off e=>(by cases e),[],rfl,λ i hi=>(by simp[len]at hi),λ i hi=>(by simp[len]at hi)⟩
theorem Kd.str{x0 x:Rcd}(h:Kd x0 x){o:Nat}(h0:Qbr (x0 o)=2):∃n,x o=.str n:=by
 have:=(h o).trans h0
 cases hx:x o <;> rw[hx]at this <;> first | exact⟨_,rfl⟩ | cases this
theorem Qlv{x0:Rcd}{s:ByteArray}{fs:List Zv}(hf:∀g ∈ fs,g.Kinds x0){x:Rcd}{a:Nat}{y:Rcd × Nat}(h:Qfg s fs x a=.ok y)(hk:Kd x0 x):Kd x0 y.1:=Qmk (s:=s) (key:=ByteArray.empty) hf x a y h hk
section
variable {B qb rb tb n : Nat} {T : TypeId} {w : World} {x0 : Rcd} {s : ByteArray}
end
end
theorem Xa{w w1:World}{b:Nat}(h:Xe (some b) w w1)(o:Nat)(v:Value):Xe (some b) w (w1.setCell ⟨b,o,none⟩ v):=
 ⟨h.os,h.tape,h.output,by simpa using h.size,λ i hi hn=>by rw[Below.heap_setCell _ _ _ _ (λ e=>hn (by rw[e]))];exact h.block i hi hn⟩
def Up(rb:Nat)(w w':World):Prop:=∀b,rb<b->b<w.heap.size->w'.heap[b]?=w.heap[b]?
theorem arr4{cs:Array Value}(h:cs.size=4):∃u0 u1 u2 u3:Value,cs=#[u0,u1,u2,u3]:=by
 obtain⟨l⟩:=cs
 match l,h with
 | [a,b,c,d],_=>exact⟨a,b,c,d,rfl⟩
theorem QiV(f:Nat)(w:World):(Instr.typeAssert (.iface 211 (.agg #[.iface 290 (.pointer (some ⟨f,0,none⟩))])) 20 211 true).run Tryz.prog w=.ok (.tuple #[.agg #[.iface 290 (.pointer (some ⟨f,0,none⟩))],.bool true]) w:=by kernel_rfl
theorem Qeq(p q x:Value):#[p,q]++((Array.replicate 18 undef).setIfInBounds 4 x).setIfInBounds 0 x=#[p,q,x,undef,undef,undef,x,undef,undef,undef,undef,undef,undef,undef,undef,undef,undef,undef,undef,undef]:=by simp[Array.replicate,List.replicate]
abbrev Qx(x:Rcd):Array Value:=#[.int .u64 (x 0).n,.string (x 1).s,.string (x 2).s,.string (x 3).s]
abbrev Kk:Value:=.agg #[.int .u64 0,.string ⟨#[]⟩,.string ⟨#[]⟩,.string ⟨#[]⟩]
def Ju(rb tb:Nat)(w:World)(x:Rcd):Prop:=True
theorem Ju.below{rb tb:Nat}{w w':World}{x:Rcd}(h:Ju rb tb w x)(hb:Below w.heap.size w w'):Ju rb tb w' x:=trivial
theorem Ju.up{rb tb:Nat}{w w':World}{x:Rcd}(h:Ju rb tb w x)(hb:Up rb w w'):Ju rb tb w' x:=trivial
theorem Z9{rb tb:Nat}{w:World}{x:Rcd}(h:Xx rb tb 33 4 w x)(hk:Kd Qm x):∃(_:Unit),w.heap[tb]?=some (.cells (Qx x) 33 (0,0))/\Ju rb tb w x:=by
 obtain⟨cs,h1,h2,h3⟩:=h;obtain⟨m0,e0⟩:=hk.num (show Qbr (Qm 0)=_ from rfl);obtain⟨u0,g0,d0⟩:=h3 0 (by decide);rw[e0]at d0;simp only[Kw]at d0;subst d0;obtain⟨m1,e1⟩:=hk.str (show Qbr (Qm 1)=_ from rfl);obtain⟨u1,g1,d1⟩:=h3 1 (by decide);rw[e1]at d1;simp only[Kw]at d1;subst d1;obtain⟨m2,e2⟩:=hk.str (show Qbr (Qm 2)=_ from rfl);obtain⟨u2,g2,d2⟩:=h3 2 (by decide);rw[e2]at d2;simp only[Kw]at d2;subst d2;obtain⟨m3,e3⟩:=hk.str (show Qbr (Qm 3)=_ from rfl);obtain⟨u3,g3,d3⟩:=h3 3 (by decide);rw[e3]at d3;simp only[Kw]at d3;subst d3;refine⟨(),?_,?_⟩
 ·rw[h1];congr 2;apply Array.ext_getElem?;intro i
  match i with
  | 0=>rw[g0];simp[e0,DV.n,DV.q,DV.s,DV.l,DV.ns,DV.rs]
  | 1=>rw[g1];simp[e1,DV.n,DV.q,DV.s,DV.l,DV.ns,DV.rs]
  | 2=>rw[g2];simp[e2,DV.n,DV.q,DV.s,DV.l,DV.ns,DV.rs]
  | 3=>rw[g3];simp[e3,DV.n,DV.q,DV.s,DV.l,DV.ns,DV.rs]
  | i+4=>rw[Array.getElem?_eq_none (by omega),Array.getElem?_eq_none (by simp)]
 ·trivial
theorem Qau(p q:Value)(w:World):CallsD Tryz.prog 234 #[p,q] .returning w λ e u' w'=>e=.returned (.tuple #[])/\u'=.returning/\w'=w:=by
 refine callsD_of_wpS Tryz.func234 rfl λ c₀ cs hu=>?_;apply wpS_seq;apply wpS_region;simp[wpOpsS,go_sem,recoverD,hu,Tryz.ntmps234,Exit.thenS];refine wpS_of_wp ?_;obtain⟨Q,hQ⟩:∃Q:Exit->Act->World->Prop,(λ e a' w'=>bodyPostS Tryz.prog Tryz.f234 c₀ cs (λ e u' w'=>e=Ending.returned (.tuple #[])/\u'=.returning/\w'=w) e a' (c₀ :: cs) w')=Q:=⟨_,rfl⟩;rw[hQ,Qeq];have HQ:=QLh hQ;clear hQ;go_wp2;rw[<-HQ.out];simp[bodyPostS,results,Tryz.results234]
 cases c₀;simp_all
structure Qer(tb eb fb:Nat)(w w':World):Prop where
 os:w'.os=w.os
 tape:w'.tape=w.tape
 output:w'.output=w.output
 size:w.heap.size<=w'.heap.size
 block:∀i,i<w.heap.size->i≠tb->i≠eb->w'.heap[i]?=w.heap[i]?
 th:w'.heap[tb]?=some (.cells #[.int .u64 0,.string ⟨#[]⟩,.string ⟨#[]⟩,.string ⟨#[]⟩] 33 (0,0))
 er:w'.heap[eb]?=some (.cells #[.iface 290 (.pointer (some ⟨fb,0,none⟩))] 89 (0,0))
theorem QdJ(tb eb fb:Nat)(cs:Array Value)(w:World)(ht:w.heap[tb]?=some (.cells cs 33 (0,0)))(hcs:∃u0 u1 u2 u3:Value,cs=#[u0,u1,u2,u3] )(he:w.heap[eb]?=some (.cells #[.nilIface] 89 (0,0)))(hne:tb≠eb):
  CallsD Tryz.prog 234 #[.pointer (some ⟨tb,0,none⟩),.pointer (some ⟨eb,0,none⟩)] (.panicking (Qcp fb)) w λ e u' w'=>
   e=.returned (.tuple #[])/\u'=.panicking [{ v:=.iface 211 (.agg #[.iface 290 (.pointer (some ⟨fb,0,none⟩))]),recovered:=true }]/\Qer tb eb fb w w':=by
 obtain⟨u0,u1,u2,u3,rfl⟩:=hcs;refine callsD_of_wpS Tryz.func234 rfl λ c₀ cs hu=>?_;apply wpS_seq;apply wpS_region;simp[wpOpsS,go_sem,recoverD,hu,Qcp,Tryz.ntmps234,Exit.thenS];refine wpS_of_wp ?_;obtain⟨Q,hQ⟩:∃Q:Exit->Act->World->Prop,(λ e a' w'=>bodyPostS Tryz.prog Tryz.f234 c₀ cs (λ e u' w'=>e=Ending.returned (.tuple #[])/\u'=.panicking [{ v:=.iface 211 (.agg #[.iface 290 (.pointer (some ⟨fb,0,none⟩))]),recovered:=true }]/\Qer tb eb fb w w') e a' ({ c₀ with mode:=.panicking [{ v:=.iface 211 (.agg #[.iface 290 (.pointer (some ⟨fb,0,none⟩))]),recovered:=true }] } :: cs) w')=Q:=⟨_,rfl⟩;rw[hQ,Qeq];have HQ:=QLh hQ;have HT:=QLh ht;have HE:=QLh he;clear hQ hu ht he;have ha:=QiV fb;go_wp2_with fail;obtain⟨V,hV⟩:∃V,(w.alloc (.cells #[.iface 290 (.pointer (some ⟨fb,0,none⟩))] 211)).alloc (.cells #[.int .u64 0,.string ⟨#[]⟩,.string ⟨#[]⟩,.string ⟨#[]⟩] 33)=V:=⟨_,rfl⟩;obtain⟨sb,hsb⟩:∃sb,w.heap.size=sb:=⟨_,rfl⟩;have HV:Hid (Below w.heap.size w V):=QLh (by rw[<-hV];exact Qf (Qf (Below.refl _ _) _) _);have hbs:V.heap[sb]?=some (.cells #[.iface 290 (.pointer (some ⟨fb,0,none⟩))] 211 (0,0)):=by rw[<-hV,<-hsb];exact Qe (heap_alloc_new _ _) _
 have hbn:V.heap[sb+1]?=some (.cells #[.int .u64 0,.string ⟨#[]⟩,.string ⟨#[]⟩,.string ⟨#[]⟩] 33 (0,0)):=by rw[<-hV];exact Qg _ (by simp[hsb])
 have hbt:V.heap[tb]?=some (.cells #[u0,u1,u2,u3] 33 (0,0)):=(HV.out.block _ (lt_of_block HT.out)).trans HT.out;have hbe:V.heap[eb]?=some (.cells #[.nilIface] 89 (0,0)):=(HV.out.block _ (lt_of_block HE.out)).trans HE.out;have k0:V.cell? ⟨sb,0,none⟩=some (.iface 290 (.pointer (some ⟨fb,0,none⟩))):=Qa hbs 0;have m0:V.cell? ⟨sb+1,0,none⟩=some (.int .u64 0):=Qa hbn 0;have m1:V.cell? ⟨sb+1,1,none⟩=some (.string ⟨#[]⟩):=Qa hbn 1;have m2:V.cell? ⟨sb+1,2,none⟩=some (.string ⟨#[]⟩):=Qa hbn 2;have m3:V.cell? ⟨sb+1,3,none⟩=some (.string ⟨#[]⟩):=Qa hbn 3;have hts:tb<sb:=by have:=lt_of_block HT.out;omega
 have hnt:some (sb+1)≠some tb:=by simp;omega
 have hst:some sb≠some tb:=by simp;omega
 have HBT:=QLh hbt;have HBE:=QLh hbe
 try rw[hV]
 try simp only[hsb]
 clear hV hbs hbn hbt hbe ha;refine Qp 4 3 ((some tb)) (Kx [λ u _=>u=(.agg #[.int .u64 0,.string ⟨#[]⟩,.string ⟨#[]⟩,.string ⟨#[]⟩]),λ u _=>u=(.pointer (some ⟨sb,0,none⟩)),λ u _=>u=(.iface 290 (.pointer (some ⟨fb,0,none⟩))),λ _ w'=>w'.heap[tb]?=some (.cells #[.int .u64 0,.string ⟨#[]⟩,.string ⟨#[]⟩,.string ⟨#[]⟩] 33 (0,0))]) rfl (by kernel_rfl) (by kernel_rfl) (Q9 ⟨Qd,Qd,Qd,?m3,trivial⟩) (Q6 4 ⟨?s0,?s1,?s2,?s3,trivial⟩) ?_
 case m3=>exact⟨λ u w1 w2 h hb=>Zo h hb,λ hn=>absurd rfl hn⟩
 case s0=>refine qV (λ _=>rfl) rfl λ av wv hE hO hD=>?_;simp[go_sem,qF av 5 (.pointer (some ⟨sb+1,0,none⟩)) (hO.2.2 5 rfl),Qb hE hst k0,Qb hE hnt m0,Qb hE hnt m1,Qb hE hnt m2,Qb hE hnt m3]
 case s1=>refine qV (λ _=>rfl) rfl λ av wv hE hO hD=>?_;simp[go_sem,qF av 3 (.pointer (some ⟨sb,0,none⟩)) (hO.2.2 3 rfl)]
 case s2=>refine qV (λ _=>rfl) rfl λ av wv hE hO hD=>?_;simp[go_sem,qE (hD.1 rfl _ rfl),Qb hE hst k0,Qb hE hnt m0,Qb hE hnt m1,Qb hE hnt m2,Qb hE hnt m3]
 case s3=>refine Qu (λ av wv hE hS hO hD=>⟨rfl,?_⟩);have h0:av.eval (.tmp 0)=(.pointer (some ⟨tb,0,none⟩)):=hO.2.2 0 rfl;have f0:=qF av 0 (.pointer (some ⟨tb,0,none⟩)) (h0);have f17:=qE (hD.1 rfl _ rfl);have hq:wv.heap[tb]?=some (.cells #[u0,u1,u2,u3] 33 (0,0)):=Zo (w:=V.drew) (hS rfl) HBT.out;have q0:wv.cell? ⟨tb,0,none⟩=some u0:=Qa hq 0;have q1:wv.cell? ⟨tb,1,none⟩=some u1:=Qa hq 1;have q2:wv.cell? ⟨tb,2,none⟩=some u2:=Qa hq 2;have q3:wv.cell? ⟨tb,3,none⟩=some u3:=Qa hq 3;have hz:∀o,wv.frozen? ⟨tb,o,none⟩=false:=Qk hq;unfold Oper.wp;have l0:tb<wv.heap.size:=lt_of_block hq;have f0:=QEf av 0 (.pointer (some ⟨tb,0,none⟩)) (hO.2.2 0 rfl);simp[go_sem,f0,f17,hz,l0,q0,q1,q2,q3];exact⟨QcH (Xa (Xa (Xa (Xa (Y4 _ _) 0 _) 1 _) 2 _) 3 _),undef,(Qc (Qc (Qc (Qc hq (o:=0) _) (o:=1) _) (o:=2) _) (o:=3) _)⟩
 intro a' w' hE hO hall;have hA:=Qn (ds:=[17,18,19]) rfl hO (by kernel_rfl);obtain⟨j0,j1,j2,j3,-⟩:=hall;have z3:(λ _ w'=>w'.heap[tb]?=some (.cells #[.int .u64 0,.string ⟨#[]⟩,.string ⟨#[]⟩,.string ⟨#[]⟩] 33 (0,0))) undef w':=j3 _ rfl;simp only[List.foldl_cons,List.foldl_nil,Act.put,List.setIfInBounds_toArray,List.set_cons_succ,List.set_cons_zero,qJ 17 (j0 _ rfl),qJ 18 (j1 _ rfl),qJ 19 (j2 _ rfl)]at hA;clear hO j3 j0 j1 j2;subst hA;have HE:=QLh (Kb hE);have HZ:=QLh z3;have hbe:w'.heap[eb]?=some (.cells #[.nilIface] 89 (0,0)):=Qw HE.out (by simp;exact λ e=>hne e.symm) HBE.out;have HBE:=QLh hbe;have q0:w'.cell? ⟨eb,0,none⟩=some .nilIface:=Qa hbe 0;have q1:w'.frozen? ⟨eb,0,none⟩=false:=Qk hbe 0;clear hE z3 hbe;go_wp2;rw[<-HQ.out];have hs1:(w'.setCell ⟨eb,0,none⟩ (.iface 290 (.pointer (some ⟨fb,0,none⟩)))).heap.size=w'.heap.size:=by simp
 refine⟨rfl,_,rfl,.tuple #[],by simp[results,Tryz.results234],rfl,rfl,?_⟩;exact⟨HE.out.os.trans HV.out.os,HE.out.tape.trans HV.out.tape,HE.out.output.trans HV.out.output,by rw[hs1];exact Nat.le_trans HV.out.size HE.out.size,λ i hi h1 h2=>by
  rw[Below.heap_setCell _ _ _ _ h2];exact(HE.out.block i (Nat.lt_of_lt_of_le hi HV.out.size) (by simpa using h1)).trans (HV.out.block i hi),Qh HZ.out hne _,Qc HBE.out _⟩
def Qrk(s:ByteArray)(w:World)(e:Ending)(w':World):Prop:=
 Below w.heap.size w w'/\match Qfg s (Qv s) Qm 0 with
  | .error f=>∃fb,e=.returned (.tuple #[Kk,.iface 290 (.pointer (some ⟨fb,0,none⟩))])/\Qd5 w' fb f.1 f.2
  | .ok y=>Kd Qm y.1/\y.2<=s.size/\(∃rb tb,w.heap.size<=rb/\Ju rb tb w' y.1)/\(if y.2<s.size then ∃fb,e=.returned (.tuple #[.agg (Qx y.1),.iface 290 (.pointer (some ⟨fb,0,none⟩))])/\Qd5 w' fb 5 y.2 else e=.returned (.tuple #[.agg (Qx y.1),.nilIface]))
theorem Qfk(B:Nat)(s:ByteArray)(w:World)(hT:QjO B w)(hET:Yo w)(hB:B<=w.heap.size)(hg:3<B)(hs:s.size<=9223372036854775807):
  Calls Tryz.prog 176 #[.string s,.func (.func 95) #[] #[]] w (Qrk s w):=by
 have HT:=QLh hT;have HET:=QLh hET;have ef:=enters_of Tryz.func95 (by kernel_rfl) rfl;clear hT hET
 go_enter_defers Tryz.func176,Tryz.ntmps176
 go_wp2_with fail;obtain⟨tb,htb⟩:∃tb,w.heap.size=tb:=⟨_,rfl⟩;obtain⟨W,hW⟩:∃W,(w.alloc (.cells #[.int .u64 0,.string ⟨#[]⟩,.string ⟨#[]⟩,.string ⟨#[]⟩] 33)).alloc (.cells #[.nilIface] 89)=W:=⟨_,rfl⟩;have WB:Hid (Below w.heap.size w W):=QLh (by rw[<-hW];exact Qf (Qf (Below.refl _ _) _) _);have W0:Hid (W.heap[tb]?=some (.cells #[.int .u64 0,.string ⟨#[]⟩,.string ⟨#[]⟩,.string ⟨#[]⟩] 33 (0,0))):=QLh (by rw[<-hW,<-htb];exact Qe (heap_alloc_new _ _) _);have W1:Hid (W.heap[tb+1]?=some (.cells #[.nilIface] 89 (0,0))):=QLh (by rw[<-hW];exact Qg _ (by simp[htb]));have hWs:W.heap.size=tb+1+1:=by rw[<-hW];simp[htb]
 have HTW:Hid (w.heap.size=tb):=QLh htb
 try rw[hW]
 try simp only[htb]
 clear hW htb;refine(Qsu W s 10240).mono ?_;rintro e w1 ⟨rfl,hw1⟩;have hm:max (10240:Int) 0=10240:=by decide
 rw[hm]at hw1;obtain⟨rb,hrb⟩:∃rb,W.heap.size=rb:=⟨_,rfl⟩;have R1:Hid (RdB w1 rb s 0 10240):=QLh (by rw[hw1,<-hrb];exact heap_alloc_new _ _);have WB1:Hid (Below W.heap.size W w1):=QLh (by rw[hw1];exact Qf (Below.refl _ _) _);have hs1:w1.heap.size=rb+1:=by rw[hw1,<-hrb];simp
 try rw[hrb]
 clear hw1;go_upto_region 3 with fail;obtain⟨V,hV⟩:∃V,w1.alloc (.cells #[.pointer (some ⟨rb,0,none⟩)] 217)=V:=⟨_,rfl⟩;have VB:Hid (Below w1.heap.size w1 V):=QLh (by rw[<-hV];exact Qf (Below.refl _ _) _);have VQ:Hid (V.heap[rb+1]?=some (.cells #[.pointer (some ⟨rb,0,none⟩)] 217 (0,0))):=QLh (by rw[<-hV];exact Qg _ hs1)
 try rw[hV]
 try simp only[hs1]
 have hrbt:rb=tb+1+1:=hrb.symm.trans hWs;have hTW:=HTW.out;have BV:Hid (Below w.heap.size w V):=QLh (Qj (Qj WB.out WB1.out) VB.out);have WV:Hid (Below W.heap.size W V):=QLh (Qj WB1.out VB.out);have VT:Hid (V.heap[tb]?=some (.cells #[.int .u64 0,.string ⟨#[]⟩,.string ⟨#[]⟩,.string ⟨#[]⟩] 33 (0,0))):=QLh ((WV.out.block _ (lt_of_block W0.out)).trans W0.out);have VE:Hid (V.heap[tb+1]?=some (.cells #[.nilIface] 89 (0,0))):=QLh ((WV.out.block _ (lt_of_block W1.out)).trans W1.out);have VR:Hid (RdB V rb s 0 10240):=QLh (R1.out.below VB.out);have ENV:Hid (Qaz B V (rb+1) rb s 0):=QLh ⟨VQ.out,VR.out,HT.out.below BV.out,by omega,by omega,by omega,Nat.zero_le _,hs⟩;have E:Qjw B (rb+1) rb tb 4 33 V:=⟨⟨_,VR.out⟩,⟨_,VT.out⟩,by omega,by omega,by omega,by decide,by decide⟩;have REC:Hid (Xx rb tb 33 4 V Qm):=QLh (QjX VT.out rfl (λ i hi=>by
  match i,hi with
  | 0,_=>exact⟨_,rfl,rfl⟩
  | 1,_=>exact⟨_,rfl,rfl⟩
  | 2,_=>exact⟨_,rfl,rfl⟩
  | 3,_=>exact⟨_,rfl,rfl⟩))
 have HOF:=QLh (Qg5 (s:=s) E);have HE:=QLh E;have G:Hid (GOk Qm (Qv s)):=QLh (QdU s);have HRBT:=QLh hrbt;clear hV E hrb hs1 hWs hrbt hTW;go_wp2_with fail;refine HOF.out.mono ?_;rintro e w2 ⟨u,rfl,⟨g,c,l,rfl,hc,hF,hS⟩,hb⟩;have hl:(Qv s).length=l.length:=hS.1;have hg:=(HE.out.below hb).apart hF.ex;have H2:=QLh (Qjs B (rb+1) rb tb g 0 c Qm 33 4 s w2 w2 l (Qv s) 0 Qm hF.flds hc (show l.length<=1000 by rw[<-hl];exact Nat.le_of_ble_eq_true rfl) hS (Chg.refl _ _ _) hg HE.out.nq HE.out.le HE.out.ne G.out.keys G.out.disj G.out.frames G.out.kinds (λ i=>rfl) (REC.out.below hb) (ENV.out.below hb) (λ i hi o ho=>rfl));have HB:=QLh hb;clear hF hS hb hl hc hg HOF ef;go_wp2_with fail;refine H2.out.mono ?_;intro e w3 hh
 cases hr:Qfg s (Qv s) Qm 0 with
 | error f=>
  rw[hr]at hh;have HTH:=QLh (QjR hh);obtain⟨fb,rfl,hf,hc3⟩:=Qh8 hh;have HF:=QLh hf;have HC:=QLh hc3;have HR:=QLh hr;clear hh hf hc3 hr H2;go_wp2;obtain⟨cs,hcs,hcn⟩:=HTH.out;have hce:w3.heap[tb+1]?=some (.cells #[.nilIface] 89 (0,0)):=(HC.out.block _ (Nat.lt_of_lt_of_le (lt_of_block VE.out) HB.out.size) (by have:=HRBT.out;omega) (by omega)).trans ((HB.out.block _ (lt_of_block VE.out)).trans VE.out);refine leaves_cons (f:=234) (args:=#[.pointer (some ⟨tb,0,none⟩),.pointer (some ⟨tb+1,0,none⟩)]) (by simp) (by simp[go_sem]) ?_;refine(QdJ tb (tb+1) fb cs w3 hcs (arr4 hcn) hce (by omega)).mono ?_;rintro e u' w4 ⟨rfl,rfl,HA⟩;have y0:∀o,w4.cell? ⟨tb,o,none⟩=_:=Qa HA.th;have y1:w4.cell? ⟨tb+1,0,none⟩=some (.iface 290 (.pointer (some ⟨fb,0,none⟩))):=Qa HA.er 0;refine⟨_,by simp[results,Tryz.results176,go_sem,y0,y1];rfl,?_⟩;refine⟨?_,by
   rw[HR.out];refine⟨fb,rfl,(HA.block fb (lt_of_block HF.out) (λ e=>?_) (λ e=>?_)).trans HF.out⟩
   ·subst e;have h9:=hcs.symm.trans HF.out;cases h9
   ·subst e;have h9:=hce.symm.trans HF.out;cases h9⟩
  have hsz:=HTW.out;have hb9:=HRBT.out;refine⟨HA.os.trans (HC.out.os.trans (HB.out.os.trans BV.out.os)),HA.tape.trans (HC.out.tape.trans (HB.out.tape.trans BV.out.tape)),HA.output.trans (HC.out.output.trans (HB.out.output.trans BV.out.output)),Nat.le_trans BV.out.size (Nat.le_trans HB.out.size (Nat.le_trans HC.out.size HA.size)),λ i hi=>?_⟩;have l1:=Nat.lt_of_lt_of_le hi BV.out.size;have l2:=Nat.lt_of_lt_of_le l1 HB.out.size;exact(HA.block i (Nat.lt_of_lt_of_le l2 HC.out.size) (by omega) (by omega)).trans ((HC.out.block i l2 (by omega) (by omega)).trans ((HB.out.block i l1).trans (BV.out.block i hi)))
 | ok q=>
  rw[hr]at hh;obtain⟨rfl,hrd,hle,hx3,hc3⟩:=Qka hh;have HRD:=QLh hrd;have HC:=QLh hc3;have HR:=QLh hr;have HKD:Hid (Kd Qm q.1):=QLh (Qlv G.out.kinds hr (λ i=>rfl));obtain⟨_,hth,hlies⟩:=Z9 hx3 HKD.out;have HTH:=QLh hth;have HLI:=QLh hlies;clear hh hrd hx3 hc3 hr H2 hth hlies;obtain⟨x,a⟩:=q;have hts:tb<w3.heap.size:=lt_of_block HTH.out;have HQ3:Hid (w3.heap[rb+1]?=some (.cells #[.pointer (some ⟨rb,0,none⟩)] 217 (0,0))):=QLh ((HC.out.block _ (Nat.lt_of_lt_of_le (lt_of_block VQ.out) HB.out.size) (by omega) (by have:=HRBT.out;omega)).trans ((HB.out.block _ (lt_of_block VQ.out)).trans VQ.out));have HE3:Hid (w3.heap[tb+1]?=some (.cells #[.nilIface] 89 (0,0))):=QLh ((HC.out.block _ (Nat.lt_of_lt_of_le (lt_of_block VE.out) HB.out.size) (by have:=HRBT.out;omega) (by omega)).trans ((HB.out.block _ (lt_of_block VE.out)).trans VE.out));have HET3:Hid (Yo w3):=QLh (by
   have h1:=HET.out.below BV.out;have h2:=h1.below HB.out;unfold Yo at h2 ⊢;rw[World.cell?_of_block (w:=w2) (HC.out.block _ (Ql h2) (show 3≠rb by have:=HRBT.out;have:=HTW.out;omega) (show 3≠tb by have:=HTW.out;omega))];exact h2)
  go_upto_region 4 with fail;obtain⟨VO,hVO⟩:∃VO:Nat->Option Nat,VO=λ j=>if j=6 then some tb else none:=⟨_,rfl⟩;have vo6:VO 6=some tb:=by rw[hVO];rfl
  have von:∀j,j≠6->VO j=none:=λ j h1=>by rw[hVO];simp[h1]
  have vob:∀j b,b≠tb->VO j≠some b:=λ j b hb=>by
   by_cases h:j=6
   ·subst h;rw[vo6];simp;exact λ e=>hb e.symm
   ·rw[von j h];simp
  clear hVO;refine Qe2 7 VO (λ i j b h1 h2=>by
    by_cases e1:i=6
    ·by_cases e2:j=6
     ·rw[e1,e2]
     ·rw[von j e2]at h2;cases h2
    ·rw[von i e1]at h1;cases h1) (λ _ _ _=>True) (λ _=>True) (λ _ _ _ _ _=>True) (λ _ _=>trivial) trivial
   (Kx [λ u _=>u=.agg (Qx x),λ u _=>u=.pointer (some ⟨rb+1,0,none⟩),λ u _=>u=.pointer (some ⟨rb+1,0,none⟩),λ u _=>u=.pointer (some ⟨rb+1,0,none⟩),λ u _=>u=.pointer (some ⟨rb,0,none⟩),λ u w'=>if a<s.size then ∃fb,u=.iface 290 (.pointer (some ⟨fb,0,none⟩))/\Qd5 w' fb 5 a/\fb≠tb else u=.nilIface,λ _ w'=>w'.heap[tb]?=some (.cells (Qx x) 33 (0,0))]) rfl (by kernel_rfl) (by kernel_rfl)
   (Qrc ⟨QcE,QcE,QcE,QcE,QcE,?m5,?m6,trivial⟩) (λ _ _ _ _ _=>trivial) (λ _ _ _ _ _ _ _ _ _ _ _=>trivial) (Qmu 7 ⟨?s0,?s1,?s2,?s3,?s4,?s5,?s6,trivial⟩) ?_
  case m5=>
   intro j hj u w1 w2 he hp
   by_cases hlt:a<s.size
   ·simp only[hlt,if_true]at hp ⊢
    obtain⟨fb,h1,h2,h3⟩:=hp;refine⟨fb,h1,(he.1.block fb (lt_of_block h2) ?_).trans h2,h3⟩;exact λ e=>vob j fb h3 e.symm
   ·simp only[hlt,if_false]at hp ⊢;exact hp
  case m6=>intro j hj u w1 w2 he hp;refine(he.1.block tb (lt_of_block hp) ?_).trans hp;rw[von j hj];simp
  case s0=>refine QaT (v:=.agg (Qx x)) (λ _ _=>trivial) (λ _ _ _ _=>⟨trivial,trivial⟩) (λ D av wv hE hO hD=>?_) (λ _=>rfl);have h6:¬D 6:=hE.notyet 6 _ rfl { on:=0,ground:=.data } (by simp) rfl hE.me;have hb0:wv.heap[tb]?=some (.cells (Qx x) 33 (0,0)):=(hE.late 6 h6 tb vo6 hts).trans HTH.out;have k0:wv.cell? ⟨tb,0,none⟩=some (.int .u64 (x 0).n):=Qa hb0 0;have k1:wv.cell? ⟨tb,1,none⟩=some (.string (x 1).s):=Qa hb0 1;have k2:wv.cell? ⟨tb,2,none⟩=some (.string (x 2).s):=Qa hb0 2;have k3:wv.cell? ⟨tb,3,none⟩=some (.string (x 3).s):=Qa hb0 3;have f4:=QEf av 4 (.pointer (some ⟨tb,0,none⟩)) (hO.2.2 4 rfl);refine⟨rfl,?_⟩;simp[go_sem,f4,k0,k1,k2,k3]
  case s1=>refine QaT (v:=.pointer (some ⟨rb+1,0,none⟩)) (λ _ _=>trivial) (λ _ _ _ _=>⟨trivial,trivial⟩) (λ D av wv hE hO hD=>?_) (λ _=>rfl);have f6:=QEf av 6 (.pointer (some ⟨rb+1,0,none⟩)) (hO.2.2 6 rfl);refine⟨rfl,?_⟩;simp[go_sem,f6]
  case s2=>refine QaT (v:=.pointer (some ⟨rb+1,0,none⟩)) (λ _ _=>trivial) (λ _ _ _ _=>⟨trivial,trivial⟩) (λ D av wv hE hO hD=>?_) (λ _=>rfl);have f17:=QEf av 17 (.pointer (some ⟨rb+1,0,none⟩)) (hD.1 rfl _ rfl);refine⟨rfl,?_⟩;simp[go_sem,f17]
  case s3=>refine QaT (v:=.pointer (some ⟨rb+1,0,none⟩)) (λ _ _=>trivial) (λ _ _ _ _=>⟨trivial,trivial⟩) (λ D av wv hE hO hD=>?_) (λ _=>rfl);have f18:=QEf av 18 (.pointer (some ⟨rb+1,0,none⟩)) (hD.1 rfl _ rfl);refine⟨rfl,?_⟩;simp[go_sem,f18]
  case s4=>refine QaT (v:=.pointer (some ⟨rb,0,none⟩)) (λ _ _=>trivial) (λ _ _ _ _=>⟨trivial,trivial⟩) (λ D av wv hE hO hD=>?_) (λ _=>rfl);have f19:=QEf av 19 (.pointer (some ⟨rb+1,0,none⟩)) (hD.1 rfl _ rfl);have k0:wv.cell? ⟨rb+1,0,none⟩=some (.pointer (some ⟨rb,0,none⟩)):=Qa ((hE.ext.block (rb+1) (lt_of_block HQ3.out) (λ j=>vob j _ (by have:=HRBT.out;omega))).trans HQ3.out) 0;refine⟨rfl,?_⟩;simp[go_sem,f19,k0]
  case s5=>
   refine QjT (λ D av wv hPP hE hO hD=>?_);have f20:=QEf av 20 (.pointer (some ⟨rb,0,none⟩)) (hD.1 rfl _ rfl);have hrd:RdB wv rb s a 10240:=(hE.ext.block rb (lt_of_block HRD.out) (λ j=>vob j _ (by have:=HRBT.out;omega))).trans HRD.out;have het:Yo wv:=by have h2:Yo w3.drew:=HET3.out;unfold Yo at h2 ⊢;rw[World.cell?_of_block (w:=w3.drew) (hE.ext.block _ (Ql h2) (λ j=>vob j _ (show 3≠tb by have:=HTW.out;omega)))];exact h2
   have hvs:w3.heap.size<=wv.heap.size:=hE.ext.size;refine⟨rfl,Vn (f:=184) (args:=#[.pointer (some ⟨rb,0,none⟩)]) (R:=λ u w2=>Below wv.heap.size wv w2/\(if a<s.size then ∃fb,u=.iface 290 (.pointer (some ⟨fb,0,none⟩))/\Qd5 w2 fb 5 a/\fb≠tb else u=.nilIface)) (by simp[go_sem,f20]) ((QsP wv rb s a 10240 het hrd hle hs).mono λ e w2 hh=>?_) (λ u w2 ⟨h1,h2⟩=>⟨u,rfl,Qmh h1 trivial,h2,λ _ _ _ _ _=>⟨trivial,trivial⟩⟩)⟩;obtain⟨h1,h2⟩:=hh;unfold leftOf at h2
   by_cases hlt:a<s.size
   ·simp only[hlt,if_true]at h2 ⊢
    obtain⟨fb,h3,h4,h5⟩:=h2;exact⟨_,h3,h1,fb,rfl,h5,by omega⟩
   ·simp only[hlt,if_false]at h2 ⊢
    exact⟨_,h2,h1,rfl⟩
  case s6=>refine QjT (λ D av wv hPP hE hO hD=>?_);have f16:=QEf av 16 (.agg (Qx x)) (hD.1 rfl _ rfl);have f4:=QEf av 4 (.pointer (some ⟨tb,0,none⟩)) (hO.2.2 4 rfl);have hq:wv.heap[tb]?=some (.cells (Qx x) 33 (0,0)):=(hE.own tb vo6 hts).trans HTH.out;have k0:wv.cell? ⟨tb,0,none⟩=some (.int .u64 (x 0).n):=Qa hq 0;have k1:wv.cell? ⟨tb,1,none⟩=some (.string (x 1).s):=Qa hq 1;have k2:wv.cell? ⟨tb,2,none⟩=some (.string (x 2).s):=Qa hq 2;have k3:wv.cell? ⟨tb,3,none⟩=some (.string (x 3).s):=Qa hq 3;have hz:∀o,wv.frozen? ⟨tb,o,none⟩=false:=Qk hq;have l0:tb<wv.heap.size:=lt_of_block hq;refine⟨rfl,?_⟩;unfold Oper.wp;simp[go_sem,f4,f16,hz,l0,k0,k1,k2,k3];exact⟨⟨by rw[vo6];exact(Xa (Xa (Xa (Xa (Y4 _ _) 0 _) 1 _) 2 _) 3 _),trivial⟩,undef,(Qc (Qc (Qc (Qc hq (o:=0) _) (o:=1) _) (o:=2) _) (o:=3) _),λ _ _ _ _ _=>⟨trivial,trivial⟩⟩
  intro a' w' hE _ hO hall _;have hA:=Qn (ds:=[16,17,18,19,20,21]) rfl hO (by kernel_rfl);have e16:(λ u (_:World)=>u=.agg (Qx x)) (a'.eval (.tmp 16)) w':=hall.1 _ rfl;have e17:(λ u (_:World)=>u=.pointer (some ⟨rb+1,0,none⟩)) (a'.eval (.tmp 17)) w':=hall.2.1 _ rfl;have e18:(λ u (_:World)=>u=.pointer (some ⟨rb+1,0,none⟩)) (a'.eval (.tmp 18)) w':=hall.2.2.1 _ rfl;have e19:(λ u (_:World)=>u=.pointer (some ⟨rb+1,0,none⟩)) (a'.eval (.tmp 19)) w':=hall.2.2.2.1 _ rfl;have e20:(λ u (_:World)=>u=.pointer (some ⟨rb,0,none⟩)) (a'.eval (.tmp 20)) w':=hall.2.2.2.2.1 _ rfl;have e21:(λ u w'=>if a<s.size then ∃fb,u=.iface 290 (.pointer (some ⟨fb,0,none⟩))/\Qd5 w' fb 5 a/\fb≠tb else u=.nilIface) (a'.eval (.tmp 21)) w':=hall.2.2.2.2.2.1 _ rfl;have z6:w'.heap[tb]?=some (.cells (Qx x) 33 (0,0)):=hall.2.2.2.2.2.2.1 _ rfl;obtain⟨v21,hv21⟩:∃v,a'.eval (.tmp 21)=v:=⟨_,rfl⟩;rw[hv21]at e21;simp only[List.foldl_cons,List.foldl_nil,Act.put,List.setIfInBounds_toArray,List.set_cons_succ,List.set_cons_zero,e16,e17,e18,e19,e20,hv21]at hA;clear hO hall e16 e17 e18 e19 e20 hv21;subst hA;have HX4:Hid (Qpi VO w3 w'):=QLh ⟨hE.os,hE.tape,hE.output,hE.size,hE.block⟩;have HZ6:=QLh z6;have hbe:w'.heap[tb+1]?=some (.cells #[.nilIface] 89 (0,0)):=(HX4.out.block _ (lt_of_block HE3.out) (λ j=>vob j _ (by omega))).trans HE3.out;have HBE:=QLh hbe;have g0:w'.cell? ⟨tb+1,0,none⟩=some .nilIface:=Qa hbe 0;have g1:w'.frozen? ⟨tb+1,0,none⟩=false:=Qk hbe 0;have HVO:Hid (∀j b,b≠tb->VO j≠some b):=QLh vob;have HFIN:∀v,Hid (Below w.heap.size w (w'.setCell ⟨tb+1,0,none⟩ v)):=λ v=>QLh (by
   have hsz:=HTW.out;have hb9:=HRBT.out;refine⟨HX4.out.os.trans (HC.out.os.trans (HB.out.os.trans BV.out.os)),HX4.out.tape.trans (HC.out.tape.trans (HB.out.tape.trans BV.out.tape)),HX4.out.output.trans (HC.out.output.trans (HB.out.output.trans BV.out.output)),by simpa using Nat.le_trans BV.out.size (Nat.le_trans HB.out.size (Nat.le_trans HC.out.size HX4.out.size)),λ i hi=>?_⟩;have l1:=Nat.lt_of_lt_of_le hi BV.out.size;have l2:=Nat.lt_of_lt_of_le l1 HB.out.size;rw[Below.heap_setCell _ _ _ _ (by omega:i≠tb+1)];exact(HX4.out.block i (Nat.lt_of_lt_of_le l2 HC.out.size) (λ j=>HVO.out j i (by omega))).trans ((HC.out.block i l2 (by omega) (by omega)).trans ((HB.out.block i l1).trans (BV.out.block i hi))))
  have HLF:∀v,Hid (Ju rb tb (w'.setCell ⟨tb+1,0,none⟩ v) x):=λ v=>QLh (HLI.out.up (λ b h1 h2=>by
   have hb9:=HRBT.out;rw[Below.heap_setCell _ _ _ _ (by omega:b≠tb+1)];exact HX4.out.block b h2 (λ j=>HVO.out j b (by omega))))
  have HTF:∀v o,(w'.setCell ⟨tb+1,0,none⟩ v).cell? ⟨tb,o,none⟩=(Qx x)[o]?:=λ v o=>Qa (Qh HZ6.out (by show tb≠tb+1;omega) v) o;have HEF:∀v,(w'.setCell ⟨tb+1,0,none⟩ v).cell? ⟨tb+1,0,none⟩=some v:=λ v=>Qa (Qc HBE.out v) 0;have HTFH:=QLh HTF;have HEFH:=QLh HEF;clear hE z6 hbe vo6 von vob HTF HEF
  by_cases hlt:a<s.size
  ·simp only[hlt,if_true]at e21
   obtain⟨fb,rfl,hf,hft⟩:=e21;have HF:=QLh hf;have HLT:=QLh hlt;clear hf hlt;go_wp2;refine leaves_cons (f:=234) (args:=#[.pointer (some ⟨tb,0,none⟩),.pointer (some ⟨tb+1,0,none⟩)]) (by simp) (by simp[go_sem]) ?_;refine(Qau _ _ _).mono ?_;rintro e u' w'' ⟨rfl,rfl,rfl⟩;have y0:=HTFH.out (.iface 290 (.pointer (some ⟨fb,0,none⟩)));have y1:=HEFH.out (.iface 290 (.pointer (some ⟨fb,0,none⟩)));refine⟨_,by simp[results,Tryz.results176,go_sem,y0,y1];rfl,?_⟩;refine⟨(HFIN _).out,?_⟩;rw[HR.out];refine⟨HKD.out,hle,⟨rb,tb,by have:=HRBT.out;have:=HTW.out;omega,(HLF _).out⟩,?_⟩;rw[if_pos HLT.out];exact⟨fb,rfl,Qh HF.out (by intro e;subst e;have h9:=HBE.out.symm.trans HF.out;cases h9) _⟩
  ·simp only[hlt,if_false]at e21
   subst e21;have HLT:=QLh hlt;clear hlt;go_wp2;refine leaves_cons (f:=234) (args:=#[.pointer (some ⟨tb,0,none⟩),.pointer (some ⟨tb+1,0,none⟩)]) (by simp) (by simp[go_sem]) ?_;refine(Qau _ _ _).mono ?_;rintro e u' w'' ⟨rfl,rfl,rfl⟩;have y0:=HTFH.out .nilIface;have y1:=HEFH.out .nilIface;refine⟨_,by simp[results,Tryz.results176,go_sem,y0,y1];rfl,?_⟩;refine⟨(HFIN _).out,?_⟩;rw[HR.out];refine⟨HKD.out,hle,⟨rb,tb,by have:=HRBT.out;have:=HTW.out;omega,(HLF _).out⟩,?_⟩;rw[if_neg HLT.out]
theorem bsn{w:World}{b c o:Nat}{x:Obj}{v:Value}(h:w.heap[b]?=some x)(hp:b≠c):(w.setCell ⟨c,o,none⟩ v).heap[b]?=some x:=Qh h hp v
theorem Qhe(m0:Int)(m1:ByteArray)(m2:ByteArray)(m3:ByteArray)(w:World):Calls Tryz.prog 175 #[.agg #[.int .u64 m0,.string m1,.string m2,.string m3],.nilIface] w λ e w'=>e=.returned (.tuple #[.agg #[.int .u64 m0,.string m1,.string m2,.string m3],.nilIface])/\Below w.heap.size w w':=by
 go_enter Tryz.func175,Tryz.ntmps175
 go_wp2;have hb:=Qc (Qc (Qc (Qc (Qg (w:=w.alloc (.cells #[.int .u64 m0,.string m1,.string m2,.string m3] 33)) (.cells #[.int .u64 0,.string ⟨#[]⟩,.string ⟨#[]⟩,.string ⟨#[]⟩] 33) (Q3 _ rfl)) (o:=0) (.int .u64 m0)) (o:=1) (.string m1)) (o:=2) (.string m2)) (o:=3) (.string m3);have d:∀o,_=_:=Qa hb;refine bodyPost_ret (v:=.tuple #[.agg #[.int .u64 m0,.string m1,.string m2,.string m3],.nilIface]) ?_ rfl ⟨rfl,by(repeat (first | exact Below.refl _ _ | assumption | (refine Zy ?_) | (refine Zg ?_ _) | (refine Qf ?_ _) | (refine Ji ?_ (by first | omega | (simp;done) | (simp;omega)) _) | (refine Qj ?_ (by assumption))))⟩
 simp[results,Tryz.results175,go_sem,d]
theorem Qck(m0:Int)(m1:ByteArray)(m2:ByteArray)(m3:ByteArray)(fb:Nat)(w:World):Calls Tryz.prog 175 #[.agg #[.int .u64 m0,.string m1,.string m2,.string m3],.iface 290 (.pointer (some ⟨fb,0,none⟩))] w λ e w'=>e=.returned (.tuple #[Kk,.iface 290 (.pointer (some ⟨fb,0,none⟩))])/\Below w.heap.size w w':=by
 go_enter Tryz.func175,Tryz.ntmps175
 go_wp2;have hb:=Qc (Qc (Qc (Qc (Qe (Qg (w:=w.alloc (.cells #[.int .u64 m0,.string m1,.string m2,.string m3] 33)) (.cells #[.int .u64 0,.string ⟨#[]⟩,.string ⟨#[]⟩,.string ⟨#[]⟩] 33) (Q3 _ rfl)) (.cells #[.int .u64 0,.string ⟨#[]⟩,.string ⟨#[]⟩,.string ⟨#[]⟩] 33)) (o:=0) (.int .u64 0)) (o:=1) (.string ⟨#[]⟩)) (o:=2) (.string ⟨#[]⟩)) (o:=3) (.string ⟨#[]⟩);have d:∀o,_=_:=Qa hb;refine bodyPost_ret (v:=.tuple #[Kk,.iface 290 (.pointer (some ⟨fb,0,none⟩))]) ?_ rfl ⟨rfl,by(repeat (first | exact Below.refl _ _ | assumption | (refine Zy ?_) | (refine Zg ?_ _) | (refine Qf ?_ _) | (refine Ji ?_ (by first | omega | (simp;done) | (simp;omega)) _) | (refine Qj ?_ (by assumption))))⟩
 simp[results,Tryz.results175,go_sem,d]
def QqP(s:ByteArray)(w:World)(e:Ending)(w':World):Prop:=
 Below w.heap.size w w'/\match Xt s (Qv s) Qm with
  | .error f=>∃fb,e=.returned (.tuple #[Kk,.iface 290 (.pointer (some ⟨fb,0,none⟩))])/\Qd5 w' fb f.1 f.2
  | .ok x=>Kd Qm x/\(∃rb tb,Ju rb tb w' x)/\e=.returned (.tuple #[.agg (Qx x),.nilIface])
theorem Qg2(B:Nat)(s:ByteArray)(w:World)(hT:QjO B w)(hET:Yo w)(hB:B<=w.heap.size)(hg:3<B)(hs:s.size<=9223372036854775807):
  Calls Tryz.prog 112 #[.string s] w (QqP s w):=by
 have H:=QLh (fun (w':World) (hb:Below w.heap.size w w')=>Qfk B s w' (hT.below hb) (hET.below hb) (Nat.le_trans hB hb.size) hg hs);clear hT hET
 go_enter Tryz.func112,Tryz.ntmps112
 go_wp2_with fail;refine(H.out _ (Qf (Below.refl _ _) _)).mono ?_;rintro e w1 ⟨hb1,hh⟩;have hblk:=(hb1.block w.heap.size (by simp)).trans (heap_alloc_new w _);have HBK:=QLh hblk;have HB:=QLh (Qj (Qf (Below.refl _ _) _) hb1);clear hb1 hblk
 cases hr:Qfg s (Qv s) Qm 0 with
 | error f=>
  rw[hr]at hh;obtain⟨fb,rfl,hf⟩:=hh;have HF:=QLh hf;have HR:Hid (Xt s (Qv s) Qm=.error f):=QLh (by unfold Xt;rw[hr]);clear hf hr;go_wp2_with fail;refine(Qck _ _ _ _ fb w1).mono ?_;rintro e w2 ⟨rfl,hb2⟩;have hb:=(hb2.block _ (lt_of_block HBK.out)).trans HBK.out;have HB2:=QLh (Qj HB.out hb2);have HF2:=QLh (HF.out.below hb2);have HBK2:=QLh hb;have g0:∀o,w2.cell? ⟨w.heap.size,o,none⟩=_:=Qa hb;have g1:∀o,w2.frozen? ⟨w.heap.size,o,none⟩=false:=Qk hb;have g2:w.heap.size<w2.heap.size:=lt_of_block hb;clear hb2 hb;go_wp2;have hb:=Qc (Qc (Qc (Qc (HBK2.out) (o:=0) (.int .u64 0)) (o:=1) (.string ⟨#[]⟩)) (o:=2) (.string ⟨#[]⟩)) (o:=3) (.string ⟨#[]⟩);have d:∀o,_=_:=Qa hb;have hne:fb≠w.heap.size:=λ e=>by subst e;have h9:=HBK2.out.symm.trans HF2.out;cases h9
  refine bodyPost_ret (v:=.tuple #[Kk,.iface 290 (.pointer (some ⟨fb,0,none⟩))]) ?_ rfl ⟨(Ji (Ji (Ji (Ji HB2.out (Nat.le_refl _) _) (Nat.le_refl _) _) (Nat.le_refl _) _) (Nat.le_refl _) _),?_⟩
  ·simp[results,Tryz.results112,go_sem,d]
  ·rw[HR.out]
   exact⟨fb,rfl,(bsn (bsn (bsn (bsn HF2.out hne) hne) hne) hne)⟩
 | ok y=>
  rw[hr]at hh;obtain⟨hk,hle,⟨rb,tb,hrb,hl⟩,hh⟩:=hh;have HL:=QLh hl
  by_cases hlt:y.2<s.size
  ·rw[if_pos hlt]at hh
   obtain⟨fb,rfl,hf⟩:=hh;have HF:=QLh hf;have HR:Hid (Xt s (Qv s) Qm=.error (5,y.2)):=QLh (by unfold Xt;rw[hr];exact if_pos hlt);clear hf hr hlt;go_wp2_with fail;refine(Qck _ _ _ _ fb w1).mono ?_;rintro e w2 ⟨rfl,hb2⟩;have hb:=(hb2.block _ (lt_of_block HBK.out)).trans HBK.out;have HB2:=QLh (Qj HB.out hb2);have HF2:=QLh (HF.out.below hb2);have HBK2:=QLh hb;have g0:∀o,w2.cell? ⟨w.heap.size,o,none⟩=_:=Qa hb;have g1:∀o,w2.frozen? ⟨w.heap.size,o,none⟩=false:=Qk hb;have g2:w.heap.size<w2.heap.size:=lt_of_block hb;clear hb2 hb;go_wp2;have hb:=Qc (Qc (Qc (Qc (HBK2.out) (o:=0) (.int .u64 0)) (o:=1) (.string ⟨#[]⟩)) (o:=2) (.string ⟨#[]⟩)) (o:=3) (.string ⟨#[]⟩);have d:∀o,_=_:=Qa hb;have hne:fb≠w.heap.size:=λ e=>by subst e;have h9:=HBK2.out.symm.trans HF2.out;cases h9
   refine bodyPost_ret (v:=.tuple #[Kk,.iface 290 (.pointer (some ⟨fb,0,none⟩))]) ?_ rfl ⟨(Ji (Ji (Ji (Ji HB2.out (Nat.le_refl _) _) (Nat.le_refl _) _) (Nat.le_refl _) _) (Nat.le_refl _) _),?_⟩
   ·simp[results,Tryz.results112,go_sem,d]
   ·rw[HR.out]
    exact⟨fb,rfl,(bsn (bsn (bsn (bsn HF2.out hne) hne) hne) hne)⟩
  ·rw[if_neg hlt]at hh
   subst hh;have HR:Hid (Xt s (Qv s) Qm=.ok y.1):=QLh (by unfold Xt;rw[hr];exact if_neg hlt);clear hr hlt;go_wp2_with fail;refine(Qhe _ _ _ _ w1).mono ?_;rintro e w2 ⟨rfl,hb2⟩;have hb:=(hb2.block _ (lt_of_block HBK.out)).trans HBK.out;have HB2:=QLh (Qj HB.out hb2);have HL2:=QLh (HL.out.below hb2);have HBK2:=QLh hb;have g0:∀o,w2.cell? ⟨w.heap.size,o,none⟩=_:=Qa hb;have g1:∀o,w2.frozen? ⟨w.heap.size,o,none⟩=false:=Qk hb;have g2:w.heap.size<w2.heap.size:=lt_of_block hb;clear hb2 hb;go_wp2;have hb:=Qc (Qc (Qc (Qc (HBK2.out) (o:=0) (.int .u64 (y.1 0).n)) (o:=1) (.string (y.1 1).s)) (o:=2) (.string (y.1 2).s)) (o:=3) (.string (y.1 3).s);have d:∀o,_=_:=Qa hb;refine bodyPost_ret (v:=.tuple #[.agg (Qx y.1),.nilIface]) ?_ rfl ⟨(Ji (Ji (Ji (Ji HB2.out (Nat.le_refl _) _) (Nat.le_refl _) _) (Nat.le_refl _) _) (Nat.le_refl _) _),?_⟩
   ·simp[results,Tryz.results112,go_sem,d]
   ·rw[HR.out]
    exact⟨hk,⟨rb,tb,HL2.out.up (λ b h1 h2=>by
     have h3:b≠w.heap.size:=by simp at hrb;omega
     repeat rw[Below.heap_setCell _ _ _ _ h3])⟩,rfl⟩
structure TE7(B:Nat)(w:World):Prop where
 p:Qf5 B w
 t:QjO B w
 e:Yo w
 s:B<=w.heap.size
 g:3<B
theorem TE7.below{B:Nat}{w w':World}(h:TE7 B w)(hb:Below w.heap.size w w'):TE7 B w':=⟨h.p.keep hb h.s,h.t.below hb,h.e.below hb,Nat.le_trans h.s hb.size,h.g⟩
theorem QkM{fs:List Xb}{s:ByteArray}(h1:Jn fs=true)(h2:Qdo fs=s){w w':World}{e:Ending}(h:QeE fs w e w'):e=.returned (.tuple #[.string s,.int .i64 0])/\Below w.heap.size w w':=by obtain⟨h3,h4⟩:=h;rw[h1,if_pos rfl,h2]at h3;exact⟨h3,h4⟩
theorem QnT{fs:List Xb}(h1:Jn fs=false){w w':World}{e:Ending}(h:QeE fs w e w'):e=.returned (.tuple #[.string ⟨#[]⟩,.int .i64 2])/\Below w.heap.size w w':=by obtain⟨h3,h4⟩:=h;rw[h1,if_neg (by decide)]at h3;exact⟨h3,h4⟩
def Q4(sort:Nat)(c:Int):Int × Int × Int:=match (Ze sort).find? (λ r=>decide (r.lo<=c) && decide (c<=r.hi))with
 | none=>(-1,0,0)
 | some r=>(r.size,if r.size=0 then c - r.lo else 0,r.least)
theorem Qra(c:Int)(w:World)(c0:0<=c)(c1:c<=255):
  Calls Tryz.prog 308 #[.int .i64 0,.int .i64 c] w λ e w'=>e=.returned (.tuple #[.int .i64 (Q4 0 c).1,.int .u64 (Q4 0 c).2.1,.int .u64 (Q4 0 c).2.2])/\w'=w:=by
 by_cases h0:0<=c/\c<=127
 ·obtain⟨l0,u0⟩:=h0
  have E:Hid (Q4 0 c=(0,c,0)):=QLh (by unfold Q4;rw[show Ze 0=Vq from rfl];unfold Vq;rw[List.find?_cons_of_pos (by simp;omega)];simp);have i1:IntKind.u64.wrap c=c:=IntWalk.u64_in _ (by omega)
  go_enter Tryz.func308,Tryz.ntmps308
  go_wp2
  all_goals
   go_ret3
   rw[E.out];exact⟨rfl,rfl⟩
 by_cases h1:c=204
 ·subst h1
  have E:Hid (Q4 0 204=(1,0,128)):=QLh (by decide)
  go_enter Tryz.func308,Tryz.ntmps308
  go_wp2
  all_goals
   go_ret3
   rw[E.out];exact⟨rfl,rfl⟩
 have q1:(c == 204)=false:=by simpa using h1
 by_cases h2:c=205
 ·subst h2
  have E:Hid (Q4 0 205=(2,0,256)):=QLh (by decide)
  go_enter Tryz.func308,Tryz.ntmps308
  go_wp2
  all_goals
   go_ret3
   rw[E.out];exact⟨rfl,rfl⟩
 have q2:(c == 205)=false:=by simpa using h2
 by_cases h3:c=206
 ·subst h3
  have E:Hid (Q4 0 206=(4,0,65536)):=QLh (by decide)
  go_enter Tryz.func308,Tryz.ntmps308
  go_wp2
  all_goals
   go_ret3
   rw[E.out];exact⟨rfl,rfl⟩
 have q3:(c == 206)=false:=by simpa using h3
 by_cases h4:c=207
 ·subst h4
  have E:Hid (Q4 0 207=(8,0,4294967296)):=QLh (by decide)
  go_enter Tryz.func308,Tryz.ntmps308
  go_wp2
  all_goals
   go_ret3
   rw[E.out];exact⟨rfl,rfl⟩
 have q4:(c == 207)=false:=by simpa using h4
 have E:Hid (Q4 0 c=(-1,0,0)):=QLh (by unfold Q4;rw[show Ze 0=Vq from rfl];unfold Vq;rw[List.find?_cons_of_neg (by simp;omega),List.find?_cons_of_neg (by simp;omega),List.find?_cons_of_neg (by simp;omega),List.find?_cons_of_neg (by simp;omega),List.find?_cons_of_neg (by simp;omega),List.find?_nil])
 go_enter Tryz.func308,Tryz.ntmps308
 go_wp2
 all_goals
  go_ret3
  rw[E.out];exact⟨rfl,rfl⟩
theorem Qqv(c:Int)(w:World)(c0:0<=c)(c1:c<=255):
  Calls Tryz.prog 308 #[.int .i64 1,.int .i64 c] w λ e w'=>e=.returned (.tuple #[.int .i64 (Q4 1 c).1,.int .u64 (Q4 1 c).2.1,.int .u64 (Q4 1 c).2.2])/\w'=w:=by
 by_cases h0:c=196
 ·subst h0
  have E:Hid (Q4 1 196=(1,0,0)):=QLh (by decide)
  go_enter Tryz.func308,Tryz.ntmps308
  go_wp2
  all_goals
   go_ret3
   rw[E.out];exact⟨rfl,rfl⟩
 have q0:(c == 196)=false:=by simpa using h0
 by_cases h1:c=197
 ·subst h1
  have E:Hid (Q4 1 197=(2,0,256)):=QLh (by decide)
  go_enter Tryz.func308,Tryz.ntmps308
  go_wp2
  all_goals
   go_ret3
   rw[E.out];exact⟨rfl,rfl⟩
 have q1:(c == 197)=false:=by simpa using h1
 have E:Hid (Q4 1 c=(-1,0,0)):=QLh (by unfold Q4;rw[show Ze 1=Qfm from rfl];unfold Qfm;rw[List.find?_cons_of_neg (by simp;omega),List.find?_cons_of_neg (by simp;omega),List.find?_nil])
 go_enter Tryz.func308,Tryz.ntmps308
 go_wp2
 all_goals
  go_ret3
  rw[E.out];exact⟨rfl,rfl⟩
theorem Qre(c:Int)(w:World)(c0:0<=c)(c1:c<=255):
  Calls Tryz.prog 308 #[.int .i64 2,.int .i64 c] w λ e w'=>e=.returned (.tuple #[.int .i64 (Q4 2 c).1,.int .u64 (Q4 2 c).2.1,.int .u64 (Q4 2 c).2.2])/\w'=w:=by
 by_cases h0:160<=c/\c<=191
 ·obtain⟨l0,u0⟩:=h0
  have E:Hid (Q4 2 c=(0,c - 160,0)):=QLh (by unfold Q4;rw[show Ze 2=QdH from rfl];unfold QdH;rw[List.find?_cons_of_pos (by simp;omega)];simp);have i1:IntKind.u64.wrap (c - 160)=c - 160:=IntWalk.u64_in _ (by omega);have i2:IntKind.i64.wrap (c - 160)=c - 160:=IntWalk.i64_in _ (by omega)
  go_enter Tryz.func308,Tryz.ntmps308
  go_wp2
  all_goals
   go_ret3
   rw[E.out];exact⟨rfl,rfl⟩
 by_cases h1:c=217
 ·subst h1
  have E:Hid (Q4 2 217=(1,0,32)):=QLh (by decide)
  go_enter Tryz.func308,Tryz.ntmps308
  go_wp2
  all_goals
   go_ret3
   rw[E.out];exact⟨rfl,rfl⟩
 have q1:(c == 217)=false:=by simpa using h1
 by_cases h2:c=218
 ·subst h2
  have E:Hid (Q4 2 218=(2,0,256)):=QLh (by decide)
  go_enter Tryz.func308,Tryz.ntmps308
  go_wp2
  all_goals
   go_ret3
   rw[E.out];exact⟨rfl,rfl⟩
 have q2:(c == 218)=false:=by simpa using h2
 have E:Hid (Q4 2 c=(-1,0,0)):=QLh (by unfold Q4;rw[show Ze 2=QdH from rfl];unfold QdH;rw[List.find?_cons_of_neg (by simp;omega),List.find?_cons_of_neg (by simp;omega),List.find?_cons_of_neg (by simp;omega),List.find?_nil])
 go_enter Tryz.func308,Tryz.ntmps308
 go_wp2
 all_goals
  go_ret3
  rw[E.out];exact⟨rfl,rfl⟩
theorem Qqe(c:Int)(w:World)(c0:0<=c)(c1:c<=255):
  Calls Tryz.prog 308 #[.int .i64 3,.int .i64 c] w λ e w'=>e=.returned (.tuple #[.int .i64 (Q4 3 c).1,.int .u64 (Q4 3 c).2.1,.int .u64 (Q4 3 c).2.2])/\w'=w:=by
 by_cases h0:144<=c/\c<=159
 ·obtain⟨l0,u0⟩:=h0
  have E:Hid (Q4 3 c=(0,c - 144,0)):=QLh (by unfold Q4;rw[show Ze 3=Qd6 from rfl];unfold Qd6;rw[List.find?_cons_of_pos (by simp;omega)];simp);have i1:IntKind.u64.wrap (c - 144)=c - 144:=IntWalk.u64_in _ (by omega);have i2:IntKind.i64.wrap (c - 144)=c - 144:=IntWalk.i64_in _ (by omega)
  go_enter Tryz.func308,Tryz.ntmps308
  go_wp2
  all_goals
   go_ret3
   rw[E.out];exact⟨rfl,rfl⟩
 by_cases h1:c=220
 ·subst h1
  have E:Hid (Q4 3 220=(2,0,16)):=QLh (by decide)
  go_enter Tryz.func308,Tryz.ntmps308
  go_wp2
  all_goals
   go_ret3
   rw[E.out];exact⟨rfl,rfl⟩
 have q1:(c == 220)=false:=by simpa using h1
 have E:Hid (Q4 3 c=(-1,0,0)):=QLh (by unfold Q4;rw[show Ze 3=Qd6 from rfl];unfold Qd6;rw[List.find?_cons_of_neg (by simp;omega),List.find?_cons_of_neg (by simp;omega),List.find?_nil])
 go_enter Tryz.func308,Tryz.ntmps308
 go_wp2
 all_goals
  go_ret3
  rw[E.out];exact⟨rfl,rfl⟩
theorem QpC(c:Int)(w:World)(c0:0<=c)(c1:c<=255):
  Calls Tryz.prog 308 #[.int .i64 4,.int .i64 c] w λ e w'=>e=.returned (.tuple #[.int .i64 (Q4 4 c).1,.int .u64 (Q4 4 c).2.1,.int .u64 (Q4 4 c).2.2])/\w'=w:=by
 by_cases h0:128<=c/\c<=143
 ·obtain⟨l0,u0⟩:=h0
  have E:Hid (Q4 4 c=(0,c - 128,0)):=QLh (by unfold Q4;rw[show Ze 4=Qas from rfl];unfold Qas;rw[List.find?_cons_of_pos (by simp;omega)];simp);have i1:IntKind.u64.wrap (c - 128)=c - 128:=IntWalk.u64_in _ (by omega);have i2:IntKind.i64.wrap (c - 128)=c - 128:=IntWalk.i64_in _ (by omega)
  go_enter Tryz.func308,Tryz.ntmps308
  go_wp2
  all_goals
   go_ret3
   rw[E.out];exact⟨rfl,rfl⟩
 by_cases h1:c=222
 ·subst h1
  have E:Hid (Q4 4 222=(2,0,16)):=QLh (by decide)
  go_enter Tryz.func308,Tryz.ntmps308
  go_wp2
  all_goals
   go_ret3
   rw[E.out];exact⟨rfl,rfl⟩
 have q1:(c == 222)=false:=by simpa using h1
 have E:Hid (Q4 4 c=(-1,0,0)):=QLh (by unfold Q4;rw[show Ze 4=Qas from rfl];unfold Qas;rw[List.find?_cons_of_neg (by simp;omega),List.find?_cons_of_neg (by simp;omega),List.find?_nil])
 go_enter Tryz.func308,Tryz.ntmps308
 go_wp2
 all_goals
  go_ret3
  rw[E.out];exact⟨rfl,rfl⟩
theorem Ql3(sort:Nat)(h5:sort<5)(c:Int)(w:World)(c0:0<=c)(c1:c<=255):
  Calls Tryz.prog 308 #[.int .i64 sort,.int .i64 c] w λ e w'=>e=.returned (.tuple #[.int .i64 (Q4 sort c).1,.int .u64 (Q4 sort c).2.1,.int .u64 (Q4 sort c).2.2])/\w'=w:=by
 rcases(by omega:sort=0 \/ sort=1 \/ sort=2 \/ sort=3 \/ sort=4)with rfl | rfl | rfl | rfl | rfl
 ·exact Qra c w c0 c1
 ·exact Qqv c w c0 c1
 ·exact Qre c w c0 c1
 ·exact Qqe c w c0 c1
 ·exact QpC c w c0 c1
def QrJ(w:World)(b:Nat)(s:ByteArray)(a:Nat)(most:Int):Prop:=w.heap[b]?=some (.cells #[.string s,.int .i64 a,.int .i64 most] 276 (0,0))
def Qm3(res:Except Int (Int × ByteArray × Nat))(b:Nat)(s:ByteArray)(most:Int)(a:Nat)(w:World)(e:Ending)(w':World):Prop:=
 Xe (some b) w w'/\match res with
  | .ok x=>e=.returned (.tuple #[.int .u64 x.1,.string x.2.1,.int .i64 0])/\QrJ w' b s x.2.2 most
  | .error k=>e=.returned (.tuple #[.int .u64 0,.string ⟨#[]⟩,.int .i64 k])/\QrJ w' b s a most
theorem Qnw(sort:Nat):∀i,(Ye (Ze sort) i).Ok:=by
 unfold Ze
 split
 ·exact Qcl
 ·exact Qca
 ·exact Qcv
 ·exact QaV
 ·exact Qbk
theorem Qo4(sort:Nat)(t:ByteArray)(h:0<t.size):
  (Q4 sort (Jl t 0)=(-1,0,0)/\Zz t (Ze sort)=.error 5) \/
  (∃r:Yz,∃q:Nat,r.Ok/\r.lo<=Jl t 0/\r.size=q/\q<=8/\Q4 sort (Jl t 0)=((q:Int),Yi t r 0,r.least)/\
   Zz t (Ze sort)=if(t.size:Int)<1+q then .error 4 else if Yi t r q<r.least then .error 5 else .ok (Yi t r q,t.extract (1+q) t.size)):=by
 unfold Q4
 cases hf:(Ze sort).find? (λ r=>decide (r.lo<=Jl t 0) && decide (Jl t 0<=r.hi))with
 | none=>
  refine .inl ⟨rfl,?_⟩;unfold Zz;rw[if_neg (by omega),hf]
 | some r=>
  have hp:=List.find?_some hf;obtain⟨i,hi,he⟩:=List.getElem_of_mem (List.mem_of_find?_eq_some hf);have ok:=Qnw sort i;rw[QaJ _ i hi,he]at ok;simp only[Bool.and_eq_true,decide_eq_true_eq]at hp;have k1:=ok.sz0;have k2:=ok.sz1;obtain⟨q,hq⟩:∃q:Nat,r.size=q:=⟨r.size.toNat,by omega⟩;refine .inr ⟨r,q,ok,hp.1,hq,by omega,?_,?_⟩
  ·show(r.size,_,_)=_
   rw[hq];unfold Yi
   by_cases h0:r.size=0
   ·rw[if_pos (by omega),if_pos h0]
   ·rw[if_neg (by omega),if_neg h0];rfl
  ·rw[QgN h hf]
   unfold Yi;rw[hq];simp only[Int.toNat_natCast]
theorem QsG(t:ByteArray)(i n:Nat)(h:i+n<=t.size):(t.extract i t.size).extract 0 n=t.extract i (i+n):=by
 apply ByteArray.ext;apply Array.ext';rw[Lib.extract_data,Lib.extract_data,Lib.extract_data,List.drop_zero,List.take_take]
 congr 1
 omega
theorem Qgh{w w1:World}{b:Nat}(h:Xe (some b) w w1)(v:Value):Xe (some b) w (w1.setCell ⟨b,1,none⟩ v):=
 ⟨h.os,h.tape,h.output,by simpa using h.size,λ i hi hn=>by rw[Below.heap_setCell _ _ _ _ (by show i≠b;exact λ e=>hn (by rw[e]))];exact h.block i hi hn⟩
theorem QrO(t:ByteArray)(j:Nat)(h:j+1<t.size):(t[j+1].toNat:Int)=Jl t (1+j):=by unfold Jl;rw[Nat.add_comm 1 j,List.getD_eq_getElem?_getD,List.getElem?_eq_getElem (by simpa using h)];rfl
theorem QiK(w:World)(b:Nat)(s:ByteArray)(a:Nat)(most:Int)(sort:Nat)(h:QrJ w b s a most)(ha:a<=s.size)(hs:s.size<=140737488355328)(hm0:0<=most)(hm1:most<=9223372036854775807)(h5:sort<5):
  Calls Tryz.prog 295 #[.pointer (some ⟨b,0,none⟩),.int .i64 sort] w (Qm3 (Z8 sort s a most) b s most a w):=by
 have H:=QLh h;have c0:w.cell? ⟨b,0,none⟩=some (.string s):=Qa h 0;have c1:w.cell? ⟨b,1,none⟩=some (.int .i64 a):=Qa h 1;have i1:(a:Int)<=s.size:=by omega
 have i2:0<=(a:Int):=by omega
 have i3:a<=s.size:=ha;clear h
 go_enter Tryz.func295,Tryz.ntmps295
 go_wp2;refine Zp 1000 (none) (Kx (List.map qv [.pointer (some ⟨b,0,none⟩),.pointer (some ⟨b,0,none⟩),.pointer (some ⟨b,0,none⟩),.string s,.pointer (some ⟨b,0,none⟩),.pointer (some ⟨b,0,none⟩),.pointer (some ⟨b,1,none⟩),.int .i64 a,.string (s.extract a s.size),.string (s.extract a s.size)])) rfl (by kernel_rfl) (Q9 Xz) (Q6 10 ⟨?s0,?s1,?s2,?s3,?s4,?s5,?s6,?s7,?s8,?s9,trivial⟩) ?_
 case s0=>refine qV (λ _=>rfl) rfl λ av wv hE hO hD=>?_;simp[go_sem,qF av 0 (.pointer (some ⟨b,0,none⟩)) (hO.2.2 0 rfl),i1,i2,i3]
 case s1=>refine qV (λ _=>rfl) rfl λ av wv hE hO hD=>?_;simp[go_sem,qE (hD.1 rfl _ rfl),i1,i2,i3]
 case s2=>refine qV (λ _=>rfl) rfl λ av wv hE hO hD=>?_;simp[go_sem,qE (hD.1 rfl _ rfl),i1,i2,i3]
 case s3=>refine qV (λ _=>rfl) rfl λ av wv hE hO hD=>?_;simp[go_sem,qE (hD.1 rfl _ rfl),Qb hE (by simp) c0,Qb hE (by simp) c1,i1,i2,i3]
 case s4=>refine qV (λ _=>rfl) rfl λ av wv hE hO hD=>?_;simp[go_sem,qF av 0 (.pointer (some ⟨b,0,none⟩)) (hO.2.2 0 rfl),i1,i2,i3]
 case s5=>refine qV (λ _=>rfl) rfl λ av wv hE hO hD=>?_;simp[go_sem,qE (hD.1 rfl _ rfl),i1,i2,i3]
 case s6=>refine qV (λ _=>rfl) rfl λ av wv hE hO hD=>?_;simp[go_sem,qE (hD.1 rfl _ rfl),i1,i2,i3]
 case s7=>refine qV (λ _=>rfl) rfl λ av wv hE hO hD=>?_;simp[go_sem,qE (hD.1 rfl _ rfl),Qb hE (by simp) c0,Qb hE (by simp) c1,i1,i2,i3]
 case s8=>refine qV (λ _=>rfl) rfl λ av wv hE hO hD=>?_;simp[go_sem,qE (hD.1 rfl _ rfl),qE (hD.2.1 rfl _ rfl),i1,i2,i3]
 case s9=>refine qV (λ _=>rfl) rfl λ av wv hE hO hD=>?_;simp[go_sem,qE (hD.1 rfl _ rfl),i1,i2,i3]
 intro a' w' hE hO hall;have hA:=Qn (ds:=[13,14,15,16,17,18,19,20,21,7]) rfl hO (by kernel_rfl);obtain⟨j0,j1,j2,j3,j4,j5,j6,j7,j8,j9,-⟩:=hall;simp only[List.foldl_cons,List.foldl_nil,Act.put,List.setIfInBounds_toArray,List.set_cons_succ,List.set_cons_zero,qJ 13 (j0 _ rfl),qJ 14 (j1 _ rfl),qJ 15 (j2 _ rfl),qJ 16 (j3 _ rfl),qJ 17 (j4 _ rfl),qJ 18 (j5 _ rfl),qJ 19 (j6 _ rfl),qJ 20 (j7 _ rfl),qJ 21 (j8 _ rfl),qJ 7 (j9 _ rfl)]at hA;clear hO j0 j1 j2 j3 j4 j5 j6 j7 j8 j9;subst hA;have B1:=QLh (Q0 hE);have HB:=QLh (Qw hE (by simp) H.out);clear hE c0 c1 i1 i2 i3 H;obtain⟨t,ht⟩:∃t,s.extract a s.size=t:=⟨_,rfl⟩;have hts:t.size=s.size - a:=by rw[<-ht,ByteArray.size_extract];omega
 rw[ht];have HTT:=QLh ht;clear ht
 by_cases h0:t.size=0
 ·have he:=QgB h0
  have E:Hid (Z8 sort s a most=.error 4):=QLh (by unfold Z8 Zz;rw[HTT.out,if_pos h0]);clear hts h0;go_wp2
  go_ret3
  rw[E.out];exact⟨Zm B1.out b,rfl,HB.out⟩
 ·have he:=QiU h0
  have h1:0<t.size:=by omega
  have hbb:=QbC t 0;have hz':(t[0].toNat:Int)=Jl t 0:=QtC t h1;obtain⟨z,hz⟩:∃z,Jl t 0=z:=⟨_,rfl⟩;have HTS:=QLh hts;have RC:=QLh (Qo4 sort t h1);clear hts h0;rw[hz]at hbb hz';have HZ:=QLh hz;clear hz;have hzt:z.toNat<256:=by omega
  go_wp2_with fail;refine(Ql3 sort h5 z _ hbb.1 hbb.2).mono ?_;rintro e w2 ⟨rfl,rfl⟩
  rcases RC.out with⟨r1,r2⟩ | ⟨r,q,ok,hlo,hq,hq8,r1,r2⟩
  ·rw[HZ.out]at r1
   rw[r1];have E:Hid (Z8 sort s a most=.error 5):=QLh (by unfold Z8;rw[HTT.out,r2]);clear r1 r2;go_wp2
   go_ret3
   rw[E.out];exact⟨Zm B1.out b,rfl,HB.out⟩
  ·rw[HZ.out]at r1
   rw[r1];have R2:=QLh r2;have HQ:=QLh hq;have HLO:=QLh hlo;clear r1 r2 hq hlo
   by_cases hsz:(t.size:Int)<1+q
   ·have E:Hid (Z8 sort s a most=.error 4):=QLh (by unfold Z8;rw[HTT.out,R2.out,if_pos hsz])
    go_wp2
    go_ret3
    rw[E.out];exact⟨Zm B1.out b,rfl,HB.out⟩
   ·obtain⟨v0,hv0⟩:∃v0,Yi t r 0=v0:=⟨_,rfl⟩
    rw[hv0];have HV0:=QLh hv0;clear hv0;go_wp2
    go_loopg [9,11] q (λ g n i wx=>∃j:Nat,g+j=q/\i=.int .i64 (j+1)/\n=.int .u64 (Yi t r j)/\wx=w2)
    case atStart=>exact⟨0,rfl,rfl,by rw[HV0.out],rfl⟩
    case round=>
     obtain⟨j,hj,rfl,rfl,rfl⟩:=hrel;have vb:=QdY (s:=t) (r:=r) (j:=j) (by omega) ok HLO.out
     by_cases hjq:j<q
     ·have b0:(j:Int)+1<=q:=by omega
      have b1:j+1<t.size:=by omega
      have b2:(j:Int)+1<t.size:=by omega
      have vs:=QLh (Qdh t r j (by have:=HQ.out;omega));have vb2:=Qgj (s:=t) (r:=r) (j:=j) (by omega) ok HLO.out;have cb:=QbC t (1+j);have hx:=QrO t j b1;obtain⟨c,hc⟩:∃c,Jl t (1+j)=c:=⟨_,rfl⟩;obtain⟨v,hv⟩:∃v,Yi t r j=v:=⟨_,rfl⟩;rw[hc]at cb hx;rw[hv]at vb vb2 ⊢;have HC:=QLh hc;have HV:=QLh hv;clear hc hv;go_wp2
      go_roundg (gk - 1)
      case rel=>exact⟨j+1,by omega,by go_num,(by rw[vs.out,HV.out,HC.out,Int.mul_comm v 256]),rfl⟩
      case measure=>omega
     ·obtain rfl:j=q:=by omega
      have hts:=HTS.out;have hr2:(t.extract (1+j) t.size).size=t.size - (1+j):=by rw[ByteArray.size_extract];omega
      have HO:Zz (s.extract a s.size) (Ze sort)=if Yi t r j<r.least then .error 5 else .ok (Yi t r j,t.extract (1+j) t.size):=by rw[HTT.out,R2.out,if_neg (by omega)]
      obtain⟨v,hv⟩:∃v,Yi t r j=v:=⟨_,rfl⟩;rw[hv]at HO vb ⊢;have d1:wr.cell? ⟨b,1,none⟩=some (.int .i64 a):=Qa HB.out 1;have d2:wr.cell? ⟨b,2,none⟩=some (.int .i64 most):=Qa HB.out 2;have d3:wr.frozen? ⟨b,1,none⟩=false:=Qk HB.out 1;have im:IntKind.u64.wrap most=most:=IntWalk.u64_in _ (by omega);have HHO:=QLh HO;have HR2:=QLh hr2;clear hv HO hr2 HV0 RC R2
      by_cases hvl:v<r.least
      ·have E:Hid (Z8 sort s a most=.error 5):=QLh (by unfold Z8;rw[HHO.out,if_pos hvl])
       go_wp2
       go_ret3
       rw[E.out];exact⟨Zm B1.out b,rfl,HB.out⟩
      ·have HO2:Hid (Zz (s.extract a s.size) (Ze sort)=.ok (v,t.extract (1+j) t.size)):=QLh (by rw[HHO.out,if_neg hvl])
       by_cases q0:sort=0
       ·have s0:((sort:Int) != 0)=false:=by simp;omega
        have s1:((sort:Int) != 1)=true:=by simp;omega
        have s2:((sort:Int) != 2)=true:=by simp;omega
        have E:Hid (Z8 sort s a most=.ok (v,⟨#[]⟩,s.size - (t.extract (1+j) t.size).size)):=QLh (by
         unfold Z8;rw[HO2.out];show(if sort≠0/\most<v then _ else _)=_;rw[if_neg (λ e=>e.1 q0),if_neg (by omega)])
        clear q0;go_wp2
        go_ret3
        rw[E.out];refine⟨Qgh (Zm B1.out b) _,rfl,?_⟩;have h:=Qc HB.out (o:=1) (.int .i64 ((a:Int)+1+j));show _=some (Obj.cells #[_,.int .i64 ((s.size - (t.extract (1+j) t.size).size:Nat):Int),_] _ _);rw[HR2.out,show((s.size - (t.size - (1+j)):Nat):Int)=(a:Int)+1+j by omega];exact h
       ·have s0:((sort:Int) != 0)=true:=by simp;omega
        by_cases q1:most<v
        ·have E:Hid (Z8 sort s a most=.error 3):=QLh (by
          unfold Z8;rw[HO2.out];show(if sort≠0/\most<v then _ else _)=_;rw[if_pos ⟨q0,q1⟩])
         go_wp2
         go_ret3
         rw[E.out];exact⟨Zm B1.out b,rfl,HB.out⟩
        ·by_cases q2:sort=1 \/ sort=2
         ·have k0:IntKind.u64.wrap ((t.size:Int) - 1 - j)=(t.size:Int) - 1 - j:=IntWalk.u64_in _ (by omega)
          have Q2:=QLh q2
          by_cases hr:(t.size:Int) - 1 - j<v
          ·have E:Hid (Z8 sort s a most=.error 4):=QLh (by
            unfold Z8;rw[HO2.out];show(if sort≠0/\most<v then _ else _)=_;have:=HR2.out;rw[if_neg (λ e=>q1 e.2),if_pos q2,if_pos (by omega)])
           clear q0
           rcases q2 with e | e
           ·have s1:((sort:Int) != 1)=false:=by simp;omega
            clear e;go_wp2
            go_ret3
            rw[E.out];exact⟨Zm B1.out b,rfl,HB.out⟩
           ·have s1:((sort:Int) != 1)=true:=by simp;omega
            have s2:((sort:Int) != 2)=false:=by simp;omega
            clear e;go_wp2
            go_ret3
            rw[E.out];exact⟨Zm B1.out b,rfl,HB.out⟩
          ·have E:Hid (Z8 sort s a most=.ok (v,(t.extract (1+j) t.size).extract 0 v.toNat,s.size - ((t.extract (1+j) t.size).size - v.toNat))):=QLh (by
            unfold Z8;rw[HO2.out];show(if sort≠0/\most<v then _ else _)=_;have:=HR2.out;rw[if_neg (λ e=>q1 e.2),if_pos q2,if_neg (by omega)])
           have iv:IntKind.i64.wrap v=v:=IntWalk.i64_in _ (by omega);have k1:IntKind.i64.wrap (1+(j:Int))=1+j:=IntWalk.i64_in _ (by omega);have k2:1+(j:Int)<=1+j+v:=by omega
           have k3:1+(j:Int)+v<=t.size:=by omega
           have k4:(1+(j:Int)).toNat=1+j:=by omega
           have k5:(1+(j:Int)+v).toNat=1+j+v.toNat:=by omega
           have k6:0<=1+(j:Int)+v:=by omega
           have k7:0<=1+(j:Int):=by omega
           have fin:∀W2:World,Below (wr.setCell ⟨b,1,none⟩ (.int .i64 ((a:Int)+(1+j+v)))).heap.size (wr.setCell ⟨b,1,none⟩ (.int .i64 ((a:Int)+(1+j+v)))) W2->Qm3 (Z8 sort s a most) b s most a w (.returned (.tuple #[.int .u64 v,.string (t.extract (1+j) (1+j+v.toNat)),.int .i64 0])) W2:=λ W2 hW2=>by
            rw[E.out];refine⟨Q7 _ _ _ _ (Qgh (Zm B1.out b) _) (Zm hW2 b),?_,?_⟩
            ·show _=Ending.returned (.tuple #[_,.string ((t.extract (1+j) t.size).extract 0 v.toNat),_])
             rw[QsG t (1+j) v.toNat (by omega)]
            ·have h:=(hW2.block b (by simp;exact lt_of_block HB.out)).trans (Qc HB.out (o:=1) (.int .i64 ((a:Int)+(1+j+v))))
             show _=some (Obj.cells #[_,.int .i64 ((s.size - ((t.extract (1+j) t.size).size - v.toNat):Nat):Int),_] _ _);rw[HR2.out,show((s.size - ((t.size - (1+j)) - v.toNat):Nat):Int)=(a:Int)+(1+j+v)by omega];exact h
           have FIN:=QLh fin;clear fin E q0
           rcases q2 with e | e
           ·have s1:((sort:Int) != 1)=false:=by simp;omega
            clear e;go_wp2;refine Zp 1000 (none) (Kx (List.map qv [.int .u64 v,.string t,.int .i64 j,.int .i64 (1+j),.int .i64 (1+j+v),.string (t.extract (1+j) (1+j+v.toNat)),.int .u64 v,.string (t.extract (1+j) (1+j+v.toNat)),.int .i64 0])) rfl (by kernel_rfl) (Q9 Xz) (Q6 9 ⟨?s0,?s1,?s2,?s3,?s4,?s5,?s6,?s7,?s8,trivial⟩) ?_
            case s0=>refine qV (λ _=>rfl) rfl λ av wv hE hO hD=>?_;simp[go_sem,qF av 9 (.int .u64 v) (hO.2.2 9 rfl),k1,k2,k3,k4,k5,k6,k7]
            case s1=>refine qV (λ _=>rfl) rfl λ av wv hE hO hD=>?_;simp[go_sem,qF av 7 (.string t) (hO.2.2 7 rfl),k1,k2,k3,k4,k5,k6,k7]
            case s2=>refine qV (λ _=>rfl) rfl λ av wv hE hO hD=>?_;simp[go_sem,qF av 8 (.int .i64 j) (hO.2.2 8 rfl),k1,k2,k3,k4,k5,k6,k7]
            case s3=>refine qV (λ _=>rfl) rfl λ av wv hE hO hD=>?_;simp[go_sem,qE (hD.1 rfl _ rfl),k1,k2,k3,k4,k5,k6,k7]
            case s4=>refine qV (λ _=>rfl) rfl λ av wv hE hO hD=>?_;simp[go_sem,qF av 12 (.int .i64 (1+j+v)) (hO.2.2 12 rfl),k1,k2,k3,k4,k5,k6,k7]
            case s5=>refine qV (λ _=>rfl) rfl λ av wv hE hO hD=>?_;simp[go_sem,qE (hD.1 rfl _ rfl),qE (hD.2.1 rfl _ rfl),qE (hD.2.2.1 rfl _ rfl),k1,k2,k3,k4,k5,k6,k7]
            case s6=>refine qV (λ _=>rfl) rfl λ av wv hE hO hD=>?_;simp[go_sem,qE (hD.1 rfl _ rfl),k1,k2,k3,k4,k5,k6,k7]
            case s7=>refine qV (λ _=>rfl) rfl λ av wv hE hO hD=>?_;simp[go_sem,qE (hD.1 rfl _ rfl),k1,k2,k3,k4,k5,k6,k7]
            case s8=>refine qV (λ _=>rfl) rfl λ av wv hE hO hD=>?_;simp[go_sem,k1,k2,k3,k4,k5,k6,k7]
            intro a' w' hE hO hall;have hA:=Qn (ds:=[105,106,107,108,109,110,4,5,6]) rfl hO (by kernel_rfl);obtain⟨j0,j1,j2,j3,j4,j5,j6,j7,j8,-⟩:=hall;simp only[List.foldl_cons,List.foldl_nil,Act.put,List.setIfInBounds_toArray,List.set_cons_succ,List.set_cons_zero,qJ 105 (j0 _ rfl),qJ 106 (j1 _ rfl),qJ 107 (j2 _ rfl),qJ 108 (j3 _ rfl),qJ 109 (j4 _ rfl),qJ 110 (j5 _ rfl),qJ 4 (j6 _ rfl),qJ 5 (j7 _ rfl),qJ 6 (j8 _ rfl)]at hA;clear hO j0 j1 j2 j3 j4 j5 j6 j7 j8;subst hA;have Y:=QLh (Q0 hE);clear hE;go_wp2
            go_ret3
            exact FIN.out _ Y.out
           ·have s1:((sort:Int) != 1)=true:=by simp;omega
            have s2:((sort:Int) != 2)=false:=by simp;omega
            clear e;go_wp2;refine Zp 1000 (none) (Kx (List.map qv [.int .u64 v,.string t,.int .i64 j,.int .i64 (1+j),.int .i64 (1+j+v),.string (t.extract (1+j) (1+j+v.toNat)),.int .u64 v,.string (t.extract (1+j) (1+j+v.toNat)),.int .i64 0])) rfl (by kernel_rfl) (Q9 Xz) (Q6 9 ⟨?s0,?s1,?s2,?s3,?s4,?s5,?s6,?s7,?s8,trivial⟩) ?_
            case s0=>refine qV (λ _=>rfl) rfl λ av wv hE hO hD=>?_;simp[go_sem,qF av 9 (.int .u64 v) (hO.2.2 9 rfl),k1,k2,k3,k4,k5,k6,k7]
            case s1=>refine qV (λ _=>rfl) rfl λ av wv hE hO hD=>?_;simp[go_sem,qF av 7 (.string t) (hO.2.2 7 rfl),k1,k2,k3,k4,k5,k6,k7]
            case s2=>refine qV (λ _=>rfl) rfl λ av wv hE hO hD=>?_;simp[go_sem,qF av 8 (.int .i64 j) (hO.2.2 8 rfl),k1,k2,k3,k4,k5,k6,k7]
            case s3=>refine qV (λ _=>rfl) rfl λ av wv hE hO hD=>?_;simp[go_sem,qE (hD.1 rfl _ rfl),k1,k2,k3,k4,k5,k6,k7]
            case s4=>refine qV (λ _=>rfl) rfl λ av wv hE hO hD=>?_;simp[go_sem,qF av 12 (.int .i64 (1+j+v)) (hO.2.2 12 rfl),k1,k2,k3,k4,k5,k6,k7]
            case s5=>refine qV (λ _=>rfl) rfl λ av wv hE hO hD=>?_;simp[go_sem,qE (hD.1 rfl _ rfl),qE (hD.2.1 rfl _ rfl),qE (hD.2.2.1 rfl _ rfl),k1,k2,k3,k4,k5,k6,k7]
            case s6=>refine qV (λ _=>rfl) rfl λ av wv hE hO hD=>?_;simp[go_sem,qE (hD.1 rfl _ rfl),k1,k2,k3,k4,k5,k6,k7]
            case s7=>refine qV (λ _=>rfl) rfl λ av wv hE hO hD=>?_;simp[go_sem,qE (hD.1 rfl _ rfl),k1,k2,k3,k4,k5,k6,k7]
            case s8=>refine qV (λ _=>rfl) rfl λ av wv hE hO hD=>?_;simp[go_sem,k1,k2,k3,k4,k5,k6,k7]
            intro a' w' hE hO hall;have hA:=Qn (ds:=[105,106,107,108,109,110,4,5,6]) rfl hO (by kernel_rfl);obtain⟨j0,j1,j2,j3,j4,j5,j6,j7,j8,-⟩:=hall;simp only[List.foldl_cons,List.foldl_nil,Act.put,List.setIfInBounds_toArray,List.set_cons_succ,List.set_cons_zero,qJ 105 (j0 _ rfl),qJ 106 (j1 _ rfl),qJ 107 (j2 _ rfl),qJ 108 (j3 _ rfl),qJ 109 (j4 _ rfl),qJ 110 (j5 _ rfl),qJ 4 (j6 _ rfl),qJ 5 (j7 _ rfl),qJ 6 (j8 _ rfl)]at hA;clear hO j0 j1 j2 j3 j4 j5 j6 j7 j8;subst hA;have Y:=QLh (Q0 hE);clear hE;go_wp2
            go_ret3
            exact FIN.out _ Y.out
         ·have s1:((sort:Int) != 1)=true:=by simp;omega
          have s2:((sort:Int) != 2)=true:=by simp;omega
          have E:Hid (Z8 sort s a most=.ok (v,⟨#[]⟩,s.size - (t.extract (1+j) t.size).size)):=QLh (by
           unfold Z8;rw[HO2.out];show(if sort≠0/\most<v then _ else _)=_;rw[if_neg (λ e=>q1 e.2),if_neg q2])
          clear q0 q2;go_wp2
          go_ret3
          rw[E.out];refine⟨Qgh (Zm B1.out b) _,rfl,?_⟩;have h:=Qc HB.out (o:=1) (.int .i64 ((a:Int)+1+j));show _=some (Obj.cells #[_,.int .i64 ((s.size - (t.extract (1+j) t.size).size:Nat):Int),_] _ _);rw[HR2.out,show((s.size - (t.size - (1+j)):Nat):Int)=(a:Int)+1+j by omega];exact h
abbrev Cst:=Except Flt Nat
def Cst.flt:Cst->Flt
 | .ok _=>(0,0)
 | .error f=>f
def CurB(w:World)(cb rb:Nat)(f:Flt):Prop:=w.heap[cb]?=some (.cells #[.pointer (some ⟨rb,0,none⟩),.int .i64 f.1,.int .i64 f.2] 271 (0,0))
structure Zq(w:World)(cb rb:Nat)(s:ByteArray)(σ:Cst):Prop where
 c:CurB w cb rb σ.flt
 ne:cb≠rb
 sz:s.size<=140737488355328
 st:match σ with | .ok a=>QrJ w rb s a 10240/\a<=s.size | .error f=>f.1≠0/\∃a,QrJ w rb s a 10240/\a<=s.size
theorem Zq.below{w w':World}{cb rb:Nat}{s:ByteArray}{σ:Cst}(h:Zq w cb rb s σ)(hb:Below w.heap.size w w'):Zq w' cb rb s σ:=by
 refine⟨(hb.block _ (lt_of_block h.c)).trans h.c,h.ne,h.sz,?_⟩;have hs:=h.st
 cases σ with
 | ok a=>exact⟨(hb.block _ (lt_of_block hs.1)).trans hs.1,hs.2⟩
 | error f=>obtain⟨h1,a,h2,h3⟩:=hs;exact⟨h1,a,(hb.block _ (lt_of_block h2)).trans h2,h3⟩
theorem Zq.rd{w:World}{cb rb:Nat}{s:ByteArray}{σ:Cst}(h:Zq w cb rb s σ):∃a,QrJ w rb s a 10240/\a<=s.size:=by
 have hs:=h.st
 cases σ with
 | ok a=>exact⟨a,hs⟩
 | error f=>exact hs.2
theorem Zq.flt0{w:World}{cb rb:Nat}{s:ByteArray}{f:Flt}(h:Zq w cb rb s (.error f)):f.1≠0:=h.st.1
def QkG(v:Value)(σ:Cst)(cb rb:Nat)(s:ByteArray)(w:World)(e:Ending)(w':World):Prop:=e=.returned v/\Zq w' cb rb s σ/\Chg rb cb w w'
theorem Zq.set{w:World}{cb rb:Nat}{s:ByteArray}{σ:Cst}(h:Zq w cb rb s σ)(f:Flt)(hf:f.1≠0):Zq ((w.setCell ⟨cb,1,none⟩ (.int .i64 f.1)).setCell ⟨cb,2,none⟩ (.int .i64 f.2)) cb rb s (.error f):=by obtain⟨a,h1,h2⟩:=h.rd;exact⟨Qc (Qc h.c _) _,h.ne,h.sz,hf,a,Qh (Qh h1 (by exact λ e=>h.ne e.symm) _) (by exact λ e=>h.ne e.symm) _,h2⟩
def Qha:Cst->Bool
 | .ok _=>false
 | .error _=>true
theorem QdW(cb rb:Nat)(s:ByteArray)(σ:Cst)(w:World)(h:Zq w cb rb s σ):Calls Tryz.prog 237 #[.pointer (some ⟨cb,0,none⟩)] w λ e w'=>e=.returned (.bool (Qha σ))/\w'=w:=by
 cases σ with
 | ok a=>
  have c1:w.cell? ⟨cb,1,none⟩=some (.int .i64 0):=Qa h.c 1;clear h
  go_enter Tryz.func237,Tryz.ntmps237
  go_wp2;go_ret;exact⟨rfl,rfl⟩
 | error f=>
  have c1:w.cell? ⟨cb,1,none⟩=some (.int .i64 f.1):=Qa h.c 1;have h0:(f.1 != 0)=true:=by simpa using h.flt0
  clear h
  go_enter Tryz.func237,Tryz.ntmps237
  go_wp2;go_ret;exact⟨rfl,rfl⟩
def Kp(b:Bool)(k:Int):Cst->Cst
 | .ok a=>if b then .error (k,0)else .ok a
 | .error f=>.error f
theorem Qbm(cb rb:Nat)(s:ByteArray)(σ:Cst)(b:Bool)(k:Int)(w:World)(h:Zq w cb rb s σ)(hk:k≠0):Calls Tryz.prog 241 #[.pointer (some ⟨cb,0,none⟩),.bool b,.int .i64 k] w (QkG (.tuple #[]) (Kp b k σ) cb rb s w):=by
 have H:=QLh h;have HB:=QLh (QdW cb rb s σ w h);have q0:∀o,w.cell? ⟨cb,o,none⟩=_:=Qa h.c;have q1:∀o,w.frozen? ⟨cb,o,none⟩=false:=Qk h.c;have l0:cb<w.heap.size:=lt_of_block h.c;clear h
 cases b with
 | false=>
  go_enter Tryz.func241,Tryz.ntmps241
  go_wp2
  go_end0
  refine⟨rfl,?_,Chg.refl _ _ _⟩
  cases σ <;> exact H.out
 | true=>
  go_enter Tryz.func241,Tryz.ntmps241
  go_wp2_with fail;refine HB.out.mono ?_;rintro e w1 ⟨rfl,rfl⟩
  cases σ with
  | error f=>
   simp only[Qha];go_wp2
   go_end0
   exact⟨rfl,H.out,Chg.refl _ _ _⟩
  | ok a=>
   simp only[Qha];go_wp2
   go_end0
   exact⟨rfl,H.out.set (k,0) hk,((Chg.refl rb cb w1).set 1 _).set 2 _⟩
def tkS(sort:Nat)(s:ByteArray):Cst->(Int × ByteArray) × Cst
 | .error f=>((0,⟨#[]⟩),.error f)
 | .ok a=>match tkR sort s a with
  | .error f=>((0,⟨#[]⟩),.error f)
  | .ok x=>((x.1,x.2.1),.ok x.2.2)
theorem Zq.sz2{w:World}{cb rb:Nat}{s:ByteArray}{σ:Cst}(h:Zq w cb rb s σ):s.size<=9223372036854775807:=by have:=h.sz;omega
theorem QbZ(cb rb:Nat)(s:ByteArray)(σ:Cst)(sort:Nat)(w:World)(h:Zq w cb rb s σ)(h5:sort<5):
  Calls Tryz.prog 279 #[.pointer (some ⟨cb,0,none⟩),.int .i64 sort] w (QkG (.tuple #[.int .u64 (tkS sort s σ).1.1,.string (tkS sort s σ).1.2]) (tkS sort s σ).2 cb rb s w):=by
 have H:=QLh h;have HB:=QLh (QdW cb rb s σ w h);have c0:w.cell? ⟨cb,0,none⟩=some (.pointer (some ⟨rb,0,none⟩)):=Qa h.c 0;clear h
 go_enter Tryz.func279,Tryz.ntmps279
 go_wp2_with fail;refine HB.out.mono ?_;rintro e w1 ⟨rfl,rfl⟩
 cases σ with
 | error f=>
  simp only[Qha];go_wp2
  go_ret2
  exact⟨rfl,H.out,Chg.refl _ _ _⟩
 | ok a=>
  simp only[Qha];have hst:=H.out.st;go_wp2_with fail;refine(QiK w1 rb s a 10240 sort hst.1 hst.2 H.out.sz (by decide) (by decide) h5).mono ?_;rintro e w2 ⟨hE,hh⟩;have hne:=H.out.ne;have hcb:CurB w2 cb rb (0,0):=(hE.block _ (lt_of_block H.out.c) (by simpa using hne)).trans H.out.c;have HE:=QLh hE;have HCB:=QLh hcb
  cases hr:Z8 sort s a 10240 with
  | ok x=>
   rw[hr]at hh;obtain⟨rfl,hrd⟩:=hh;have hle:=Qie hr;have HR:Hid (tkS sort s (.ok a)=((x.1,x.2.1),.ok x.2.2)):=QLh (by simp only[tkS,tkR,hr]);have HRD:=QLh hrd;clear hE hcb hr hrd;go_wp2
   go_ret2
   rw[HR.out];exact⟨rfl,⟨HCB.out,hne,H.out.sz,HRD.out,hle⟩,Chg.of_ext HE.out⟩
  | error k=>
   rw[hr]at hh;obtain⟨rfl,hrd⟩:=hh;have hk:=Qlk hr;have hk2:(k != 0)=true:=by simpa using hk
   have HR:Hid (tkS sort s (.ok a)=((0,⟨#[]⟩),.error (k,a))):=QLh (by simp only[tkS,tkR,hr]);have HRD:=QLh hrd;have d0:∀o,w2.cell? ⟨cb,o,none⟩=_:=Qa hcb;have d1:∀o,w2.frozen? ⟨cb,o,none⟩=false:=Qk hcb;have d2:∀o,w2.cell? ⟨rb,o,none⟩=_:=Qa hrd;have l0:cb<w2.heap.size:=lt_of_block hcb;clear hE hcb hr hrd c0;go_wp2
   go_ret2
   rw[HR.out];have hcur:Zq w2 cb rb s (.ok a):=⟨HCB.out,hne,H.out.sz,HRD.out,hst.2⟩;exact⟨rfl,hcur.set (k,a) hk,((Chg.of_ext HE.out).set 1 _).set 2 _⟩
def Qcu(s:ByteArray)(σ:Cst):Int × Cst:=((tkS 4 s σ).1.1,(tkS 4 s σ).2)
theorem Qlj(cb rb:Nat)(s:ByteArray)(σ:Cst)(w:World)(h:Zq w cb rb s σ):
  Calls Tryz.prog 236 #[.pointer (some ⟨cb,0,none⟩)] w (QkG (.int .u64 (Qcu s σ).1) (Qcu s σ).2 cb rb s w):=by
 have H:=QLh (QbZ cb rb s σ 4 w h (by decide));clear h
 go_enter Tryz.func236,Tryz.ntmps236
 go_wp2_with fail;refine H.out.mono ?_;rintro e w1 ⟨rfl,hc,hg⟩;have HC:=QLh hc;have HG:=QLh hg;clear hc hg;go_wp2;go_ret;exact⟨rfl,HC.out,HG.out⟩
def Qls(s:ByteArray)(σ:Cst):Int × Cst:=((tkS 0 s σ).1.1,Kp ((tkS 0 s σ).1.1 == 0) 5 (tkS 0 s σ).2)
theorem Qq2(cb rb:Nat)(s:ByteArray)(σ:Cst)(w:World)(h:Zq w cb rb s σ):
  Calls Tryz.prog 240 #[.pointer (some ⟨cb,0,none⟩)] w (QkG (.int .u64 (Qls s σ).1) (Qls s σ).2 cb rb s w):=by
 have h1:=QbZ cb rb s σ 0 w h (by decide);clear h;unfold Qls;generalize tkS 0 s σ=z at h1 ⊢;obtain⟨⟨n,t⟩,σ1⟩:=z;have H:=QLh h1;clear h1
 go_enter Tryz.func240,Tryz.ntmps240
 go_wp2_with fail;refine H.out.mono ?_;rintro e w1 ⟨rfl,hc,hg⟩;have HG:=QLh hg;have HF:=QLh (Qbm cb rb s σ1 (n == 0) 5 w1 hc (by decide));clear hc hg;go_wp2_with fail;refine HF.out.mono ?_;rintro e w2 ⟨rfl,hc,hg⟩;have HC:=QLh hc;have HG2:=QLh hg;clear hc hg;go_wp2;go_ret;exact⟨rfl,HC.out,HG.out.trans HG2.out⟩
def Qfd(s:ByteArray)(σ:Cst):ByteArray × Cst:=((tkS 1 s σ).1.2,Kp (!decide ((tkS 1 s σ).1.2.size=32)) 5 (tkS 1 s σ).2)
theorem Qub{sort:Nat}{s:ByteArray}{σ:Cst}(h5:sort<5):(tkS sort s σ).1.2.size<=s.size:=by
 cases σ with
 | error f=>exact Nat.zero_le _
 | ok a=>
  cases h:tkR sort s a with
  | error f=>simp only[tkS,h];exact Nat.zero_le _
  | ok x=>simp only[tkS,h];exact(Qd2 h5 h).2.2.2.2
theorem Qgz(cb rb:Nat)(s:ByteArray)(σ:Cst)(w:World)(h:Zq w cb rb s σ):
  Calls Tryz.prog 239 #[.pointer (some ⟨cb,0,none⟩)] w (QkG (.string (Qfd s σ).1) (Qfd s σ).2 cb rb s w):=by
 have h1:=QbZ cb rb s σ 1 w h (by decide);have hsz:(tkS 1 s σ).1.2.size<=9223372036854775807:=Nat.le_trans (Qub (by decide)) h.sz2;clear h;unfold Qfd;generalize tkS 1 s σ=z at h1 hsz ⊢;obtain⟨⟨n,t⟩,σ1⟩:=z;have H:=QLh h1;clear h1
 go_enter Tryz.func239,Tryz.ntmps239
 go_wp2_with fail;refine H.out.mono ?_;rintro e w1 ⟨rfl,hc,hg⟩;have HG:=QLh hg;have HC1:=QLh hc;clear hc hg;go_wp2_with fail;refine(Qed t w1 hsz).mono ?_;rintro e w2 ⟨rfl,hb⟩;have HG1:=QLh (HG.out.next hb);have HF:=QLh (Qbm cb rb s σ1 (!decide (t.size=32)) 5 w2 (HC1.out.below hb) (by decide));clear hb;go_wp2_with fail;refine HF.out.mono ?_;rintro e w3 ⟨rfl,hc,hg⟩;have HC:=QLh hc;have HG2:=QLh hg;clear hc hg;go_wp2;go_ret;exact⟨rfl,HC.out,HG1.out.trans HG2.out⟩
def Qav(all k:ByteArray)(n:Nat):Bool:=(List.range n).any λ i=>(all.extract i (i+1)).toList == k.toList
theorem Qfq(all k:ByteArray)(n:Nat):Qav all k (n+1)=(Qav all k n || (all.extract n (n+1)).toList == k.toList):=by unfold Qav;rw[List.range_succ,List.any_append];simp
def leB(a b:ByteArray):Bool:=Op.bytesLess a.toList b.toList || a.toList == b.toList
def Qff(s all last:ByteArray)(σ:Cst):ByteArray × Cst:=((tkS 2 s σ).1.2,Kp (!Qav all (tkS 2 s σ).1.2 all.size || leB (tkS 2 s σ).1.2 last) 5 (tkS 2 s σ).2)
theorem Qrg(cb rb:Nat)(s all last:ByteArray)(σ:Cst)(w:World)(h:Zq w cb rb s σ)(ha:all.size<=1000):
  Calls Tryz.prog 238 #[.pointer (some ⟨cb,0,none⟩),.string all,.string last] w (QkG (.string (Qff s all last σ).1) (Qff s all last σ).2 cb rb s w):=by
 have h1:=QbZ cb rb s σ 2 w h (by decide);clear h;unfold Qff;generalize tkS 2 s σ=z at h1 ⊢;obtain⟨⟨n,k⟩,σ1⟩:=z;have H:=QLh h1;clear h1
 go_enter Tryz.func238,Tryz.ntmps238
 go_wp2_with fail;refine H.out.mono ?_;rintro e w1 ⟨rfl,hc,hg⟩;have HC:=QLh hc;have HG:=QLh hg;clear hc hg;go_wp2
 go_loopg [9,10] all.size (λ gg is i wr=>∃m:Nat,gg+m=all.size/\i=.int .i64 m/\is=.bool (Qav all k m)/\wr=w1)
 case atStart=>exact⟨0,by omega,rfl,rfl,rfl⟩
 case round=>
  obtain⟨m,hm,rfl,rfl,rfl⟩:=hrel
  by_cases hlt:m<all.size
  ·obtain⟨g',rfl⟩:∃g',gk=g'+1:=⟨gk - 1,by omega⟩
   have i1:(m:Int)<all.size:=by omega
   have i2:IntKind.i64.wrap ((m:Int)+1)=(m:Int)+1:=IntWalk.i64_in _ (by omega);have i3:(0:Int)<=m:=by omega
   have i4:(m:Int)<=(m:Int)+1:=by omega
   have i5:(m:Int)+1<=all.size:=by omega
   have i6:((m:Int)+1).toNat=m+1:=by omega
   cases hk:Qav all k m with
   | true=>
    have HK:Hid (true=Qav all k (m+1)):=QLh (by rw[Qfq,hk];rfl);clear hk;go_wp2
    go_roundg g'
    case rel=>exact⟨m+1,by omega,by go_num,by rw[HK.out],rfl⟩
    case measure=>omega
   | false=>
    have HK:Hid (((all.extract m (m+1)).toList == k.toList)=Qav all k (m+1)):=QLh (by rw[Qfq,hk];rfl);clear hk;go_wp2
    go_roundg g'
    case rel=>exact⟨m+1,by omega,by go_num,by rw[HK.out],rfl⟩
    case measure=>omega
  ·obtain rfl:m=all.size:=by omega
   have i1:¬((all.size:Nat):Int)<all.size:=by omega
   cases hk:Qav all k all.size with
   | true=>
    have HF:=QLh (Qbm cb rb s σ1 (leB k last) 5 wr HC.out (by decide));have HE:Hid (Kp (!Qav all k all.size || leB k last) 5 σ1=Kp (leB k last) 5 σ1):=QLh (by rw[hk];rfl)
    clear hk;go_wp2_with fail;refine HF.out.mono ?_;rintro e w3 ⟨rfl,hc,hg⟩;have HC3:=QLh hc;have HG3:=QLh (HG.out.trans hg);clear hc hg;go_wp2;go_ret;rw[HE.out];exact⟨rfl,HC3.out,HG3.out⟩
   | false=>
    have HF:=QLh (Qbm cb rb s σ1 true 5 wr HC.out (by decide));have HE:Hid (Kp (!Qav all k all.size || leB k last) 5 σ1=Kp true 5 σ1):=QLh (by rw[hk];rfl)
    clear hk;go_wp2_with fail;refine HF.out.mono ?_;rintro e w3 ⟨rfl,hc,hg⟩;have HC3:=QLh hc;have HG3:=QLh (HG.out.trans hg);clear hc hg;go_wp2;go_ret;rw[HE.out];exact⟨rfl,HC3.out,HG3.out⟩
abbrev Uz:=Rcd->Cst->Rcd × Cst
def sw:List (UInt8 × Uz)->ByteArray->Uz
 | [],_,x,σ=>(x,σ)
 | p :: r,k,x,σ=>if k.toList == [p.1]then p.2 x σ else sw r k x σ
def Yj(s all:ByteArray)(specs:List (UInt8 × Uz)):Nat->ByteArray->Rcd->Cst->Rcd × Cst
 | 0,_,x,σ=>(x,σ)
 | n+1,last,x,.error f=>(x,.error f)
 | n+1,last,x,.ok a=>Yj s all specs n (Qff s all last (.ok a)).1 (sw specs (Qff s all last (.ok a)).1 x (Qff s all last (.ok a)).2).1 (sw specs (Qff s all last (.ok a)).1 x (Qff s all last (.ok a)).2).2
theorem Vl(s all:ByteArray)(specs:List (UInt8 × Uz))(x:Rcd)(f:Flt):∀(n:Nat) (last:ByteArray),Yj s all specs n last x (.error f)=(x,.error f)
 | 0,_=>rfl
 | n+1,_=>rfl
def Qr8(s all:ByteArray)(specs:List (UInt8 × Uz))(x0:Rcd)(σ:Cst):Rcd × Cst:=Yj s all specs (Qcu s σ).1.toNat ⟨#[]⟩ x0 (Qcu s σ).2
theorem Qm9{s:ByteArray}{σ:Cst}:0<=(Qcu s σ).1/\(Qcu s σ).1<=10240:=by
 unfold Qcu
 cases σ with
 | error f=>exact⟨Int.le_refl 0,show(0:Int)<=10240 by decide⟩
 | ok a=>
  cases h:tkR 4 s a with
  | error f=>simp only[tkS,h];exact⟨by decide,by decide⟩
  | ok x=>simp only[tkS,h];have:=Qd2 (by decide) h;exact⟨this.2.1,this.2.2.1 (by decide)⟩
theorem Kw.keep2{rb tb:Nat}{w w':World}{v:Value}{d:DV}(h:Kw rb tb w v d)(hu:∀b,rb<b->tb<b->b<w.heap.size->w'.heap[b]?=w.heap[b]?):Kw rb tb w' v d:=by
 have kt:∀{a:Option Addr} {l:List ByteArray},Tx w a l->Off rb tb a->Tx w' a l:=λ h ho=>h.keep λ b off cs e h2=>hu b (ho b off e).1 (ho b off e).2 (lt_of_block h2)
 cases d with
 | num n=>exact h
 | flag q=>exact h
 | str s=>exact h
 | strs l=>obtain⟨a,c,h1,h2,h3,h4⟩:=h;exact⟨a,c,h1,h2,h3,kt h4 h3⟩
 | nums l=>obtain⟨a,c,h1,h2,h3,h4⟩:=h;exact⟨a,c,h1,h2,h3,h4.keep λ b off cs e h5=>hu b (h3 b off e).1 (h3 b off e).2 (lt_of_block h5)⟩
 | revs l=>
  obtain⟨a,c,h1,h2,h3,rs,h4,h5,h6⟩:=h;refine⟨a,c,h1,h2,h3,rs,h4,λ i hi=>?_,λ i hi=>?_⟩
  ·obtain⟨b,off,rfl,hc⟩:=h5 i hi
   have e:∀q,w'.cell? ⟨b,q,none⟩=w.cell? ⟨b,q,none⟩:=λ q=>World.cell?_of_block (w:=w) (hu b (h3 b off rfl).1 (h3 b off rfl).2 (Ql hc.c0));obtain⟨c0,c1,c2,c3,c4,c5,c6,c7,c8,c9,c10⟩:=hc;exact⟨b,off,rfl,by constructor <;> (rw[e];assumption)⟩
  ·have h:=h6 i hi
   exact⟨h.pos,h.L,h.signed,h.idx,h.wn,kt h.ws h.wo,h.wo,h.pn,kt h.ps h.po,h.po,h.root,h.wt,h.first,h.life,h.keys⟩
theorem Xx.cur{rb cb tb:Nat}{T:TypeId}{n:Nat}{w w':World}{x:Rcd}(h:Xx rb tb T n w x)(hc:Chg rb cb w w')(h1:cb<tb)(h2:rb<tb):Xx rb tb T n w' x:=by obtain⟨cs,h3,h4,h5⟩:=h;refine⟨cs,(hc.block tb (lt_of_block h3) (by omega) (by omega)).trans h3,h4,λ i hi=>?_⟩;obtain⟨v,h6,h7⟩:=h5 i hi;exact⟨v,h6,h7.keep2 (λ b hb1 hb2 hb3=>hc.block b hb3 (by omega) (by omega))⟩
theorem Zq.keep{w w':World}{cb rb:Nat}{s:ByteArray}{σ:Cst}(h:Zq w cb rb s σ)(h1:w'.heap[cb]?=w.heap[cb]?)(h2:w'.heap[rb]?=w.heap[rb]?):Zq w' cb rb s σ:=by
 refine⟨h1.trans h.c,h.ne,h.sz,?_⟩;have hst:=h.st
 cases σ with
 | ok a=>exact⟨h2.trans hst.1,hst.2⟩
 | error f=>obtain⟨h3,a,h4,h5⟩:=hst;exact⟨h3,a,h2.trans h4,h5⟩
theorem Zq.setOff{w:World}{cb rb b o:Nat}{s:ByteArray}{σ:Cst}(h:Zq w cb rb s σ)(h1:cb<b)(h2:rb<b)(v:Value):Zq (w.setCell ⟨b,o,none⟩ v) cb rb s σ:=
 h.keep (Below.heap_setCell _ _ _ _ (by omega:cb≠b)) (Below.heap_setCell _ _ _ _ (by omega:rb≠b))
theorem Zq.clt{w:World}{cb rb:Nat}{s:ByteArray}{σ:Cst}(h:Zq w cb rb s σ):cb<w.heap.size:=lt_of_block h.c
theorem Zq.rlt{w:World}{cb rb:Nat}{s:ByteArray}{σ:Cst}(h:Zq w cb rb s σ):rb<w.heap.size:=by obtain⟨a,h2,-⟩:=h.rd;exact lt_of_block h2
end Go.Proofs.YtpobhbdomldecaaGreatDoor

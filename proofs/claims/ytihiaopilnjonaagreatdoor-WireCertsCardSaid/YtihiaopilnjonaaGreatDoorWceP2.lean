/- Parts of the proof, one behind the other. -/
import Derived.Test.YtihiaopilnjonaaGreatDoorWceP1
import Derived.Laws.BytesArg
import Derived.Maps.RangeRun
import Derived.Maps.RangeWalk
import Derived.Carry
import Derived.Laws.EntriesVeiled
import Derived.Lib.SliceRun
import Derived.Deep.QuietTactic
import Derived.BigQuiet
import Derived.StillTailTactics
namespace Go.Proofs.YtihiaopilnjonaaGreatDoor
open Go.RowKit
open Go.RowKit Go.ChangeMaps
open Go.MapKept
open Go.RowKit Go.ChangeMaps Go.MapKept
set_option linter.unusedSimpArgs false
set_option linter.unusedVariables false
set_option maxRecDepth 100000
set_option maxHeartbeats 8000000
attribute [local go_sem] pt
def Qez(s':ByteArray)(b base:Nat)(w:World)(e:Ending)(w':World):Prop:=e=.returned (.int .i64 0)∧WrB w' b base s'∧WK base b w w'
theorem Qk0(B b base sort n:Nat)(s:ByteArray)(w:World)(ht:PTab B w)(hB:B≤base)(hW:WrB w b base s)(h5:sort<5)(hn:n<65536)(hs:s.size≤70000000000000):
  Calls Tryz.prog 239 #[pt b 0,.int .i64 sort,.int .i64 n] w (Qez (s++baL (Xu sort n)) b base w):=by
 have H:=QLh (Qmj B b base sort n s w ht hB hW h5 (by omega) (by omega) hs);have i1:decide ((65536:Int)≤(n:Int))=false:=decide_eq_false (by omega);have i2:IntKind.u64.wrap (n:Int)=n:=IntWalk.u64_in _ (by omega);clear ht hW
 go_enter Tryz.func239,Tryz.ntmps239
 go_wp2_with fail
 refine H.out.mono ?_
 rintro e w' ⟨rfl,h1,h2⟩
 have H1:=QLh h1;have H2:=QLh h2;clear h1 h2
 go_wp2
 go_ret
 exact⟨rfl,H1.out,H2.out⟩
theorem Qmk(B b base sort:Nat)(t s:ByteArray)(w:World)(ht:PTab B w)(hB:B≤base)(hW:WrB w b base s)(h5:sort<5)(hn:t.size<65536)(hs:s.size≤70000000000000):
  Calls Tryz.prog 240 #[pt b 0,.int .i64 sort,.string t] w (Qez (s++(baL (Xu sort t.size)++t)) b base w):=by
 have H:=QLh (Qk0 B b base sort t.size s w ht hB hW h5 hn hs);have HBS:Hid (base≤w.heap.size):=QLh (by have:=hW.1;have:=hW.lt;omega)
 obtain⟨i0,hi,hz0,hz1,hz2⟩:=info_parts Qsj
 clear ht hW
 go_enter Tryz.func240,Tryz.ntmps240
 go_wp2_with fail
 refine H.out.mono ?_
 rintro e w1 ⟨rfl,h1,h2⟩
 obtain⟨s1,hs1⟩:∃s1,s++baL (Xu sort t.size)=s1:=⟨_,rfl⟩
 have hl2:s1.size≤70000000000009:=by have hl:=Qfr sort t.size;rw[←hs1,ByteArray.size_append,Qbm];omega
 have HS1:Hid (s++(baL (Xu sort t.size)++t)=s1++t):=QLh (by rw[←hs1,ByteArray.append_assoc])
 rw[hs1]at h1
 clear hs1
 obtain⟨hb,v,hv,hown⟩:=h1
 have HV:=QLh hv;have HOWN:=QLh hown;have H2:=QLh h2;have cb:=Qa hv 0
 simp only[List.getElem?_toArray,List.getElem?_cons_zero]at cb
 clear hv hown h2
 go_wp2_with (at_builtin;refine Lib.wpList_append_own_string _ rfl _ _ 106 9 rfl base 5 i0 Tryz.underlying106 Tryz.underlying9 hi hz0 hz1 hz2 _ _ _ rfl HOWN.out t rfl (by unfold maxLen;omega) (by omega) (by have:=HBS.out;have:=H2.out.bel.size;omega) ?_)
 intro v' w2 hown' hgrow _
 have hst:=Qey (s':=s1++t) hb HV.out HOWN.out (w1:=w2) ⟨hgrow.os,hgrow.tape,hgrow.output,hgrow.size,hgrow.block⟩ (v':=v') (ys:=Lib.strCells s1++Lib.strCells t) (by rw[ByteArray.size_append];exact hown') (by rw[←Ju]);have HST:=QLh hst;have hc4:=hst.1;have hf4:=hst.2.1;have hsl:∃g cap,v'=.slice (some ⟨g,0,none⟩) (s1.size+t.size) cap ∨ v'=.slice none 0 0:=by
  rcases hown'.2 with⟨h,_⟩ | ⟨g,cap,cur,h,_⟩
  ·exact⟨0,0,.inr h⟩
  ·exact⟨g,cap,.inl h⟩
 clear hst hown' hgrow
 obtain⟨ga,gc,rfl | rfl⟩:=hsl
 ·go_wp2
  go_ret
  exact⟨rfl,by rw[HS1.out];exact HST.out.2.2.1,H2.out.trans HST.out.2.2.2⟩
 ·go_wp2
  go_ret
  exact⟨rfl,by rw[HS1.out];exact HST.out.2.2.1,H2.out.trans HST.out.2.2.2⟩
theorem Qyn(B b base:Nat)(n:Int)(s:ByteArray)(w:World)(ht:PTab B w)(hB:B≤base)(hW:WrB w b base s)(h0:0≤n)(h1:n≤18446744073709551615)(hs:s.size≤70000000000000):
  Calls Tryz.prog 149 #[pt b 0,.int .u64 n] w (Qez (s++Xr n) b base w):=by
 have H:=QLh (Qmj B b base 0 n s w ht hB hW (by decide) h0 h1 hs);clear ht hW
 go_enter Tryz.func149,Tryz.ntmps149
 go_wp2_with fail
 refine H.out.mono ?_
 rintro e w' ⟨rfl,h1,h2⟩
 have H1:=QLh h1;have H2:=QLh h2;clear h1 h2
 go_wp2
 go_ret
 have e:Xr n=baL (Xu 0 n):=by unfold Xr Qa7;exact Xx (by simp)
 exact⟨rfl,by rw[e];exact H1.out,H2.out⟩
theorem Str_w(B b base:Nat)(t s:ByteArray)(w:World)(ht:PTab B w)(hB:B≤base)(hW:WrB w b base s)(hn:t.size<65536)(hs:s.size≤70000000000000):
  Calls Tryz.prog 176 #[pt b 0,.string t] w (Qez (s++Qpd t) b base w):=by
 have H:=QLh (Qmk B b base 2 t s w ht hB hW (by decide) hn hs);clear ht hW
 go_enter Tryz.func176,Tryz.ntmps176
 go_wp2_with fail
 refine H.out.mono ?_
 rintro e w' ⟨rfl,h1,h2⟩
 have H1:=QLh h1;have H2:=QLh h2;clear h1 h2
 go_wp2
 go_ret
 exact⟨rfl,H1.out,H2.out⟩
theorem Q0g(B b base:Nat)(t s:ByteArray)(w:World)(ht:PTab B w)(hB:B≤base)(hW:WrB w b base s)(hn:t.size<65536)(hs:s.size≤70000000000000):
  Calls Tryz.prog 193 #[pt b 0,.string t] w (Qez (s++Jv t) b base w):=by
 have H:=QLh (Qmk B b base 1 t s w ht hB hW (by decide) hn hs);clear ht hW
 go_enter Tryz.func193,Tryz.ntmps193
 go_wp2_with fail
 refine H.out.mono ?_
 rintro e w' ⟨rfl,h1,h2⟩
 have H1:=QLh h1;have H2:=QLh h2;clear h1 h2
 go_wp2
 go_ret
 exact⟨rfl,H1.out,H2.out⟩
theorem Qsn(B b base n:Nat)(s:ByteArray)(w:World)(ht:PTab B w)(hB:B≤base)(hW:WrB w b base s)(hn:n<65536)(hs:s.size≤70000000000000):
  Calls Tryz.prog 219 #[pt b 0,.int .i64 n] w (Qez (s++Z0 n) b base w):=by
 have H:=QLh (Qk0 B b base 3 n s w ht hB hW (by decide) hn hs);clear ht hW
 go_enter Tryz.func219,Tryz.ntmps219
 go_wp2_with fail
 refine H.out.mono ?_
 rintro e w' ⟨rfl,h1,h2⟩
 have H1:=QLh h1;have H2:=QLh h2;clear h1 h2
 go_wp2
 go_ret
 have e:Z0 n=baL (Xu 3 n):=by unfold Z0 Qa7;exact Xx (by simp)
 exact⟨rfl,by rw[e];exact H1.out,H2.out⟩
theorem Map_w(B b base n:Nat)(s:ByteArray)(w:World)(ht:PTab B w)(hB:B≤base)(hW:WrB w b base s)(hn:n<65536)(hs:s.size≤70000000000000):
  Calls Tryz.prog 175 #[pt b 0,.int .i64 n] w (Qez (s++Qhs n) b base w):=by
 have H:=QLh (Qk0 B b base 4 n s w ht hB hW (by decide) hn hs);clear ht hW
 go_enter Tryz.func175,Tryz.ntmps175
 go_wp2_with fail
 refine H.out.mono ?_
 rintro e w' ⟨rfl,h1,h2⟩
 have H1:=QLh h1;have H2:=QLh h2;clear h1 h2
 go_wp2
 go_ret
 have e:Qhs n=baL (Xu 4 n):=by unfold Qhs Qa7;exact Xx (by simp)
 exact⟨rfl,by rw[e];exact H1.out,H2.out⟩
theorem Qyo(s:ByteArray):strOfNums (s.data.toList.map λ b=>(b.toNat:Int))=s:=by
 refine Xx ?_
 rw[strOfNums_data,List.map_map]
 conv=>rhs;rw[←List.map_id s.data.toList]
 refine List.map_congr_left λ x _=>?_
 simp
theorem Qso(b base:Nat)(s:ByteArray)(w:World)(hW:WrB w b base s):Calls Tryz.prog 106 #[pt b 0] w λ e w'=>e=.returned (.string s)∧w=w':=by
 obtain⟨hb,v,hv,hown⟩:=hW
 have cb:=Qa hv 0
 simp only[List.getElem?_toArray,List.getElem?_cons_zero]at cb
 have hc:∀t,Tryz.prog.underlying t=some .string→(convert 106 t v).run Tryz.prog w=.ok (.string s) w:=by
  intro t ht
  rcases hown.2 with⟨rfl,h0⟩ | ⟨g,cap,cur,rfl,_,_,_,_,_,_⟩
  ·have e:s=ByteArray.empty:=Xx (by
    have:s.data.toList.length=0:=by rw[Qg9];exact h0
    rw[List.eq_nil_of_length_eq_zero this];rfl)
   rw[e]
   exact run_convert_bytes_nil w 106 5 Tryz.underlying106 Tryz.underlying5 0 0 t ht
  ·have h:=run_convert_bytes_arg (P:=Tryz.prog) w 106 5 Tryz.underlying106 Tryz.underlying5 g 0 s.size cap (s.data.toList.map λ b=>(b.toNat:Int)) (by rw[List.length_map,Qg9]) (λ i hi=>by
    have h1:=hown.cellAt i (by omega)
    rw[Nat.zero_add,h1]
    have hi2:i<s.data.toList.length:=by rw[Qg9];exact hi
    unfold Lib.strCells
    rw[List.getElem?_map,List.getElem?_eq_getElem hi2,List.getD_eq_getElem?_getD,List.getElem?_map,List.getElem?_eq_getElem hi2];rfl) t ht
   rw[Qyo]at h;exact h
 have hcv:=hc 9 Tryz.underlying9;clear hc hown hv
 go_enter Tryz.func106,Tryz.ntmps106
 go_wp2
 go_ret
 exact⟨rfl,rfl⟩
theorem Qvr(w:World):Calls Tryz.prog 104 #[] w λ e w'=>e=.returned (pt w.heap.size 0)∧WrB w' w.heap.size w.heap.size ByteArray.empty∧Below w.heap.size w w':=by
 go_enter Tryz.func104,Tryz.ntmps104
 go_wp2
 go_ret
 exact⟨rfl,⟨Nat.le_refl _,.slice none 0 0,heap_alloc_new _ _,World.ownsRow_nil _ _ _ _⟩,by(repeat (first | exact Below.refl _ _ | assumption | (refine Zd ?_) | (refine Zc ?_ _) | (refine Qh ?_ _) | (refine Zs ?_ (by first | omega | (simp;done) | (simp;omega)) _) | (refine Qk ?_ (by assumption))))⟩
structure FVal where
 key:ByteArray
 must:Bool
 ef:Nat
 ec:Array Value
 mf:Nat
 mc:Array Value
 pf:Nat
 pc:Array Value
 gf:Nat
 gc:Array Value
abbrev FVal.val(r:FVal):Value:=.agg #[.string r.key,.bool r.must,.func (.func r.ef) #[] r.ec,.func (.func r.mf) #[] r.mc,.func (.func r.pf) #[] r.pc,.func (.func r.gf) #[] r.gc]
def FVal.cells(r:FVal):List Value:=[.string r.key,.bool r.must,.func (.func r.ef) #[] r.ec,.func (.func r.mf) #[] r.mc,.func (.func r.pf) #[] r.pc,.func (.func r.gf) #[] r.gc]
theorem FVal.cells_len(r:FVal):r.cells.length=6:=rfl
theorem FVal.cells_one(r:FVal):∀u ∈ r.cells,u.oneCell'=true:=by intro u hu;simp only[FVal.cells,List.mem_cons,List.not_mem_nil,or_false]at hu;rcases hu with rfl | rfl | rfl | rfl | rfl | rfl <;> rfl
def FVal.zero:FVal:=⟨ByteArray.empty,false,0,#[],0,#[],0,#[],0,#[]⟩
def fth(l:List FVal)(i:Nat):FVal:=l.getD i FVal.zero
theorem J9(l:List FVal)(i:Nat)(h:i<l.length):fth l i=l[i]:=by unfold fth;rw[List.getD_eq_getElem?_getD,List.getElem?_eq_getElem h];rfl
structure FValAt(w:World)(b o:Nat)(r:FVal):Prop where
 c0:w.cell? ⟨b,o,none⟩=some (.string r.key)
 c1:w.cell? ⟨b,o+1,none⟩=some (.bool r.must)
 c2:w.cell? ⟨b,o+2,none⟩=some (.func (.func r.ef) #[] r.ec)
 c3:w.cell? ⟨b,o+3,none⟩=some (.func (.func r.mf) #[] r.mc)
 c4:w.cell? ⟨b,o+4,none⟩=some (.func (.func r.pf) #[] r.pc)
 c5:w.cell? ⟨b,o+5,none⟩=some (.func (.func r.gf) #[] r.gc)
theorem FValAt.below{w w':World}{b o:Nat}{r:FVal}(h:FValAt w b o r)(hb:Below w.heap.size w w'):FValAt w' b o r:=by
 have hl:=Qw h.c0;have e:∀q,w'.cell? ⟨b,q,none⟩=w.cell? ⟨b,q,none⟩:=λ q=>hb.cell (p:=⟨b,q,none⟩) hl
 obtain⟨c0,c1,c2,c3,c4,c5⟩:=h
 constructor <;> (rw[e];assumption)
def Flds(w:World)(a:Option Addr)(l:List FVal):Prop:=∀i,i<len l→∃b off,a=some ⟨b,off,none⟩∧FValAt w b (off+i * 6) (fth l i)
theorem Flds.nil(w:World)(a:Option Addr):Flds w a []:=λ i hi=>absurd hi (by simp[len])
theorem Flds.below{w w':World}{a:Option Addr}{l:List FVal}(h:Flds w a l)(hb:Below w.heap.size w w'):Flds w' a l:=λ i hi=>by
 obtain⟨b,off,rfl,hc⟩:=h i hi
 exact⟨b,off,rfl,hc.below hb⟩
theorem Flds.drop{w:World}{b off:Nat}{l:List FVal}(h:Flds w (some ⟨b,off,none⟩) l)(k:Nat):Flds w (some ⟨b,off+k * 6,none⟩) (l.drop k):=λ i hi=>by
 have hi2:k+i<l.length:=by simp only[len,List.length_drop]at hi;omega
 have hi3:i<(l.drop k).length:=hi;have e:fth (l.drop k) i=fth l (k+i):=by rw[J9 l _ hi2,J9 _ i hi3,List.getElem_drop]
 obtain⟨b',off',e2,hc⟩:=h (k+i) hi2
 cases e2
 exact⟨b,_,rfl,by rw[e,show off+k * 6+i * 6=off+(k+i) * 6 by omega];exact hc⟩
theorem Flds.block{w:World}{g:Nat}{l:List FVal}{t:TypeId}{fr:Nat × Nat}(h:w.heap[g]?=some (.cells (l.flatMap FVal.cells).toArray t fr)):Flds w (some ⟨g,0,none⟩) l:=λ i hi=>⟨g,0,rfl,by
 have key:∀r,r<6→w.cell? ⟨g,0+i * 6+r,none⟩=(fth l i).cells[r]?:=λ r hr=>by
  rw[Nat.zero_add,Qa h,List.getElem?_toArray,Qdw FVal.cells 6 FVal.cells_len l i r hi hr,J9 l i hi]
 exact⟨key 0 (by decide),key 1 (by decide),key 2 (by decide),key 3 (by decide),key 4 (by decide),key 5 (by decide)⟩⟩
structure Keep8(B:Nat)(W0 w:World):Prop where
 s0:B≤W0.heap.size
 s1:W0.heap.size≤w.heap.size
 low:∀k:Nat,k<B→w.heap[k]?=W0.heap[k]?
 keep:∀(k:Nat) (x:Obj),W0.heap[k]?=some x→Qmh x→w.heap[k]?=some x
theorem Keep8.refl{B:Nat}{w:World}(h:B≤w.heap.size):Keep8 B w w:=⟨h,Nat.le_refl _,λ _ _=>rfl,λ _ _ h _=>h⟩
theorem Keep8.trans{B:Nat}{a b c:World}(h:Keep8 B a b)(k:Keep8 B b c):Keep8 B a c:=⟨h.s0,Nat.le_trans h.s1 k.s1,λ i hi=>(k.low i hi).trans (h.low i hi),λ i x hx hn=>k.keep i x (h.keep i x hx hn) hn⟩
theorem Keep8.of_below{B:Nat}{w w':World}(h:Below w.heap.size w w')(hB:B≤w.heap.size):Keep8 B w w':=⟨hB,h.size,λ k hk=>h.block k (Nat.lt_of_lt_of_le hk hB),λ k x hx _=>(h.block k (lt_of_block hx)).trans hx⟩
theorem Keep8.next{B:Nat}{W0 w w':World}(h:Keep8 B W0 w)(hb:Below w.heap.size w w'):Keep8 B W0 w':=h.trans (Keep8.of_below hb (Nat.le_trans h.s0 h.s1))
theorem Keep8.base{B B':Nat}{W0 w w':World}(h:Keep8 B W0 w)(hb:Below B' w w')(hB:W0.heap.size≤B'):Keep8 B W0 w':=
 ⟨h.s0,Nat.le_trans h.s1 hb.size,λ k hk=>(hb.block k (Nat.lt_of_lt_of_le hk (Nat.le_trans h.s0 hB))).trans (h.low k hk),λ k x hx hn=>(hb.block k (Nat.lt_of_lt_of_le (lt_of_block hx) hB)).trans (h.keep k x hx hn)⟩
def Off8(W0:World)(b:Nat):Prop:=∀x,W0.heap[b]?=some x→¬Qmh x
theorem Off8.of_le{W0:World}{b:Nat}(h:W0.heap.size≤b):Off8 W0 b:=λ x hx=>by have:=lt_of_block hx;omega
theorem Off8.ne{W0:World}{b k:Nat}{x:Obj}(h:Off8 W0 b)(hk:W0.heap[k]?=some x)(hn:Qmh x):k≠b:=λ e=>by subst e;exact h x hk hn
theorem Off8.early{B b:Nat}{W0 W1:World}(h:Off8 W1 b)(hk:Keep8 B W0 W1):Off8 W0 b:=λ x hx hn=>h x (hk.keep b x hx hn) hn
theorem Keep8.wk{B base b:Nat}{W0 w w':World}(h:Keep8 B W0 w)(hk:WK base b w w')(hb:Off8 W0 b)(hB:B≤base):Keep8 B W0 w':=
 ⟨h.s0,Nat.le_trans h.s1 hk.bel.size,λ k hk2=>(hk.bel.block k (Nat.lt_of_lt_of_le hk2 hB)).trans (h.low k hk2),λ k x hx hn=>hk.keep k x (h.keep k x hx hn) (hb.ne hx hn) hn⟩
structure FSem(B:Nat)(W0:World)(v:FVal)(f:FSpec):Prop where
 key:v.key=f.key
 must:v.must=f.must
 ksz:f.key.size<65536
 ee:∀args w,(callFunc v.ef args).run Tryz.prog w=.ok (.enter v.ef args) w
 em:∀args w,(callFunc v.mf args).run Tryz.prog w=.ok (.enter v.mf args) w
 ep:∀args w,(callFunc v.pf args).run Tryz.prog w=.ok (.enter v.pf args) w
 empty:∀w,Keep8 B W0 w→Calls Tryz.prog v.ef v.ec w λ e w'=>e=.returned (.bool f.empty)∧Below w.heap.size w w'
 may:∀w,Keep8 B W0 w→Calls Tryz.prog v.mf v.mc w λ e w'=>e=.returned (.bool f.may)∧Below w.heap.size w w'
 put:f.may=true→f.empty=false→∀w b base s,Keep8 B W0 w→Off8 W0 b→PTab B w→B≤base→WrB w b base s→s.size+f.bytes.size≤60000000000000→
  Calls Tryz.prog v.pf (#[pt b 0]++v.pc) w λ e w'=>e=.returned (.tuple #[])∧WrB w' b base (s++f.bytes)∧WK base b w w'
theorem FSem.later{B:Nat}{W0 W1:World}{v:FVal}{f:FSpec}(h:FSem B W0 v f)(hk:Keep8 B W0 W1):FSem B W1 v f:=
 ⟨h.key,h.must,h.ksz,h.ee,h.em,h.ep,λ w hw=>h.empty w (hk.trans hw),λ w hw=>h.may w (hk.trans hw),λ h1 h2 w b base s hw hb=>h.put h1 h2 w b base s (hk.trans hw) (hb.early hk)⟩
def Qcn(l:List FSpec)(i:Nat):FSpec:=l.getD i ⟨ByteArray.empty,false,false,false,ByteArray.empty⟩
theorem Qa8(l:List FSpec)(i:Nat)(h:i<l.length):Qcn l i=l[i]:=by unfold Qcn;rw[List.getD_eq_getElem?_getD,List.getElem?_eq_getElem h];rfl
def FSems(B:Nat)(W0:World)(l:List FVal)(fs:List FSpec):Prop:=len fs=len l∧∀i,i<len l→FSem B W0 (fth l i) (Qcn fs i)
theorem FSems.later{B:Nat}{W0 W1:World}{l:List FVal}{fs:List FSpec}(h:FSems B W0 l fs)(hk:Keep8 B W0 W1):FSems B W1 l fs:=⟨h.1,λ i hi=>(h.2 i hi).later hk⟩
def Qjr(w:World)(l:List FVal)(g:Nat)(lb:Array Value)(p:Nat→Bool):Prop:=
 (∀args w',(callFunc g args).run Tryz.prog w'=.ok (.enter g args) w')∧∀i,i<len l→∀w',Below w.heap.size w w'→Calls Tryz.prog g (#[(fth l i).val]++lb) w' λ e w''=>e=.returned (.bool (p i))∧Below w'.heap.size w' w''
def Qpe(n:Nat)(p:Nat→Bool)(w:World)(e:Ending)(w':World):Prop:=
 ∃r:Int,e=.returned (.int .i64 r)∧((r=-1∧∀i,i<n→p i=false) ∨ ∃k:Nat,k<n∧r=k∧p k=true∧∀i,i<k→p i=false)∧Below w.heap.size w w'
theorem Qht(a:Option Addr)(c:Nat)(l:List FVal)(g:Nat)(lb:Array Value)(p:Nat→Bool)(w:World)(hl:Flds w a l)(hn:len l≤1000)(hp:Qjr w l g lb p):
  Calls Tryz.prog 202 #[.slice a (len l) c,.func (.func g) #[] lb] w (Qpe (len l) p w):=by
 have HL:=QLh hl;have HP:=QLh hp.2;have eg:=hp.1;clear hl hp
 go_enter Tryz.func202,Tryz.ntmps202
 go_wp2
 go_loopg [8] (len l) (λ g i wr=>∃m:Nat,g+m=len l∧i=.int .i64 m∧Hid (∀i,i<m→p i=false)∧Hid (Below w.heap.size w wr))
 case atStart=>exact⟨0,rfl,rfl,λ i hi=>by omega,Below.refl _ _⟩
 case round=>
  obtain⟨m,hm,rfl,HN,HB⟩:=hrel
  by_cases hlt:m<len l
  ·obtain⟨b,off,rfl,c0,c1,c2,c3,c4,c5⟩:=(HL.out.below HB.out) m hlt
   have i1:(m:Int)<len l:=by omega
   have hcall:=HP.out m hlt wr HB.out
   unfold FVal.val at hcall
   have HC:=QLh hcall;clear hcall
   generalize fth l m=v at c0 c1 c2 c3 c4 c5 HC
   go_wp2_with fail
   refine HC.out.mono ?_
   rintro e w1 ⟨rfl,hb⟩
   have HB1:Hid (Below w.heap.size w w1):=QLh (Qk HB.out hb);clear hb c0 c1 c2 c3 c4 c5
   cases hpm:p m with
   | true=>
    go_wp2
    go_ret
    exact⟨m,rfl,.inr ⟨m,hlt,rfl,hpm,HN.out⟩,HB1.out⟩
   | false=>
    have HN2:Hid (∀i,i<m+1→p i=false):=QLh (λ i hi=>by
     by_cases e:i=m
     ·subst e;exact hpm
     ·exact HN.out i (by omega))
    clear hpm
    go_wp2
    go_roundg (len l - (m+1))
    case rel=>exact⟨m+1,by omega,by go_num,HN2.out,HB1.out⟩
    case measure=>omega
  ·obtain rfl:m=len l:=by omega
   have i1:¬((len l:Nat):Int)<len l:=by omega
   go_wp2
   go_ret
   exact⟨-1,rfl,.inl ⟨rfl,HN.out⟩,HB.out⟩
theorem J7(a:Option Addr)(c:Nat)(l:List FVal)(g:Nat)(lb:Array Value)(p:Nat→Bool)(w:World)(hl:Flds w a l)(hn:len l≤1000)(hp:Qjr w l g lb p):
  Calls Tryz.prog 170 #[.slice a (len l) c,.func (.func g) #[] lb] w λ e w'=>∃b,e=.returned (.bool b)∧(b=true ↔ ∃i,i<len l∧p i=true)∧Below w.heap.size w w':=by
 have H:=QLh (Qht a c l g lb p w hl hn hp);clear hl hp
 go_enter Tryz.func170,Tryz.ntmps170
 go_wp2_with fail
 refine H.out.mono ?_
 rintro e w1 ⟨r,rfl,hr,hb⟩
 have HB:=QLh hb;clear hb
 rcases hr with⟨rfl,hall⟩ | ⟨k,hk,rfl,hpk,-⟩
 ·have HA:=QLh hall
  clear hall
  go_wp2
  go_ret
  exact⟨false,rfl,⟨λ h=>(by cases h),fun ⟨i,hi,h⟩=>by rw[HA.out i hi]at h;cases h⟩,HB.out⟩
 ·have HK:=QLh hpk
  clear hpk
  go_wp2
  go_ret
  exact⟨true,rfl,⟨λ _=>⟨k,hk,HK.out⟩,λ _=>rfl⟩,HB.out⟩
structure Chg(rb tb:Nat)(w w':World):Prop where
 os:w'.os=w.os
 tape:w'.tape=w.tape
 output:w'.output=w.output
 size:w.heap.size≤w'.heap.size
 block:∀i,i<w.heap.size→i≠rb→i≠tb→w'.heap[i]?=w.heap[i]?
theorem Chg.refl(rb tb:Nat)(w:World):Chg rb tb w w:=⟨rfl,rfl,rfl,Nat.le_refl _,λ _ _ _ _=>rfl⟩
theorem Chg.trans{rb tb:Nat}{a b c:World}(h:Chg rb tb a b)(k:Chg rb tb b c):Chg rb tb a c:=
 ⟨k.os.trans h.os,k.tape.trans h.tape,k.output.trans h.output,Nat.le_trans h.size k.size,λ i hi h1 h2=>(k.block i (Nat.lt_of_lt_of_le hi h.size) h1 h2).trans (h.block i hi h1 h2)⟩
theorem Chg.of_below{rb tb:Nat}{w w':World}(h:Below w.heap.size w w'):Chg rb tb w w':=⟨h.os,h.tape,h.output,h.size,λ i hi _ _=>h.block i hi⟩
theorem Chg.of_ext{rb tb:Nat}{w w':World}(h:Jg (some rb) w w'):Chg rb tb w w':=⟨h.os,h.tape,h.output,h.size,λ i hi h1 _=>h.block i hi (by simpa using h1)⟩
theorem Chg.next{rb tb:Nat}{a b c:World}(h:Chg rb tb a b)(k:Below b.heap.size b c):Chg rb tb a c:=h.trans (Chg.of_below k)
theorem Chg.ext{rb tb:Nat}{a b c:World}(h:Chg rb tb a b)(k:Jg (some rb) b c):Chg rb tb a c:=h.trans (Chg.of_ext k)
theorem Chg.set{rb tb:Nat}{a b:World}(h:Chg rb tb a b)(o:Nat)(v:Value):Chg rb tb a (b.setCell ⟨tb,o,none⟩ v):=
 ⟨h.os,h.tape,h.output,by simpa using h.size,λ i hi h1 h2=>by rw[Below.heap_setCell _ _ _ _ h2];exact h.block i hi h1 h2⟩
theorem Chg.setNew{rb tb:Nat}{a b:World}(h:Chg rb tb a b){p:Addr}(hp:a.heap.size≤p.block)(v:Value):Chg rb tb a (b.setCell p v):=
 ⟨h.os,h.tape,h.output,by simpa using h.size,λ i hi h1 h2=>by rw[Below.heap_setCell _ _ _ _ (by omega)];exact h.block i hi h1 h2⟩
theorem Chg.inner{rb tb tb':Nat}{a b c:World}(h:Chg rb tb a b)(k:Chg rb tb' b c)(ht:a.heap.size≤tb'):Chg rb tb a c:=
 ⟨k.os.trans h.os,k.tape.trans h.tape,k.output.trans h.output,Nat.le_trans h.size k.size,λ i hi h1 h2=>(k.block i (Nat.lt_of_lt_of_le hi h.size) h1 (by omega)).trans (h.block i hi h1 h2)⟩
def Off(rb tb:Nat)(a:Option Addr):Prop:=∀b off,a=some ⟨b,off,none⟩→rb<b∧tb<b
def Tx(w:World)(a:Option Addr)(l:List ByteArray):Prop:=Txs w a l∧∀b off,a=some ⟨b,off,none⟩→∃cs,w.heap[b]?=some (.cells cs 9 (0,0))
def Ux(w:World)(a:Option Addr)(l:List Int):Prop:=U64s w a l∧∀b off,a=some ⟨b,off,none⟩→∃cs,w.heap[b]?=some (.cells cs 23 (0,0))
theorem Tx.keep{w w':World}{a:Option Addr}{l:List ByteArray}(h:Tx w a l)(hb:∀b off cs,a=some ⟨b,off,none⟩→w.heap[b]?=some (.cells cs 9 (0,0))→w'.heap[b]?=w.heap[b]?):Tx w' a l:=by
 refine⟨λ i hi=>?_,λ b off e=>?_⟩
 ·obtain⟨b,off,rfl,h1⟩:=h.1 i hi
  obtain⟨cs,h2⟩:=h.2 b off rfl
  exact⟨b,off,rfl,by rw[World.cell?_of_block (w:=w) (hb b off cs rfl h2)];exact h1⟩
 ·obtain⟨cs,h2⟩:=h.2 b off e
  exact⟨cs,(hb b off cs e h2).trans h2⟩
theorem Ux.keep{w w':World}{a:Option Addr}{l:List Int}(h:Ux w a l)(hb:∀b off cs,a=some ⟨b,off,none⟩→w.heap[b]?=some (.cells cs 23 (0,0))→w'.heap[b]?=w.heap[b]?):Ux w' a l:=by
 refine⟨λ i hi=>?_,λ b off e=>?_⟩
 ·obtain⟨b,off,rfl,h1⟩:=h.1 i hi
  obtain⟨cs,h2⟩:=h.2 b off rfl
  exact⟨b,off,rfl,by rw[World.cell?_of_block (w:=w) (hb b off cs rfl h2)];exact h1⟩
 ·obtain⟨cs,h2⟩:=h.2 b off e
  exact⟨cs,(hb b off cs e h2).trans h2⟩
theorem Tx.chg{rb tb:Nat}{w w':World}{a:Option Addr}{l:List ByteArray}(h:Tx w a l)(ho:Off rb tb a)(hc:Chg rb tb w w'):Tx w' a l:=
 h.keep λ b off cs e h2=>hc.block b (lt_of_block h2) (by have:=(ho b off e).1;omega) (by have:=(ho b off e).2;omega)
theorem Ux.chg{rb tb:Nat}{w w':World}{a:Option Addr}{l:List Int}(h:Ux w a l)(ho:Off rb tb a)(hc:Chg rb tb w w'):Ux w' a l:=
 h.keep λ b off cs e h2=>hc.block b (lt_of_block h2) (by have:=(ho b off e).1;omega) (by have:=(ho b off e).2;omega)
theorem Tx.chgNew{rb tb xb:Nat}{w w':World}{a:Option Addr}{l:List ByteArray}(h:Tx w a l)(ho:Off rb tb a)(hc:Chg rb xb w w')(hx:w.heap.size≤xb):Tx w' a l:=
 h.keep λ b off cs e h2=>hc.block b (lt_of_block h2) (by have:=(ho b off e).1;omega) (by have:=lt_of_block h2;omega)
theorem Tx.ext{row:Option Nat}{w w':World}{a:Option Addr}{l:List ByteArray}(h:Tx w a l)(hE:Jg row w w')(hr:∀k,row=some k→∃cs T,w.heap[k]?=some (.cells cs T (0,0))∧T≠9):Tx w' a l:=
 h.keep λ b off cs e h2=>hE.block b (lt_of_block h2) (λ e2=>by obtain⟨cs',T,h3,h4⟩:=hr b e2.symm;rw[h2]at h3;cases h3;exact h4 rfl)
theorem Revs.chg{rb tb:Nat}{w w':World}{a:Option Addr}{l:List Rev}(h:Revs w a l)(ho:Off rb tb a)(hc:Chg rb tb w w'):Revs w' a l:=λ i hi=>by
 obtain⟨b,off,rfl,h1⟩:=h i hi
 have hb:=hc.block b (Qw h1.c0) (by have:=(ho b off rfl).1;omega) (by have:=(ho b off rfl).2;omega);have e:∀q,w'.cell? ⟨b,q,none⟩=w.cell? ⟨b,q,none⟩:=λ q=>World.cell?_of_block (w:=w) hb
 obtain⟨c0,c1,c2,c3,c4,c5,c6,c7,c8,c9,c10⟩:=h1
 exact⟨b,off,rfl,by constructor <;> (rw[e];assumption)⟩
def lth(l:List RevD)(i:Nat):RevD:=l.getD i ⟨0,0,false,0,[],[],⟨#[]⟩,0,0,0,0⟩
theorem Jw(l:List RevD)(i:Nat)(h:i<l.length):lth l i=l[i]:=by unfold lth;rw[List.getD_eq_getElem?_getD,List.getElem?_eq_getElem h];rfl
structure RevIs(rb tb:Nat)(w:World)(r:Rev)(d:RevD):Prop where
 pos:r.pos=d.pos
 L:r.L=d.L
 signed:r.signed=d.signed
 idx:r.idx=d.idx
 wn:r.wn=len d.ws
 ws:Tx w r.wa d.ws
 wo:Off rb tb r.wa
 pn:r.pn=len d.ps
 ps:Tx w r.pa d.ps
 po:Off rb tb r.pa
 root:r.root=d.root
 wt:r.wt=d.wt
 first:r.first=d.first
 life:r.life=d.life
 keys:r.keys=d.keys
theorem RevIs.chg{rb tb:Nat}{w w':World}{r:Rev}{d:RevD}(h:RevIs rb tb w r d)(hc:Chg rb tb w w'):RevIs rb tb w' r d:=
 ⟨h.pos,h.L,h.signed,h.idx,h.wn,h.ws.chg h.wo hc,h.wo,h.pn,h.ps.chg h.po hc,h.po,h.root,h.wt,h.first,h.life,h.keys⟩
theorem RevIs.chgNew{rb tb xb:Nat}{w w':World}{r:Rev}{d:RevD}(h:RevIs rb tb w r d)(hc:Chg rb xb w w')(hx:w.heap.size≤xb):RevIs rb tb w' r d:=
 ⟨h.pos,h.L,h.signed,h.idx,h.wn,h.ws.chgNew h.wo hc hx,h.wo,h.pn,h.ps.chgNew h.po hc hx,h.po,h.root,h.wt,h.first,h.life,h.keys⟩
theorem RevIs.ext{rb tb:Nat}{row:Option Nat}{w w':World}{r:Rev}{d:RevD}(h:RevIs rb tb w r d)(hE:Jg row w w')(hr:∀k,row=some k→∃cs T,w.heap[k]?=some (.cells cs T (0,0))∧T≠9):RevIs rb tb w' r d:=
 ⟨h.pos,h.L,h.signed,h.idx,h.wn,h.ws.ext hE hr,h.wo,h.pn,h.ps.ext hE hr,h.po,h.root,h.wt,h.first,h.life,h.keys⟩
theorem RevIs.outer{rb tb xb:Nat}{w:World}{r:Rev}{d:RevD}(h:RevIs rb xb w r d)(hx:tb≤xb):RevIs rb tb w r d:=
 ⟨h.pos,h.L,h.signed,h.idx,h.wn,h.ws,λ b off e=>⟨(h.wo b off e).1,Nat.lt_of_le_of_lt hx (h.wo b off e).2⟩,h.pn,h.ps,λ b off e=>⟨(h.po b off e).1,Nat.lt_of_le_of_lt hx (h.po b off e).2⟩,h.root,h.wt,h.first,h.life,h.keys⟩
def HoldsD(rb tb:Nat)(w:World)(v:Value):DV→Prop
 | .num n=>v=.int .u64 n
 | .flag q=>v=.bool q
 | .str s=>v=.string s
 | .strs l=>∃a c,v=.slice a (len l) c∧(len l=0→a=none∧c=0)∧Off rb tb a∧Tx w a l
 | .nums l=>∃a c,v=.slice a (len l) c∧(len l=0→a=none∧c=0)∧Off rb tb a∧Ux w a l
 | .revs l=>∃a c,v=.slice a (len l) c∧(len l=0→a=none∧c=0)∧Off rb tb a∧∃rs:List Rev,len rs=len l∧Revs w a rs∧∀i,i<len l→RevIs rb tb w (Qlz rs i) (lth l i)
theorem HoldsD.chg{rb tb:Nat}{w w':World}{v:Value}{d:DV}(h:HoldsD rb tb w v d)(hc:Chg rb tb w w'):HoldsD rb tb w' v d:=by
 cases d with
 | num n=>exact h
 | flag q=>exact h
 | str s=>exact h
 | strs l=>obtain⟨a,c,h1,h2,h3,h4⟩:=h;exact⟨a,c,h1,h2,h3,h4.chg h3 hc⟩
 | nums l=>obtain⟨a,c,h1,h2,h3,h4⟩:=h;exact⟨a,c,h1,h2,h3,h4.chg h3 hc⟩
 | revs l=>obtain⟨a,c,h1,h2,h3,rs,h4,h5,h6⟩:=h;exact⟨a,c,h1,h2,h3,rs,h4,h5.chg h3 hc,λ i hi=>(h6 i hi).chg hc⟩
def RecAt(rb tb:Nat)(T:TypeId)(n:Nat)(w:World)(x:Rcd):Prop:=
 ∃cs:Array Value,w.heap[tb]?=some (.cells cs T (0,0))∧cs.size=n∧∀i,i<n→∃v,cs[i]?=some v∧HoldsD rb tb w v (x i)
theorem RecAt.keep{rb tb:Nat}{T:TypeId}{n:Nat}{w w':World}{x:Rcd}(h:RecAt rb tb T n w x)(hb:w'.heap[tb]?=w.heap[tb]?)(hc:Chg rb tb w w'):RecAt rb tb T n w' x:=by
 obtain⟨cs,h1,h2,h3⟩:=h
 refine⟨cs,hb.trans h1,h2,λ i hi=>?_⟩
 obtain⟨v,h4,h5⟩:=h3 i hi
 exact⟨v,h4,h5.chg hc⟩
theorem RecAt.lt{rb tb:Nat}{T:TypeId}{n:Nat}{w:World}{x:Rcd}(h:RecAt rb tb T n w x):tb<w.heap.size:=by
 obtain⟨cs,h1,_⟩:=h;exact lt_of_block h1
theorem RecAt.below{rb tb:Nat}{T:TypeId}{n:Nat}{w w':World}{x:Rcd}(h:RecAt rb tb T n w x)(hb:Below w.heap.size w w'):RecAt rb tb T n w' x:=h.keep (hb.block _ h.lt) (Chg.of_below hb)
theorem RecAt.ext{rb tb:Nat}{T:TypeId}{n:Nat}{w w':World}{x:Rcd}(h:RecAt rb tb T n w x)(hE:Jg (some rb) w w')(hne:tb≠rb):RecAt rb tb T n w' x:=h.keep (hE.block _ h.lt (by simpa using hne)) (Chg.of_ext hE)
theorem RecAt.get{rb tb:Nat}{T:TypeId}{n:Nat}{w:World}{x:Rcd}(h:RecAt rb tb T n w x){o:Nat}(ho:o<n):∃v,w.cell? ⟨tb,o,none⟩=some v∧HoldsD rb tb w v (x o):=by
 obtain⟨cs,h1,h2,h3⟩:=h
 obtain⟨v,h4,h5⟩:=h3 o ho
 exact⟨v,by rw[Qa h1];exact h4,h5⟩
theorem RecAt.free{rb tb:Nat}{T:TypeId}{n:Nat}{w:World}{x:Rcd}(h:RecAt rb tb T n w x)(o:Nat):w.frozen? ⟨tb,o,none⟩=false:=by
 obtain⟨cs,h1,_⟩:=h;exact Qj h1 o
theorem RecAt.set{rb tb:Nat}{T:TypeId}{n:Nat}{w:World}{x:Rcd}(h:RecAt rb tb T n w x){o:Nat}(ho:o<n){v:Value}{d:DV}(hv:HoldsD rb tb w v d):RecAt rb tb T n (w.setCell ⟨tb,o,none⟩ v) (upd x o d):=by
 obtain⟨cs,h1,h2,h3⟩:=h
 have hc:Chg rb tb w (w.setCell ⟨tb,o,none⟩ v):=(Chg.refl rb tb w).set o v
 refine⟨_,Qb h1 v,by simpa using h2,λ i hi=>?_⟩
 by_cases e:i=o
 ·subst e
  exact⟨v,by rw[Array.getElem?_setIfInBounds_self_of_lt (by omega)],by rw[Xc];exact hv.chg hc⟩
 ·obtain⟨u,h4,h5⟩:=h3 i hi
  exact⟨u,by rw[Array.getElem?_setIfInBounds_ne (λ e2=>e e2.symm)];exact h4,by rw[Zg e];exact h5.chg hc⟩
theorem RecAt.put{rb tb:Nat}{T:TypeId}{n:Nat}{w w':World}{x:Rcd}{cs:Array Value}(h1:w.heap[tb]?=some (.cells cs T (0,0)))(h:RecAt rb tb T n w x){o:Nat}(ho:o<n){v:Value}{d:DV}(hc:Chg rb tb w w')(h2:w'.heap[tb]?=some (.cells (cs.setIfInBounds o v) T (0,0)))(hv:HoldsD rb tb w' v d):RecAt rb tb T n w' (upd x o d):=by
 obtain⟨cs',h1',h2',h3⟩:=h
 rw[h1]at h1'
 cases h1'
 refine⟨_,h2,by simpa using h2',λ i hi=>?_⟩
 by_cases e:i=o
 ·subst e
  exact⟨v,by rw[Array.getElem?_setIfInBounds_self_of_lt (by omega)],by rw[Xc];exact hv⟩
 ·obtain⟨u,h4,h5⟩:=h3 i hi
  exact⟨u,by rw[Array.getElem?_setIfInBounds_ne (λ e2=>e e2.symm)];exact h4,by rw[Zg e];exact h5.chg hc⟩
def Qz2(tb:Nat)(T:TypeId)(n:Nat)(w:World):Prop:=∃cs,w.heap[tb]?=some (.cells cs T (0,0))∧cs.size=n
theorem RecAt.thAt{rb tb:Nat}{T:TypeId}{n:Nat}{w:World}{x:Rcd}(h:RecAt rb tb T n w x):Qz2 tb T n w:=by
 obtain⟨cs,h1,h2,_⟩:=h;exact⟨cs,h1,h2⟩
def Qgy(res:Except Flt (Rcd × Nat))(rb tb:Nat)(T:TypeId)(n:Nat)(s:ByteArray)(w:World)(e:Ending)(w':World):Prop:=
 Chg rb tb w w'∧match res with
  | .ok x=>e=.returned (.tuple #[])∧RdB w' rb s x.2 10240∧x.2≤s.size∧RecAt rb tb T n w' x.1
  | .error f=>∃fb,e=.panicked (Qcb fb)∧FltB w' fb f.1 f.2∧Qz2 tb T n w'
theorem Qd3{x:Rcd × Nat}{rb tb:Nat}{T:TypeId}{n:Nat}{s:ByteArray}{w w':World}{e:Ending}(h:Qgy (.ok x) rb tb T n s w e w'):e=.returned (.tuple #[])∧RdB w' rb s x.2 10240∧x.2≤s.size∧RecAt rb tb T n w' x.1∧Chg rb tb w w':=⟨h.2.1,h.2.2.1,h.2.2.2.1,h.2.2.2.2,h.1⟩
theorem Qco{f:Flt}{rb tb:Nat}{T:TypeId}{n:Nat}{s:ByteArray}{w w':World}{e:Ending}(h:Qgy (.error f) rb tb T n s w e w'):∃fb,e=.panicked (Qcb fb)∧FltB w' fb f.1 f.2∧Chg rb tb w w':=by
 obtain⟨h1,fb,h2,h3,h4⟩:=h;exact⟨fb,h2,h3,h1⟩
theorem Qft{f:Flt}{rb tb:Nat}{T:TypeId}{n:Nat}{s:ByteArray}{w w':World}{e:Ending}(h:Qgy (.error f) rb tb T n s w e w'):Qz2 tb T n w':=by
 obtain⟨h1,fb,h2,h3,h4⟩:=h;exact h4
def Qsp(x0:Rcd)(g:GSpec)(x:Rcd):Prop:=∀i,i ∈ g.offs→x i=x0 i
theorem RdEnv.chg{B:Nat}{w w':World}{qb rb tb:Nat}{s:ByteArray}{a a':Nat}(h:RdEnv B w qb rb s a)(hc:Chg rb tb w w')(hqt:qb≠tb)(hBt:B≤tb)(hr:RdB w' rb s a' 10240)(ha:a'≤s.size):RdEnv B w' qb rb s a':=by
 refine⟨(hc.block _ (lt_of_block h.q) h.ne hqt).trans h.q,hr,?_,h.bq,h.br,h.ne,ha,h.sz⟩
 have key:∀g l,TabAt B w g l→TabAt B w' g l:=λ g l ⟨t,tq,rc,h1,h2,h3,h4,h5⟩=>by
  have e:∀b,b<B→w'.heap[b]?=w.heap[b]?:=λ b hb=>hc.block b (by omega) (by have:=h.br;omega) (by omega)
  refine⟨t,tq,rc,h1,h2,Nat.le_trans h3 hc.size,by rw[World.cell?_of_block (w:=w) (e g h1)];exact h4,λ i hi=>?_⟩
  obtain⟨b,off,e2,hr⟩:=h5 i hi
  cases e2
  have e3:∀q,w'.cell? ⟨t,q,none⟩=w.cell? ⟨t,q,none⟩:=λ q=>World.cell?_of_block (w:=w) (e t h2)
  obtain⟨c0,c1,c2,c3⟩:=hr
  exact⟨t,tq,rfl,by constructor <;> (rw[e3];assumption)⟩
 exact⟨key _ _ h.tabs.nums,key _ _ h.tabs.lists,key _ _ h.tabs.bins,key _ _ h.tabs.strs,key _ _ h.tabs.pairs⟩
structure GSem(B qb rb tb:Nat)(x0:Rcd)(T:TypeId)(n:Nat)(s:ByteArray)(W0:World)(v:FVal)(g:GSpec):Prop where
 key:v.key=g.key
 must:v.must=g.must
 ee:∀args w,(callFunc v.ef args).run Tryz.prog w=.ok (.enter v.ef args) w
 eg:∀args w,(callFunc v.gf args).run Tryz.prog w=.ok (.enter v.gf args) w
 empty:∀w x,Chg rb tb W0 w→RecAt rb tb T n w x→Kd x0 x→Calls Tryz.prog v.ef v.ec w λ e w'=>e=.returned (.bool (g.empty x))∧Below w.heap.size w w'
 read:∀w x a,Chg rb tb W0 w→RecAt rb tb T n w x→RdEnv B w qb rb s a→Qsp x0 g x→Kd x0 x→Calls Tryz.prog v.gf (#[pt qb 0]++v.gc) w (Qgy (g.read x a) rb tb T n s w)
theorem GSem.later{B qb rb tb:Nat}{x0:Rcd}{T:TypeId}{n:Nat}{s:ByteArray}{W0 W1:World}{v:FVal}{g:GSpec}(h:GSem B qb rb tb x0 T n s W0 v g)(hk:Chg rb tb W0 W1):GSem B qb rb tb x0 T n s W1 v g:=
 ⟨h.key,h.must,h.ee,h.eg,λ w x hw=>h.empty w x (hk.trans hw),λ w x a hw=>h.read w x a (hk.trans hw)⟩
def GSems(B qb rb tb:Nat)(x0:Rcd)(T:TypeId)(n:Nat)(s:ByteArray)(W0:World)(l:List FVal)(gs:List GSpec):Prop:=len gs=len l∧∀i,i<len l→GSem B qb rb tb x0 T n s W0 (fth l i) (gth gs i)
theorem GSems.later{B qb rb tb:Nat}{x0:Rcd}{T:TypeId}{n:Nat}{s:ByteArray}{W0 W1:World}{l:List FVal}{gs:List GSpec}(h:GSems B qb rb tb x0 T n s W0 l gs)(hk:Chg rb tb W0 W1):GSems B qb rb tb x0 T n s W1 l gs:=⟨h.1,λ i hi=>(h.2 i hi).later hk⟩
theorem Q9{row:Option Nat}{w w1:World}(h:Jg row w.drew w1):Jg row w w1:=Qdx _ _ _ _ (Qhl (Zd (Below.refl _ _))) h
theorem Xq{P:Program}{o:Oper}{a:Act}{w:World}{f:FuncId}{args:Array Value}{R:Value→World→Prop}{K:Act→World→Prop}{Q:Exit→Act→World→Prop}(h:(execOp a.eval o).run P w=.ok (.enter f args) w)
  (hc:Calls P f args w (λ e w'=>∃v,e=.returned v∧R v w')) (hK:∀v w',R v w'→K (a.put o.dst v) w'):o.wp P a w K Q:=by
 unfold Oper.wp;rw[h]
 exact hc.mono λ e w' ⟨v,he,hR⟩=>by subst he;exact hK v w' hR
theorem Qml{P:Program}{o:Oper}{a:Act}{w:World}{f:FuncId}{args:Array Value}{R:Nat→World→Prop}{K:Act→World→Prop}{Q:Exit→Act→World→Prop}(h:(execOp a.eval o).run P w=.ok (.enter f args) w)
  (hc:Calls P f args w (λ e w'=>∃fb,e=.panicked (Qcb fb)∧R fb w')) (hK:∀fb w',R fb w'→Q (.panic (Qcb fb)) a w'):o.wp P a w K Q:=by
 unfold Oper.wp;rw[h]
 exact hc.mono λ e w' ⟨v,he,hR⟩=>by subst he;exact hK v w' hR
theorem Qvs(B qb rb tb o bx:Nat)(T:TypeId)(n:Nat)(s key:ByteArray)(a:Nat)(x:Rcd)(w:World)(h1:w.heap[bx]?=some (.cells #[pt tb o] 177 (0,0)))(hbr:bx≠rb)(htr:tb≠rb)(ho:o<n)
  (hx:RecAt rb tb T n w x) (h:RdEnv B w qb rb s a):Calls Tryz.prog 186 #[pt qb 0,pt bx 0] w (Qgy ((Qbl s key o).read x a) rb tb T n s w):=by
 have H:=QLh h;have HX:=QLh hx;have hqr:=h.ne;have c0:w.cell? ⟨qb,0,none⟩=some (pt rb 0):=Qa h.q 0;have c1:w.cell? ⟨bx,0,none⟩=some (pt tb o):=Qa h1 0;clear h1 hx h
 cases hr:tkR 0 s a with
 | error f=>
  have HR:Hid ((Qbl s key o).read x a=.error f):=QLh (by simp only[Qbl,Qib,hr]);have HN:Hid (∀w',Below w.heap.size w w'→Calls Tryz.prog 152 #[pt rb 0] w' (λ e w2=>∃u,e=.returned u∧((∃fb,u=.tuple #[.int .u64 0,.iface 127 (pt fb 0)]∧FltB w2 fb f.1 f.2∧fb≠rb)∧Jg (some rb) w' w2))):=QLh (λ w' hb=>(Qme w' B qb rb s a (H.out.below hb)).mono λ e w2 hh=>by rw[hr]at hh;obtain⟨fb,h1,h2,h3,h4⟩:=Qc0 hh;exact⟨_,h1,⟨fb,rfl,h2,by have:=lt_of_block H.out.r;have:=hb.size;omega⟩,h3⟩);clear hr
  go_enter Tryz.func186,Tryz.ntmps186
  refine Qp 10 5 (some rb) (Qaw [λ u _=>u=(pt tb o),λ u _=>u=(pt qb 0),λ u _=>u=(pt qb 0),λ u _=>u=(pt qb 0),λ u _=>u=(pt rb 0),λ u w'=>∃fb,u=.tuple #[.int .u64 0,.iface 127 (pt fb 0)]∧FltB w' fb f.1 f.2∧fb≠rb,λ u _=>u=(.int .u64 0),λ u w'=>∃fb,u=.iface 127 (pt fb 0)∧FltB w' fb f.1 f.2∧fb≠rb,λ _ _=>False,λ u _=>u=(pt tb o)]) rfl (by kernel_rfl) (by kernel_rfl) (Zb ⟨Qe,Qe,Qe,Qe,Qe,?m5,Qe,?m7,Qe,Qe,trivial⟩) (Q6 10 ⟨?s0,?s1,?s2,?s3,?s4,?s5,?s6,?s7,?s8,?s9,trivial⟩) ?_
  case m5=>
   exact⟨λ u w1 w2 h ⟨fb,h1,h2,h3⟩=>⟨fb,h1,h2.below h,h3⟩,λ hn=>absurd rfl hn⟩
  case m7=>
   exact⟨λ u w1 w2 h ⟨fb,h1,h2,h3⟩=>⟨fb,h1,h2.below h,h3⟩,λ _ u w1 w2 h ⟨fb,h1,h2,h3⟩=>⟨fb,h1,Qn h (λ e=>h3 (Option.some.inj e)) h2,h3⟩⟩
  case s0=>
   refine Qc (v:=(pt tb o)) (λ av wv hE hS hO hD=>?_) (λ _=>rfl)
   have f1:=QEf av 1 (pt bx 0) (hO.2.2 1 rfl);have c1:=Qd hE (λ e=>hbr (Option.some.inj e)) c1;have c0:=Qd hE (λ e=>hqr (Option.some.inj e)) c0
   refine⟨rfl,?_⟩
   simp[go_sem,f1,c1,c0]
  case s1=>
   refine Qc (v:=(pt qb 0)) (λ av wv hE hS hO hD=>?_) (λ _=>rfl)
   have f0:=QEf av 0 (pt qb 0) (hO.2.2 0 rfl)
   refine⟨rfl,?_⟩
   simp[go_sem,f0]
  case s2=>
   refine Qc (v:=(pt qb 0)) (λ av wv hE hS hO hD=>?_) (λ _=>rfl)
   have f4:=QEf av 4 (pt qb 0) (hD.1 rfl _ rfl)
   refine⟨rfl,?_⟩
   simp[go_sem,f4]
  case s3=>
   refine Qc (v:=(pt qb 0)) (λ av wv hE hS hO hD=>?_) (λ _=>rfl)
   have f5:=QEf av 5 (pt qb 0) (hD.1 rfl _ rfl)
   refine⟨rfl,?_⟩
   simp[go_sem,f5]
  case s4=>
   refine Qc (v:=(pt rb 0)) (λ av wv hE hS hO hD=>?_) (λ _=>rfl)
   have f6:=QEf av 6 (pt qb 0) (hD.1 rfl _ rfl);have c1:=Qd hE (λ e=>hbr (Option.some.inj e)) c1;have c0:=Qd hE (λ e=>hqr (Option.some.inj e)) c0
   refine⟨rfl,?_⟩
   simp[go_sem,f6,c1,c0]
  case s5=>
   refine Qo (λ av wv hE hS hO hD=>?_)
   have f7:=QEf av 7 (pt rb 0) (hD.1 rfl _ rfl)
   refine⟨rfl,?_⟩
   refine Xq (f:=152) (args:=#[pt rb 0]) (by simp[go_sem,f7]) (HN.out wv (Qk (Zd (Below.refl _ _)) (hS rfl))) (λ u w2 ⟨h1,h3⟩=>⟨u,rfl,Qcf h3,h1⟩)
  case s6=>
   refine Qo (λ av wv hE hS hO hD=>?_)
   have d8:(λ u w'=>∃fb,u=.tuple #[.int .u64 0,.iface 127 (pt fb 0)]∧FltB w' fb f.1 f.2∧fb≠rb) (av.eval (.tmp 8)) wv:=hD.1 rfl _ rfl
   refine⟨rfl,?_⟩
   obtain⟨fb,hu8,-,-⟩:=d8
   have f8:=(Qq av 8).symm.trans hu8
   exact Zn (v:=.int .u64 0) (by simp[go_sem,f8]) ⟨_,rfl,Qm (Zr _),rfl⟩
  case s7=>
   refine Qo (λ av wv hE hS hO hD=>?_)
   have d8:(λ u w'=>∃fb,u=.tuple #[.int .u64 0,.iface 127 (pt fb 0)]∧FltB w' fb f.1 f.2∧fb≠rb) (av.eval (.tmp 8)) wv:=hD.1 rfl _ rfl
   refine⟨rfl,?_⟩
   obtain⟨fb,hu8,hf8,hn8⟩:=d8
   have f8:=(Qq av 8).symm.trans hu8
   exact Zn (v:=.iface 127 (pt fb 0)) (by simp[go_sem,f8]) ⟨_,rfl,Qm (Zr _),fb,rfl,hf8,hn8⟩
  case s8=>
   refine Qo (λ av wv hE hS hO hD=>?_)
   have f9:=QEf av 9 (.int .u64 0) (hD.1 rfl _ rfl);have d10:(λ u w'=>∃fb,u=.iface 127 (pt fb 0)∧FltB w' fb f.1 f.2∧fb≠rb) (av.eval (.tmp 10)) wv:=hD.2.1 rfl _ rfl
   refine⟨rfl,?_⟩
   obtain⟨fb,hu10,hf,hn8⟩:=d10
   have f10:=(Qq av 10).symm.trans hu10
   refine Qet (chain:=Qcb fb) (by simp[go_sem,f9,f10]) ((Qig 0 fb wv).mono (λ e w2 ⟨h1,h2⟩=>⟨h1,by rw[h2];exact Below.refl _ _⟩)) (λ w2 hb=>?_)
   exact⟨hO.1,by rw[HR.out];exact⟨(Chg.of_ext (Q9 hE)).next hb,fb,rfl,hf.below hb,((HX.out.ext (Q9 hE) htr).below hb).thAt⟩⟩
  case s9=>
   refine Qc (v:=(pt tb o)) (λ av wv hE hS hO hD=>?_) (λ _=>rfl)
   have f3:=QEf av 3 (pt tb o) (hD.1 rfl _ rfl)
   refine⟨rfl,?_⟩
   simp[go_sem,f3]
  intro a' w' hE hO hall
  have hA:=Ql (ds:=[3,4,5,6,7,8,9,10,11,12]) rfl hO (by kernel_rfl);have e3:a'.eval (.tmp 3)=(pt tb o):=hall.1 _ rfl;have e4:a'.eval (.tmp 4)=(pt qb 0):=hall.2.1 _ rfl;have e5:a'.eval (.tmp 5)=(pt qb 0):=hall.2.2.1 _ rfl;have e6:a'.eval (.tmp 6)=(pt qb 0):=hall.2.2.2.1 _ rfl;have e7:a'.eval (.tmp 7)=(pt rb 0):=hall.2.2.2.2.1 _ rfl;have e8:(λ u w'=>∃fb,u=.tuple #[.int .u64 0,.iface 127 (pt fb 0)]∧FltB w' fb f.1 f.2∧fb≠rb) (a'.eval (.tmp 8)) w':=hall.2.2.2.2.2.1 _ rfl;have e9:a'.eval (.tmp 9)=(.int .u64 0):=hall.2.2.2.2.2.2.1 _ rfl;have e10:(λ u w'=>∃fb,u=.iface 127 (pt fb 0)∧FltB w' fb f.1 f.2∧fb≠rb) (a'.eval (.tmp 10)) w':=hall.2.2.2.2.2.2.2.1 _ rfl;have e11:(λ _ _=>False) (a'.eval (.tmp 11)) w':=hall.2.2.2.2.2.2.2.2.1 _ rfl;have e12:a'.eval (.tmp 12)=(pt tb o):=hall.2.2.2.2.2.2.2.2.2.1 _ rfl
  obtain⟨v8,hv8⟩:∃v,a'.eval (.tmp 8)=v:=⟨_,rfl⟩
  rw[hv8]at e8
  obtain⟨v10,hv10⟩:∃v,a'.eval (.tmp 10)=v:=⟨_,rfl⟩
  rw[hv10]at e10
  obtain⟨v11,hv11⟩:∃v,a'.eval (.tmp 11)=v:=⟨_,rfl⟩
  rw[hv11]at e11
  simp only[List.foldl_cons,List.foldl_nil,Act.put,List.setIfInBounds_toArray,List.set_cons_succ,List.set_cons_zero,e3,e4,e5,e6,e7,hv8,e9,hv10,hv11,e12]at hA
  clear hO hall e3 e4 e5 e6 e7 hv8 e9 hv10 hv11 e12
  subst hA
  exact e11.elim
 | ok y=>
  have HR:Hid ((Qbl s key o).read x a=.ok (upd x o (.num y.1),y.2.2)):=QLh (by simp only[Qbl,Qib,hr]);have HN:Hid (∀w',Below w.heap.size w w'→Calls Tryz.prog 152 #[pt rb 0] w' (λ e w2=>∃u,e=.returned u∧(u=.tuple #[.int .u64 y.1,.nilIface]∧RdB w2 rb s y.2.2 10240∧Jg (some rb) w' w2))):=QLh (λ w' hb=>(Qme w' B qb rb s a (H.out.below hb)).mono λ e w2 hh=>by rw[hr]at hh;obtain⟨h1,h2,h3⟩:=Qew hh;exact⟨_,h1,rfl,h2,h3⟩);have hle:y.2.2≤s.size:=(Qck (by decide) hr).1;clear hr
  go_enter Tryz.func186,Tryz.ntmps186
  refine Qp 10 5 (some rb) (Qaw [λ u _=>u=(pt tb o),λ u _=>u=(pt qb 0),λ u _=>u=(pt qb 0),λ u _=>u=(pt qb 0),λ u _=>u=(pt rb 0),λ u w'=>u=.tuple #[.int .u64 y.1,.nilIface]∧RdB w' rb s y.2.2 10240,λ u _=>u=(.int .u64 y.1),λ u _=>u=(.nilIface),λ u _=>u=(.int .u64 y.1),λ u _=>u=(pt tb o)]) rfl (by kernel_rfl) (by kernel_rfl) (Zb ⟨Qe,Qe,Qe,Qe,Qe,?m5,Qe,Qe,Qe,Qe,trivial⟩) (Q6 10 ⟨?s0,?s1,?s2,?s3,?s4,?s5,?s6,?s7,?s8,?s9,trivial⟩) ?_
  case m5=>
   exact⟨λ u w1 w2 h ⟨h1,h2⟩=>⟨h1,h2.below h⟩,λ hn=>absurd rfl hn⟩
  case s0=>
   refine Qc (v:=(pt tb o)) (λ av wv hE hS hO hD=>?_) (λ _=>rfl)
   have f1:=QEf av 1 (pt bx 0) (hO.2.2 1 rfl);have c1:=Qd hE (λ e=>hbr (Option.some.inj e)) c1;have c0:=Qd hE (λ e=>hqr (Option.some.inj e)) c0
   refine⟨rfl,?_⟩
   simp[go_sem,f1,c1,c0]
  case s1=>
   refine Qc (v:=(pt qb 0)) (λ av wv hE hS hO hD=>?_) (λ _=>rfl)
   have f0:=QEf av 0 (pt qb 0) (hO.2.2 0 rfl)
   refine⟨rfl,?_⟩
   simp[go_sem,f0]
  case s2=>
   refine Qc (v:=(pt qb 0)) (λ av wv hE hS hO hD=>?_) (λ _=>rfl)
   have f4:=QEf av 4 (pt qb 0) (hD.1 rfl _ rfl)
   refine⟨rfl,?_⟩
   simp[go_sem,f4]
  case s3=>
   refine Qc (v:=(pt qb 0)) (λ av wv hE hS hO hD=>?_) (λ _=>rfl)
   have f5:=QEf av 5 (pt qb 0) (hD.1 rfl _ rfl)
   refine⟨rfl,?_⟩
   simp[go_sem,f5]
  case s4=>
   refine Qc (v:=(pt rb 0)) (λ av wv hE hS hO hD=>?_) (λ _=>rfl)
   have f6:=QEf av 6 (pt qb 0) (hD.1 rfl _ rfl);have c1:=Qd hE (λ e=>hbr (Option.some.inj e)) c1;have c0:=Qd hE (λ e=>hqr (Option.some.inj e)) c0
   refine⟨rfl,?_⟩
   simp[go_sem,f6,c1,c0]
  case s5=>
   refine Qo (λ av wv hE hS hO hD=>?_)
   have f7:=QEf av 7 (pt rb 0) (hD.1 rfl _ rfl)
   refine⟨rfl,?_⟩
   refine Xq (f:=152) (args:=#[pt rb 0]) (by simp[go_sem,f7]) (HN.out wv (Qk (Zd (Below.refl _ _)) (hS rfl))) (λ u w2 ⟨h1,h2,h3⟩=>⟨u,rfl,Qcf h3,h1,h2⟩)
  case s6=>
   refine Qo (λ av wv hE hS hO hD=>?_)
   have d8:(λ u w'=>u=.tuple #[.int .u64 y.1,.nilIface]∧RdB w' rb s y.2.2 10240) (av.eval (.tmp 8)) wv:=hD.1 rfl _ rfl
   refine⟨rfl,?_⟩
   have f8:=(Qq av 8).symm.trans d8.1
   exact Zn (v:=.int .u64 y.1) (by simp[go_sem,f8]) ⟨_,rfl,Qm (Zr _),rfl⟩
  case s7=>
   refine Qo (λ av wv hE hS hO hD=>?_)
   have d8:(λ u w'=>u=.tuple #[.int .u64 y.1,.nilIface]∧RdB w' rb s y.2.2 10240) (av.eval (.tmp 8)) wv:=hD.1 rfl _ rfl
   refine⟨rfl,?_⟩
   have f8:=(Qq av 8).symm.trans d8.1
   exact Zn (v:=.nilIface) (by simp[go_sem,f8]) ⟨_,rfl,Qm (Zr _),rfl⟩
  case s8=>
   refine Qo (λ av wv hE hS hO hD=>?_)
   have f9:=QEf av 9 (.int .u64 y.1) (hD.1 rfl _ rfl);have f10:=QEf av 10 (.nilIface) (hD.2.1 rfl _ rfl)
   refine⟨rfl,?_⟩
   refine Qa0 (v:=.int .u64 y.1) (by simp[go_sem,f9,f10]) ((Qif y.1 wv).mono (λ e w2 ⟨h1,h2⟩=>⟨h1,by rw[h2];exact Below.refl _ _⟩)) (λ w2 hb=>⟨_,rfl,Qm hb,rfl⟩)
  case s9=>
   refine Qc (v:=(pt tb o)) (λ av wv hE hS hO hD=>?_) (λ _=>rfl)
   have f3:=QEf av 3 (pt tb o) (hD.1 rfl _ rfl)
   refine⟨rfl,?_⟩
   simp[go_sem,f3]
  intro a' w' hE hO hall
  have hA:=Ql (ds:=[3,4,5,6,7,8,9,10,11,12]) rfl hO (by kernel_rfl);have e3:a'.eval (.tmp 3)=(pt tb o):=hall.1 _ rfl;have e4:a'.eval (.tmp 4)=(pt qb 0):=hall.2.1 _ rfl;have e5:a'.eval (.tmp 5)=(pt qb 0):=hall.2.2.1 _ rfl;have e6:a'.eval (.tmp 6)=(pt qb 0):=hall.2.2.2.1 _ rfl;have e7:a'.eval (.tmp 7)=(pt rb 0):=hall.2.2.2.2.1 _ rfl;have e8:(λ u w'=>u=.tuple #[.int .u64 y.1,.nilIface]∧RdB w' rb s y.2.2 10240) (a'.eval (.tmp 8)) w':=hall.2.2.2.2.2.1 _ rfl;have e9:a'.eval (.tmp 9)=(.int .u64 y.1):=hall.2.2.2.2.2.2.1 _ rfl;have e10:a'.eval (.tmp 10)=(.nilIface):=hall.2.2.2.2.2.2.2.1 _ rfl;have e11:a'.eval (.tmp 11)=(.int .u64 y.1):=hall.2.2.2.2.2.2.2.2.1 _ rfl;have e12:a'.eval (.tmp 12)=(pt tb o):=hall.2.2.2.2.2.2.2.2.2.1 _ rfl
  obtain⟨v8,hv8⟩:∃v,a'.eval (.tmp 8)=v:=⟨_,rfl⟩
  rw[hv8]at e8
  simp only[List.foldl_cons,List.foldl_nil,Act.put,List.setIfInBounds_toArray,List.set_cons_succ,List.set_cons_zero,e3,e4,e5,e6,e7,hv8,e9,e10,e11,e12]at hA
  clear hO hall e3 e4 e5 e6 e7 hv8 e9 e10 e11 e12
  subst hA
  have HRD:=QLh e8.2;have hX2:=HX.out.ext (Q9 hE) htr
  obtain⟨u,hu,-⟩:=hX2.get ho
  have hfz:=hX2.free o;have HX2:=QLh hX2;have HE:=QLh (Q9 hE);have e81:=e8.1;clear hE hX2 e8
  subst e81
  go_wp2
  go_end0
  rw[HR.out]
  exact⟨(Chg.of_ext HE.out).set o _,rfl,Qg HRD.out (by exact λ e=>htr e.symm) _,hle,HX2.out.set ho rfl⟩
theorem Qsq(B qb rb tb o bx:Nat)(T:TypeId)(n:Nat)(s key:ByteArray)(a:Nat)(x:Rcd)(w:World)(h1:w.heap[bx]?=some (.cells #[pt tb o] 179 (0,0)))(hbr:bx≠rb)(htr:tb≠rb)(ho:o<n)
  (hx:RecAt rb tb T n w x) (h:RdEnv B w qb rb s a):Calls Tryz.prog 189 #[pt qb 0,pt bx 0] w (Qgy ((Qam s key o).read x a) rb tb T n s w):=by
 have H:=QLh h;have HX:=QLh hx;have hqr:=h.ne;have c0:w.cell? ⟨qb,0,none⟩=some (pt rb 0):=Qa h.q 0;have c1:w.cell? ⟨bx,0,none⟩=some (pt tb o):=Qa h1 0;clear h1 hx h
 cases hr:tkR 0 s a with
 | error f=>
  have HR:Hid ((Qam s key o).read x a=.error f):=QLh (by simp only[Qam,Qib,hr]);have HN:Hid (∀w',Below w.heap.size w w'→Calls Tryz.prog 152 #[pt rb 0] w' (λ e w2=>∃u,e=.returned u∧((∃fb,u=.tuple #[.int .u64 0,.iface 127 (pt fb 0)]∧FltB w2 fb f.1 f.2∧fb≠rb)∧Jg (some rb) w' w2))):=QLh (λ w' hb=>(Qme w' B qb rb s a (H.out.below hb)).mono λ e w2 hh=>by rw[hr]at hh;obtain⟨fb,h1,h2,h3,h4⟩:=Qc0 hh;exact⟨_,h1,⟨fb,rfl,h2,by have:=lt_of_block H.out.r;have:=hb.size;omega⟩,h3⟩);clear hr
  go_enter Tryz.func189,Tryz.ntmps189
  refine Qp 11 5 (some rb) (Qaw [λ u _=>u=(pt tb o),λ u _=>u=(pt qb 0),λ u _=>u=(pt qb 0),λ u _=>u=(pt qb 0),λ u _=>u=(pt rb 0),λ u w'=>∃fb,u=.tuple #[.int .u64 0,.iface 127 (pt fb 0)]∧FltB w' fb f.1 f.2∧fb≠rb,λ u _=>u=(.int .u64 0),λ u w'=>∃fb,u=.iface 127 (pt fb 0)∧FltB w' fb f.1 f.2∧fb≠rb,λ _ _=>False,λ _ _=>True,λ u _=>u=(pt tb o)]) rfl (by kernel_rfl) (by kernel_rfl) (Zb ⟨Qe,Qe,Qe,Qe,Qe,?m5,Qe,?m7,Qe,Qe,Qe,trivial⟩) (Q6 11 ⟨?s0,?s1,?s2,?s3,?s4,?s5,?s6,?s7,?s8,?s9,?s10,trivial⟩) ?_
  case m5=>
   exact⟨λ u w1 w2 h ⟨fb,h1,h2,h3⟩=>⟨fb,h1,h2.below h,h3⟩,λ hn=>absurd rfl hn⟩
  case m7=>
   exact⟨λ u w1 w2 h ⟨fb,h1,h2,h3⟩=>⟨fb,h1,h2.below h,h3⟩,λ _ u w1 w2 h ⟨fb,h1,h2,h3⟩=>⟨fb,h1,Qn h (λ e=>h3 (Option.some.inj e)) h2,h3⟩⟩
  case s0=>
   refine Qc (v:=(pt tb o)) (λ av wv hE hS hO hD=>?_) (λ _=>rfl)
   have f1:=QEf av 1 (pt bx 0) (hO.2.2 1 rfl);have c1:=Qd hE (λ e=>hbr (Option.some.inj e)) c1;have c0:=Qd hE (λ e=>hqr (Option.some.inj e)) c0
   refine⟨rfl,?_⟩
   simp[go_sem,f1,c1,c0]
  case s1=>
   refine Qc (v:=(pt qb 0)) (λ av wv hE hS hO hD=>?_) (λ _=>rfl)
   have f0:=QEf av 0 (pt qb 0) (hO.2.2 0 rfl)
   refine⟨rfl,?_⟩
   simp[go_sem,f0]
  case s2=>
   refine Qc (v:=(pt qb 0)) (λ av wv hE hS hO hD=>?_) (λ _=>rfl)
   have f4:=QEf av 4 (pt qb 0) (hD.1 rfl _ rfl)
   refine⟨rfl,?_⟩
   simp[go_sem,f4]
  case s3=>
   refine Qc (v:=(pt qb 0)) (λ av wv hE hS hO hD=>?_) (λ _=>rfl)
   have f5:=QEf av 5 (pt qb 0) (hD.1 rfl _ rfl)
   refine⟨rfl,?_⟩
   simp[go_sem,f5]
  case s4=>
   refine Qc (v:=(pt rb 0)) (λ av wv hE hS hO hD=>?_) (λ _=>rfl)
   have f6:=QEf av 6 (pt qb 0) (hD.1 rfl _ rfl);have c1:=Qd hE (λ e=>hbr (Option.some.inj e)) c1;have c0:=Qd hE (λ e=>hqr (Option.some.inj e)) c0
   refine⟨rfl,?_⟩
   simp[go_sem,f6,c1,c0]
  case s5=>
   refine Qo (λ av wv hE hS hO hD=>?_)
   have f7:=QEf av 7 (pt rb 0) (hD.1 rfl _ rfl)
   refine⟨rfl,?_⟩
   refine Xq (f:=152) (args:=#[pt rb 0]) (by simp[go_sem,f7]) (HN.out wv (Qk (Zd (Below.refl _ _)) (hS rfl))) (λ u w2 ⟨h1,h3⟩=>⟨u,rfl,Qcf h3,h1⟩)
  case s6=>
   refine Qo (λ av wv hE hS hO hD=>?_)
   have d8:(λ u w'=>∃fb,u=.tuple #[.int .u64 0,.iface 127 (pt fb 0)]∧FltB w' fb f.1 f.2∧fb≠rb) (av.eval (.tmp 8)) wv:=hD.1 rfl _ rfl
   refine⟨rfl,?_⟩
   obtain⟨fb,hu8,-,-⟩:=d8
   have f8:=(Qq av 8).symm.trans hu8
   exact Zn (v:=.int .u64 0) (by simp[go_sem,f8]) ⟨_,rfl,Qm (Zr _),rfl⟩
  case s7=>
   refine Qo (λ av wv hE hS hO hD=>?_)
   have d8:(λ u w'=>∃fb,u=.tuple #[.int .u64 0,.iface 127 (pt fb 0)]∧FltB w' fb f.1 f.2∧fb≠rb) (av.eval (.tmp 8)) wv:=hD.1 rfl _ rfl
   refine⟨rfl,?_⟩
   obtain⟨fb,hu8,hf8,hn8⟩:=d8
   have f8:=(Qq av 8).symm.trans hu8
   exact Zn (v:=.iface 127 (pt fb 0)) (by simp[go_sem,f8]) ⟨_,rfl,Qm (Zr _),fb,rfl,hf8,hn8⟩
  case s8=>
   refine Qo (λ av wv hE hS hO hD=>?_)
   have f9:=QEf av 9 (.int .u64 0) (hD.1 rfl _ rfl);have d10:(λ u w'=>∃fb,u=.iface 127 (pt fb 0)∧FltB w' fb f.1 f.2∧fb≠rb) (av.eval (.tmp 10)) wv:=hD.2.1 rfl _ rfl
   refine⟨rfl,?_⟩
   obtain⟨fb,hu10,hf,hn8⟩:=d10
   have f10:=(Qq av 10).symm.trans hu10
   refine Qet (chain:=Qcb fb) (by simp[go_sem,f9,f10]) ((Qig 0 fb wv).mono (λ e w2 ⟨h1,h2⟩=>⟨h1,by rw[h2];exact Below.refl _ _⟩)) (λ w2 hb=>?_)
   exact⟨hO.1,by rw[HR.out];exact⟨(Chg.of_ext (Q9 hE)).next hb,fb,rfl,hf.below hb,((HX.out.ext (Q9 hE) htr).below hb).thAt⟩⟩
  case s9=>
   refine Qo (λ av wv hE hS hO hD=>?_)
   have d11:(λ _ _=>False) (av.eval (.tmp 11)) wv:=hD.1 rfl _ rfl
   refine⟨rfl,?_⟩
   exact d11.elim
  case s10=>
   refine Qc (v:=(pt tb o)) (λ av wv hE hS hO hD=>?_) (λ _=>rfl)
   have f3:=QEf av 3 (pt tb o) (hD.1 rfl _ rfl)
   refine⟨rfl,?_⟩
   simp[go_sem,f3]
  intro a' w' hE hO hall
  have hA:=Ql (ds:=[3,4,5,6,7,8,9,10,11,12,13]) rfl hO (by kernel_rfl);have e3:a'.eval (.tmp 3)=(pt tb o):=hall.1 _ rfl;have e4:a'.eval (.tmp 4)=(pt qb 0):=hall.2.1 _ rfl;have e5:a'.eval (.tmp 5)=(pt qb 0):=hall.2.2.1 _ rfl;have e6:a'.eval (.tmp 6)=(pt qb 0):=hall.2.2.2.1 _ rfl;have e7:a'.eval (.tmp 7)=(pt rb 0):=hall.2.2.2.2.1 _ rfl;have e8:(λ u w'=>∃fb,u=.tuple #[.int .u64 0,.iface 127 (pt fb 0)]∧FltB w' fb f.1 f.2∧fb≠rb) (a'.eval (.tmp 8)) w':=hall.2.2.2.2.2.1 _ rfl;have e9:a'.eval (.tmp 9)=(.int .u64 0):=hall.2.2.2.2.2.2.1 _ rfl;have e10:(λ u w'=>∃fb,u=.iface 127 (pt fb 0)∧FltB w' fb f.1 f.2∧fb≠rb) (a'.eval (.tmp 10)) w':=hall.2.2.2.2.2.2.2.1 _ rfl;have e11:(λ _ _=>False) (a'.eval (.tmp 11)) w':=hall.2.2.2.2.2.2.2.2.1 _ rfl;have e12:(λ _ _=>True) (a'.eval (.tmp 12)) w':=hall.2.2.2.2.2.2.2.2.2.1 _ rfl;have e13:a'.eval (.tmp 13)=(pt tb o):=hall.2.2.2.2.2.2.2.2.2.2.1 _ rfl
  obtain⟨v8,hv8⟩:∃v,a'.eval (.tmp 8)=v:=⟨_,rfl⟩
  rw[hv8]at e8
  obtain⟨v10,hv10⟩:∃v,a'.eval (.tmp 10)=v:=⟨_,rfl⟩
  rw[hv10]at e10
  obtain⟨v11,hv11⟩:∃v,a'.eval (.tmp 11)=v:=⟨_,rfl⟩
  rw[hv11]at e11
  obtain⟨v12,hv12⟩:∃v,a'.eval (.tmp 12)=v:=⟨_,rfl⟩
  rw[hv12]at e12
  simp only[List.foldl_cons,List.foldl_nil,Act.put,List.setIfInBounds_toArray,List.set_cons_succ,List.set_cons_zero,e3,e4,e5,e6,e7,hv8,e9,hv10,hv11,hv12,e13]at hA
  clear hO hall e3 e4 e5 e6 e7 hv8 e9 hv10 hv11 hv12 e13
  subst hA
  exact e11.elim
 | ok y=>
  have HR:Hid ((Qam s key o).read x a=.ok (upd x o (.flag (y.1 == 1)),y.2.2)):=QLh (by simp only[Qam,Qib,hr]);have HN:Hid (∀w',Below w.heap.size w w'→Calls Tryz.prog 152 #[pt rb 0] w' (λ e w2=>∃u,e=.returned u∧(u=.tuple #[.int .u64 y.1,.nilIface]∧RdB w2 rb s y.2.2 10240∧Jg (some rb) w' w2))):=QLh (λ w' hb=>(Qme w' B qb rb s a (H.out.below hb)).mono λ e w2 hh=>by rw[hr]at hh;obtain⟨h1,h2,h3⟩:=Qew hh;exact⟨_,h1,rfl,h2,h3⟩);have hle:y.2.2≤s.size:=(Qck (by decide) hr).1;clear hr
  go_enter Tryz.func189,Tryz.ntmps189
  refine Qp 11 5 (some rb) (Qaw [λ u _=>u=(pt tb o),λ u _=>u=(pt qb 0),λ u _=>u=(pt qb 0),λ u _=>u=(pt qb 0),λ u _=>u=(pt rb 0),λ u w'=>u=.tuple #[.int .u64 y.1,.nilIface]∧RdB w' rb s y.2.2 10240,λ u _=>u=(.int .u64 y.1),λ u _=>u=(.nilIface),λ u _=>u=(.int .u64 y.1),λ u _=>u=(.bool (y.1 == 1)),λ u _=>u=(pt tb o)]) rfl (by kernel_rfl) (by kernel_rfl) (Zb ⟨Qe,Qe,Qe,Qe,Qe,?m5,Qe,Qe,Qe,Qe,Qe,trivial⟩) (Q6 11 ⟨?s0,?s1,?s2,?s3,?s4,?s5,?s6,?s7,?s8,?s9,?s10,trivial⟩) ?_
  case m5=>
   exact⟨λ u w1 w2 h ⟨h1,h2⟩=>⟨h1,h2.below h⟩,λ hn=>absurd rfl hn⟩
  case s0=>
   refine Qc (v:=(pt tb o)) (λ av wv hE hS hO hD=>?_) (λ _=>rfl)
   have f1:=QEf av 1 (pt bx 0) (hO.2.2 1 rfl);have c1:=Qd hE (λ e=>hbr (Option.some.inj e)) c1;have c0:=Qd hE (λ e=>hqr (Option.some.inj e)) c0
   refine⟨rfl,?_⟩
   simp[go_sem,f1,c1,c0]
  case s1=>
   refine Qc (v:=(pt qb 0)) (λ av wv hE hS hO hD=>?_) (λ _=>rfl)
   have f0:=QEf av 0 (pt qb 0) (hO.2.2 0 rfl)
   refine⟨rfl,?_⟩
   simp[go_sem,f0]
  case s2=>
   refine Qc (v:=(pt qb 0)) (λ av wv hE hS hO hD=>?_) (λ _=>rfl)
   have f4:=QEf av 4 (pt qb 0) (hD.1 rfl _ rfl)
   refine⟨rfl,?_⟩
   simp[go_sem,f4]
  case s3=>
   refine Qc (v:=(pt qb 0)) (λ av wv hE hS hO hD=>?_) (λ _=>rfl)
   have f5:=QEf av 5 (pt qb 0) (hD.1 rfl _ rfl)
   refine⟨rfl,?_⟩
   simp[go_sem,f5]
  case s4=>
   refine Qc (v:=(pt rb 0)) (λ av wv hE hS hO hD=>?_) (λ _=>rfl)
   have f6:=QEf av 6 (pt qb 0) (hD.1 rfl _ rfl);have c1:=Qd hE (λ e=>hbr (Option.some.inj e)) c1;have c0:=Qd hE (λ e=>hqr (Option.some.inj e)) c0
   refine⟨rfl,?_⟩
   simp[go_sem,f6,c1,c0]
  case s5=>
   refine Qo (λ av wv hE hS hO hD=>?_)
   have f7:=QEf av 7 (pt rb 0) (hD.1 rfl _ rfl)
   refine⟨rfl,?_⟩
   refine Xq (f:=152) (args:=#[pt rb 0]) (by simp[go_sem,f7]) (HN.out wv (Qk (Zd (Below.refl _ _)) (hS rfl))) (λ u w2 ⟨h1,h2,h3⟩=>⟨u,rfl,Qcf h3,h1,h2⟩)
  case s6=>
   refine Qo (λ av wv hE hS hO hD=>?_)
   have d8:(λ u w'=>u=.tuple #[.int .u64 y.1,.nilIface]∧RdB w' rb s y.2.2 10240) (av.eval (.tmp 8)) wv:=hD.1 rfl _ rfl
   refine⟨rfl,?_⟩
   have f8:=(Qq av 8).symm.trans d8.1
   exact Zn (v:=.int .u64 y.1) (by simp[go_sem,f8]) ⟨_,rfl,Qm (Zr _),rfl⟩
  case s7=>
   refine Qo (λ av wv hE hS hO hD=>?_)
   have d8:(λ u w'=>u=.tuple #[.int .u64 y.1,.nilIface]∧RdB w' rb s y.2.2 10240) (av.eval (.tmp 8)) wv:=hD.1 rfl _ rfl
   refine⟨rfl,?_⟩
   have f8:=(Qq av 8).symm.trans d8.1
   exact Zn (v:=.nilIface) (by simp[go_sem,f8]) ⟨_,rfl,Qm (Zr _),rfl⟩
  case s8=>
   refine Qo (λ av wv hE hS hO hD=>?_)
   have f9:=QEf av 9 (.int .u64 y.1) (hD.1 rfl _ rfl);have f10:=QEf av 10 (.nilIface) (hD.2.1 rfl _ rfl)
   refine⟨rfl,?_⟩
   refine Qa0 (v:=.int .u64 y.1) (by simp[go_sem,f9,f10]) ((Qif y.1 wv).mono (λ e w2 ⟨h1,h2⟩=>⟨h1,by rw[h2];exact Below.refl _ _⟩)) (λ w2 hb=>⟨_,rfl,Qm hb,rfl⟩)
  case s9=>
   refine Qc (v:=(.bool (y.1 == 1))) (λ av wv hE hS hO hD=>?_) (λ _=>rfl)
   have f11:=QEf av 11 (.int .u64 y.1) (hD.1 rfl _ rfl)
   refine⟨rfl,?_⟩
   simp[go_sem,f11]
  case s10=>
   refine Qc (v:=(pt tb o)) (λ av wv hE hS hO hD=>?_) (λ _=>rfl)
   have f3:=QEf av 3 (pt tb o) (hD.1 rfl _ rfl)
   refine⟨rfl,?_⟩
   simp[go_sem,f3]
  intro a' w' hE hO hall
  have hA:=Ql (ds:=[3,4,5,6,7,8,9,10,11,12,13]) rfl hO (by kernel_rfl);have e3:a'.eval (.tmp 3)=(pt tb o):=hall.1 _ rfl;have e4:a'.eval (.tmp 4)=(pt qb 0):=hall.2.1 _ rfl;have e5:a'.eval (.tmp 5)=(pt qb 0):=hall.2.2.1 _ rfl;have e6:a'.eval (.tmp 6)=(pt qb 0):=hall.2.2.2.1 _ rfl;have e7:a'.eval (.tmp 7)=(pt rb 0):=hall.2.2.2.2.1 _ rfl;have e8:(λ u w'=>u=.tuple #[.int .u64 y.1,.nilIface]∧RdB w' rb s y.2.2 10240) (a'.eval (.tmp 8)) w':=hall.2.2.2.2.2.1 _ rfl;have e9:a'.eval (.tmp 9)=(.int .u64 y.1):=hall.2.2.2.2.2.2.1 _ rfl;have e10:a'.eval (.tmp 10)=(.nilIface):=hall.2.2.2.2.2.2.2.1 _ rfl;have e11:a'.eval (.tmp 11)=(.int .u64 y.1):=hall.2.2.2.2.2.2.2.2.1 _ rfl;have e12:a'.eval (.tmp 12)=(.bool (y.1 == 1)):=hall.2.2.2.2.2.2.2.2.2.1 _ rfl;have e13:a'.eval (.tmp 13)=(pt tb o):=hall.2.2.2.2.2.2.2.2.2.2.1 _ rfl
  obtain⟨v8,hv8⟩:∃v,a'.eval (.tmp 8)=v:=⟨_,rfl⟩
  rw[hv8]at e8
  simp only[List.foldl_cons,List.foldl_nil,Act.put,List.setIfInBounds_toArray,List.set_cons_succ,List.set_cons_zero,e3,e4,e5,e6,e7,hv8,e9,e10,e11,e12,e13]at hA
  clear hO hall e3 e4 e5 e6 e7 hv8 e9 e10 e11 e12 e13
  subst hA
  have HRD:=QLh e8.2;have hX2:=HX.out.ext (Q9 hE) htr
  obtain⟨u,hu,-⟩:=hX2.get ho
  have hfz:=hX2.free o;have HX2:=QLh hX2;have HE:=QLh (Q9 hE);have e81:=e8.1;clear hE hX2 e8
  subst e81
  go_wp2
  go_end0
  rw[HR.out]
  exact⟨(Chg.of_ext HE.out).set o _,rfl,Qg HRD.out (by exact λ e=>htr e.symm) _,hle,HX2.out.set ho rfl⟩
theorem Qyp{s:ByteArray}{a:Nat}{y:ByteArray × Nat}(h:Qfp s a=.ok y):y.2≤s.size:=by
 unfold Qfp at h
 split at h
 ·cases h
 ·next x hx=>
  split at h
  ·cases h;exact(Qck (by decide) hx).1
  ·cases h
theorem Qn8(B qb rb tb o bx:Nat)(T:TypeId)(n:Nat)(s key:ByteArray)(a:Nat)(x:Rcd)(w:World)(h1:w.heap[bx]?=some (.cells #[pt tb o] 181 (0,0)))(hbr:bx≠rb)(htr:tb≠rb)(ho:o<n)
  (hx:RecAt rb tb T n w x) (h:RdEnv B w qb rb s a):Calls Tryz.prog 194 #[pt qb 0,pt bx 0] w (Qgy ((Qb4 s key o).read x a) rb tb T n s w):=by
 have H:=QLh h;have HX:=QLh hx;have hqr:=h.ne;have c0:w.cell? ⟨qb,0,none⟩=some (pt rb 0):=Qa h.q 0;have c1:w.cell? ⟨bx,0,none⟩=some (pt tb o):=Qa h1 0;clear h1 hx h
 cases hr:Qfp s a with
 | error f=>
  have HR:Hid ((Qb4 s key o).read x a=.error f):=QLh (by simp only[Qb4,hr]);have HN:Hid (∀w',Below w.heap.size w w'→Calls Tryz.prog 195 #[pt qb 0] w' (λ e w2=>∃fb,e=.panicked (Qcb fb)∧(FltB w2 fb f.1 f.2∧Jg (some rb) w' w2))):=QLh (λ w' hb=>(Qgv B qb rb s a w' (H.out.below hb)).mono λ e w2 hh=>by rw[hr]at hh;obtain⟨fb,h1,h2,h3⟩:=Qih hh;exact⟨fb,h1,h2,h3⟩);clear hr
  go_enter Tryz.func194,Tryz.ntmps194
  refine Qp 4 2 (some rb) (Qaw [λ u _=>u=(pt tb o),λ u _=>u=(pt qb 0),λ _ _=>False,λ u _=>u=(pt tb o)]) rfl (by kernel_rfl) (by kernel_rfl) (Zb ⟨Qe,Qe,Qe,Qe,trivial⟩) (Q6 4 ⟨?s0,?s1,?s2,?s3,trivial⟩) ?_
  case s0=>
   refine Qc (v:=(pt tb o)) (λ av wv hE hS hO hD=>?_) (λ _=>rfl)
   have f1:=QEf av 1 (pt bx 0) (hO.2.2 1 rfl);have c1:=Qd hE (λ e=>hbr (Option.some.inj e)) c1;have c0:=Qd hE (λ e=>hqr (Option.some.inj e)) c0
   refine⟨rfl,?_⟩
   simp[go_sem,f1,c1,c0]
  case s1=>
   refine Qc (v:=(pt qb 0)) (λ av wv hE hS hO hD=>?_) (λ _=>rfl)
   have f0:=QEf av 0 (pt qb 0) (hO.2.2 0 rfl)
   refine⟨rfl,?_⟩
   simp[go_sem,f0]
  case s2=>
   refine Qo (λ av wv hE hS hO hD=>?_)
   have f4:=QEf av 4 (pt qb 0) (hD.1 rfl _ rfl)
   refine⟨rfl,?_⟩
   refine Qml (f:=195) (args:=#[pt qb 0]) (by simp[go_sem,f4]) (HN.out wv (Qk (Zd (Below.refl _ _)) (hS rfl))) (λ fb w2 ⟨hf,hE2⟩=>?_)
   exact⟨hO.1,by rw[HR.out];exact⟨(Chg.of_ext (Q9 hE)).ext hE2,fb,rfl,hf,((HX.out.ext (Q9 hE) htr).ext hE2 htr).thAt⟩⟩
  case s3=>
   refine Qc (v:=(pt tb o)) (λ av wv hE hS hO hD=>?_) (λ _=>rfl)
   have f3:=QEf av 3 (pt tb o) (hD.1 rfl _ rfl)
   refine⟨rfl,?_⟩
   simp[go_sem,f3]
  intro a' w' hE hO hall
  have hA:=Ql (ds:=[3,4,5,6]) rfl hO (by kernel_rfl);have e3:a'.eval (.tmp 3)=(pt tb o):=hall.1 _ rfl;have e4:a'.eval (.tmp 4)=(pt qb 0):=hall.2.1 _ rfl;have e5:(λ _ _=>False) (a'.eval (.tmp 5)) w':=hall.2.2.1 _ rfl;have e6:a'.eval (.tmp 6)=(pt tb o):=hall.2.2.2.1 _ rfl
  obtain⟨v5,hv5⟩:∃v,a'.eval (.tmp 5)=v:=⟨_,rfl⟩
  rw[hv5]at e5
  simp only[List.foldl_cons,List.foldl_nil,Act.put,List.setIfInBounds_toArray,List.set_cons_succ,List.set_cons_zero,e3,e4,hv5,e6]at hA
  clear hO hall e3 e4 hv5 e6
  subst hA
  exact e5.elim
 | ok y=>
  have HR:Hid ((Qb4 s key o).read x a=.ok (upd x o (.str y.1),y.2)):=QLh (by simp only[Qb4,hr]);have HN:Hid (∀w',Below w.heap.size w w'→Calls Tryz.prog 195 #[pt qb 0] w' (λ e w2=>∃u,e=.returned u∧(u=.string y.1∧RdB w2 rb s y.2 10240∧Jg (some rb) w' w2))):=QLh (λ w' hb=>(Qgv B qb rb s a w' (H.out.below hb)).mono λ e w2 hh=>by rw[hr]at hh;obtain⟨h1,h2,h4,h3⟩:=Qmf hh;exact⟨_,h1,rfl,h2,h3⟩);have hle:y.2≤s.size:=Qyp hr;clear hr
  go_enter Tryz.func194,Tryz.ntmps194
  refine Qp 4 2 (some rb) (Qaw [λ u _=>u=(pt tb o),λ u _=>u=(pt qb 0),λ u w'=>u=.string y.1∧RdB w' rb s y.2 10240,λ u _=>u=(pt tb o)]) rfl (by kernel_rfl) (by kernel_rfl) (Zb ⟨Qe,Qe,?m2,Qe,trivial⟩) (Q6 4 ⟨?s0,?s1,?s2,?s3,trivial⟩) ?_
  case m2=>
   exact⟨λ u w1 w2 h ⟨h1,h2⟩=>⟨h1,h2.below h⟩,λ hn=>absurd rfl hn⟩
  case s0=>
   refine Qc (v:=(pt tb o)) (λ av wv hE hS hO hD=>?_) (λ _=>rfl)
   have f1:=QEf av 1 (pt bx 0) (hO.2.2 1 rfl);have c1:=Qd hE (λ e=>hbr (Option.some.inj e)) c1;have c0:=Qd hE (λ e=>hqr (Option.some.inj e)) c0
   refine⟨rfl,?_⟩
   simp[go_sem,f1,c1,c0]
  case s1=>
   refine Qc (v:=(pt qb 0)) (λ av wv hE hS hO hD=>?_) (λ _=>rfl)
   have f0:=QEf av 0 (pt qb 0) (hO.2.2 0 rfl)
   refine⟨rfl,?_⟩
   simp[go_sem,f0]
  case s2=>
   refine Qo (λ av wv hE hS hO hD=>?_)
   have f4:=QEf av 4 (pt qb 0) (hD.1 rfl _ rfl)
   refine⟨rfl,?_⟩
   refine Xq (f:=195) (args:=#[pt qb 0]) (by simp[go_sem,f4]) (HN.out wv (Qk (Zd (Below.refl _ _)) (hS rfl))) (λ u w2 ⟨h1,h2,h3⟩=>⟨u,rfl,Qcf h3,h1,h2⟩)
  case s3=>
   refine Qc (v:=(pt tb o)) (λ av wv hE hS hO hD=>?_) (λ _=>rfl)
   have f3:=QEf av 3 (pt tb o) (hD.1 rfl _ rfl)
   refine⟨rfl,?_⟩
   simp[go_sem,f3]
  intro a' w' hE hO hall
  have hA:=Ql (ds:=[3,4,5,6]) rfl hO (by kernel_rfl);have e3:a'.eval (.tmp 3)=(pt tb o):=hall.1 _ rfl;have e4:a'.eval (.tmp 4)=(pt qb 0):=hall.2.1 _ rfl;have e5:(λ u w'=>u=.string y.1∧RdB w' rb s y.2 10240) (a'.eval (.tmp 5)) w':=hall.2.2.1 _ rfl;have e6:a'.eval (.tmp 6)=(pt tb o):=hall.2.2.2.1 _ rfl
  obtain⟨v5,hv5⟩:∃v,a'.eval (.tmp 5)=v:=⟨_,rfl⟩
  rw[hv5]at e5
  simp only[List.foldl_cons,List.foldl_nil,Act.put,List.setIfInBounds_toArray,List.set_cons_succ,List.set_cons_zero,e3,e4,hv5,e6]at hA
  clear hO hall e3 e4 hv5 e6
  subst hA
  have HRD:=QLh e5.2;have hX2:=HX.out.ext (Q9 hE) htr
  obtain⟨u,hu,-⟩:=hX2.get ho
  have hfz:=hX2.free o;have HX2:=QLh hX2;have HE:=QLh (Q9 hE);have e51:=e5.1;clear hE hX2 e5
  subst e51
  go_wp2
  go_end0
  rw[HR.out]
  exact⟨(Chg.of_ext HE.out).set o _,rfl,Qg HRD.out (by exact λ e=>htr e.symm) _,hle,HX2.out.set ho rfl⟩
def Qsr{α:Type}(res:Except Flt (α × Nat))(hold:α→World→Array Value→Prop)(rb xb:Nat)(T:TypeId)(s:ByteArray)(w:World)(e:Ending)(w':World):Prop:=
 Chg rb xb w w'∧match res with
  | .ok y=>e=.returned (.tuple #[])∧RdB w' rb s y.2 10240∧y.2≤s.size∧∃cs,w'.heap[xb]?=some (.cells cs T (0,0))∧hold y.1 w' cs
  | .error f=>∃fb,e=.panicked (Qcb fb)∧FltB w' fb f.1 f.2
theorem Qn9{α:Type}{y:α × Nat}{hold:α→World→Array Value→Prop}{rb xb:Nat}{T:TypeId}{s:ByteArray}{w w':World}{e:Ending}(h:Qsr (.ok y) hold rb xb T s w e w'):e=.returned (.tuple #[])∧Chg rb xb w w'∧RdB w' rb s y.2 10240∧y.2≤s.size∧∃cs,w'.heap[xb]?=some (.cells cs T (0,0))∧hold y.1 w' cs:=⟨h.2.1,h.1,h.2.2⟩
theorem Qk1{α:Type}{f:Flt}{hold:α→World→Array Value→Prop}{rb xb:Nat}{T:TypeId}{s:ByteArray}{w w':World}{e:Ending}(h:Qsr (.error f) hold rb xb T s w e w'):∃fb,e=.panicked (Qcb fb)∧FltB w' fb f.1 f.2∧Chg rb xb w w':=by
 obtain⟨h1,fb,h2,h3⟩:=h;exact⟨fb,h2,h3,h1⟩
theorem Qoa{rb xb base:Nat}{w w':World}{e size n:Nat}{v:Value}{xs:List Value}(h:w.ownsRow base e size v n xs)(hc:Chg rb xb w w')(hr:rb<base)(hx:w.heap.size≤xb):w'.ownsRow base e size v n xs:=by
 refine⟨h.1,?_⟩
 rcases h.2 with h2 | ⟨g,cap,cur,hv,hg,hh,hr2⟩
 ·exact .inl h2
 ·exact .inr ⟨g,cap,cur,hv,hg,(hc.block g (lt_of_block hh) (by omega) (by have:=lt_of_block hh;omega)).trans hh,hr2⟩
theorem Qvt{rb tb base:Nat}{w w':World}{e size n:Nat}{v:Value}{xs:List Value}(h:w.ownsRow base e size v n xs)(hc:Chg rb tb w w')(hr:rb<base)(hx:tb<base):w'.ownsRow base e size v n xs:=by
 refine⟨h.1,?_⟩
 rcases h.2 with h2 | ⟨g,cap,cur,hv,hg,hh,hr2⟩
 ·exact .inl h2
 ·exact .inr ⟨g,cap,cur,hv,hg,(hc.block g (lt_of_block hh) (by omega) (by omega)).trans hh,hr2⟩
theorem Qe0{w:World}{base e size n:Nat}{v:Value}{xs xs':List Value}(h:w.ownsRow base e size v n xs){b o:Nat}(hb:b<base){u:Value}(hx:xs=xs'):(w.setCell ⟨b,o,none⟩ u).ownsRow base e size v n xs':=by
 subst hx
 refine⟨h.1,?_⟩
 rcases h.2 with h2 | ⟨g,cap,cur,hv,hg,hh,hr2⟩
 ·exact .inl h2
 ·exact .inr ⟨g,cap,cur,hv,hg,Qg hh (by show g≠b;omega) u,hr2⟩
theorem Z4{base:Nat}{w:World}{e size n:Nat}{v:Value}{xs:List Value}(h:w.ownsRow base e size v n xs){b:Nat}(hb:b<base):some b≠v.ownBlock:=λ e=>by
 have:=h.lt b e.symm;omega
theorem Jx{base:Nat}{w:World}{e size n:Nat}{v:Value}{xs:List Value}(h:w.ownsRow base e size v n xs){b:Nat}(hb:w.heap.size≤b):some b≠v.ownBlock:=λ e=>by
 have:=h.lt b e.symm;omega
theorem Qc1{base:Nat}{w:World}{e size n:Nat}{v:Value}{xs:List Value}(h:w.ownsRow base e size v n xs):∀k,v.ownBlock=some k→∃cs,w.heap[k]?=some (.cells cs e (0,0)):=λ k hk=>by
 rcases h.2 with⟨rfl,-⟩ | ⟨g,cap,cur,rfl,hg,hh,-⟩
 ·cases hk
 ·obtain rfl:g=k:=by simpa [Value.ownBlock] using hk
  exact⟨cur,hh⟩
theorem Qss{w:World}{base n:Nat}{v:Value}{l:List ByteArray}(h:w.ownsRow base 9 1 v n (l.map Value.string)){rb tb:Nat}(hr:rb<base)(ht:tb<base)(h0:n=0→v=.slice none 0 0):HoldsD rb tb w v (.strs l):=by
 have hn:len l=n:=by have:=h.1;rw[Zm];simpa using this
 obtain⟨a,c,rfl,h1⟩:=Qsh h
 refine⟨a,c,rfl,λ e=>?_,λ b off e=>?_,h1,λ b off e=>?_⟩
 ·have h5:=h0 (by omega);simp only[Value.slice.injEq]at h5;exact⟨h5.1,h5.2.2⟩
 ·have:=h.lt b (by rw[e];rfl);omega
 ·exact Qc1 h b (by rw[e];rfl)
theorem Qxs{w:World}{base n:Nat}{v:Value}{l:List Int}(h:w.ownsRow base 23 1 v n (l.map (Value.int .u64))){rb tb:Nat}(hr:rb<base)(ht:tb<base)(h0:n=0→v=.slice none 0 0):HoldsD rb tb w v (.nums l):=by
 have hn:len l=n:=by have:=h.1;rw[Zm];simpa using this
 obtain⟨a,c,rfl,h1⟩:=Qvh h
 refine⟨a,c,rfl,λ e=>?_,λ b off e=>?_,h1,λ b off e=>?_⟩
 ·have h5:=h0 (by omega);simp only[Value.slice.injEq]at h5;exact⟨h5.1,h5.2.2⟩
 ·have:=h.lt b (by rw[e];rfl);omega
 ·exact Qc1 h b (by rw[e];rfl)
theorem Qxt{w:World}{base n:Nat}{v:Value}{l:List RevD}{rs:List Rev}(h:w.ownsRow base 48 11 v n (rs.flatMap Rev.cells)){rb tb:Nat}(hr:rb<base)(ht:tb<base)(h0:n=0→v=.slice none 0 0)(hl:len rs=len l)(hi:∀i,i<len l→RevIs rb tb w (Qlz rs i) (lth l i)):HoldsD rb tb w v (.revs l):=by
 obtain⟨a,c,rfl,h1,-⟩:=Qvo h
 have hn:len rs=n:=by
  have:=h.1;rw[Qac Rev.cells 11 Rev.cells_length]at this;rw[Zm];omega
 refine⟨a,c,by rw[hl],λ e=>?_,λ b off e=>?_,rs,hl,h1,hi⟩
 ·have h5:=h0 (by omega);simp only[Value.slice.injEq]at h5;exact⟨h5.1,h5.2.2⟩
 ·have:=h.lt b (by rw[e];rfl);omega
theorem Qc2{α:Type}{rd:Nat→Except Flt (α × Nat)}{n a:Nat}{l:List α}{y:α × Nat}(h:rd a=.ok y):rmany rd (n+1) a l=rmany rd n y.2 (l++[y.1]):=by rw[rmany,h]
theorem Qcc{α:Type}{rd:Nat→Except Flt (α × Nat)}{n a:Nat}{l:List α}{f:Flt}(h:rd a=.error f):rmany rd (n+1) a l=.error f:=by rw[rmany,h]
theorem Qk2{s:ByteArray}{most a:Nat}{y:Nat × Nat}(h:Qci s most a=.ok y):y.1≤most:=by
 unfold Qci at h
 split at h
 ·cases h
 ·split at h
  ·cases h;omega
  ·cases h
theorem Qij{α:Type}{s key:ByteArray}{o most a k a0:Nat}{toD:List α→DV}{rd:Nat→Except Flt (α × Nat)}{x:Rcd}{f:Flt}(h1:Qci s most a=.ok (k,a0))(h2:rmany rd k a0 []=.error f):(Xh s key o most toD rd).read x a=.error f:=by simp only[Xh,h1,h2]
theorem Qk3{α:Type}{s key:ByteArray}{o most a k a0:Nat}{toD:List α→DV}{rd:Nat→Except Flt (α × Nat)}{x:Rcd}{y:List α × Nat}(h1:Qci s most a=.ok (k,a0))(h2:rmany rd k a0 []=.ok y):(Xh s key o most toD rd).read x a=.ok (upd x o (toD y.1),y.2):=by simp only[Xh,h1,h2]
theorem Qpf{x:Rcd}{o:Nat}{d:DV}(h:x o=d):upd x o d=x:=by
 funext i;unfold upd;split
 ·next e=>rw[e,h]
 ·rfl
theorem Qqp(B qb rb tb o bx mb gb gf most:Nat)(gc:Array Value)(x0:Rcd)(T:TypeId)(n:Nat)(s key:ByteArray)(a:Nat)(x:Rcd)(w:World)(rd:Nat→Except Flt (ByteArray × Nat))
  (h1:w.heap[bx]?=some (.cells #[pt tb o] 230 (0,0))) (h2:w.heap[mb]?=some (.cells #[.int .i64 most] 3 (0,0))) (h3:∃t,w.heap[gb]?=some (.cells #[.func (.func gf) #[] gc] t (0,0)))
  (hbr:bx≠rb∧bx≠tb) (hgr:gb≠rb∧gb≠tb) (htr:tb≠rb) (hqt:qb≠tb) (hBt:B≤tb) (ho:o<n) (hm:most≤10240)
  (eg:∀args w,(callFunc gf args).run Tryz.prog w=.ok (.enter gf args) w)
  (hget:∀w' xb a',Chg rb tb w w'→w.heap.size≤xb→w'.heap[xb]?=some (.cells #[.string ⟨#[]⟩] 9 (0,0))→RdEnv B w' qb rb s a'→Calls Tryz.prog gf (#[pt qb 0,pt xb 0]++gc) w' (Qsr (rd a') (λ y _ c=>c=#[.string y]) rb xb 9 s w'))
  (hx:RecAt rb tb T n w x) (hx0:x o=.strs []) (h:RdEnv B w qb rb s a):
  Calls Tryz.prog 252 #[pt qb 0,pt mb 0,pt gb 0,pt bx 0] w (Qgy ((Xh s key o most .strs rd).read x a) rb tb T n s w):=by
 have H:=QLh h;have HX:=QLh hx;have HG:=QLh hget
 obtain⟨tg,h3⟩:=h3
 have H1:=QLh h1;have H3:=QLh h3;have hrs:rb<w.heap.size:=lt_of_block h.r;have hts:tb<w.heap.size:=hx.lt;have hbs:bx<w.heap.size:=lt_of_block h1;have hgs:gb<w.heap.size:=lt_of_block h3;have c1:w.cell? ⟨mb,0,none⟩=some (.int .i64 most):=Qa h2 0
 obtain⟨cs,hcs,hcn,hch⟩:=hx
 have HCS:=QLh hcs;have ho':o<cs.size:=by omega
 have HCN:=QLh hcn
 obtain⟨v0,hv0,hd0⟩:=hch o ho
 rw[hx0]at hd0
 obtain⟨za,zc,hz1,hz2,-⟩:=hd0
 obtain⟨rfl,rfl⟩:=hz2 rfl
 have HZ:Hid (cs[o]?=some (.slice none 0 0)):=QLh (by rw[hv0,hz1];rfl);clear h1 h2 h3 h hget hcs hcn hch hv0 hz1 hz2 hx0
 go_enter Tryz.func252,Tryz.ntmps252
 go_wp2_with fail
 refine(Qgw B qb rb s a most w H.out).mono ?_
 intro e w1 hh
 cases hr:Qci s most a with
 | error f=>
  rw[hr]at hh
  obtain⟨fb,rfl,hf,hE⟩:=Qih hh
  have HF:=QLh hf;have HE:=QLh hE;have HR:Hid ((Xh s key o most .strs rd).read x a=.error f):=QLh (by simp only[Xh,hr]);clear hh hf hE hr
  go_wp2
  refine⟨rfl,?_⟩
  rw[HR.out]
  exact⟨Chg.of_ext HE.out,fb,rfl,HF.out,(HX.out.ext HE.out htr).thAt⟩
 | ok kk=>
  rw[hr]at hh
  obtain⟨rfl,hrd,hle,hE⟩:=Qmf hh
  have HRD:=QLh hrd;have HLE:=QLh hle;have hc1:=Chg.of_ext (tb:=tb) hE;have HC1:=QLh hc1;have HB1:Hid (w1.heap[tb]?=some (.cells cs T (0,0))):=QLh ((hE.block _ hts (by simpa using htr)).trans HCS.out);have hkm:kk.1≤10240:=by have:=Qk2 hr;omega
  obtain⟨k,a0⟩:=kk
  have HR:=QLh hr;clear hh hrd hle hE hr hc1
  go_wp2
  clear c1
  go_loopg [9] k (λ g i wr=>∃(m:Nat) (acc:List ByteArray) (a':Nat) (v:Value),g+m=k∧i=.int .i64 m∧Hid (rmany rd k a0 []=rmany rd g a' acc)∧Hid (len acc=m)∧Hid (a'≤s.size)∧Hid (RdB wr rb s a' 10240)∧Hid (Chg rb tb w wr)∧
   Hid (wr.heap[tb]?=some (.cells (cs.setIfInBounds o v) T (0,0)))∧Hid (wr.ownsRow w.heap.size 9 1 v m (acc.map Value.string))∧Hid (m=0→v=.slice none 0 0))
  case atStart=>
   have e:cs.setIfInBounds o (.slice none 0 0)=cs:=by
    apply Array.ext'
    rw[Array.toList_setIfInBounds]
    have h6:=HZ.out
    apply List.ext_getElem?
    intro i
    by_cases e2:i=o
    ·subst e2;rw[List.getElem?_set_self (by have:=(Array.getElem?_eq_some_iff.1 h6).1;simpa using this)];simpa using h6.symm
    ·rw[List.getElem?_set_ne (λ e3=>e2 e3.symm)]
   exact⟨0,[],a0,.slice none 0 0,rfl,rfl,rfl,rfl,HLE.out,HRD.out,HC1.out,by rw[e];exact HB1.out,World.ownsRow_nil _ _ _ _,λ _=>rfl⟩
  case round=>
   clear HRD HLE HC1 HB1
   obtain⟨m,acc,a',v,hgm,rfl,HRM,HLA,HLE,HRD,HC,HB,HO,H0⟩:=hrel
   have HEV:Hid (RdEnv B wr qb rb s a'):=QLh (H.out.chg HC.out hqt hBt HRD.out HLE.out)
   by_cases hlt:m<k
   ·have i1:(m:Int)<k:=by omega
    obtain⟨g',rfl⟩:∃g',gk=g'+1:=⟨gk - 1,by omega⟩
    have c3:(wr.alloc (.cells #[.string ⟨#[]⟩] 9)).cell? ⟨gb,0,none⟩=some (.func (.func gf) #[] gc):=Qa (Qf ((HC.out.block gb hgs hgr.1 hgr.2).trans H3.out) _) 0
    obtain⟨xb,hxb⟩:∃xb,wr.heap.size=xb:=⟨_,rfl⟩
    have hxw:w.heap.size≤xb:=by rw[←hxb];exact HC.out.size
    obtain⟨wa,hwa⟩:∃wa,wr.alloc (.cells #[.string ⟨#[]⟩] 9)=wa:=⟨_,rfl⟩
    have HA:Hid (Below wr.heap.size wr wa):=QLh (by rw[←hwa];exact Qh (Below.refl _ _) _);have HXB:Hid (wa.heap[xb]?=some (.cells #[.string ⟨#[]⟩] 9 (0,0))):=QLh (by rw[←hwa,←hxb];exact heap_alloc_new _ _)
    rw[hwa]at c3
    have HEA:Hid (RdEnv B wa qb rb s a'):=QLh (HEV.out.below HA.out)
    go_upto_region 3 with fail
    try rw[hwa]
    try simp only[hxb]
    clear hwa
    go_wp2_with fail
    refine(HG.out wa xb a' (HC.out.next HA.out) hxw HXB.out HEA.out).mono ?_
    intro e w3 hh
    cases hr3:rd a' with
    | error f=>
     rw[hr3]at hh
     obtain⟨fb,rfl,hf,hc⟩:=Qk1 hh
     have HF:=QLh hf;have HC3:Hid (Chg rb tb w w3):=QLh ((HC.out.next HA.out).inner hc hxw);have HTH:Hid (Qz2 tb T n w3):=QLh ⟨_,(((Chg.of_below HA.out).trans hc).block tb (Nat.lt_of_lt_of_le hts HC.out.size) htr (by omega)).trans HB.out,by rw[Array.size_setIfInBounds];exact HCN.out⟩;have HE:Hid (rmany rd k a0 []=.error f):=QLh (HRM.out.trans (Qcc hr3));clear hh hf hc hr3 c3
     go_wp2
     refine⟨rfl,?_⟩
     rw[Qij HR.out HE.out]
     exact⟨HC3.out,fb,rfl,HF.out,HTH.out⟩
    | ok y=>
     rw[hr3]at hh
     obtain⟨rfl,hc,hrd3,hle3,cx,hx3,rfl⟩:=Qn9 hh
     have hcw:Chg rb xb wr w3:=(Chg.of_below HA.out).trans hc;have HC3:Hid (Chg rb tb w w3):=QLh ((HC.out.next HA.out).inner hc hxw);have HRM3:Hid (rmany rd k a0 []=rmany rd g' y.2 (acc++[y.1])):=QLh (HRM.out.trans (Qc2 hr3));have HRD3:=QLh hrd3;have HLE3:=QLh hle3;have HX3:=QLh hx3;have hxs:xb<w3.heap.size:=lt_of_block hx3;have htw:tb<wr.heap.size:=Nat.lt_of_lt_of_le hts HC.out.size;have HB3:Hid (w3.heap[tb]?=some (.cells (cs.setIfInBounds o v) T (0,0))):=QLh ((hcw.block tb htw htr (by omega)).trans HB.out);have HO3:Hid (w3.ownsRow w.heap.size 9 1 v m (acc.map Value.string)):=QLh (Qoa HO.out hcw hrs (by omega));have cl:w3.cell? ⟨bx,0,none⟩=some (pt tb o):=Qa ((HC3.out.block bx hbs hbr.1 hbr.2).trans H1.out) 0;have ct:w3.cell? ⟨tb,o,none⟩=some v:=by rw[Qa HB3.out,Array.getElem?_setIfInBounds_self_of_lt ho']
     have cx1:w3.cell? ⟨xb,0,none⟩=some (.string y.1):=Qa hx3 0;have hne1:some bx≠v.ownBlock:=Z4 HO3.out hbs;have hne2:some tb≠v.ownBlock:=Z4 HO3.out hts;have hne3:some xb≠v.ownBlock:=Jx HO.out (by omega);have hrn:some rb≠v.ownBlock:=Z4 HO3.out hrs
     obtain⟨i0,hi,hz0,hz1,hz2⟩:=info_parts Qky
     have hmk:m<10240:=by omega
     have hws:w.heap.size≤w3.heap.size:=HC3.out.size;clear hh hc hcw hrd3 hle3 hx3 hr3 c3 HB HO HRM HRD HLE HXB HEA HEV
     go_upto_region 4 with fail
     refine Qp 8 6 (v.ownBlock) (Qaw [λ u _=>u=(pt tb o),λ u _=>u=(pt tb o),λ u _=>u=(pt tb o),λ u _=>u=(v),λ u _=>u=(.string y.1),λ u w'=>∃b,u=.slice (some ⟨b,0,none⟩) 1 1∧some b≠v.ownBlock∧w'.heap[b]?=some (.cells #[.string y.1] 9 (0,0)),λ u w'=>w'.ownsRow w.heap.size 9 1 u (m+1) ((acc.map Value.string)++[.string y.1]),λ u _=>u=(pt tb o)]) rfl (by kernel_rfl) (by kernel_rfl) (Zb ⟨Qe,Qe,Qe,Qe,Qe,?m5,?m6,Qe,trivial⟩) (Q6 8 ⟨?s0,?s1,?s2,?s3,?s4,?s5,?s6,?s7,trivial⟩) ?_
     case m5=>
      exact⟨λ u w1 w' h ⟨b,h1,hb,hb'⟩=>⟨b,h1,hb,Zt h hb'⟩,λ _ u w1 w' h ⟨b,h1,hb,hb'⟩=>⟨b,h1,hb,Qn h hb hb'⟩⟩
     case m6=>
      exact⟨λ u w1 w' h hu=>Zi hu h,λ hn=>absurd rfl hn⟩
     case s0=>
      refine Qc (v:=(pt tb o)) (λ av wv hE hS hO hD=>?_) (λ _=>rfl)
      have f3:=QEf av 3 (pt bx 0) (hO.2.2 3 rfl);have cl:=Qd hE hne1 cl;have ct:=Qd hE hne2 ct;have cx1:=Qd hE hne3 cx1
      refine⟨rfl,?_⟩
      simp[go_sem,f3,cl,ct,cx1]
     case s1=>
      refine Qc (v:=(pt tb o)) (λ av wv hE hS hO hD=>?_) (λ _=>rfl)
      have f3:=QEf av 3 (pt bx 0) (hO.2.2 3 rfl);have cl:=Qd hE hne1 cl;have ct:=Qd hE hne2 ct;have cx1:=Qd hE hne3 cx1
      refine⟨rfl,?_⟩
      simp[go_sem,f3,cl,ct,cx1]
     case s2=>
      refine Qc (v:=(pt tb o)) (λ av wv hE hS hO hD=>?_) (λ _=>rfl)
      have f15:=QEf av 15 (pt tb o) (hD.1 rfl _ rfl)
      refine⟨rfl,?_⟩
      simp[go_sem,f15]
     case s3=>
      refine Qc (v:=(v)) (λ av wv hE hS hO hD=>?_) (λ _=>rfl)
      have f16:=QEf av 16 (pt tb o) (hD.1 rfl _ rfl);have cl:=Qd hE hne1 cl;have ct:=Qd hE hne2 ct;have cx1:=Qd hE hne3 cx1
      refine⟨rfl,?_⟩
      simp[go_sem,f16,cl,ct,cx1]
     case s4=>
      refine Qc (v:=(.string y.1)) (λ av wv hE hS hO hD=>?_) (λ _=>rfl)
      have f5:=QEf av 5 (pt xb 0) (hO.2.2 5 rfl);have cl:=Qd hE hne1 cl;have ct:=Qd hE hne2 ct;have cx1:=Qd hE hne3 cx1
      refine⟨rfl,?_⟩
      simp[go_sem,f5,cl,ct,cx1]
     case s5=>
      refine Qo (λ av wv hE hS hO hD=>?_)
      have f18:=QEf av 18 (.string y.1) (hD.1 rfl _ rfl)
      refine⟨rfl,?_⟩
      refine Zn (v:=.slice (some ⟨wv.heap.size,0,none⟩) 1 1) (w':=wv.alloc (.cells #[.string y.1] 9)) (by simp[go_sem,f18]) ⟨_,rfl,Qm (Qh (Zr _) _),wv.heap.size,rfl,?_,heap_alloc_new _ _⟩
      exact Jx HO3.out (by have:=hE.size;simp at this;omega)
     case s6=>
      refine Qo (λ av wv hE hS hO hD=>?_)
      have d17:av.eval (.tmp 17)=(v):=hD.1 rfl _ rfl;have f17:=(Qq av 17).symm.trans d17;have d19:(λ u w'=>∃b,u=.slice (some ⟨b,0,none⟩) 1 1∧some b≠v.ownBlock∧w'.heap[b]?=some (.cells #[.string y.1] 9 (0,0))) (av.eval (.tmp 19)) wv:=hD.2.1 rfl _ rfl
      refine⟨rfl,?_⟩
      obtain⟨b19,h19,hb19,hc19⟩:=d19
      have hown1:wv.ownsRow w.heap.size 9 1 v m (acc.map Value.string):=Zi (w:=w3.drew) HO3.out (hS rfl)
      refine wp_append_lies wv _ _ _ rfl w.heap.size 9 i0 (.string ⟨#[]⟩) 1 16 Tryz.underlying26 hi hz0 hz1 hz2 rfl (by decide) v m _ d17 hown1 ⟨b19,0,none⟩ 1 1 [.string y.1] (by exact h19) rfl (World.news_of_block hc19) (by intro u hu;simp at hu;rcases hu with rfl <;> rfl) (by decide) (by unfold maxLen;omega) (by omega) (by have:=hE.size;simp at this;omega) _ rfl ?_
      intro g2 cap2 w2 hown2 hgrow hat hlt2
      exact⟨_,rfl,Qcf hgrow,hown2⟩
     case s7=>
      refine Qc (v:=(pt tb o)) (λ av wv hE hS hO hD=>?_) (λ _=>rfl)
      have f14:=QEf av 14 (pt tb o) (hD.1 rfl _ rfl)
      refine⟨rfl,?_⟩
      simp[go_sem,f14]
     intro a' w' hE hO hall
     have hA:=Ql (ds:=[14,15,16,17,18,19,20,21]) rfl hO (by kernel_rfl);have e14:a'.eval (.tmp 14)=(pt tb o):=hall.1 _ rfl;have e15:a'.eval (.tmp 15)=(pt tb o):=hall.2.1 _ rfl;have e16:a'.eval (.tmp 16)=(pt tb o):=hall.2.2.1 _ rfl;have e17:a'.eval (.tmp 17)=(v):=hall.2.2.2.1 _ rfl;have e18:a'.eval (.tmp 18)=(.string y.1):=hall.2.2.2.2.1 _ rfl;have e19:(λ u w'=>∃b,u=.slice (some ⟨b,0,none⟩) 1 1∧some b≠v.ownBlock∧w'.heap[b]?=some (.cells #[.string y.1] 9 (0,0))) (a'.eval (.tmp 19)) w':=hall.2.2.2.2.2.1 _ rfl;have e20:(λ u w'=>w'.ownsRow w.heap.size 9 1 u (m+1) ((acc.map Value.string)++[.string y.1])) (a'.eval (.tmp 20)) w':=hall.2.2.2.2.2.2.1 _ rfl;have e21:a'.eval (.tmp 21)=(pt tb o):=hall.2.2.2.2.2.2.2.1 _ rfl
     obtain⟨v19,hv19⟩:∃v,a'.eval (.tmp 19)=v:=⟨_,rfl⟩
     rw[hv19]at e19
     obtain⟨v20,hv20⟩:∃v,a'.eval (.tmp 20)=v:=⟨_,rfl⟩
     rw[hv20]at e20
     simp only[List.foldl_cons,List.foldl_nil,Act.put,List.setIfInBounds_toArray,List.set_cons_succ,List.set_cons_zero,e14,e15,e16,e17,e18,hv19,hv20,e21]at hA
     clear hO hall e14 e15 e16 e17 e18 hv19 hv20 e21
     subst hA
     obtain⟨g2,cap2,rfl,hg1,hg2⟩:=e20.form (by omega)
     have hB4:w'.heap[tb]?=some (.cells (cs.setIfInBounds o v) T (0,0)):=Qn (Q9 hE) hne2 HB3.out;have hf4:w'.frozen? ⟨tb,o,none⟩=false:=Qj hB4 o;have q4:w'.cell? ⟨tb,o,none⟩=some v:=by rw[Qa hB4,Array.getElem?_setIfInBounds_self_of_lt ho']
     have HO4:=QLh e20;have HB4:=QLh hB4;have HC4:Hid (Chg rb tb w w'):=QLh ⟨(Q9 hE).os.trans HC3.out.os,(Q9 hE).tape.trans HC3.out.tape,(Q9 hE).output.trans HC3.out.output,Nat.le_trans HC3.out.size (Q9 hE).size,λ i hi h1 h2=>((Q9 hE).block i (Nat.lt_of_lt_of_le hi HC3.out.size) (Z4 HO3.out hi)).trans (HC3.out.block i hi h1 h2)⟩;have HRD4:Hid (RdB w' rb s y.2 10240):=QLh (Qn (Q9 hE) hrn HRD3.out);clear e20 hB4 hE e19 cl ct hi hz0 hz1 hz2 hne1 hne2 hne3 hrn
     go_wp2
     have hsz:∀u,(cs.setIfInBounds o v).setIfInBounds o u=cs.setIfInBounds o u:=λ u=>Array.setIfInBounds_setIfInBounds ..
     go_roundg g'
     case rel=>
      exact⟨m+1,acc++[y.1],y.2,_,by omega,by go_num,HRM3.out,QLh (by have:=HLA.out;simp only[len,List.length_append,List.length_singleton]at this ⊢;omega),HLE3.out,Qg HRD4.out (by exact λ e=>htr e.symm) _,HC4.out.set o _,QLh (by rw[←hsz];exact Qb HB4.out _),Qe0 HO4.out hts (by simp),λ h0=>by omega⟩
     case measure=>omega
   ·obtain rfl:m=k:=by omega
    have i1:¬((m:Nat):Int)<m:=by omega
    obtain rfl:gk=0:=by omega
    go_wp2
    go_end0
    refine⟨HC.out,?_⟩
    rw[Qk3 HR.out (HRM.out.trans (rmany.eq_1 ..))]
    exact⟨rfl,HRD.out,HLE.out,RecAt.put HCS.out HX.out ho HC.out HB.out (Qss HO.out hrs hts H0.out)⟩
theorem Qqq(B qb rb tb o bx mb gb gf most:Nat)(gc:Array Value)(x0:Rcd)(T:TypeId)(n:Nat)(s key:ByteArray)(a:Nat)(x:Rcd)(w:World)(rd:Nat→Except Flt (Int × Nat))
  (h1:w.heap[bx]?=some (.cells #[pt tb o] 232 (0,0))) (h2:w.heap[mb]?=some (.cells #[.int .i64 most] 3 (0,0))) (h3:∃t,w.heap[gb]?=some (.cells #[.func (.func gf) #[] gc] t (0,0)))
  (hbr:bx≠rb∧bx≠tb) (hgr:gb≠rb∧gb≠tb) (htr:tb≠rb) (hqt:qb≠tb) (hBt:B≤tb) (ho:o<n) (hm:most≤10240)
  (eg:∀args w,(callFunc gf args).run Tryz.prog w=.ok (.enter gf args) w)
  (hget:∀w' xb a',Chg rb tb w w'→w.heap.size≤xb→w'.heap[xb]?=some (.cells #[.int .u64 0] 23 (0,0))→RdEnv B w' qb rb s a'→Calls Tryz.prog gf (#[pt qb 0,pt xb 0]++gc) w' (Qsr (rd a') (λ y _ c=>c=#[.int .u64 y]) rb xb 23 s w'))
  (hx:RecAt rb tb T n w x) (hx0:x o=.nums []) (h:RdEnv B w qb rb s a):
  Calls Tryz.prog 220 #[pt qb 0,pt mb 0,pt gb 0,pt bx 0] w (Qgy ((Xh s key o most .nums rd).read x a) rb tb T n s w):=by
 have H:=QLh h;have HX:=QLh hx;have HG:=QLh hget
 obtain⟨tg,h3⟩:=h3
 have H1:=QLh h1;have H3:=QLh h3;have hrs:rb<w.heap.size:=lt_of_block h.r;have hts:tb<w.heap.size:=hx.lt;have hbs:bx<w.heap.size:=lt_of_block h1;have hgs:gb<w.heap.size:=lt_of_block h3;have c1:w.cell? ⟨mb,0,none⟩=some (.int .i64 most):=Qa h2 0
 obtain⟨cs,hcs,hcn,hch⟩:=hx
 have HCS:=QLh hcs;have ho':o<cs.size:=by omega
 have HCN:=QLh hcn
 obtain⟨v0,hv0,hd0⟩:=hch o ho
 rw[hx0]at hd0
 obtain⟨za,zc,hz1,hz2,-⟩:=hd0
 obtain⟨rfl,rfl⟩:=hz2 rfl
 have HZ:Hid (cs[o]?=some (.slice none 0 0)):=QLh (by rw[hv0,hz1];rfl);clear h1 h2 h3 h hget hcs hcn hch hv0 hz1 hz2 hx0
 go_enter Tryz.func220,Tryz.ntmps220
 go_wp2_with fail
 refine(Qgw B qb rb s a most w H.out).mono ?_
 intro e w1 hh
 cases hr:Qci s most a with
 | error f=>
  rw[hr]at hh
  obtain⟨fb,rfl,hf,hE⟩:=Qih hh
  have HF:=QLh hf;have HE:=QLh hE;have HR:Hid ((Xh s key o most .nums rd).read x a=.error f):=QLh (by simp only[Xh,hr]);clear hh hf hE hr
  go_wp2
  refine⟨rfl,?_⟩
  rw[HR.out]
  exact⟨Chg.of_ext HE.out,fb,rfl,HF.out,(HX.out.ext HE.out htr).thAt⟩
 | ok kk=>
  rw[hr]at hh
  obtain⟨rfl,hrd,hle,hE⟩:=Qmf hh
  have HRD:=QLh hrd;have HLE:=QLh hle;have hc1:=Chg.of_ext (tb:=tb) hE;have HC1:=QLh hc1;have HB1:Hid (w1.heap[tb]?=some (.cells cs T (0,0))):=QLh ((hE.block _ hts (by simpa using htr)).trans HCS.out);have hkm:kk.1≤10240:=by have:=Qk2 hr;omega
  obtain⟨k,a0⟩:=kk
  have HR:=QLh hr;clear hh hrd hle hE hr hc1
  go_wp2
  clear c1
  go_loopg [9] k (λ g i wr=>∃(m:Nat) (acc:List Int) (a':Nat) (v:Value),g+m=k∧i=.int .i64 m∧Hid (rmany rd k a0 []=rmany rd g a' acc)∧Hid (len acc=m)∧Hid (a'≤s.size)∧Hid (RdB wr rb s a' 10240)∧Hid (Chg rb tb w wr)∧
   Hid (wr.heap[tb]?=some (.cells (cs.setIfInBounds o v) T (0,0)))∧Hid (wr.ownsRow w.heap.size 23 1 v m (acc.map (Value.int .u64)))∧Hid (m=0→v=.slice none 0 0))
  case atStart=>
   have e:cs.setIfInBounds o (.slice none 0 0)=cs:=by
    apply Array.ext'
    rw[Array.toList_setIfInBounds]
    have h6:=HZ.out
    apply List.ext_getElem?
    intro i
    by_cases e2:i=o
    ·subst e2;rw[List.getElem?_set_self (by have:=(Array.getElem?_eq_some_iff.1 h6).1;simpa using this)];simpa using h6.symm
    ·rw[List.getElem?_set_ne (λ e3=>e2 e3.symm)]
   exact⟨0,[],a0,.slice none 0 0,rfl,rfl,rfl,rfl,HLE.out,HRD.out,HC1.out,by rw[e];exact HB1.out,World.ownsRow_nil _ _ _ _,λ _=>rfl⟩
  case round=>
   clear HRD HLE HC1 HB1
   obtain⟨m,acc,a',v,hgm,rfl,HRM,HLA,HLE,HRD,HC,HB,HO,H0⟩:=hrel
   have HEV:Hid (RdEnv B wr qb rb s a'):=QLh (H.out.chg HC.out hqt hBt HRD.out HLE.out)
   by_cases hlt:m<k
   ·have i1:(m:Int)<k:=by omega
    obtain⟨g',rfl⟩:∃g',gk=g'+1:=⟨gk - 1,by omega⟩
    have c3:(wr.alloc (.cells #[.int .u64 0] 23)).cell? ⟨gb,0,none⟩=some (.func (.func gf) #[] gc):=Qa (Qf ((HC.out.block gb hgs hgr.1 hgr.2).trans H3.out) _) 0
    obtain⟨xb,hxb⟩:∃xb,wr.heap.size=xb:=⟨_,rfl⟩
    have hxw:w.heap.size≤xb:=by rw[←hxb];exact HC.out.size
    obtain⟨wa,hwa⟩:∃wa,wr.alloc (.cells #[.int .u64 0] 23)=wa:=⟨_,rfl⟩
    have HA:Hid (Below wr.heap.size wr wa):=QLh (by rw[←hwa];exact Qh (Below.refl _ _) _);have HXB:Hid (wa.heap[xb]?=some (.cells #[.int .u64 0] 23 (0,0))):=QLh (by rw[←hwa,←hxb];exact heap_alloc_new _ _)
    rw[hwa]at c3
    have HEA:Hid (RdEnv B wa qb rb s a'):=QLh (HEV.out.below HA.out)
    go_upto_region 3 with fail
    try rw[hwa]
    try simp only[hxb]
    clear hwa
    go_wp2_with fail
    refine(HG.out wa xb a' (HC.out.next HA.out) hxw HXB.out HEA.out).mono ?_
    intro e w3 hh
    cases hr3:rd a' with
    | error f=>
     rw[hr3]at hh
     obtain⟨fb,rfl,hf,hc⟩:=Qk1 hh
     have HF:=QLh hf;have HC3:Hid (Chg rb tb w w3):=QLh ((HC.out.next HA.out).inner hc hxw);have HTH:Hid (Qz2 tb T n w3):=QLh ⟨_,(((Chg.of_below HA.out).trans hc).block tb (Nat.lt_of_lt_of_le hts HC.out.size) htr (by omega)).trans HB.out,by rw[Array.size_setIfInBounds];exact HCN.out⟩;have HE:Hid (rmany rd k a0 []=.error f):=QLh (HRM.out.trans (Qcc hr3));clear hh hf hc hr3 c3
     go_wp2
     refine⟨rfl,?_⟩
     rw[Qij HR.out HE.out]
     exact⟨HC3.out,fb,rfl,HF.out,HTH.out⟩
    | ok y=>
     rw[hr3]at hh
     obtain⟨rfl,hc,hrd3,hle3,cx,hx3,rfl⟩:=Qn9 hh
     have hcw:Chg rb xb wr w3:=(Chg.of_below HA.out).trans hc;have HC3:Hid (Chg rb tb w w3):=QLh ((HC.out.next HA.out).inner hc hxw);have HRM3:Hid (rmany rd k a0 []=rmany rd g' y.2 (acc++[y.1])):=QLh (HRM.out.trans (Qc2 hr3));have HRD3:=QLh hrd3;have HLE3:=QLh hle3;have HX3:=QLh hx3;have hxs:xb<w3.heap.size:=lt_of_block hx3;have htw:tb<wr.heap.size:=Nat.lt_of_lt_of_le hts HC.out.size;have HB3:Hid (w3.heap[tb]?=some (.cells (cs.setIfInBounds o v) T (0,0))):=QLh ((hcw.block tb htw htr (by omega)).trans HB.out);have HO3:Hid (w3.ownsRow w.heap.size 23 1 v m (acc.map (Value.int .u64))):=QLh (Qoa HO.out hcw hrs (by omega));have cl:w3.cell? ⟨bx,0,none⟩=some (pt tb o):=Qa ((HC3.out.block bx hbs hbr.1 hbr.2).trans H1.out) 0;have ct:w3.cell? ⟨tb,o,none⟩=some v:=by rw[Qa HB3.out,Array.getElem?_setIfInBounds_self_of_lt ho']
     have cx1:w3.cell? ⟨xb,0,none⟩=some (.int .u64 y.1):=Qa hx3 0;have hne1:some bx≠v.ownBlock:=Z4 HO3.out hbs;have hne2:some tb≠v.ownBlock:=Z4 HO3.out hts;have hne3:some xb≠v.ownBlock:=Jx HO.out (by omega);have hrn:some rb≠v.ownBlock:=Z4 HO3.out hrs
     obtain⟨i0,hi,hz0,hz1,hz2⟩:=info_parts Qo4
     have hmk:m<10240:=by omega
     have hws:w.heap.size≤w3.heap.size:=HC3.out.size;clear hh hc hcw hrd3 hle3 hx3 hr3 c3 HB HO HRM HRD HLE HXB HEA HEV
     go_upto_region 4 with fail
     refine Qp 8 6 (v.ownBlock) (Qaw [λ u _=>u=(pt tb o),λ u _=>u=(pt tb o),λ u _=>u=(pt tb o),λ u _=>u=(v),λ u _=>u=(.int .u64 y.1),λ u w'=>∃b,u=.slice (some ⟨b,0,none⟩) 1 1∧some b≠v.ownBlock∧w'.heap[b]?=some (.cells #[.int .u64 y.1] 23 (0,0)),λ u w'=>w'.ownsRow w.heap.size 23 1 u (m+1) ((acc.map (Value.int .u64))++[.int .u64 y.1]),λ u _=>u=(pt tb o)]) rfl (by kernel_rfl) (by kernel_rfl) (Zb ⟨Qe,Qe,Qe,Qe,Qe,?m5,?m6,Qe,trivial⟩) (Q6 8 ⟨?s0,?s1,?s2,?s3,?s4,?s5,?s6,?s7,trivial⟩) ?_
     case m5=>
      exact⟨λ u w1 w' h ⟨b,h1,hb,hb'⟩=>⟨b,h1,hb,Zt h hb'⟩,λ _ u w1 w' h ⟨b,h1,hb,hb'⟩=>⟨b,h1,hb,Qn h hb hb'⟩⟩
     case m6=>
      exact⟨λ u w1 w' h hu=>Zi hu h,λ hn=>absurd rfl hn⟩
     case s0=>
      refine Qc (v:=(pt tb o)) (λ av wv hE hS hO hD=>?_) (λ _=>rfl)
      have f3:=QEf av 3 (pt bx 0) (hO.2.2 3 rfl);have cl:=Qd hE hne1 cl;have ct:=Qd hE hne2 ct;have cx1:=Qd hE hne3 cx1
      refine⟨rfl,?_⟩
      simp[go_sem,f3,cl,ct,cx1]
     case s1=>
      refine Qc (v:=(pt tb o)) (λ av wv hE hS hO hD=>?_) (λ _=>rfl)
      have f3:=QEf av 3 (pt bx 0) (hO.2.2 3 rfl);have cl:=Qd hE hne1 cl;have ct:=Qd hE hne2 ct;have cx1:=Qd hE hne3 cx1
      refine⟨rfl,?_⟩
      simp[go_sem,f3,cl,ct,cx1]
     case s2=>
      refine Qc (v:=(pt tb o)) (λ av wv hE hS hO hD=>?_) (λ _=>rfl)
      have f15:=QEf av 15 (pt tb o) (hD.1 rfl _ rfl)
      refine⟨rfl,?_⟩
      simp[go_sem,f15]
     case s3=>
      refine Qc (v:=(v)) (λ av wv hE hS hO hD=>?_) (λ _=>rfl)
      have f16:=QEf av 16 (pt tb o) (hD.1 rfl _ rfl);have cl:=Qd hE hne1 cl;have ct:=Qd hE hne2 ct;have cx1:=Qd hE hne3 cx1
      refine⟨rfl,?_⟩
      simp[go_sem,f16,cl,ct,cx1]
     case s4=>
      refine Qc (v:=(.int .u64 y.1)) (λ av wv hE hS hO hD=>?_) (λ _=>rfl)
      have f5:=QEf av 5 (pt xb 0) (hO.2.2 5 rfl);have cl:=Qd hE hne1 cl;have ct:=Qd hE hne2 ct;have cx1:=Qd hE hne3 cx1
      refine⟨rfl,?_⟩
      simp[go_sem,f5,cl,ct,cx1]
     case s5=>
      refine Qo (λ av wv hE hS hO hD=>?_)
      have f18:=QEf av 18 (.int .u64 y.1) (hD.1 rfl _ rfl)
      refine⟨rfl,?_⟩
      refine Zn (v:=.slice (some ⟨wv.heap.size,0,none⟩) 1 1) (w':=wv.alloc (.cells #[.int .u64 y.1] 23)) (by simp[go_sem,f18]) ⟨_,rfl,Qm (Qh (Zr _) _),wv.heap.size,rfl,?_,heap_alloc_new _ _⟩
      exact Jx HO3.out (by have:=hE.size;simp at this;omega)
     case s6=>
      refine Qo (λ av wv hE hS hO hD=>?_)
      have d17:av.eval (.tmp 17)=(v):=hD.1 rfl _ rfl;have f17:=(Qq av 17).symm.trans d17;have d19:(λ u w'=>∃b,u=.slice (some ⟨b,0,none⟩) 1 1∧some b≠v.ownBlock∧w'.heap[b]?=some (.cells #[.int .u64 y.1] 23 (0,0))) (av.eval (.tmp 19)) wv:=hD.2.1 rfl _ rfl
      refine⟨rfl,?_⟩
      obtain⟨b19,h19,hb19,hc19⟩:=d19
      have hown1:wv.ownsRow w.heap.size 23 1 v m (acc.map (Value.int .u64)):=Zi (w:=w3.drew) HO3.out (hS rfl)
      refine wp_append_lies wv _ _ _ rfl w.heap.size 23 i0 (.int .u64 0) 1 8 Tryz.underlying25 hi hz0 hz1 hz2 rfl (by decide) v m _ d17 hown1 ⟨b19,0,none⟩ 1 1 [.int .u64 y.1] (by exact h19) rfl (World.news_of_block hc19) (by intro u hu;simp at hu;rcases hu with rfl <;> rfl) (by decide) (by unfold maxLen;omega) (by omega) (by have:=hE.size;simp at this;omega) _ rfl ?_
      intro g2 cap2 w2 hown2 hgrow hat hlt2
      exact⟨_,rfl,Qcf hgrow,hown2⟩
     case s7=>
      refine Qc (v:=(pt tb o)) (λ av wv hE hS hO hD=>?_) (λ _=>rfl)
      have f14:=QEf av 14 (pt tb o) (hD.1 rfl _ rfl)
      refine⟨rfl,?_⟩
      simp[go_sem,f14]
     intro a' w' hE hO hall
     have hA:=Ql (ds:=[14,15,16,17,18,19,20,21]) rfl hO (by kernel_rfl);have e14:a'.eval (.tmp 14)=(pt tb o):=hall.1 _ rfl;have e15:a'.eval (.tmp 15)=(pt tb o):=hall.2.1 _ rfl;have e16:a'.eval (.tmp 16)=(pt tb o):=hall.2.2.1 _ rfl;have e17:a'.eval (.tmp 17)=(v):=hall.2.2.2.1 _ rfl;have e18:a'.eval (.tmp 18)=(.int .u64 y.1):=hall.2.2.2.2.1 _ rfl;have e19:(λ u w'=>∃b,u=.slice (some ⟨b,0,none⟩) 1 1∧some b≠v.ownBlock∧w'.heap[b]?=some (.cells #[.int .u64 y.1] 23 (0,0))) (a'.eval (.tmp 19)) w':=hall.2.2.2.2.2.1 _ rfl;have e20:(λ u w'=>w'.ownsRow w.heap.size 23 1 u (m+1) ((acc.map (Value.int .u64))++[.int .u64 y.1])) (a'.eval (.tmp 20)) w':=hall.2.2.2.2.2.2.1 _ rfl;have e21:a'.eval (.tmp 21)=(pt tb o):=hall.2.2.2.2.2.2.2.1 _ rfl
     obtain⟨v19,hv19⟩:∃v,a'.eval (.tmp 19)=v:=⟨_,rfl⟩
     rw[hv19]at e19
     obtain⟨v20,hv20⟩:∃v,a'.eval (.tmp 20)=v:=⟨_,rfl⟩
     rw[hv20]at e20
     simp only[List.foldl_cons,List.foldl_nil,Act.put,List.setIfInBounds_toArray,List.set_cons_succ,List.set_cons_zero,e14,e15,e16,e17,e18,hv19,hv20,e21]at hA
     clear hO hall e14 e15 e16 e17 e18 hv19 hv20 e21
     subst hA
     obtain⟨g2,cap2,rfl,hg1,hg2⟩:=e20.form (by omega)
     have hB4:w'.heap[tb]?=some (.cells (cs.setIfInBounds o v) T (0,0)):=Qn (Q9 hE) hne2 HB3.out;have hf4:w'.frozen? ⟨tb,o,none⟩=false:=Qj hB4 o;have q4:w'.cell? ⟨tb,o,none⟩=some v:=by rw[Qa hB4,Array.getElem?_setIfInBounds_self_of_lt ho']
     have HO4:=QLh e20;have HB4:=QLh hB4;have HC4:Hid (Chg rb tb w w'):=QLh ⟨(Q9 hE).os.trans HC3.out.os,(Q9 hE).tape.trans HC3.out.tape,(Q9 hE).output.trans HC3.out.output,Nat.le_trans HC3.out.size (Q9 hE).size,λ i hi h1 h2=>((Q9 hE).block i (Nat.lt_of_lt_of_le hi HC3.out.size) (Z4 HO3.out hi)).trans (HC3.out.block i hi h1 h2)⟩;have HRD4:Hid (RdB w' rb s y.2 10240):=QLh (Qn (Q9 hE) hrn HRD3.out);clear e20 hB4 hE e19 cl ct hi hz0 hz1 hz2 hne1 hne2 hne3 hrn
     go_wp2
     have hsz:∀u,(cs.setIfInBounds o v).setIfInBounds o u=cs.setIfInBounds o u:=λ u=>Array.setIfInBounds_setIfInBounds ..
     go_roundg g'
     case rel=>
      exact⟨m+1,acc++[y.1],y.2,_,by omega,by go_num,HRM3.out,QLh (by have:=HLA.out;simp only[len,List.length_append,List.length_singleton]at this ⊢;omega),HLE3.out,Qg HRD4.out (by exact λ e=>htr e.symm) _,HC4.out.set o _,QLh (by rw[←hsz];exact Qb HB4.out _),Qe0 HO4.out hts (by simp),λ h0=>by omega⟩
     case measure=>omega
   ·obtain rfl:m=k:=by omega
    have i1:¬((m:Nat):Int)<m:=by omega
    obtain rfl:gk=0:=by omega
    go_wp2
    go_end0
    refine⟨HC.out,?_⟩
    rw[Qk3 HR.out (HRM.out.trans (rmany.eq_1 ..))]
    exact⟨rfl,HRD.out,HLE.out,RecAt.put HCS.out HX.out ho HC.out HB.out (Qxs HO.out hrs hts H0.out)⟩
theorem Qqr(B qb rb tb o bx mb gb gf most:Nat)(gc:Array Value)(x0:Rcd)(T:TypeId)(n:Nat)(s key:ByteArray)(a:Nat)(x:Rcd)(w:World)(rd:Nat→Except Flt (RevD × Nat))
  (h1:w.heap[bx]?=some (.cells #[pt tb o] 241 (0,0))) (h2:w.heap[mb]?=some (.cells #[.int .i64 most] 3 (0,0))) (h3:∃t,w.heap[gb]?=some (.cells #[.func (.func gf) #[] gc] t (0,0)))
  (hbr:bx≠rb∧bx≠tb) (hgr:gb≠rb∧gb≠tb) (htr:tb≠rb) (hqt:qb≠tb) (hBt:B≤tb) (ho:o<n) (hm:most≤10240)
  (eg:∀args w,(callFunc gf args).run Tryz.prog w=.ok (.enter gf args) w)
  (hget:∀w' xb a',Chg rb tb w w'→w.heap.size≤xb→w'.heap[xb]?=some (.cells #[.int .u64 0,.int .u64 0,.bool false,.int .u64 0,.slice none 0 0,.slice none 0 0,.string ⟨#[]⟩,.int .u64 0,.int .u64 0,.int .u64 0,.int .u64 0] 48 (0,0))→RdEnv B w' qb rb s a'→Calls Tryz.prog gf (#[pt qb 0,pt xb 0]++gc) w' (Qsr (rd a') (λ d w2 c=>∃r:Rev,c=r.cells.toArray∧RevIs rb xb w2 r d) rb xb 48 s w'))
  (hx:RecAt rb tb T n w x) (hx0:x o=.revs []) (h:RdEnv B w qb rb s a):
  Calls Tryz.prog 231 #[pt qb 0,pt mb 0,pt gb 0,pt bx 0] w (Qgy ((Xh s key o most .revs rd).read x a) rb tb T n s w):=by
 have H:=QLh h;have HX:=QLh hx;have HG:=QLh hget
 obtain⟨tg,h3⟩:=h3
 have H1:=QLh h1;have H3:=QLh h3;have hrs:rb<w.heap.size:=lt_of_block h.r;have hts:tb<w.heap.size:=hx.lt;have hbs:bx<w.heap.size:=lt_of_block h1;have hgs:gb<w.heap.size:=lt_of_block h3;have c1:w.cell? ⟨mb,0,none⟩=some (.int .i64 most):=Qa h2 0
 obtain⟨cs,hcs,hcn,hch⟩:=hx
 have HCS:=QLh hcs;have ho':o<cs.size:=by omega
 have HCN:=QLh hcn
 obtain⟨v0,hv0,hd0⟩:=hch o ho
 rw[hx0]at hd0
 obtain⟨za,zc,hz1,hz2,-⟩:=hd0
 obtain⟨rfl,rfl⟩:=hz2 rfl
 have HZ:Hid (cs[o]?=some (.slice none 0 0)):=QLh (by rw[hv0,hz1];rfl);clear h1 h2 h3 h hget hcs hcn hch hv0 hz1 hz2 hx0
 go_enter Tryz.func231,Tryz.ntmps231
 go_wp2_with fail
 refine(Qgw B qb rb s a most w H.out).mono ?_
 intro e w1 hh
 cases hr:Qci s most a with
 | error f=>
  rw[hr]at hh
  obtain⟨fb,rfl,hf,hE⟩:=Qih hh
  have HF:=QLh hf;have HE:=QLh hE;have HR:Hid ((Xh s key o most .revs rd).read x a=.error f):=QLh (by simp only[Xh,hr]);clear hh hf hE hr
  go_wp2
  refine⟨rfl,?_⟩
  rw[HR.out]
  exact⟨Chg.of_ext HE.out,fb,rfl,HF.out,(HX.out.ext HE.out htr).thAt⟩
 | ok kk=>
  rw[hr]at hh
  obtain⟨rfl,hrd,hle,hE⟩:=Qmf hh
  have HRD:=QLh hrd;have HLE:=QLh hle;have hc1:=Chg.of_ext (tb:=tb) hE;have HC1:=QLh hc1;have HB1:Hid (w1.heap[tb]?=some (.cells cs T (0,0))):=QLh ((hE.block _ hts (by simpa using htr)).trans HCS.out);have hkm:kk.1≤10240:=by have:=Qk2 hr;omega
  obtain⟨k,a0⟩:=kk
  have HR:=QLh hr;clear hh hrd hle hE hr hc1
  go_wp2
  clear c1
  go_loopg [9] k (λ g i wr=>∃(m:Nat) (acc:List RevD) (a':Nat) (v:Value) (rs:List Rev),g+m=k∧i=.int .i64 m∧Hid (rmany rd k a0 []=rmany rd g a' acc)∧Hid (len acc=m)∧Hid (a'≤s.size)∧Hid (RdB wr rb s a' 10240)∧Hid (Chg rb tb w wr)∧
   Hid (wr.heap[tb]?=some (.cells (cs.setIfInBounds o v) T (0,0)))∧Hid (wr.ownsRow w.heap.size 48 11 v m (rs.flatMap Rev.cells))∧Hid (m=0→v=.slice none 0 0)∧Hid (len rs=len acc)∧Hid (∀i,i<len acc→RevIs rb tb wr (Qlz rs i) (lth acc i)))
  case atStart=>
   have e:cs.setIfInBounds o (.slice none 0 0)=cs:=by
    apply Array.ext'
    rw[Array.toList_setIfInBounds]
    have h6:=HZ.out
    apply List.ext_getElem?
    intro i
    by_cases e2:i=o
    ·subst e2;rw[List.getElem?_set_self (by have:=(Array.getElem?_eq_some_iff.1 h6).1;simpa using this)];simpa using h6.symm
    ·rw[List.getElem?_set_ne (λ e3=>e2 e3.symm)]
   exact⟨0,[],a0,.slice none 0 0,[],rfl,rfl,rfl,rfl,HLE.out,HRD.out,HC1.out,by rw[e];exact HB1.out,World.ownsRow_nil _ _ _ _,λ _=>rfl,rfl,λ i hi=>by simp[len]at hi⟩
  case round=>
   clear HRD HLE HC1 HB1
   obtain⟨m,acc,a',v,rs,hgm,rfl,HRM,HLA,HLE,HRD,HC,HB,HO,H0,HRL,HRI⟩:=hrel
   have HEV:Hid (RdEnv B wr qb rb s a'):=QLh (H.out.chg HC.out hqt hBt HRD.out HLE.out)
   by_cases hlt:m<k
   ·have i1:(m:Int)<k:=by omega
    obtain⟨g',rfl⟩:∃g',gk=g'+1:=⟨gk - 1,by omega⟩
    have c3:(wr.alloc (.cells #[.int .u64 0,.int .u64 0,.bool false,.int .u64 0,.slice none 0 0,.slice none 0 0,.string ⟨#[]⟩,.int .u64 0,.int .u64 0,.int .u64 0,.int .u64 0] 48)).cell? ⟨gb,0,none⟩=some (.func (.func gf) #[] gc):=Qa (Qf ((HC.out.block gb hgs hgr.1 hgr.2).trans H3.out) _) 0
    obtain⟨xb,hxb⟩:∃xb,wr.heap.size=xb:=⟨_,rfl⟩
    have hxw:w.heap.size≤xb:=by rw[←hxb];exact HC.out.size
    obtain⟨wa,hwa⟩:∃wa,wr.alloc (.cells #[.int .u64 0,.int .u64 0,.bool false,.int .u64 0,.slice none 0 0,.slice none 0 0,.string ⟨#[]⟩,.int .u64 0,.int .u64 0,.int .u64 0,.int .u64 0] 48)=wa:=⟨_,rfl⟩
    have HA:Hid (Below wr.heap.size wr wa):=QLh (by rw[←hwa];exact Qh (Below.refl _ _) _);have HXB:Hid (wa.heap[xb]?=some (.cells #[.int .u64 0,.int .u64 0,.bool false,.int .u64 0,.slice none 0 0,.slice none 0 0,.string ⟨#[]⟩,.int .u64 0,.int .u64 0,.int .u64 0,.int .u64 0] 48 (0,0))):=QLh (by rw[←hwa,←hxb];exact heap_alloc_new _ _)
    rw[hwa]at c3
    have HEA:Hid (RdEnv B wa qb rb s a'):=QLh (HEV.out.below HA.out)
    go_upto_region 3 with fail
    try rw[hwa]
    try simp only[hxb]
    clear hwa
    go_wp2_with fail
    refine(HG.out wa xb a' (HC.out.next HA.out) hxw HXB.out HEA.out).mono ?_
    intro e w3 hh
    cases hr3:rd a' with
    | error f=>
     rw[hr3]at hh
     obtain⟨fb,rfl,hf,hc⟩:=Qk1 hh
     have HF:=QLh hf;have HC3:Hid (Chg rb tb w w3):=QLh ((HC.out.next HA.out).inner hc hxw);have HTH:Hid (Qz2 tb T n w3):=QLh ⟨_,(((Chg.of_below HA.out).trans hc).block tb (Nat.lt_of_lt_of_le hts HC.out.size) htr (by omega)).trans HB.out,by rw[Array.size_setIfInBounds];exact HCN.out⟩;have HE:Hid (rmany rd k a0 []=.error f):=QLh (HRM.out.trans (Qcc hr3));clear hh hf hc hr3 c3
     go_wp2
     refine⟨rfl,?_⟩
     rw[Qij HR.out HE.out]
     exact⟨HC3.out,fb,rfl,HF.out,HTH.out⟩
    | ok y=>
     rw[hr3]at hh
     obtain⟨rfl,hc,hrd3,hle3,cx,hx3,r,rfl,hri⟩:=Qn9 hh
     have hcw:Chg rb xb wr w3:=(Chg.of_below HA.out).trans hc;have HC3:Hid (Chg rb tb w w3):=QLh ((HC.out.next HA.out).inner hc hxw);have HRM3:Hid (rmany rd k a0 []=rmany rd g' y.2 (acc++[y.1])):=QLh (HRM.out.trans (Qc2 hr3));have HRD3:=QLh hrd3;have HLE3:=QLh hle3;have HX3:=QLh hx3;have hxs:xb<w3.heap.size:=lt_of_block hx3;have htw:tb<wr.heap.size:=Nat.lt_of_lt_of_le hts HC.out.size;have HB3:Hid (w3.heap[tb]?=some (.cells (cs.setIfInBounds o v) T (0,0))):=QLh ((hcw.block tb htw htr (by omega)).trans HB.out);have HO3:Hid (w3.ownsRow w.heap.size 48 11 v m (rs.flatMap Rev.cells)):=QLh (Qoa HO.out hcw hrs (by omega));have cl:w3.cell? ⟨bx,0,none⟩=some (pt tb o):=Qa ((HC3.out.block bx hbs hbr.1 hbr.2).trans H1.out) 0;have ct:w3.cell? ⟨tb,o,none⟩=some v:=by rw[Qa HB3.out,Array.getElem?_setIfInBounds_self_of_lt ho']
     have cx1:w3.cell? ⟨xb,0,none⟩=some (.int .u64 r.pos):=Qa hx3 0;have cx2:w3.cell? ⟨xb,1,none⟩=some (.int .u64 r.L):=Qa hx3 1;have cx3:w3.cell? ⟨xb,2,none⟩=some (.bool r.signed):=Qa hx3 2;have cx4:w3.cell? ⟨xb,3,none⟩=some (.int .u64 r.idx):=Qa hx3 3;have cx5:w3.cell? ⟨xb,4,none⟩=some (.slice r.wa r.wn r.wc):=Qa hx3 4;have cx6:w3.cell? ⟨xb,5,none⟩=some (.slice r.pa r.pn r.pc):=Qa hx3 5;have cx7:w3.cell? ⟨xb,6,none⟩=some (.string r.root):=Qa hx3 6;have cx8:w3.cell? ⟨xb,7,none⟩=some (.int .u64 r.wt):=Qa hx3 7;have cx9:w3.cell? ⟨xb,8,none⟩=some (.int .u64 r.first):=Qa hx3 8;have cx10:w3.cell? ⟨xb,9,none⟩=some (.int .u64 r.life):=Qa hx3 9;have cx11:w3.cell? ⟨xb,10,none⟩=some (.int .u64 r.keys):=Qa hx3 10;have hne1:some bx≠v.ownBlock:=Z4 HO3.out hbs;have hne2:some tb≠v.ownBlock:=Z4 HO3.out hts;have hne3:some xb≠v.ownBlock:=Jx HO.out (by omega);have hrn:some rb≠v.ownBlock:=Z4 HO3.out hrs
     obtain⟨i0,hi,hz0,hz1,hz2⟩:=info_parts Qkx
     have hmk:m<10240:=by omega
     have hws:w.heap.size≤w3.heap.size:=HC3.out.size;have HRI3:Hid (∀i,i<len (acc++[y.1])→RevIs rb tb w3 (Qlz (rs++[r]) i) (lth (acc++[y.1]) i)):=QLh (λ i hi=>by
      have hl1:rs.length=acc.length:=HRL.out;have hl2:i<acc.length+1:=by simpa [len] using hi
      by_cases e:i<acc.length
      ·have e1:Qlz (rs++[r]) i=Qlz rs i:=by rw[Qex _ i (by simp;omega),Qex _ i (by omega),List.getElem_append_left (by omega)]
       have e2:lth (acc++[y.1]) i=lth acc i:=by rw[Jw _ i (by simp;omega),Jw _ i (by omega),List.getElem_append_left (by omega)]
       rw[e1,e2]
       exact(HRI.out i e).chgNew hcw (by omega)
      ·obtain rfl:i=acc.length:=by omega
       have e1:Qlz (rs++[r]) acc.length=r:=by rw[Qex _ _ (by simp;omega),List.getElem_append_right (by omega)];simp[hl1]
       have e2:lth (acc++[y.1]) acc.length=y.1:=by rw[Jw _ _ (by simp),List.getElem_append_right (by omega)];simp
       rw[e1,e2]
       exact hri.outer (by omega))
     clear hh hc hcw hrd3 hle3 hx3 hr3 c3 HB HO HRM HRD HLE HXB HEA HEV
     go_upto_region 4 with fail
     refine Qp 8 6 (v.ownBlock) (Qaw [λ u _=>u=(pt tb o),λ u _=>u=(pt tb o),λ u _=>u=(pt tb o),λ u _=>u=(v),λ u _=>u=(r.val),λ u w'=>∃b,u=.slice (some ⟨b,0,none⟩) 1 1∧some b≠v.ownBlock∧w'.heap[b]?=some (.cells r.cells.toArray 48 (0,0)),λ u w'=>w'.ownsRow w.heap.size 48 11 u (m+1) ((rs.flatMap Rev.cells)++r.cells),λ u _=>u=(pt tb o)]) rfl (by kernel_rfl) (by kernel_rfl) (Zb ⟨Qe,Qe,Qe,Qe,Qe,?m5,?m6,Qe,trivial⟩) (Q6 8 ⟨?s0,?s1,?s2,?s3,?s4,?s5,?s6,?s7,trivial⟩) ?_
     case m5=>
      exact⟨λ u w1 w' h ⟨b,h1,hb,hb'⟩=>⟨b,h1,hb,Zt h hb'⟩,λ _ u w1 w' h ⟨b,h1,hb,hb'⟩=>⟨b,h1,hb,Qn h hb hb'⟩⟩
     case m6=>
      exact⟨λ u w1 w' h hu=>Zi hu h,λ hn=>absurd rfl hn⟩
     case s0=>
      refine Qc (v:=(pt tb o)) (λ av wv hE hS hO hD=>?_) (λ _=>rfl)
      have f3:=QEf av 3 (pt bx 0) (hO.2.2 3 rfl);have cl:=Qd hE hne1 cl;have ct:=Qd hE hne2 ct;have cx1:=Qd hE hne3 cx1;have cx2:=Qd hE hne3 cx2;have cx3:=Qd hE hne3 cx3;have cx4:=Qd hE hne3 cx4;have cx5:=Qd hE hne3 cx5;have cx6:=Qd hE hne3 cx6;have cx7:=Qd hE hne3 cx7;have cx8:=Qd hE hne3 cx8;have cx9:=Qd hE hne3 cx9;have cx10:=Qd hE hne3 cx10;have cx11:=Qd hE hne3 cx11
      refine⟨rfl,?_⟩
      simp[go_sem,f3,cl,ct,cx1,cx2,cx3,cx4,cx5,cx6,cx7,cx8,cx9,cx10,cx11]
     case s1=>
      refine Qc (v:=(pt tb o)) (λ av wv hE hS hO hD=>?_) (λ _=>rfl)
      have f3:=QEf av 3 (pt bx 0) (hO.2.2 3 rfl);have cl:=Qd hE hne1 cl;have ct:=Qd hE hne2 ct;have cx1:=Qd hE hne3 cx1;have cx2:=Qd hE hne3 cx2;have cx3:=Qd hE hne3 cx3;have cx4:=Qd hE hne3 cx4;have cx5:=Qd hE hne3 cx5;have cx6:=Qd hE hne3 cx6;have cx7:=Qd hE hne3 cx7;have cx8:=Qd hE hne3 cx8;have cx9:=Qd hE hne3 cx9;have cx10:=Qd hE hne3 cx10;have cx11:=Qd hE hne3 cx11
      refine⟨rfl,?_⟩
      simp[go_sem,f3,cl,ct,cx1,cx2,cx3,cx4,cx5,cx6,cx7,cx8,cx9,cx10,cx11]
     case s2=>
      refine Qc (v:=(pt tb o)) (λ av wv hE hS hO hD=>?_) (λ _=>rfl)
      have f15:=QEf av 15 (pt tb o) (hD.1 rfl _ rfl)
      refine⟨rfl,?_⟩
      simp[go_sem,f15]
     case s3=>
      refine Qc (v:=(v)) (λ av wv hE hS hO hD=>?_) (λ _=>rfl)
      have f16:=QEf av 16 (pt tb o) (hD.1 rfl _ rfl);have cl:=Qd hE hne1 cl;have ct:=Qd hE hne2 ct;have cx1:=Qd hE hne3 cx1;have cx2:=Qd hE hne3 cx2;have cx3:=Qd hE hne3 cx3;have cx4:=Qd hE hne3 cx4;have cx5:=Qd hE hne3 cx5;have cx6:=Qd hE hne3 cx6;have cx7:=Qd hE hne3 cx7;have cx8:=Qd hE hne3 cx8;have cx9:=Qd hE hne3 cx9;have cx10:=Qd hE hne3 cx10;have cx11:=Qd hE hne3 cx11
      refine⟨rfl,?_⟩
      simp[go_sem,f16,cl,ct,cx1,cx2,cx3,cx4,cx5,cx6,cx7,cx8,cx9,cx10,cx11]
     case s4=>
      refine Qc (v:=(r.val)) (λ av wv hE hS hO hD=>?_) (λ _=>rfl)
      have f5:=QEf av 5 (pt xb 0) (hO.2.2 5 rfl);have cl:=Qd hE hne1 cl;have ct:=Qd hE hne2 ct;have cx1:=Qd hE hne3 cx1;have cx2:=Qd hE hne3 cx2;have cx3:=Qd hE hne3 cx3;have cx4:=Qd hE hne3 cx4;have cx5:=Qd hE hne3 cx5;have cx6:=Qd hE hne3 cx6;have cx7:=Qd hE hne3 cx7;have cx8:=Qd hE hne3 cx8;have cx9:=Qd hE hne3 cx9;have cx10:=Qd hE hne3 cx10;have cx11:=Qd hE hne3 cx11
      refine⟨rfl,?_⟩
      simp[go_sem,f5,cl,ct,cx1,cx2,cx3,cx4,cx5,cx6,cx7,cx8,cx9,cx10,cx11]
     case s5=>
      refine Qo (λ av wv hE hS hO hD=>?_)
      have f18:=QEf av 18 (r.val) (hD.1 rfl _ rfl)
      refine⟨rfl,?_⟩
      refine Zn (v:=.slice (some ⟨wv.heap.size,0,none⟩) 1 1) (w':=wv.alloc (.cells r.cells.toArray 48)) (by simp[go_sem,f18,Rev.cells]) ⟨_,rfl,Qm (Qh (Zr _) _),wv.heap.size,rfl,?_,heap_alloc_new _ _⟩
      exact Jx HO3.out (by have:=hE.size;simp at this;omega)
     case s6=>
      refine Qo (λ av wv hE hS hO hD=>?_)
      have d17:av.eval (.tmp 17)=(v):=hD.1 rfl _ rfl;have f17:=(Qq av 17).symm.trans d17;have d19:(λ u w'=>∃b,u=.slice (some ⟨b,0,none⟩) 1 1∧some b≠v.ownBlock∧w'.heap[b]?=some (.cells r.cells.toArray 48 (0,0))) (av.eval (.tmp 19)) wv:=hD.2.1 rfl _ rfl
      refine⟨rfl,?_⟩
      obtain⟨b19,h19,hb19,hc19⟩:=d19
      have hown1:wv.ownsRow w.heap.size 48 11 v m (rs.flatMap Rev.cells):=Zi (w:=w3.drew) HO3.out (hS rfl)
      refine wp_append_lies wv _ _ _ rfl w.heap.size 48 i0 (.agg Rev.zero.cells.toArray) 11 128 Tryz.underlying24 hi hz0 hz1 hz2 rfl (by decide) v m _ d17 hown1 ⟨b19,0,none⟩ 1 1 r.cells (by exact h19) rfl (World.news_of_block hc19) (by intro u hu;simp[Rev.cells]at hu;rcases hu with rfl | rfl | rfl | rfl | rfl | rfl | rfl | rfl | rfl | rfl | rfl <;> rfl) (by decide) (by unfold maxLen;omega) (by omega) (by have:=hE.size;simp at this;omega) _ rfl ?_
      intro g2 cap2 w2 hown2 hgrow hat hlt2
      exact⟨_,rfl,Qcf hgrow,hown2⟩
     case s7=>
      refine Qc (v:=(pt tb o)) (λ av wv hE hS hO hD=>?_) (λ _=>rfl)
      have f14:=QEf av 14 (pt tb o) (hD.1 rfl _ rfl)
      refine⟨rfl,?_⟩
      simp[go_sem,f14]
     intro a' w' hE hO hall
     have hA:=Ql (ds:=[14,15,16,17,18,19,20,21]) rfl hO (by kernel_rfl);have e14:a'.eval (.tmp 14)=(pt tb o):=hall.1 _ rfl;have e15:a'.eval (.tmp 15)=(pt tb o):=hall.2.1 _ rfl;have e16:a'.eval (.tmp 16)=(pt tb o):=hall.2.2.1 _ rfl;have e17:a'.eval (.tmp 17)=(v):=hall.2.2.2.1 _ rfl;have e18:a'.eval (.tmp 18)=(r.val):=hall.2.2.2.2.1 _ rfl;have e19:(λ u w'=>∃b,u=.slice (some ⟨b,0,none⟩) 1 1∧some b≠v.ownBlock∧w'.heap[b]?=some (.cells r.cells.toArray 48 (0,0))) (a'.eval (.tmp 19)) w':=hall.2.2.2.2.2.1 _ rfl;have e20:(λ u w'=>w'.ownsRow w.heap.size 48 11 u (m+1) ((rs.flatMap Rev.cells)++r.cells)) (a'.eval (.tmp 20)) w':=hall.2.2.2.2.2.2.1 _ rfl;have e21:a'.eval (.tmp 21)=(pt tb o):=hall.2.2.2.2.2.2.2.1 _ rfl
     obtain⟨v19,hv19⟩:∃v,a'.eval (.tmp 19)=v:=⟨_,rfl⟩
     rw[hv19]at e19
     obtain⟨v20,hv20⟩:∃v,a'.eval (.tmp 20)=v:=⟨_,rfl⟩
     rw[hv20]at e20
     simp only[List.foldl_cons,List.foldl_nil,Act.put,List.setIfInBounds_toArray,List.set_cons_succ,List.set_cons_zero,e14,e15,e16,e17,e18,hv19,hv20,e21]at hA
     clear hO hall e14 e15 e16 e17 e18 hv19 hv20 e21
     subst hA
     obtain⟨g2,cap2,rfl,hg1,hg2⟩:=e20.form (by omega)
     have hB4:w'.heap[tb]?=some (.cells (cs.setIfInBounds o v) T (0,0)):=Qn (Q9 hE) hne2 HB3.out;have hf4:w'.frozen? ⟨tb,o,none⟩=false:=Qj hB4 o;have q4:w'.cell? ⟨tb,o,none⟩=some v:=by rw[Qa hB4,Array.getElem?_setIfInBounds_self_of_lt ho']
     have HO4:=QLh e20;have HB4:=QLh hB4;have HC4:Hid (Chg rb tb w w'):=QLh ⟨(Q9 hE).os.trans HC3.out.os,(Q9 hE).tape.trans HC3.out.tape,(Q9 hE).output.trans HC3.out.output,Nat.le_trans HC3.out.size (Q9 hE).size,λ i hi h1 h2=>((Q9 hE).block i (Nat.lt_of_lt_of_le hi HC3.out.size) (Z4 HO3.out hi)).trans (HC3.out.block i hi h1 h2)⟩;have HRD4:Hid (RdB w' rb s y.2 10240):=QLh (Qn (Q9 hE) hrn HRD3.out);have HRI4:Hid (∀i,i<len (acc++[y.1])→RevIs rb tb w' (Qlz (rs++[r]) i) (lth (acc++[y.1]) i)):=QLh (λ i hi=>(HRI3.out i hi).ext (Q9 hE) (λ k hk=>by obtain⟨cs2,h5⟩:=Qc1 HO3.out k hk;exact⟨cs2,_,h5,by decide⟩));clear e20 hB4 hE e19 cl ct hi hz0 hz1 hz2 hne1 hne2 hne3 hrn
     go_wp2
     have hsz:∀u,(cs.setIfInBounds o v).setIfInBounds o u=cs.setIfInBounds o u:=λ u=>Array.setIfInBounds_setIfInBounds ..
     go_roundg g'
     case rel=>
      exact⟨m+1,acc++[y.1],y.2,_,rs++[r],by omega,by go_num,HRM3.out,QLh (by have:=HLA.out;simp only[len,List.length_append,List.length_singleton]at this ⊢;omega),HLE3.out,Qg HRD4.out (by exact λ e=>htr e.symm) _,HC4.out.set o _,QLh (by rw[←hsz];exact Qb HB4.out _),Qe0 HO4.out hts (by simp),λ h0=>by omega,QLh (by have:=HRL.out;simp only[len,List.length_append,List.length_singleton]at this ⊢;omega),QLh (λ i hi=>(HRI4.out i hi).chg ((Chg.refl rb tb w').set o _))⟩
     case measure=>omega
   ·obtain rfl:m=k:=by omega
    have i1:¬((m:Nat):Int)<m:=by omega
    obtain rfl:gk=0:=by omega
    go_wp2
    go_end0
    refine⟨HC.out,?_⟩
    rw[Qk3 HR.out (HRM.out.trans (rmany.eq_1 ..))]
    exact⟨rfl,HRD.out,HLE.out,RecAt.put HCS.out HX.out ho HC.out HB.out (Qxt HO.out hrs hts H0.out HRL.out HRI.out)⟩
theorem Qxu(a b:ByteArray):(a == b)=decide (a=b):=by
 show ByteArray.instBEq.beq a b=_
 obtain⟨x⟩:=a
 obtain⟨y⟩:=b
 have h:ByteArray.instBEq.beq (⟨x⟩:ByteArray) ⟨y⟩=(x == y):=rfl
 rw[h]
 by_cases e:x=y
 ·subst e;simp
 ·have:(x == y)=false:=by simpa using e
  rw[this];symm;rw[decide_eq_false_iff_not];intro h2;cases h2;exact e rfl
instance:LawfulBEq ByteArray where
 rfl:=by intro a;rw[Qxu];exact decide_eq_true rfl
 eq_of_beq:=by intro a b h;rw[Qxu]at h;exact of_decide_eq_true h
def Qef:Nat→List (ByteArray × Value)→List MapEntry
 | _,[]=>[]
 | n,p :: r=>⟨.string p.1,p.2,n⟩ :: Qef (n+1) r
def Qdp(l:List (ByteArray × Value)):Obj:=.map (Qef 0 l).toArray l.length
def Qe1(l:List (ByteArray × Value))(k:ByteArray):Option Value:=(l.find? (λ p=>p.1 == k)).map (·.2)
def Qdq:List (ByteArray × Value)→ByteArray→Value→List (ByteArray × Value)
 | [],k,v=>[(k,v)]
 | p :: r,k,v=>if p.1=k then(k,v) :: r else p :: Qdq r k v
theorem Qmm:∀(n:Nat) (l:List (ByteArray × Value)),(Qef n l).length=l.length
 | _,[]=>rfl
 | n,_ :: r=>by simp[Qef,Qmm (n+1) r]
theorem Qmn:∀(n:Nat) (l:List (ByteArray × Value)) (i:Nat) (h:i<l.length),(Qef n l)[i]?=some ⟨.string l[i].1,l[i].2,n+i⟩
 | n,p :: r,0,_=>rfl
 | n,p :: r,i+1,h=>by
  simp only[Qef,List.getElem?_cons_succ,List.getElem_cons_succ]
  rw[Qmn (n+1) r i (by simpa using h)]
  congr 2;omega
theorem Qj4(k:ByteArray)(v:Value):∀(n:Nat) (l:List (ByteArray × Value)),Qef n (l++[(k,v)])=Qef n l++[⟨.string k,v,n+l.length⟩]
 | n,[]=>rfl
 | n,p :: r=>by
  simp only[List.cons_append,Qef,Qj4 k v (n+1) r,List.length_cons]
  congr 4;omega
theorem Qbn(k:ByteArray):∀(n m:Nat) (l:List (ByteArray × Value)),
  Instr.findNow .string (.string k) (Qef n l) m=some (((l.zipIdx m).find? (λ p=>p.1.1 == k)).map (λ p=>(p.2,p.1.2)))
 | _,_,[]=>rfl
 | n,m,p :: r=>by
  simp only[Qef,Instr.findNow,Instr.sameNow,if_true,List.zipIdx_cons,List.find?_cons]
  by_cases h:p.1=k
  ·subst h;simp
  ·have h1:(k == p.1)=false:=by simpa using λ e=>h e.symm
   have h2:(p.1 == k)=false:=by simpa using h
   simp only[h1,h2,Qbn k (n+1) (m+1) r]
theorem Qfu(k:ByteArray):∀(m:Nat) (l:List (ByteArray × Value)),(((l.zipIdx m).find? (λ p=>p.1.1 == k)).map (λ p=>p.1.2))=Qe1 l k
 | _,[]=>rfl
 | m,p :: r=>by
  simp only[Qe1,List.zipIdx_cons,List.find?_cons]
  by_cases h:(p.1 == k)=true
  ·simp[h]
  ·simp only[Bool.not_eq_true]at h
   simp only[h]
   exact Qfu k (m+1) r
theorem Qek(k:ByteArray)(v:Value):∀(m:Nat) (l:List (ByteArray × Value)),(l.zipIdx m).find? (λ p=>p.1.1 == k)=none→Qdq l k v=l++[(k,v)]
 | _,[],_=>rfl
 | m,p :: r,h=>by
  simp only[List.zipIdx_cons,List.find?_cons]at h
  by_cases h1:(p.1 == k)=true
  ·simp[h1]at h
  ·simp only[Bool.not_eq_true]at h1
   simp only[h1]at h
   have h2:¬p.1=k:=by simpa using h1
   simp only[Qdq,h2,if_false,List.cons_append,Qek k v (m+1) r h]
theorem Qel(k:ByteArray)(v:Value):∀(n m:Nat) (l:List (ByteArray × Value)) (i:Nat) (x:Value),
  ((l.zipIdx m).find? (λ p=>p.1.1 == k)).map (λ p=>(p.2,p.1.2))=some (i,x)→
  m≤i∧∃h:i - m<l.length,l[i - m].1=k∧(Qef n l).modify (i - m) (λ e=>{ e with key:=.string k,val:=v })=Qef n (Qdq l k v)∧(Qdq l k v).length=l.length
 | n,m,p :: r,i,x,h=>by
  simp only[List.zipIdx_cons,List.find?_cons]at h
  by_cases h1:(p.1 == k)=true
  ·simp only[h1]at h
   simp at h
   obtain⟨rfl,rfl⟩:=h
   have h2:p.1=k:=by simpa using h1
   refine⟨Nat.le_refl _,by simp,by simpa using h2,?_,?_⟩
   ·simp[Qef,Qdq,h2]
   ·simp[Qdq,h2]
  ·simp only[Bool.not_eq_true]at h1
   simp only[h1]at h
   have h2:¬p.1=k:=by simpa using h1
   obtain⟨a,b,c,d,e⟩:=Qel k v (n+1) (m+1) r i x h
   have e1:i - m=(i - (m+1))+1:=by omega
   refine⟨by omega,by simp;omega,?_,?_,?_⟩
   ·simp only[e1,List.getElem_cons_succ];exact c
   ·simp only[e1,Qef,Qdq,h2,if_false,List.modify_succ_cons,d]
   ·simp only[Qdq,h2,if_false,List.length_cons,e]
section
variable {P:Program} {K E t:TypeId} {w:World} {b:Nat} {l:List (ByteArray × Value)}
theorem Qd4(k:ByteArray):IsKey .string (.string k):=by simp[IsKey]
theorem Qk4(ht:P.underlying t=some (.map K E))(hK:P.underlying K=some .string){z:Value}(hz:(zeroValue E).run P w=.ok z w)(hb:w.heap[b]?=some (Qdp l))(k:ByteArray):
  (Instr.lookup t (.map (some b)) (.string k) false).run P w=.ok ((Qe1 l k).getD z) w:=by
 unfold Qdp at hb
 rw[←Qfu k 0 l]
 simp only[Instr.lookup,run_underlying ht,MapKept.run_getObj_map hb,MapKept.run_checkKey hK (Qd4 k),MapKept.run_findKey hK (Qbn k 0 0 l),Result.andThen,Sem.run_bind,Sem.run_pure]
 cases h:(l.zipIdx 0).find? (λ p=>p.1.1 == k) <;> simp[hz,Result.andThen]
theorem Qhi(ht:P.underlying t=some (.map K E))(hK:P.underlying K=some .string)(hb:w.heap[b]?=some (Qdp l))(k:ByteArray)(v:Value):
  (Instr.mapUpdate t (.map (some b)) (.string k) v).run P w=.ok () (setBlock w b (Qdp (Qdq l k v))):=by
 have hb0:=hb
 unfold Qdp at hb
 cases h:(l.zipIdx 0).find? (λ p=>p.1.1 == k)with
 | none=>
  simp only[Instr.mapUpdate,run_underlying ht,MapKept.run_getObj_map hb,MapKept.run_checkKey hK (Qd4 k),MapKept.run_findKey hK (Qbn k 0 0 l),h,Result.andThen,Sem.run_bind,Sem.run_pure,Option.map_none,MapKept.run_setObj_map _ hb]
  rw[Qek k v 0 l h]
  unfold Qdp setBlock
  rw[Qj4,Nat.zero_add]
  simp
 | some p=>
  obtain⟨_,h1,h2,h3,h4⟩:=Qel k v 0 0 l p.2 p.1.2 (by rw[h];rfl)
  have h5:(((Qef 0 l).toArray[p.2]?).map (·.key)).getD (.string k)=.string k:=by
   have:=Qmn 0 l p.2 (by simpa using h1)
   simp only[List.getElem?_toArray,this,Option.map_some,Option.getD_some]
   have h2':l[p.2].1=k:=h2
   rw[h2']
  simp only[Instr.mapUpdate,run_underlying ht,MapKept.run_getObj_map hb,MapKept.run_checkKey hK (Qd4 k),MapKept.run_findKey hK (Qbn k 0 0 l),h,Result.andThen,Sem.run_bind,Sem.run_pure,Option.map_some,MapKept.run_setObj_map _ hb,h5,MapKept.run_keyThatStays (Qd4 k)]
  unfold Qdp setBlock
  rw[h4,←h3]
  simp
section
variable {ops:Array Oper} {rest:List Oper} {o:Oper} {a:Act} {Q:Exit→Act→World→Prop}
theorem Qe2(hg:o.guard=none)(m x v:Operand)(t K E:TypeId)(hop:o.op=Op.mapUpdate t m x v)(ht:P.underlying t=some (.map K E))(hK:P.underlying K=some .string)
  (b:Nat) (l:List (ByteArray × Value)) (hm:a.eval m=.map (some b)) (hb:w.heap[b]?=some (Qdp l)) (k:ByteArray) (val:Value) (hx:a.eval x=.string k) (hv:a.eval v=val)
  (hN:wpList P ops Q rest (a.put o.dst undef) (setBlock w b (Qdp (Qdq l k val)))):wpList P ops Q (o :: rest) a w:=by
 refine wpList_plain hg λ K' hK'=>?_
 unfold Oper.wp
 simp[execOp,hop,hm,hx,hv,Qhi ht hK hb,Result.andThen]
 exact hK' _ _ hN
end
end
theorem Qcp(p:ByteArray × Value)(l:List (ByteArray × Value))(k:ByteArray):Qe1 (p :: l) k=if p.1=k then some p.2 else Qe1 l k:=by
 unfold Qe1
 rw[List.find?_cons]
 by_cases h:p.1=k
 ·simp[h]
 ·have:(p.1 == k)=false:=by simpa using h
  simp[h,this]
theorem Qob(l:List (ByteArray × Value))(k j:ByteArray)(v:Value):Qe1 (Qdq l k v) j=if k=j then some v else Qe1 l j:=by
 induction l with
 | nil=>rw[Qdq,Qcp]
 | cons p r ih=>
  unfold Qdq
  by_cases h:p.1=k
  ·rw[if_pos h,Qcp,Qcp]
   by_cases h2:k=j
   ·simp[h2]
   ·have:¬p.1=j:=λ e=>h2 (h.symm.trans e)
    simp[h2,this]
  ·rw[if_neg h,Qcp,Qcp,ih]
   by_cases h2:k=j
   ·have:¬p.1=j:=λ e=>h (e.trans h2.symm)
    simp[h2,this]
   ·simp[h2]
def Qj5(gs:List GSpec):Prop:=∀i j,i<gs.length→j<gs.length→(gth gs i).key=(gth gs j).key→i=j
def Qyq(gs:List GSpec):Prop:=∀i j,i<gs.length→j<gs.length→i≠j→∀o,o ∈ (gth gs i).offs→o ∉ (gth gs j).offs
def SeenIs(gs:List GSpec)(L:List (ByteArray × Value))(seen:List Nat):Prop:=∀i,i<gs.length→Qe1 L (gth gs i).key=if i ∈ seen then some (.int .i64 1)else none
theorem SeenIs.put{gs:List GSpec}{L:List (ByteArray × Value)}{seen:List Nat}(h:SeenIs gs L seen)(hk:Qj5 gs){j:Nat}(hj:j<gs.length):SeenIs gs (Qdq L (gth gs j).key (.int .i64 1)) (j :: seen):=λ i hi=>by
 rw[Qob]
 by_cases e:(gth gs j).key=(gth gs i).key
 ·have:=hk j i hj hi e
  subst this
  rw[if_pos rfl,if_pos (List.mem_cons_self ..)]
 ·rw[if_neg e,h i hi]
  have:i≠j:=λ e2=>e (by rw[e2])
  by_cases hm:i ∈ seen
  ·rw[if_pos hm,if_pos (List.mem_cons_of_mem _ hm)]
  ·rw[if_neg hm,if_neg (by simp[this,hm])]
theorem Flds.chg{rb tb:Nat}{w w':World}{b off:Nat}{l:List FVal}(h:Flds w (some ⟨b,off,none⟩) l)(hc:Chg rb tb w w')(h1:b≠rb)(h2:b≠tb):Flds w' (some ⟨b,off,none⟩) l:=λ i hi=>by
 obtain⟨b',off',e,h3⟩:=h i hi
 cases e
 have hb:=hc.block b (Qw h3.c0) h1 h2;have e:∀q,w'.cell? ⟨b,q,none⟩=w.cell? ⟨b,q,none⟩:=λ q=>World.cell?_of_block (w:=w) hb
 obtain⟨c0,c1,c2,c3,c4,c5⟩:=h3
 exact⟨b,off,rfl,by constructor <;> (rw[e];assumption)⟩
theorem Chg.setBlock{rb tb:Nat}{a b:World}(h:Chg rb tb a b){k:Nat}(hk:a.heap.size≤k)(x:Obj):Chg rb tb a (setBlock b k x):=
 ⟨h.os,h.tape,h.output,by show a.heap.size≤(b.heap.setIfInBounds k x).size;rw[Array.size_setIfInBounds];exact h.size,λ i hi h1 h2=>by
  show(b.heap.setIfInBounds k x)[i]?=_
  rw[Array.getElem?_setIfInBounds_ne (by omega)];exact h.block i hi h1 h2⟩
theorem Qpg(kb:Nat)(k:ByteArray)(w:World)(l:List FVal)(h:w.heap[kb]?=some (.cells #[.string k] 9 (0,0))):Qjr w l 203 #[pt kb 0] (λ i=>(fth l i).key.toList == k.toList):=by
 refine⟨enters_of Tryz.func203 (by kernel_rfl) rfl,λ i hi w' hb=>?_⟩
 have c0:w'.cell? ⟨kb,0,none⟩=some (.string k):=Qa ((hb.block _ (lt_of_block h)).trans h) 0;clear h
 show Calls Tryz.prog _ _ _ (λ e w''=>e=.returned (.bool ((fth l i).key.toList == k.toList))∧Below w'.heap.size w' w'')
 generalize fth l i=v
 show Calls Tryz.prog 203 #[v.val,pt kb 0] w' (λ e w''=>e=.returned (.bool (v.key.toList == k.toList))∧Below w'.heap.size w' w'')
 unfold FVal.val
 have hz:kb<w'.heap.size:=Qw c0
 go_enter Tryz.func203,Tryz.ntmps203
 go_upto_region 1 with fail
 obtain⟨vb,hvb⟩:∃vb,w'.heap.size=vb:=⟨_,rfl⟩
 obtain⟨V,hV⟩:∃V,w'.alloc (.cells #[.string v.key,.bool v.must,.func (.func v.ef) #[] v.ec,.func (.func v.mf) #[] v.mc,.func (.func v.pf) #[] v.pc,.func (.func v.gf) #[] v.gc] 172)=V:=⟨_,rfl⟩
 have HBV:Hid (Below w'.heap.size w' V):=QLh (by rw[←hV];exact Qh (Below.refl _ _) _);have hbk:V.heap[vb]?=some (.cells #[.string v.key,.bool v.must,.func (.func v.ef) #[] v.ec,.func (.func v.mf) #[] v.mc,.func (.func v.pf) #[] v.pc,.func (.func v.gf) #[] v.gc] 172 (0,0)):=by rw[←hV,←hvb];exact heap_alloc_new _ _
 have d0:V.cell? ⟨kb,0,none⟩=some (.string k):=by rw[World.cell?_of_block (w:=w') (HBV.out.block kb hz)];exact c0
 have d1:V.cell? ⟨vb,0,none⟩=some (.string v.key):=Qa hbk 0
 try rw[hV]
 try simp only[hvb]
 clear hV c0 hbk hb
 go_wp2
 go_ret
 exact⟨rfl,HBV.out⟩
theorem Qst(sb mb:Nat)(L:List (ByteArray × Value))(w:World)(l:List FVal)(hL:∀i,i<len l→Qe1 L (fth l i).key=none ∨ Qe1 L (fth l i).key=some (.int .i64 1))(h1:w.heap[sb]?=some (.cells #[.map (some mb)] 276 (0,0)))(h2:w.heap[mb]?=some (Qdp L)):Qjr w l 205 #[pt sb 0] (λ i=>(fth l i).must && (Qe1 L (fth l i).key).isNone):=by
 refine⟨enters_of Tryz.func205 (by kernel_rfl) rfl,λ i hi w' hb=>?_⟩
 have c0:w'.cell? ⟨sb,0,none⟩=some (.map (some mb)):=Qa ((hb.block _ (lt_of_block h1)).trans h1) 0;have c1:=(hb.block _ (lt_of_block h2)).trans h2;clear h1 h2;have hLi:=hL i hi
 show Calls Tryz.prog _ _ _ (λ e w''=>e=.returned (.bool ((fth l i).must && (Qe1 L (fth l i).key).isNone))∧Below w'.heap.size w' w'')
 generalize fth l i=v at hLi
 show Calls Tryz.prog 205 #[v.val,pt sb 0] w' (λ e w''=>e=.returned (.bool (v.must && (Qe1 L v.key).isNone))∧Below w'.heap.size w' w'')
 unfold FVal.val
 have hrun:=fun (W:World) (hW:W.heap[mb]?=some (Qdp L))=>Qk4 (P:=Tryz.prog) (t:=276) (K:=9) (E:=3) Tryz.underlying276 Tryz.underlying9 (Tryz.zeroValue3 W) hW v.key;have hz:sb<w'.heap.size:=Qw c0;have hz2:mb<w'.heap.size:=lt_of_block c1
 go_enter Tryz.func205,Tryz.ntmps205
 go_upto_region 1 with fail
 obtain⟨vb,hvb⟩:∃vb,w'.heap.size=vb:=⟨_,rfl⟩
 obtain⟨V,hV⟩:∃V,w'.alloc (.cells #[.string v.key,.bool v.must,.func (.func v.ef) #[] v.ec,.func (.func v.mf) #[] v.mc,.func (.func v.pf) #[] v.pc,.func (.func v.gf) #[] v.gc] 172)=V:=⟨_,rfl⟩
 have HBV:Hid (Below w'.heap.size w' V):=QLh (by rw[←hV];exact Qh (Below.refl _ _) _);have hbk:V.heap[vb]?=some (.cells #[.string v.key,.bool v.must,.func (.func v.ef) #[] v.ec,.func (.func v.mf) #[] v.mc,.func (.func v.pf) #[] v.pc,.func (.func v.gf) #[] v.gc] 172 (0,0)):=by rw[←hV,←hvb];exact heap_alloc_new _ _
 have d0:V.cell? ⟨sb,0,none⟩=some (.map (some mb)):=by rw[World.cell?_of_block (w:=w') (HBV.out.block sb hz)];exact c0
 have d1:V.cell? ⟨vb,0,none⟩=some (.string v.key):=Qa hbk 0;have d2:V.cell? ⟨vb,1,none⟩=some (.bool v.must):=Qa hbk 1;have hr:=hrun V ((HBV.out.block mb hz2).trans c1)
 try rw[hV]
 try simp only[hvb]
 clear hV hrun c0 c1 hbk hb
 cases hm:v.must with
 | false=>
  rw[hm]at d2
  go_wp2
  go_ret
  exact⟨Z7 (by simp[hm]),HBV.out⟩
 | true=>
  rw[hm]at d2
  rcases hLi with hLi | hLi
  ·rw[hLi]at hr
   have hr':Sem.run Tryz.prog (Instr.lookup 276 (.map (some mb)) (.string v.key) false) V=.ok (.int .i64 0) V:=hr;have HL2:=QLh hLi;clear hr hLi hL
   go_wp2
   go_ret
   exact⟨Z7 (by rw[HL2.out];simp[hm]),HBV.out⟩
  ·rw[hLi]at hr
   have hr':Sem.run Tryz.prog (Instr.lookup 276 (.map (some mb)) (.string v.key) false) V=.ok (.int .i64 1) V:=hr;have HL2:=QLh hLi;clear hr hLi hL
   go_wp2
   go_ret
   exact⟨Z7 (by rw[HL2.out];simp[hm]),HBV.out⟩
theorem Qmo{s:ByteArray}{gs:List GSpec}{x:Rcd}{a:Nat}{f:Flt}(h:tkR 4 s a=.error f):Qbr s gs x a=.error f:=by unfold Qbr;rw[h]
theorem Qcq{s:ByteArray}{gs:List GSpec}{x:Rcd}{a:Nat}{f:Flt}{y:Int × ByteArray × Nat}(h:tkR 4 s a=.ok y)(h2:Qy s gs y.1.toNat 0 x [] y.2.2=.error f):Qbr s gs x a=.error f:=by unfold Qbr;rw[h];simp only[h2]
theorem Qmp{s:ByteArray}{gs:List GSpec}{x:Rcd}{a:Nat}{y:Int × ByteArray × Nat}{z:Rcd × List Nat × Nat}(h:tkR 4 s a=.ok y)(h2:Qy s gs y.1.toNat 0 x [] y.2.2=.ok z)(h3:Xw gs z.2.1=true):Qbr s gs x a=.error (5,0):=by unfold Qbr;rw[h];simp only[h2,h3,if_true]
theorem Qsu{s:ByteArray}{gs:List GSpec}{x:Rcd}{a:Nat}{y:Int × ByteArray × Nat}{z:Rcd × List Nat × Nat}(h:tkR 4 s a=.ok y)(h2:Qy s gs y.1.toNat 0 x [] y.2.2=.ok z)(h3:Xw gs z.2.1=false):Qbr s gs x a=.ok (z.1,z.2.2):=by unfold Qbr;rw[h];simp only[h2,h3];rfl
theorem Qoc(gs:List GSpec)(seen:List Nat):Xw gs seen=true ↔ ∃i,i<gs.length∧((gth gs i).must && !seen.contains i)=true:=by
 unfold Xw
 rw[List.any_eq_true]
 simp only[List.mem_range]
def CKeep(w w':World):Prop:=∀(b:Nat) (cs:Array Value) (T:TypeId) (fz:Nat × Nat),w.heap[b]?=some (.cells cs T fz)→w'.heap[b]?=w.heap[b]?
theorem Qk5{w:World}{b o:Nat}{v:Value}(h:w.cell? ⟨b,o,none⟩=some v):∃(cs:Array Value) (T:TypeId) (fz:Nat × Nat),w.heap[b]?=some (.cells cs T fz):=by
 unfold World.cell? at h
 split at h
 ·next cs T fz he=>exact⟨_,_,_,he⟩
 ·cases h
theorem CKeep.cell{w w':World}(hk:CKeep w w'){b o:Nat}{v:Value}(h:w.cell? ⟨b,o,none⟩=some v):w'.cell? ⟨b,o,none⟩=some v:=by
 obtain⟨cs,T,fz,h2⟩:=Qk5 h
 rw[World.cell?_of_block (w:=w) (hk _ _ _ _ h2)];exact h
theorem CKeep.tx{w w':World}(hk:CKeep w w'){a:Option Addr}{l:List ByteArray}(h:Tx w a l):Tx w' a l:=h.keep λ b off cs e h2=>hk _ _ _ _ h2
theorem CKeep.ux{w w':World}(hk:CKeep w w'){a:Option Addr}{l:List Int}(h:Ux w a l):Ux w' a l:=h.keep λ b off cs e h2=>hk _ _ _ _ h2
theorem CKeep.rev{w w':World}(hk:CKeep w w'){rb tb:Nat}{r:Rev}{d:RevD}(h:RevIs rb tb w r d):RevIs rb tb w' r d:=
 ⟨h.pos,h.L,h.signed,h.idx,h.wn,hk.tx h.ws,h.wo,h.pn,hk.tx h.ps,h.po,h.root,h.wt,h.first,h.life,h.keys⟩
theorem CKeep.holds{w w':World}(hk:CKeep w w'){rb tb:Nat}{v:Value}{d:DV}(h:HoldsD rb tb w v d):HoldsD rb tb w' v d:=by
 cases d with
 | num n=>exact h
 | flag q=>exact h
 | str s=>exact h
 | strs l=>obtain⟨a,c,h1,h2,h3,h4⟩:=h;exact⟨a,c,h1,h2,h3,hk.tx h4⟩
 | nums l=>obtain⟨a,c,h1,h2,h3,h4⟩:=h;exact⟨a,c,h1,h2,h3,hk.ux h4⟩
 | revs l=>
  obtain⟨a,c,h1,h2,h3,rs,h4,h5,h6⟩:=h
  refine⟨a,c,h1,h2,h3,rs,h4,λ i hi=>?_,λ i hi=>hk.rev (h6 i hi)⟩
  obtain⟨b,off,e,⟨c0,c1,c2,c3,c4,c5,c6,c7,c8,c9,c10⟩⟩:=h5 i hi
  exact⟨b,off,e,⟨hk.cell c0,hk.cell c1,hk.cell c2,hk.cell c3,hk.cell c4,hk.cell c5,hk.cell c6,hk.cell c7,hk.cell c8,hk.cell c9,hk.cell c10⟩⟩
theorem CKeep.rec{w w':World}(hk:CKeep w w'){rb tb:Nat}{T:TypeId}{n:Nat}{x:Rcd}(h:RecAt rb tb T n w x):RecAt rb tb T n w' x:=by
 obtain⟨cs,h1,h2,h3⟩:=h
 refine⟨cs,(hk _ _ _ _ h1).trans h1,h2,λ i hi=>?_⟩
 obtain⟨v,h4,h5⟩:=h3 i hi
 exact⟨v,h4,hk.holds h5⟩
theorem Qe3{a b:ByteArray}(h:(a.toList == b.toList)=true):a=b:=by
 rw[ByteArray.toList_eq,ByteArray.toList_eq]at h
 exact Xx (by simpa using h)
theorem Qqs{gs:List GSpec}{fn j:Nat}{k:ByteArray}(h:Jt gs fn k=some j):(gth gs (fn+j)).key=k:=by
 unfold Jt at h
 exact Qe3 (List.find?_some (p:=λ i=>(gth gs (fn+i)).key.toList == k.toList) h)
theorem Qvu(l:List FVal)(fn i:Nat)(h:fn+i<l.length):fth (l.drop fn) i=fth l (fn+i):=by
 rw[J9 _ i (by simp;omega),J9 _ _ h,List.getElem_drop]
theorem Qik{B qb rb tb:Nat}{x0:Rcd}{T:TypeId}{n:Nat}{s:ByteArray}{W0:World}{l:List FVal}{gs:List GSpec}(h:GSems B qb rb tb x0 T n s W0 l gs)(fn i:Nat)(hi:fn+i<len l):(fth (l.drop fn) i).key=(gth gs (fn+i)).key:=by
 rw[Qvu l fn i hi];exact(h.2 _ hi).key
theorem Qmq{B qb rb tb:Nat}{x0:Rcd}{T:TypeId}{n:Nat}{s:ByteArray}{W0:World}{l:List FVal}{gs:List GSpec}(h:GSems B qb rb tb x0 T n s W0 l gs)(fn:Nat)(k:ByteArray)(hh:∀i,i<len (l.drop fn)→((fth (l.drop fn) i).key.toList == k.toList)=false):Jt gs fn k=none:=by
 have hl:gs.length=l.length:=h.1;have hd:len (l.drop fn)=l.length - fn:=by simp[len]
 refine Qic λ i hi=>?_
 have:=hh i (by omega)
 rw[Qik h fn i (by omega:fn+i<l.length)]at this
 exact this
theorem Qqt{B qb rb tb:Nat}{x0:Rcd}{T:TypeId}{n:Nat}{s:ByteArray}{W0:World}{l:List FVal}{gs:List GSpec}(h:GSems B qb rb tb x0 T n s W0 l gs)(fn j:Nat)(k:ByteArray)(hj:j<len (l.drop fn))(hp:((fth (l.drop fn) j).key.toList == k.toList)=true)(hh:∀i,i<j→((fth (l.drop fn) i).key.toList == k.toList)=false):Jt gs fn k=some j:=by
 have hl:gs.length=l.length:=h.1;have hd:len (l.drop fn)=l.length - fn:=by simp[len]
 refine Qid (by omega) ?_ λ i hi=>?_
 ·rw[Qik h fn j (by omega:fn+j<l.length)]at hp;exact hp
 ·have:=hh i hi
  rw[Qik h fn i (by omega:fn+i<l.length)]at this
  exact this
theorem Qd5{s:ByteArray}{gs:List GSpec}{g fn a:Nat}{x:Rcd}{seen:List Nat}{z:Int × ByteArray × Nat}(h1:tkR 2 s a=.ok z)(h2:Jt gs fn z.2.1=none):Qy s gs (g+1) fn x seen a=.error (5,0):=by
 rw[Qy,h1];simp only[h2]
theorem Qil{s:ByteArray}{gs:List GSpec}{g fn a j:Nat}{x:Rcd}{seen:List Nat}{z:Int × ByteArray × Nat}{f:Flt}(h1:tkR 2 s a=.ok z)(h2:Jt gs fn z.2.1=some j)(h3:(gth gs (fn+j)).read x z.2.2=.error f):Qy s gs (g+1) fn x seen a=.error f:=by
 rw[Qy,h1];simp only[h2,h3]
theorem Qfv{s:ByteArray}{gs:List GSpec}{g fn a j:Nat}{x:Rcd}{seen:List Nat}{z:Int × ByteArray × Nat}{y:Rcd × Nat}(h1:tkR 2 s a=.ok z)(h2:Jt gs fn z.2.1=some j)(h3:(gth gs (fn+j)).read x z.2.2=.ok y)(h4:(gth gs (fn+j)).empty y.1=true):Qy s gs (g+1) fn x seen a=.error (5,0):=by
 rw[Qy,h1];simp only[h2,h3,h4,if_true]
theorem Qha{s:ByteArray}{gs:List GSpec}{g fn a j:Nat}{x:Rcd}{seen:List Nat}{z:Int × ByteArray × Nat}{y:Rcd × Nat}(h1:tkR 2 s a=.ok z)(h2:Jt gs fn z.2.1=some j)(h3:(gth gs (fn+j)).read x z.2.2=.ok y)(h4:(gth gs (fn+j)).empty y.1=false):Qy s gs (g+1) fn x seen a=Qy s gs g (fn+j+1) y.1 ((fn+j) :: seen) y.2:=by
 rw[Qy,h1];simp only[h2,h3,h4];rfl
theorem Qbu(B qb rb tb b1 off c:Nat)(x0:Rcd)(T:TypeId)(n:Nat)(s:ByteArray)(W0 w:World)(l:List FVal)(gs:List GSpec)(a:Nat)(x:Rcd)
  (hl:Flds w (some ⟨b1,off,none⟩) l) (hc:len l≤c) (hn:len l≤1000) (hS:GSems B qb rb tb x0 T n s W0 l gs) (hk:Chg rb tb W0 w) (hb1:b1≠rb∧b1≠tb) (hqt:qb≠tb) (hBt:B≤tb) (htr:tb≠rb)
  (hKeys:Qj5 gs) (hDis:Qyq gs) (hFr:∀g ∈ gs,g.Frames) (hKi:∀g ∈ gs,g.Kinds x0) (hkd:Kd x0 x) (hx:RecAt rb tb T n w x) (h:RdEnv B w qb rb s a) (hfresh:∀i,i<gs.length→Qsp x0 (gth gs i) x):
  Calls Tryz.prog 123 #[pt qb 0,.slice (some ⟨b1,off,none⟩) (len l) c] w (Qgy (Qbr s gs x a) rb tb T n s w):=by
 have H:=QLh h;have HX:=QLh hx;have HL:=QLh hl;have HS:=QLh hS;have HK:=QLh hk;have HKE:=QLh hKeys;have HDI:=QLh hDis;have HFR:=QLh hFr;have HKI:=QLh hKi;have HKX:=QLh hkd;have HFS:=QLh hfresh;have hqr:=h.ne;have c0:w.cell? ⟨qb,0,none⟩=some (pt rb 0):=Qa h.q 0;have hqs:qb<w.heap.size:=lt_of_block h.q;have hrs:rb<w.heap.size:=lt_of_block h.r;have hts:tb<w.heap.size:=hx.lt;clear hl hS hk hKeys hDis hFr hKi hkd hx h hfresh;have hmm:=@run_makeMap Tryz.prog
 go_enter Tryz.func123,Tryz.ntmps123
 go_upto_region 2 with fail
 obtain⟨mb,hmb⟩:∃mb,w.heap.size=mb:=⟨_,rfl⟩
 obtain⟨V,hV⟩:∃V,(w.alloc (.map #[] 0)).alloc (.cells #[.map (some mb)] 276)=V:=⟨_,rfl⟩
 have HV:Hid (Below w.heap.size w V):=QLh (by rw[←hV];exact Qh (Qh (Below.refl _ _) _) _);have HM:Hid (V.heap[mb]?=some (Qdp [])):=QLh (by rw[←hV,←hmb];exact Qf (heap_alloc_new _ _) _);have HSB:Hid (V.heap[mb+1]?=some (.cells #[.map (some mb)] 276 (0,0))):=QLh (by rw[←hV];exact Qi _ (by simp[hmb]));have d0:V.cell? ⟨qb,0,none⟩=some (pt rb 0):=by rw[World.cell?_of_block (w:=w) (HV.out.block qb hqs)];exact c0
 try simp only[hmb]
 try rw[hV]
 clear hV c0
 go_wp2_with fail
 refine(Q0f V B qb rb s a (H.out.below HV.out)).mono ?_
 intro e w1 hh
 cases hr:tkR 4 s a with
 | error f=>
  rw[hr]at hh
  obtain⟨fb,rfl,hf,hE,-⟩:=Qc0 hh
  have HF:=QLh hf;have HE:=QLh hE;have HR:Hid (Qbr s gs x a=.error f):=QLh (Qmo hr);clear hh hf hE hr
  go_wp2_with fail
  refine(Qmb _ fb w1).mono ?_
  rintro e w2 ⟨rfl,rfl⟩
  go_wp2
  refine⟨rfl,?_⟩
  rw[HR.out]
  exact⟨(Chg.of_below HV.out).ext HE.out,fb,rfl,HF.out,((HX.out.below HV.out).ext HE.out htr).thAt⟩
 | ok y=>
  rw[hr]at hh
  obtain⟨rfl,hrd,hE⟩:=Qew hh
  have HR:=QLh hr;have hbd:=Qck (by decide) hr;have hy:y.1=((y.1.toNat:Nat):Int):=by omega
  obtain⟨N,hN⟩:∃N,y.1.toNat=N:=⟨_,rfl⟩
  have hN2:N≤10240:=by have:=hbd.2.2.1 (by decide);omega
  have HNN:=QLh hN
  obtain⟨a0,ha0⟩:∃a0,y.2.2=a0:=⟨_,rfl⟩
  have HA0:=QLh ha0
  rw[ha0]at hrd hbd
  have hle:=hbd.1
  rw[hN]at hy
  have hmr:rb<mb:=by omega
  have hmt:tb<mb:=by omega
  have HC1:Hid (Chg rb tb w w1):=QLh ((Chg.of_below HV.out).ext hE);have HM1:Hid (w1.heap[mb]?=some (Qdp [])):=QLh ((hE.block _ (lt_of_block HM.out) (by simp;omega)).trans HM.out);have HSB1:Hid (w1.heap[mb+1]?=some (.cells #[.map (some mb)] 276 (0,0))):=QLh ((hE.block _ (lt_of_block HSB.out) (by simp;omega)).trans HSB.out);have HRD1:=QLh hrd;have HLE1:=QLh hle;have HX1:Hid (RecAt rb tb T n w1 x):=QLh ((HX.out.below HV.out).ext hE htr);clear hh hrd hE hr hbd hN ha0 hle HM HSB d0
  rw[hy]
  clear hy
  go_wp2_with fail
  refine(Qma _ w1).mono ?_
  rintro e w2 ⟨rfl,rfl⟩
  go_wp2
  clear HV V
  go_loopg [4,6,7,8,18] N (λ g fr t6 t7 t8 i wr=>∃(m fn a':Nat) (xx:Rcd) (seen:List Nat) (L:List (ByteArray × Value)),g+m=N∧i=.int .i64 m∧fr=.int .i64 fn∧fn≤len l∧Hid (Qy s gs N 0 x [] a0=Qy s gs g fn xx seen a')∧Hid (a'≤s.size)∧Hid (RdB wr rb s a' 10240)∧Hid (Chg rb tb w wr)∧
   Hid (RecAt rb tb T n wr xx)∧Hid (wr.heap[mb]?=some (Qdp L))∧Hid (wr.heap[mb+1]?=some (.cells #[.map (some mb)] 276 (0,0)))∧Hid (SeenIs gs L seen)∧Hid (∀i,fn≤i→i<gs.length→Qsp x0 (gth gs i) xx)∧Hid (Kd x0 xx))
  case atStart=>exact⟨0,0,a0,x,[],[],rfl,rfl,rfl,Nat.zero_le _,rfl,HLE1.out,HRD1.out,HC1.out,HX1.out,HM1.out,HSB1.out,λ i _=>by simp[Qe1],λ i _ hi=>HFS.out i hi,HKX.out⟩
  case round=>
   clear HRD1 HLE1 HC1 HX1 HM1 HSB1
   obtain⟨m,fn,a',xx,seen,L,hgm,rfl,rfl,hfn,HLO,HLE,HRD,HC,HX2,HM,HSB,HSN,HFF,HKD⟩:=hrel
   have HEV:Hid (RdEnv B wr qb rb s a'):=QLh (H.out.chg HC.out hqt hBt HRD.out HLE.out);have HFL:Hid (Flds wr (some ⟨b1,off,none⟩) l):=QLh (HL.out.chg HC.out hb1.1 hb1.2)
   by_cases hlt:m<N
   ·have i1:(m:Int)<N:=by omega
    obtain⟨g',rfl⟩:∃g',gk=g'+1:=⟨gk - 1,by omega⟩
    have d0:wr.cell? ⟨qb,0,none⟩=some (pt rb 0):=Qa HEV.out.q 0
    go_wp2_with fail
    refine(Q0e wr B qb rb s a' HEV.out).mono ?_
    intro e w2 hh
    cases hr2:tkR 2 s a' with
    | error f=>
     rw[hr2]at hh
     obtain⟨fb,rfl,hf,hE,-⟩:=Qc0 hh
     have HF:=QLh hf;have HE:=QLh hE;have HE2:Hid (Qy s gs N 0 x [] a0=.error f):=QLh (by rw[HLO.out,Qy,hr2]);clear hh hf hE hr2 d0
     go_wp2_with fail
     refine(Qmd _ fb w2).mono ?_
     rintro e w3 ⟨rfl,rfl⟩
     go_wp2
     refine⟨rfl,?_⟩
     rw[Qcq HR.out (by rw[HNN.out,HA0.out];exact HE2.out)]
     exact⟨HC.out.ext HE.out,fb,rfl,HF.out,(HX2.out.ext HE.out htr).thAt⟩
    | ok z=>
     rw[hr2]at hh
     obtain⟨rfl,hrd,hE⟩:=Qew hh
     have HR2:=QLh hr2;have HE:=QLh hE;have HRD2:=QLh hrd;have HLE2:Hid (z.2.2≤s.size):=QLh (Qck (by decide) hr2).1
     obtain⟨k,hk⟩:∃k,z.2.1=k:=⟨_,rfl⟩
     have HKK:=QLh hk
     rw[hk]
     clear hh hrd hE hr2 hk d0
     go_wp2_with fail
     refine(Qmc _ w2).mono ?_
     rintro e w3 ⟨rfl,rfl⟩
     go_upto_region 5 with fail
     obtain⟨kb,hkb⟩:∃kb,w3.heap.size=kb:=⟨_,rfl⟩
     obtain⟨V,hV⟩:∃V,w3.alloc (.cells #[.string k] 9)=V:=⟨_,rfl⟩
     have HV:Hid (Below w3.heap.size w3 V):=QLh (by rw[←hV];exact Qh (Below.refl _ _) _);have HKB:Hid (V.heap[kb]?=some (.cells #[.string k] 9 (0,0))):=QLh (by rw[←hV,←hkb];exact heap_alloc_new _ _)
     try rw[hV]
     try simp only[hkb]
     clear hV;have hkw:w.heap.size≤kb:=by rw[←hkb];exact Nat.le_trans HC.out.size HE.out.size
     have HCV:Hid (Chg rb tb w V):=QLh ((HC.out.ext HE.out).next HV.out);have HFV:Hid (Flds V (some ⟨b1,off+fn * 6,none⟩) (l.drop fn)):=QLh (Flds.drop (HL.out.chg HCV.out hb1.1 hb1.2) fn);have i2:(0:Int)≤fn:=by omega
     have i3:(fn:Int)≤len l:=by omega
     have i4:(len l:Int)≤c:=by omega
     have hld:len (l.drop fn)=len l - fn:=by simp[len]
     go_wp2_with fail
     ·have hd0:l.drop fn=[]:=by
       apply List.eq_nil_of_length_eq_zero;have:len (l.drop fn)=0:=by omega
       exact this
      have HK1:Hid (∀i,i<len (l.drop fn)→((fth (l.drop fn) i).key.toList == k.toList)=false):=QLh (λ i hi=>by rw[hd0]at hi;simp[len]at hi)
      rw[←hld]
      refine(Qht (some ⟨b1,off,none⟩) 0 (l.drop fn) 203 #[pt kb 0] _ V (by rw[hd0];exact Flds.nil _ _) (by omega) (Qpg kb k V _ HKB.out)).mono ?_
      rintro e w4 ⟨r,rfl,hr,hb⟩
      obtain rfl:r=-1:=by
       rcases hr with⟨h1,-⟩ | ⟨j,hj,-⟩
       ·exact h1
       ·exfalso;omega
      have HB4:=QLh hb;have HE2:Hid (Qy s gs N 0 x [] a0=.error (5,0)):=QLh (HLO.out.trans (Qd5 HR2.out (by rw[HKK.out];exact Qmq HS.out fn k HK1.out)));clear hr hb hd0 hld
      go_wp2_with fail
      refine(Qgu 5 w4).mono ?_
      rintro e w5 ⟨rfl,rfl⟩
      go_wp2
      refine⟨rfl,?_⟩
      rw[Qcq HR.out (by rw[HNN.out,HA0.out];exact HE2.out)]
      exact⟨(HCV.out.next HB4.out).next (Qh (Below.refl _ _) _),_,rfl,heap_alloc_new _ _,((((HX2.out.ext HE.out htr).below HV.out).below HB4.out).below (Qh (Below.refl _ _) _)).thAt⟩
     ·rw[←hld]
      refine(Qht (some ⟨b1,off+fn * 6,none⟩) _ (l.drop fn) 203 #[pt kb 0] _ V HFV.out (by omega) (Qpg kb k V _ HKB.out)).mono ?_
      rintro e w4 ⟨r,rfl,hr,hb⟩
      have HB4:=QLh hb
      rcases hr with⟨rfl,hno⟩ | ⟨j,hj,rfl,hp,hno⟩
      ·have HE2:Hid (Qy s gs N 0 x [] a0=.error (5,0)):=QLh (HLO.out.trans (Qd5 HR2.out (by rw[HKK.out];exact Qmq HS.out fn k hno)))
       clear hno hb hld
       go_wp2_with fail
       refine(Qgu 5 w4).mono ?_
       rintro e w5 ⟨rfl,rfl⟩
       go_wp2
       refine⟨rfl,?_⟩
       rw[Qcq HR.out (by rw[HNN.out,HA0.out];exact HE2.out)]
       exact⟨(HCV.out.next HB4.out).next (Qh (Below.refl _ _) _),_,rfl,heap_alloc_new _ _,((((HX2.out.ext HE.out htr).below HV.out).below HB4.out).below (Qh (Below.refl _ _) _)).thAt⟩
      ·have HKJ:Hid (Jt gs fn z.2.1=some j):=QLh (by rw[HKK.out];exact Qqt HS.out fn j k hj hp hno)
       have hjl:fn+j<len l:=by omega
       have t1:decide ((0:Int)≤(j:Int))=true:=decide_eq_true (by omega);clear hp hno hb hj hld
       go_wp2_with fail
       refine(Qie 5 w4).mono ?_
       rintro e w5 ⟨rfl,rfl⟩
       obtain⟨b',off',hbe,d0,d1,d2,d3,d4,d5⟩:=(HL.out.chg (HCV.out.next HB4.out) hb1.1 hb1.2) (fn+j) hjl
       cases hbe
       have i5:IntKind.i64.wrap ((fn:Int)+(j:Int))=(fn:Int)+(j:Int):=IntWalk.i64_in _ (by omega);have i6:(0:Int)≤(fn:Int)+(j:Int):=by omega
       have i7:(fn:Int)+(j:Int)<len l:=by omega
       have i8:((fn:Int)+(j:Int)).toNat=fn+j:=by omega
       have hgs:=HS.out.2 (fn+j) hjl
       obtain⟨v,hv⟩:∃v,fth l (fn+j)=v:=⟨_,rfl⟩
       rw[hv]at d0 d1 d2 d3 d4 d5 hgs
       have HGS:=QLh hgs;clear hv hgs
       go_upto_region 8 with fail
       obtain⟨vb,hvb⟩:∃vb,w5.heap.size=vb:=⟨_,rfl⟩
       obtain⟨U,hU⟩:∃U,w5.alloc (.cells #[.string v.key,.bool v.must,.func (.func v.ef) #[] v.ec,.func (.func v.mf) #[] v.mc,.func (.func v.pf) #[] v.pc,.func (.func v.gf) #[] v.gc] 172)=U:=⟨_,rfl⟩
       have HU:Hid (Below w5.heap.size w5 U):=QLh (by rw[←hU];exact Qh (Below.refl _ _) _);have HVB:Hid (U.heap[vb]?=some (.cells #[.string v.key,.bool v.must,.func (.func v.ef) #[] v.ec,.func (.func v.mf) #[] v.mc,.func (.func v.pf) #[] v.pc,.func (.func v.gf) #[] v.gc] 172 (0,0))):=QLh (by rw[←hU,←hvb];exact heap_alloc_new _ _)
       try rw[hU]
       try simp only[hvb]
       clear hU d0 d1 d2 d3 d4 d5 i5 i6 i7 i8;have hvw:w.heap.size≤vb:=by rw[←hvb];exact(HCV.out.next HB4.out).size
       have HCU:Hid (Chg rb tb w U):=QLh ((HCV.out.next HB4.out).next HU.out);have HB3U:Hid (Below w3.heap.size w3 U):=QLh (Qk (Qk HV.out HB4.out) HU.out);have HRU:Hid (RdEnv B U qb rb s z.2.2):=QLh (H.out.chg HCU.out hqt hBt (HRD2.out.below HB3U.out) HLE2.out);have HXU:Hid (RecAt rb tb T n U xx):=QLh ((HX2.out.ext HE.out htr).below HB3U.out);have HMU:Hid (U.heap[mb]?=some (Qdp L)):=QLh ((HB3U.out.block _ (by have:=HE.out.size;have:=lt_of_block HM.out;omega)).trans ((HE.out.block _ (lt_of_block HM.out) (by simp;omega)).trans HM.out));have HSU:Hid (U.heap[mb+1]?=some (.cells #[.map (some mb)] 276 (0,0))):=QLh ((HB3U.out.block _ (by have:=HE.out.size;have:=lt_of_block HSB.out;omega)).trans ((HE.out.block _ (lt_of_block HSB.out) (by simp;omega)).trans HSB.out));have HKU:Hid (U.heap[kb]?=some (.cells #[.string k] 9 (0,0))):=QLh (((Qk HB4.out HU.out).block _ (lt_of_block HKB.out)).trans HKB.out);have c5:U.cell? ⟨vb,5,none⟩=some (.func (.func v.gf) #[] v.gc):=Qa HVB.out 5;have eg:=HGS.out.eg;have hgl:fn+j<gs.length:=by have:gs.length=l.length:=HS.out.1;have:fn+j<l.length:=hjl;omega
       go_wp2_with fail
       refine(HGS.out.read U xx z.2.2 (HK.out.trans HCU.out) HXU.out HRU.out (HFF.out (fn+j) (by omega) hgl) HKD.out).mono ?_
       intro e w6 hh
       clear c5 eg
       cases hr6:(gth gs (fn+j)).read xx z.2.2 with
       | error f=>
        rw[hr6]at hh
        have HTH:=QLh (Qft hh)
        obtain⟨fb,rfl,hf,hc6⟩:=Qco hh
        have HF:=QLh hf;have HC6:Hid (Chg rb tb w w6):=QLh (HCU.out.trans hc6);have HE2:Hid (Qy s gs N 0 x [] a0=.error f):=QLh (HLO.out.trans (Qil HR2.out HKJ.out hr6));clear hh hf hc6 hr6
        go_wp2
        refine⟨rfl,?_⟩
        rw[Qcq HR.out (by rw[HNN.out,HA0.out];exact HE2.out)]
        exact⟨HC6.out,fb,rfl,HF.out,HTH.out⟩
       | ok q=>
        rw[hr6]at hh
        obtain⟨rfl,hrd6,hle6,hx6,hc6⟩:=Qd3 hh
        have HRD6:=QLh hrd6;have HLE6:=QLh hle6;have HX6:=QLh hx6;have HC6:Hid (Chg rb tb w w6):=QLh (HCU.out.trans hc6);have HR6:=QLh hr6;have HKD6:Hid (Kd x0 q.1):=QLh (HKI.out _ (by rw[Qax gs _ hgl];exact List.getElem_mem _) _ _ _ hr6 HKD.out);have hch:∀b y,w.heap.size≤b→U.heap[b]?=some y→w6.heap[b]?=some y:=λ b y hb hy=>(hc6.block b (lt_of_block hy) (by omega) (by omega)).trans hy;have HV6:=QLh (hch vb _ hvw HVB.out);have HM6:=QLh (hch mb _ (by omega) HMU.out);have HS6:=QLh (hch (mb+1) _ (by omega) HSU.out);have HK6:=QLh (hch kb _ hkw HKU.out);have c2:w6.cell? ⟨vb,2,none⟩=some (.func (.func v.ef) #[] v.ec):=Qa HV6.out 2;have ee:=HGS.out.ee;clear hh hrd6 hle6 hx6 hc6 hr6 hch HVB HMU HSU HKU
        go_wp2_with fail
        refine(HGS.out.empty w6 q.1 (HK.out.trans HC6.out) HX6.out HKD6.out).mono ?_
        rintro e w7 ⟨rfl,hb⟩
        have HB7:=QLh hb;clear hb c2 ee
        cases hem:(gth gs (fn+j)).empty q.1 with
        | true=>
         have HE2:Hid (Qy s gs N 0 x [] a0=.error (5,0)):=QLh (HLO.out.trans (Qfv HR2.out HKJ.out HR6.out hem));clear hem
         go_wp2_with fail
         refine(Qgu 5 w7).mono ?_
         rintro e w8 ⟨rfl,rfl⟩
         go_wp2
         refine⟨rfl,?_⟩
         rw[Qcq HR.out (by rw[HNN.out,HA0.out];exact HE2.out)]
         exact⟨(HC6.out.next HB7.out).next (Qh (Below.refl _ _) _),_,rfl,heap_alloc_new _ _,((HX6.out.below HB7.out).below (Qh (Below.refl _ _) _)).thAt⟩
        | false=>
         have HE2:Hid (Qy s gs N 0 x [] a0=Qy s gs g' (fn+j+1) q.1 ((fn+j) :: seen) q.2):=QLh (HLO.out.trans (Qha HR2.out HKJ.out HR6.out hem));clear hem
         go_wp2_with fail
         refine(Qie 5 w7).mono ?_
         rintro e w8 ⟨rfl,rfl⟩
         have i5:IntKind.i64.wrap ((j:Int)+1)=(j:Int)+1:=IntWalk.i64_in _ (by omega);have i6:IntKind.i64.wrap ((fn:Int)+((j:Int)+1))=(fn:Int)+((j:Int)+1):=IntWalk.i64_in _ (by omega);have HM8:Hid (w8.heap[mb]?=some (Qdp L)):=QLh ((HB7.out.block _ (lt_of_block HM6.out)).trans HM6.out);have HS8:Hid (w8.heap[mb+1]?=some (.cells #[.map (some mb)] 276 (0,0))):=QLh ((HB7.out.block _ (lt_of_block HS6.out)).trans HS6.out);have d5:w8.cell? ⟨mb+1,0,none⟩=some (.map (some mb)):=Qa HS8.out 0;have d6:w8.cell? ⟨kb,0,none⟩=some (.string k):=Qa ((HB7.out.block _ (lt_of_block HK6.out)).trans HK6.out) 0
         go_wp2_with (at_mapUpdate;refine Qe2 rfl _ _ _ 276 9 3 rfl Tryz.underlying276 Tryz.underlying9 mb _ rfl HM8.out _ _ rfl rfl ?_)
         have HKY:Hid ((gth gs (fn+j)).key=k):=QLh ((Qqs HKJ.out).trans HKK.out);have hms:mb<w8.heap.size:=lt_of_block HM8.out;have sbo:∀i,i≠mb→(setBlock w8 mb (Qdp (Qdq L k (.int .i64 1)))).heap[i]?=w8.heap[i]?:=λ i hi=>by
          show(w8.heap.setIfInBounds mb _)[i]?=_
          rw[Array.getElem?_setIfInBounds_ne (Ne.symm hi)]
         go_roundg g'
         case rel=>
          refine⟨m+1,fn+j+1,q.2,q.1,(fn+j) :: seen,Qdq L k (.int .i64 1),by omega,by go_num,by go_num,by omega,HE2.out,HLE6.out,?_,?_,?_,?_,?_,?_,?_,HKD6.out⟩
          ·exact QLh ((sbo rb (by omega)).trans (HRD6.out.below HB7.out))
          ·exact QLh ((HC6.out.next HB7.out).setBlock (by omega) _)
          ·exact QLh (CKeep.rec (λ b cs T fz hb=>sbo b (λ e=>by subst e;have h9:=hb.symm.trans HM8.out;cases h9)) (HX6.out.below HB7.out))
          ·exact QLh (by show(w8.heap.setIfInBounds mb _)[mb]?=_;rw[Array.getElem?_setIfInBounds_self_of_lt hms])
          ·exact QLh ((sbo _ (by omega)).trans HS8.out)
          ·exact QLh (by have h:=HSN.out.put HKE.out hgl;rw[HKY.out]at h;exact h)
          ·exact QLh (λ i h1 h2 o ho=>by
            have hfr:=HFR.out _ (by rw[Qax gs _ hgl];exact List.getElem_mem _) xx z.2.2 q HR6.out
            rw[hfr o (λ hin=>HDI.out i (fn+j) h2 hgl (by omega) o ho hin)]
            exact HFF.out i (by omega) h2 o ho)
         case measure=>omega
   ·obtain rfl:m=N:=by omega
    have i1:¬((m:Nat):Int)<m:=by omega
    obtain rfl:gk=0:=by omega
    have hgl:gs.length=l.length:=HS.out.1;have HLK:Hid (∀i,i<len l→(fth l i).key=(gth gs i).key):=QLh (λ i hi=>(HS.out.2 i hi).key);have HLM:Hid (∀i,i<len l→(fth l i).must=(gth gs i).must):=QLh (λ i hi=>(HS.out.2 i hi).must);have HOK:Hid (Qy s gs m 0 x [] a0=.ok (xx,seen,a')):=QLh HLO.out
    go_wp2_with fail
    refine(J7 (some ⟨b1,off,none⟩) c l 205 #[pt (mb+1) 0] _ wr HFL.out hn (Qst (mb+1) mb L wr l (λ i hi=>by
     rw[HLK.out i hi,HSN.out i (by have:i<l.length:=hi;omega)]
     by_cases h:i ∈ seen
     ·rw[if_pos h];exact .inr rfl
     ·rw[if_neg h];exact .inl rfl) HSB.out HM.out)).mono ?_
    rintro e w2 ⟨q,rfl,hq,hb⟩
    have HB:=QLh hb;have hqm:q=Xw gs seen:=by
     rw[Bool.eq_iff_iff,hq,Qoc]
     constructor
     ·rintro⟨i,hi,h⟩
      have hi':i<gs.length:=by have:i<l.length:=hi;omega
      refine⟨i,hi',?_⟩
      simp only[Bool.and_eq_true]at h ⊢
      refine⟨by rw[←HLM.out i hi];exact h.1,?_⟩
      have h2:=h.2
      rw[HLK.out i hi,HSN.out i hi']at h2
      by_cases hm:i ∈ seen
      ·rw[if_pos hm]at h2;cases h2
      ·simpa using hm
     ·rintro⟨i,hi,h⟩
      have hi':i<len l:=by show i<l.length;omega
      refine⟨i,hi',?_⟩
      simp only[Bool.and_eq_true]at h ⊢
      refine⟨by rw[HLM.out i hi'];exact h.1,?_⟩
      have h2:=h.2;have hm:i ∉ seen:=by simpa using h2
      rw[HLK.out i hi',HSN.out i hi,if_neg hm];rfl
    have HQ:=QLh hqm;clear hq hb hqm
    cases q with
    | true=>
     go_wp2_with fail
     refine(Qgu 5 w2).mono ?_
     rintro e w3 ⟨rfl,rfl⟩
     go_wp2
     refine⟨rfl,?_⟩
     rw[Qmp HR.out (by rw[HNN.out,HA0.out];exact HOK.out) HQ.out.symm]
     exact⟨(HC.out.next HB.out).next (Qh (Below.refl _ _) _),_,rfl,heap_alloc_new _ _,((HX2.out.below HB.out).below (Qh (Below.refl _ _) _)).thAt⟩
    | false=>
     go_wp2_with fail
     refine(Qie 5 w2).mono ?_
     rintro e w3 ⟨rfl,rfl⟩
     go_wp2
     go_end0
     refine⟨HC.out.next HB.out,?_⟩
     rw[Qsu HR.out (by rw[HNN.out,HA0.out];exact HOK.out) HQ.out.symm]
     exact⟨rfl,HRD.out.below HB.out,HLE.out,HX2.out.below HB.out⟩
theorem Qvv{B:Nat}{W0 w:World}{l:List FVal}{fs:List FSpec}(h:FSems B W0 l fs)(hk:Keep8 B W0 w):Qjr w l 171 #[] (λ i=>!(Qcn fs i).may):=by
 refine⟨enters_of Tryz.func171 (by kernel_rfl) rfl,λ i hi w' hb=>?_⟩
 show Calls Tryz.prog 171 (#[(fth l i).val]++#[]) w' (λ e w''=>e=.returned (.bool (!(Qcn fs i).may))∧Below w'.heap.size w' w'')
 have hs:=h.2 i hi
 generalize fth l i=v at hs
 generalize Qcn fs i=f at hs
 have em:=hs.em;have HM:Hid (∀x,Below w'.heap.size w' x→Calls Tryz.prog v.mf v.mc x λ e w'=>e=.returned (.bool f.may)∧Below x.heap.size x w'):=QLh (λ x hx=>hs.may x ((hk.next hb).next hx));clear hs
 show Calls Tryz.prog 171 #[v.val] w' _
 unfold FVal.val
 go_enter Tryz.func171,Tryz.ntmps171
 go_wp2_with fail
 refine(HM.out _ (Qh (Below.refl _ _) _)).mono ?_
 rintro e w1 ⟨rfl,hb1⟩
 have HB1:Hid (Below w'.heap.size w' w1):=QLh (Qk (Qh (Below.refl _ _) _) hb1);clear hb1
 go_wp2
 go_ret
 exact⟨rfl,HB1.out⟩
theorem Qph{B:Nat}{W0 w:World}{l:List FVal}{fs:List FSpec}(h:FSems B W0 l fs)(hk:Keep8 B W0 w):Qjr w l 174 #[] (λ i=>(Qcn fs i).empty):=by
 refine⟨enters_of Tryz.func174 (by kernel_rfl) rfl,λ i hi w' hb=>?_⟩
 show Calls Tryz.prog 174 (#[(fth l i).val]++#[]) w' (λ e w''=>e=.returned (.bool ((Qcn fs i).empty))∧Below w'.heap.size w' w'')
 have hs:=h.2 i hi
 generalize fth l i=v at hs
 generalize Qcn fs i=f at hs
 have ee:=hs.ee;have HM:Hid (∀x,Below w'.heap.size w' x→Calls Tryz.prog v.ef v.ec x λ e w'=>e=.returned (.bool f.empty)∧Below x.heap.size x w'):=QLh (λ x hx=>hs.empty x ((hk.next hb).next hx));clear hs
 show Calls Tryz.prog 174 #[v.val] w' _
 unfold FVal.val
 go_enter Tryz.func174,Tryz.ntmps174
 go_wp2_with fail
 refine(HM.out _ (Qh (Below.refl _ _) _)).mono ?_
 rintro e w1 ⟨rfl,hb1⟩
 have HB1:Hid (Below w'.heap.size w' w1):=QLh (Qk (Qh (Below.refl _ _) _) hb1);clear hb1
 go_wp2
 go_ret
 exact⟨rfl,HB1.out⟩
theorem Qsv{B:Nat}{W0 w:World}{l:List FVal}{fs:List FSpec}(h:FSems B W0 l fs)(hk:Keep8 B W0 w):Qjr w l 179 #[] (λ i=>!(Qcn fs i).empty):=by
 refine⟨enters_of Tryz.func179 (by kernel_rfl) rfl,λ i hi w' hb=>?_⟩
 show Calls Tryz.prog 179 (#[(fth l i).val]++#[]) w' (λ e w''=>e=.returned (.bool (!(Qcn fs i).empty))∧Below w'.heap.size w' w'')
 have hs:=h.2 i hi
 generalize fth l i=v at hs
 generalize Qcn fs i=f at hs
 have ee:=hs.ee;have HM:Hid (∀x,Below w'.heap.size w' x→Calls Tryz.prog v.ef v.ec x λ e w'=>e=.returned (.bool f.empty)∧Below x.heap.size x w'):=QLh (λ x hx=>hs.empty x ((hk.next hb).next hx));clear hs
 show Calls Tryz.prog 179 #[v.val] w' _
 unfold FVal.val
 go_enter Tryz.func179,Tryz.ntmps179
 go_wp2_with fail
 refine(HM.out _ (Qh (Below.refl _ _) _)).mono ?_
 rintro e w1 ⟨rfl,hb1⟩
 have HB1:Hid (Below w'.heap.size w' w1):=QLh (Qk (Qh (Below.refl _ _) _) hb1);clear hb1
 go_wp2
 go_ret
 exact⟨rfl,HB1.out⟩
theorem Qmr{B:Nat}{W0 w:World}{l:List FVal}{fs:List FSpec}(h:FSems B W0 l fs):Qjr w l 177 #[] (λ i=>(Qcn fs i).must):=by
 refine⟨enters_of Tryz.func177 (by kernel_rfl) rfl,λ i hi w' hb=>?_⟩
 show Calls Tryz.prog 177 (#[(fth l i).val]++#[]) w' (λ e w''=>e=.returned (.bool ((Qcn fs i).must))∧Below w'.heap.size w' w'')
 have hs:=(h.2 i hi).must
 generalize fth l i=v at hs
 generalize Qcn fs i=f at hs
 show Calls Tryz.prog 177 #[v.val] w' _
 have HS:=QLh hs;clear hs
 unfold FVal.val
 go_enter Tryz.func177,Tryz.ntmps177
 go_wp2
 go_ret
 exact⟨Z7 HS.out,by(repeat (first | exact Below.refl _ _ | assumption | (refine Zd ?_) | (refine Zc ?_ _) | (refine Qh ?_ _) | (refine Zs ?_ (by first | omega | (simp;done) | (simp;omega)) _) | (refine Qk ?_ (by assumption))))⟩
theorem Qqu(fs:List FSpec)(n:Nat)(h:len fs=n):(Q8 fs=false ↔ ∃i,i<n∧(!(Qcn fs i).may)=true):=by
 unfold Q8
 subst h
 rw[List.all_eq_false]
 constructor
 ·rintro⟨x,hx,hm⟩
  obtain⟨i,hi,rfl⟩:=List.getElem_of_mem hx
  exact⟨i,hi,by rw[Qa8 fs i hi];simpa using hm⟩
 ·rintro⟨i,hi,hm⟩
  have hi':i<fs.length:=hi
  exact⟨fs[i],List.getElem_mem _,by rw[Qa8 fs i hi']at hm;simpa using hm⟩
theorem Qod(B:Nat)(W0:World)(a:Option Addr)(c:Nat)(l:List FVal)(fs:List FSpec)(w:World)(hl:Flds w a l)(hn:len l≤1000)(hS:FSems B W0 l fs)(hk:Keep8 B W0 w):
  Calls Tryz.prog 103 #[.slice a (len l) c] w λ e w'=>e=.returned (.bool (Q8 fs))∧Below w.heap.size w w':=by
 have H:=QLh (J7 a c l 171 #[] _ w hl hn (Qvv hS hk));have HI:=QLh (Qqu fs (len l) hS.1);clear hl hS hk
 go_enter Tryz.func103,Tryz.ntmps103
 go_wp2_with fail
 refine H.out.mono ?_
 rintro e w1 ⟨b,rfl,hb1,hb⟩
 have HB:=QLh hb;have HE:Hid ((!b)=Q8 fs):=QLh (by
  have h:=HI.out
  cases b with
  | true=>rw[h.2 (hb1.1 rfl)];rfl
  | false=>
   cases hm:Q8 fs with
   | true=>rfl
   | false=>exact absurd (hb1.2 (h.1 hm)) (by decide))
 clear hb hb1
 go_wp2
 go_ret
 exact⟨Z7 HE.out,HB.out⟩
theorem Qqv:(Tryz.prog.info? 172).map (λ i=>(i.zero,i.size,i.bytes))=some (some (.agg #[.string ByteArray.empty,.bool false,.nilFunc,.nilFunc,.nilFunc,.nilFunc]),6,56):=by kernel_rfl
theorem Qsw{w:World}{b off:Nat}{l:List FVal}(h:Flds w (some ⟨b,off,none⟩) l):∀j u,(l.flatMap FVal.cells)[j]?=some u→w.cell? ((⟨b,off,none⟩:Addr).add j)=some u:=by
 intro j u hu
 have hj:j<(l.flatMap FVal.cells).length:=(List.getElem?_eq_some_iff.1 hu).1
 rw[Qac FVal.cells 6 FVal.cells_len]at hj
 have hi:j / 6<l.length:=by omega
 have e:=Qdw FVal.cells 6 FVal.cells_len l (j / 6) (j % 6) hi (by omega)
 rw[show j / 6 * 6+j % 6=j by omega]at e
 rw[e]at hu
 obtain⟨b',off',e2,c0,c1,c2,c3,c4,c5⟩:=h (j / 6) hi
 cases e2
 rw[J9 l _ hi]at c0 c1 c2 c3 c4 c5
 have ha:(⟨b,off,none⟩:Addr).add j=⟨b,off+j,none⟩:=by
  unfold Addr.add;split
  ·rename_i h0;subst h0;rfl
  ·rfl
 rw[ha]
 have hr:j % 6=0 ∨ j % 6=1 ∨ j % 6=2 ∨ j % 6=3 ∨ j % 6=4 ∨ j % 6=5:=by omega
 have hq:off+j=off+j / 6 * 6+j % 6:=by omega
 rw[hq]
 rcases hr with h0 | h0 | h0 | h0 | h0 | h0 <;> rw[h0]at hu ⊢
 ·rw[Nat.add_zero,c0];exact hu
 ·rw[c1];exact hu
 ·rw[c2];exact hu
 ·rw[c3];exact hu
 ·rw[c4];exact hu
 ·rw[c5];exact hu
theorem Qvw(l:List FVal):∀u ∈ l.flatMap FVal.cells,u.oneCell'=true:=by
 intro u hu
 obtain⟨v,_,hv⟩:=List.mem_flatMap.1 hu
 exact v.cells_one u hv
theorem Qsx(b off c:Nat)(l:List FVal)(w:World)(hl:Flds w (some ⟨b,off,none⟩) l)(hn:len l≤1000):
  Calls Tryz.prog 173 #[.slice (some ⟨b,off,none⟩) (len l) c] w λ e w'=>∃v,e=.returned v∧w'.ownsRow w.heap.size 172 6 v (len l) (l.flatMap FVal.cells)∧Below w.heap.size w w':=by
 have HL:=QLh hl
 obtain⟨i0,hi,hz0,hz1,hz2⟩:=info_parts Qqv
 have HZ:=QLh hz0;have E0:Hid ((w.alloc (.cells #[] 172)).ownsRow w.heap.size 172 6 (.slice (some ⟨w.heap.size,0,none⟩) 0 0) 0 []):=QLh (World.ownsRow_lit w #[] 0 (Nat.le_refl _) (Nat.zero_le _) rfl);have heq:∀W,(binOp .eql 113 (.slice (some ⟨b,off,none⟩) (len l) c) (.slice none 0 0)).run Tryz.prog W=.ok (.bool false) W:=λ W=>Lib.run_eql_slice_nil W 113 172 (some ⟨b,off,none⟩) (len l) c 0 0 Tryz.underlying113;clear hl hz0
 go_enter Tryz.func173,Tryz.ntmps173
 go_wp2_with (at_builtin;refine wpList_append_own _ rfl _ _ 113 rfl w.heap.size 172 i0 (.agg #[.string ByteArray.empty,.bool false,.nilFunc,.nilFunc,.nilFunc,.nilFunc]) 6 56 Tryz.underlying113 hi HZ.out hz1 hz2 rfl (by decide) _ 0 [] rfl E0.out ⟨b,off,none⟩ (len l) c (l.flatMap FVal.cells) rfl (Qac FVal.cells 6 FVal.cells_len l) (Qsw (HL.out.below (Qh (Below.refl _ _) _))) (Qvw l) (by unfold maxLen;omega) (by omega) (by simp) ?_)
 intro v' w2 hown hgrow _
 have HB:Hid (Below w.heap.size w w2):=QLh (J0 (Qh (Below.refl _ _) _) hgrow (λ k hk=>by simp[Value.ownBlock]at hk;omega));have HO:Hid (w2.ownsRow w.heap.size 172 6 v' (len l) (l.flatMap FVal.cells)):=QLh (by simpa using hown);clear hown hgrow
 go_wp2
 go_ret
 exact⟨_,rfl,HO.out,HB.out⟩
def RowC(w:World)(g n:Nat)(R:List FVal):Prop:=len R=n∧∃cur,w.heap[g]?=some (.cells cur 172 (0,0))∧n * 6≤cur.size∧∀i,i<n→∀r,r<6→cur[i * 6+r]?=(fth R i).cells[r]?
theorem RowC.of_own{w:World}{base n:Nat}{v:Value}{l:List FVal}(h:w.ownsRow base 172 6 v n (l.flatMap FVal.cells))(hn:0<n):∃g cap,v=.slice (some ⟨g,0,none⟩) n cap∧base≤g∧n≤cap∧RowC w g n l:=by
 have hl:len l=n:=by have:=h.1;rw[Qac FVal.cells 6 FVal.cells_len]at this;rw[Zm];omega
 rcases h.2 with⟨_,h0⟩ | ⟨g,cap,cur,rfl,hg,hh,hc1,hc2,hc3,hc4⟩
 ·omega
 ·refine⟨g,cap,rfl,hg,hc1,hl,cur,hh,by omega,λ i hi r hr=>?_⟩
  have hil:i<l.length:=by rw[←Zm,hl];exact hi
  have e:=Qdw FVal.cells 6 FVal.cells_len l i r hil hr
  rw[J9 l i hil,←e,←hc4,List.getElem?_take,if_pos (by omega)]
  simp
theorem RowC.at{w:World}{g n:Nat}{R:List FVal}(h:RowC w g n R){i:Nat}(hi:i<n):FValAt w g (i * 6) (fth R i):=by
 obtain⟨_,cur,h1,h2,h3⟩:=h
 have key:∀r,r<6→w.cell? ⟨g,i * 6+r,none⟩=(fth R i).cells[r]?:=λ r hr=>by rw[Qa h1];exact h3 i hi r hr
 exact⟨key 0 (by decide),key 1 (by decide),key 2 (by decide),key 3 (by decide),key 4 (by decide),key 5 (by decide)⟩
theorem RowC.flds{w:World}{g n:Nat}{R:List FVal}(h:RowC w g n R):Flds w (some ⟨g,0,none⟩) R:=λ i hi=>⟨g,0,rfl,by rw[Nat.zero_add];exact h.at (by rw[←h.1];exact hi)⟩
theorem RowC.free{w:World}{g n:Nat}{R:List FVal}(h:RowC w g n R)(o:Nat):w.frozen? ⟨g,o,none⟩=false:=by
 obtain⟨_,cur,h1,_⟩:=h;exact Qj h1 o
theorem RowC.keep{w w':World}{g n:Nat}{R:List FVal}(h:RowC w g n R)(hk:w'.heap[g]?=w.heap[g]?):RowC w' g n R:=by
 obtain⟨h0,cur,h1,h2⟩:=h;exact⟨h0,cur,hk.trans h1,h2⟩
theorem RowC.lt{w:World}{g n:Nat}{R:List FVal}(h:RowC w g n R):g<w.heap.size:=by
 obtain⟨_,cur,h1,_⟩:=h;exact lt_of_block h1
def Jy(p:Nat→Bool)(l:List FVal):Nat→List FVal
 | 0=>[]
 | m+1=>if p m then Jy p l m else Jy p l m++[fth l m]
theorem Qsy{p:Nat→Bool}{l:List FVal}{k:Nat}(hk:k<len l)(h:∀i,i<k→p i=false)(hp:p k=true):Jy p l (k+1)=l.take k:=by
 have key:∀m,m≤k→Jy p l m=l.take m:=by
  intro m
  induction m with
  | zero=>intro _;simp[Jy]
  | succ m ih=>
   intro hm
   have hm':m<l.length:=by have:k<l.length:=hk;omega
   rw[Jy,h m (by omega),ih (by omega),List.take_succ_eq_append_getElem hm',J9 l m hm'];simp
 rw[Jy,if_pos hp,key k (Nat.le_refl _)]
theorem Qms(p:Nat→Bool)(l:List FVal):∀m,len (Jy p l m)≤m
 | 0=>Nat.le_refl _
 | m+1=>by
  have:=Qms p l m
  rw[Jy]
  split
  ·omega
  ·rw[Zm]at this ⊢;simp;omega
theorem Qvx{l:List FVal}{k t:Nat}(h:t<k)(hk:k≤len l):fth (l.take k) t=fth l t:=by
 have hk':k≤l.length:=hk
 rw[J9 _ t (by rw[List.length_take];omega),J9 l t (by omega),List.getElem_take]
theorem Qpi{l:List FVal}{v:FVal}{t:Nat}(h:t<len l):fth (l++[v]) t=fth l t:=by
 have h':t<l.length:=h
 rw[J9 _ t (by simp;omega),J9 l t h',List.getElem_append_left h']
theorem Qpj(l:List FVal)(v:FVal):fth (l++[v]) (len l)=v:=by
 rw[Zm,J9 _ l.length (by simp)];simp
theorem Qoe{R:List FVal}{q t:Nat}{v:FVal}(hq:q<len R):fth (R.set q v) t=if t=q then v else fth R t:=by
 have hq':q<R.length:=hq
 by_cases e:t=q
 ·subst e;rw[if_pos rfl,J9 _ t (by simpa using hq'),List.getElem_set_self]
 ·rw[if_neg e]
  unfold fth
  rw[List.getD_eq_getElem?_getD,List.getD_eq_getElem?_getD,List.getElem?_set_ne (λ e2=>e e2.symm)]
structure DelSt(base:Nat)(p:Nat→Bool)(l:List FVal)(w:World)(g m q:Nat)(R:List FVal)(wr:World):Prop where
 cnt:len (Jy p l m)=q
 lt:q<m
 low:∀t,t<q→fth R t=fth (Jy p l m) t
 high:∀t,m≤t→t<len l→fth R t=fth l t
 row:RowC wr g (len l) R
 bel:Below base w wr
theorem DelSt.below{base g m q:Nat}{p:Nat→Bool}{l R:List FVal}{w wr w':World}(h:DelSt base p l w g m q R wr)(hb:Below wr.heap.size wr w')(hbw:base≤w.heap.size):DelSt base p l w g m q R w':=
 ⟨h.cnt,h.lt,h.low,h.high,h.row.keep (hb.block _ h.row.lt),h.bel.trans (hb.mono (Nat.le_trans hbw h.bel.size))⟩
abbrev Q1q(w:World)(g q:Nat)(v:FVal):World:=
 (((((w.setCell ⟨g,q * 6,none⟩ (.string v.key)).setCell ⟨g,q * 6+1,none⟩ (.bool v.must)).setCell ⟨g,q * 6+2,none⟩ (.func (.func v.ef) #[] v.ec)).setCell ⟨g,q * 6+3,none⟩ (.func (.func v.mf) #[] v.mc)).setCell ⟨g,q * 6+4,none⟩ (.func (.func v.pf) #[] v.pc)).setCell ⟨g,q * 6+5,none⟩ (.func (.func v.gf) #[] v.gc)
theorem RowC.put{w:World}{g n q:Nat}{R:List FVal}(h:RowC w g n R)(hq:q<n)(v:FVal):RowC (Q1q w g q v) g n (R.set q v):=by
 obtain⟨h0,cur,h1,h2,h3⟩:=h
 refine⟨by rw[Zm,List.length_set,←Zm];exact h0,_,Qb (Qb (Qb (Qb (Qb (Qb h1 _) _) _) _) _) _,by simpa using h2,λ i hi r hr=>?_⟩
 rw[Qoe (by omega)]
 by_cases e:i=q
 ·subst e
  rw[if_pos rfl]
  have hs:i * 6+5<cur.size:=by omega
  have hr':r=0 ∨ r=1 ∨ r=2 ∨ r=3 ∨ r=4 ∨ r=5:=by omega
  rcases hr' with rfl | rfl | rfl | rfl | rfl | rfl
  ·simp only[Nat.add_zero]
   rw[Array.getElem?_setIfInBounds_ne (by omega),Array.getElem?_setIfInBounds_ne (by omega),Array.getElem?_setIfInBounds_ne (by omega),Array.getElem?_setIfInBounds_ne (by omega),Array.getElem?_setIfInBounds_ne (by omega),Array.getElem?_setIfInBounds_self_of_lt (by omega)];rfl
  ·rw[Array.getElem?_setIfInBounds_ne (by omega),Array.getElem?_setIfInBounds_ne (by omega),Array.getElem?_setIfInBounds_ne (by omega),Array.getElem?_setIfInBounds_ne (by omega),Array.getElem?_setIfInBounds_self_of_lt (by simp;omega)];rfl
  ·rw[Array.getElem?_setIfInBounds_ne (by omega),Array.getElem?_setIfInBounds_ne (by omega),Array.getElem?_setIfInBounds_ne (by omega),Array.getElem?_setIfInBounds_self_of_lt (by simp;omega)];rfl
  ·rw[Array.getElem?_setIfInBounds_ne (by omega),Array.getElem?_setIfInBounds_ne (by omega),Array.getElem?_setIfInBounds_self_of_lt (by simp;omega)];rfl
  ·rw[Array.getElem?_setIfInBounds_ne (by omega),Array.getElem?_setIfInBounds_self_of_lt (by simp;omega)];rfl
  ·rw[Array.getElem?_setIfInBounds_self_of_lt (by simp;omega)];rfl
 ·rw[if_neg e,Array.getElem?_setIfInBounds_ne (by omega),Array.getElem?_setIfInBounds_ne (by omega),Array.getElem?_setIfInBounds_ne (by omega),Array.getElem?_setIfInBounds_ne (by omega),Array.getElem?_setIfInBounds_ne (by omega),Array.getElem?_setIfInBounds_ne (by omega)]
  exact h3 i hi r hr
theorem Qqw{base g q:Nat}{a w:World}(h:Below base a w)(hg:base≤g)(v:FVal):Below base a (Q1q w g q v):=
 (((((h.setCell hg _).setCell hg _).setCell hg _).setCell hg _).setCell hg _).setCell hg _
theorem DelSt.put{base g m q:Nat}{p:Nat→Bool}{l R:List FVal}{w wr:World}(h:DelSt base p l w g m q R wr)(hm:m<len l)(hp:p m=false)(hg:base≤g):DelSt base p l w g (m+1) (q+1) (R.set q (fth l m)) (Q1q wr g q (fth l m)):=by
 obtain⟨a1,a2,a3,a4,a5,a6⟩:=h
 have hR:=a5.1;have e:Jy p l (m+1)=Jy p l m++[fth l m]:=by rw[Jy,if_neg (by rw[hp];decide)]
 refine⟨by rw[e,←a1,Zm,Zm];simp,by omega,λ t ht=>?_,λ t h1 h2=>?_,a5.put (by omega) _,Qqw a6 hg _⟩
 ·rw[Qoe (by omega),e]
  by_cases et:t=q
  ·subst et;rw[if_pos rfl,←a1,Qpj]
  ·rw[if_neg et,Qpi (by omega)];exact a3 t (by omega)
 ·rw[Qoe (by omega),if_neg (by omega)];exact a4 t (by omega) h2
theorem Qpk{B b:Nat}{a:World}(hb:B≤b):∀(vs:List Value) (o:Nat) (w:World),Below B a w→Below B a (w.setCells b o vs)
 | [],_,_,h=>h
 | v :: r,o,w,h=>Qpk hb r (o+1) _ (h.setCell hb v)
theorem Qpl{b:Nat}{T:TypeId}{fr:Nat × Nat}:∀(vs:List Value) (o:Nat) (w:World) (cur:Array Value),w.heap[b]?=some (.cells cur T fr)→∃cur',(w.setCells b o vs).heap[b]?=some (.cells cur' T fr)
 | [],_,_,cur,h=>⟨cur,h⟩
 | v :: r,o,w,cur,h=>Qpl r (o+1) _ _ (Qb h v)
theorem Qsz{w:World}{g n q c:Nat}{R:List FVal}(h:RowC w g n R)(hq:q<n)(ty:TypeId):∃w7,(Builtin.clear_ #[113] ty #[.slice (some ⟨g,q * 6,none⟩) (n - q) c]).run Tryz.prog w=.ok (.tuple #[]) w7∧(∀t,t<q→FValAt w7 g (t * 6) (fth R t))∧(∀base a,base≤g→Below base a w→Below base a w7)∧∃cur,w7.heap[g]?=some (.cells cur 172 (0,0)):=by
 obtain⟨zs,hzs⟩:∃zs,(Builtin.zeroCells (Value.agg #[.string ⟨#[]⟩,.bool false,.nilFunc,.nilFunc,.nilFunc,.nilFunc]).cells (n - q)).toList=zs:=⟨_,rfl⟩
 have hzl:zs.length=(n - q) * 6:=by rw[←hzs];simp[Builtin.zeroCells,Value.cells]
 have hz1:∀u ∈ zs,u.oneCell'=true:=by
  intro u hu
  rw[←hzs]at hu
  simp[Builtin.zeroCells,Value.cells]at hu
  obtain⟨i,hi,rfl⟩:=hu
  have:i % 6=0 ∨ i % 6=1 ∨ i % 6=2 ∨ i % 6=3 ∨ i % 6=4 ∨ i % 6=5:=by omega
  rcases this with e | e | e | e | e | e <;> simp[e] <;> rfl
 have hc:∀j,j<zs.length→(w.cell? ⟨g,q * 6+j,none⟩).isSome=true:=λ j hj=>by
  obtain⟨_,cur,h1,h2,_⟩:=h
  rw[Qa h1,Array.getElem?_eq_getElem (by omega)];rfl
 have hst:=run_storeCells_cells (P:=Tryz.prog) g (q * 6) zs 0 w (by simpa using hc) (λ j _=>h.free _) hz1
 simp only[Nat.add_zero]at hst
 refine⟨w.setCells g (q * 6) zs,?_,λ t ht=>?_,λ base a hb hbel=>Qpk hb zs (q * 6) w hbel,by obtain⟨_,cur,h,_⟩:=h;exact Qpl zs (q * 6) w cur h⟩
 ·obtain⟨m,hm⟩:∃m,n - q=m+1:=⟨n - q - 1,by omega⟩
  rw[hm]at hzs ⊢
  simp[Builtin.clear_,run_underlying Tryz.underlying113,Tryz.zeroValue172,hzs,hst]
 ·obtain⟨c0,c1,c2,c3,c4,c5⟩:=h.at (i:=t) (by omega)
  have e:∀o,o<q * 6→(w.setCells g (q * 6) zs).cell? ⟨g,o,none⟩=w.cell? ⟨g,o,none⟩:=λ o ho=>World.cell?_setCells_out g zs (q * 6) w ⟨g,o,none⟩ (λ _ _=>.inl ho)
  exact⟨(e _ (by omega)).trans c0,(e _ (by omega)).trans c1,(e _ (by omega)).trans c2,(e _ (by omega)).trans c3,(e _ (by omega)).trans c4,(e _ (by omega)).trans c5⟩
def Q0h(base:Nat)(p:Nat→Bool)(l:List FVal)(w:World)(e:Ending)(w':World):Prop:=
 ∃g cap,e=.returned (.slice (some ⟨g,0,none⟩) (len (Jy p l (len l))) cap)∧Flds w' (some ⟨g,0,none⟩) (Jy p l (len l))∧Below base w w'∧base≤g∧∃cur,w'.heap[g]?=some (.cells cur 172 (0,0))
theorem Qvy(base:Nat)(v:Value)(l:List FVal)(g0:Nat)(lb:Array Value)(p:Nat→Bool)(w:World)(hown:w.ownsRow base 172 6 v (len l) (l.flatMap FVal.cells))(hn:len l≤1000)(h0:0<len l)(hbw:base≤w.heap.size)
  (eg:∀args w',(callFunc g0 args).run Tryz.prog w'=.ok (.enter g0 args) w') (hp:∀i,i<len l→∀w',Below base w w'→Calls Tryz.prog g0 (#[(fth l i).val]++lb) w' λ e w''=>e=.returned (.bool (p i))∧Below w'.heap.size w' w''):
  Calls Tryz.prog 172 #[v,.func (.func g0) #[] lb] w (Q0h base p l w):=by
 obtain⟨g,cap,rfl,hg,hcap,hrow⟩:=RowC.of_own hown h0
 have HROW:=QLh hrow;have HP:=QLh hp;have HI:=QLh (Qht (some ⟨g,0,none⟩) cap l g0 lb p w hrow.flds hn ⟨eg,λ i hi w' hb=>hp i hi w' (hb.mono hbw)⟩);clear hown hrow hp
 go_enter Tryz.func172,Tryz.ntmps172
 go_wp2_with fail
 refine HI.out.mono ?_
 rintro e w1 ⟨r,rfl,hr,hb⟩
 have HB1:=QLh hb;have HROW1:=QLh (HROW.out.keep (hb.block _ HROW.out.lt));clear hb HROW
 rcases hr with⟨rfl,hall⟩ | ⟨k,hk,rfl,hpk,hlow⟩
 ·have HK:Hid (Jy p l (len l)=l):=QLh (by
   have key:∀m,m≤len l→Jy p l m=l.take m:=by
    intro m
    induction m with
    | zero=>intro _;simp[Jy]
    | succ m ih=>
     intro hm
     have hm':m<l.length:=hm
     rw[Jy,hall m hm,ih (by omega),List.take_succ_eq_append_getElem hm',J9 l m hm'];simp
   rw[key _ (Nat.le_refl _)];exact Qvg l)
  clear hall
  go_wp2
  go_ret
  exact⟨g,cap,by rw[HK.out];rfl,by rw[HK.out];exact HROW1.out.flds,HB1.out.mono hbw,hg,by obtain⟨_,cur,h,_⟩:=HROW1.out;exact⟨cur,h⟩⟩
 ·have HPK:=QLh hpk
  have HLOW:=QLh hlow;clear hpk hlow
  go_wp2
  have ST:Hid (DelSt base p l w g (k+1) k l w1):=QLh (by
   have e:=Qsy hk HLOW.out HPK.out;have hk':k<l.length:=hk
   refine⟨by rw[e,Zm,List.length_take];omega,Nat.lt_succ_self _,λ t ht=>by rw[e,Qvx ht (Nat.le_of_lt hk)],λ t _ _=>rfl,HROW1.out,HB1.out.mono hbw⟩)
  clear HROW1 HI HLOW HPK
  go_loopg [5,6] (len l - (k+1)) (λ gg i j wr=>∃m q:Nat,∃R:List FVal,gg+m=len l∧i=.int .i64 q∧j=.int .i64 m∧Hid (DelSt base p l w g m q R wr))
  case atStart=>exact⟨k+1,k,l,by omega,rfl,by first | rfl | simp,ST.out⟩
  case round=>
   clear ST
   obtain⟨m,q,R,hm,rfl,rfl,HST⟩:=hrel
   have hqm:=HST.out.lt
   by_cases hlt:m<len l
   ·have i1:(m:Int)<len l:=by omega
    obtain⟨c0,c1,c2,c3,c4,c5⟩:=HST.out.row.at hlt
    rw[HST.out.high m (Nat.le_refl _) hlt]at c0 c1 c2 c3 c4 c5
    have hcall:=HP.out m hlt
    unfold FVal.val at hcall
    obtain⟨v,hv⟩:∃v,fth l m=v:=⟨_,rfl⟩
    have HV:=QLh hv
    rw[hv]at c0 c1 c2 c3 c4 c5 hcall
    have HC:=QLh hcall;clear hcall hv
    go_wp2_with fail
    refine(HC.out _ (HST.out.bel.trans (Below.mono (Qh (Below.refl _ _) _) (Nat.le_trans hbw HST.out.bel.size)))).mono ?_
    rintro e w5 ⟨rfl,hb5⟩
    have HST5:Hid (DelSt base p l w g m q R w5):=QLh (HST.out.below (Qk (Qh (Below.refl _ _) _) hb5) hbw);have HBX:Hid (w5.heap[wr.heap.size]?=some (.cells #[.string v.key,.bool v.must,.func (.func v.ef) #[] v.ec,.func (.func v.mf) #[] v.mc,.func (.func v.pf) #[] v.pc,.func (.func v.gf) #[] v.gc] 172 (0,0))):=QLh ((hb5.block _ (by simp)).trans (heap_alloc_new _ _));clear hb5 c0 c1 c2 c3 c4 c5 HC HST
    cases hpm:p m with
    | true=>
     have HST6:Hid (DelSt base p l w g (m+1) q R w5):=QLh (by
      obtain⟨a1,a2,a3,a4,a5,a6⟩:=HST5.out
      have e:Jy p l (m+1)=Jy p l m:=by rw[Jy,if_pos hpm]
      exact⟨by rw[e];exact a1,by omega,λ t ht=>by rw[e];exact a3 t ht,λ t h1 h2=>a4 t (by omega) h2,a5,a6⟩)
     clear hpm HST5 HBX
     go_wp2
     go_roundg (len l - (m+1))
     case rel=>exact⟨m+1,q,R,by omega,rfl,by go_num,HST6.out⟩
     case measure=>omega
    | false=>
     have hqn:q<len l:=by omega
     obtain⟨d0,d1,d2,d3,d4,d5⟩:=HST5.out.row.at hqn
     have hfr:=HST5.out.row.free;have bx:∀o,w5.cell? ⟨wr.heap.size,o,none⟩=_:=Qa HBX.out;have iq:(q:Int)<len l:=by omega
     have HST6:Hid (DelSt base p l w g (m+1) (q+1) (R.set q v) (Q1q w5 g q v)):=QLh (by
      rw[←HV.out];exact HST5.out.put hlt hpm hg)
     clear hpm HST5 HBX
     go_wp2_with fail
     clear d0 d1 d2 d3 d4 d5 hfr bx
     go_roundg (len l - (m+1))
     case rel=>exact⟨m+1,q+1,R.set q v,by omega,by go_num,by go_num,HST6.out⟩
     case measure=>omega
   ·obtain rfl:m=len l:=by omega
    have i1:¬((len l:Nat):Int)<len l:=by omega
    obtain⟨w7,hcl,hfl,hb7,hc7⟩:=Qsz (c:=cap - q) HST.out.row HST.out.lt 0
    have HFL:Hid (Flds w7 (some ⟨g,0,none⟩) (Jy p l (len l))):=QLh (λ i hi=>⟨g,0,rfl,by
     rw[HST.out.cnt]at hi
     rw[Nat.zero_add,←HST.out.low i hi];exact hfl i hi⟩)
    have HB7:=QLh (hb7 base w hg HST.out.bel);have HC7:=QLh hc7;have HCN:=QLh HST.out.cnt;clear hfl hb7 hc7 HST
    go_wp2
    go_ret
    exact⟨g,cap,by rw[HCN.out];rfl,HFL.out,HB7.out,hg,HC7.out⟩
theorem Qs0{l:List FSpec}{v:FSpec}{t:Nat}(h:t<len l):Qcn (l++[v]) t=Qcn l t:=by
 have h':t<l.length:=h
 rw[Qa8 _ t (by simp;omega),Qa8 l t h',List.getElem_append_left h']
theorem Qs1(l:List FSpec)(v:FSpec):Qcn (l++[v]) (len l)=v:=by
 rw[Zm,Qa8 _ l.length (by simp)];simp
theorem Qmt{B:Nat}{W0:World}{l:List FVal}{fs:List FSpec}(h:FSems B W0 l fs)(hm:Q8 fs=true):∀m,m≤len l→len (J6 (fs.take m))=len (Jy (λ i=>(Qcn fs i).empty) l m)∧∀t,t<len (J6 (fs.take m))→FSem B W0 (fth (Jy (λ i=>(Qcn fs i).empty) l m) t) (Qcn (J6 (fs.take m)) t)∧(Qcn (J6 (fs.take m)) t).empty=false∧(Qcn (J6 (fs.take m)) t).may=true
 | 0,_=>⟨by simp[J6,Jy,len],λ t ht=>by simp[J6,len]at ht⟩
 | m+1,hm1=>by
  obtain⟨ih1,ih2⟩:=Qmt h hm m (by omega)
  have hfl:m<fs.length:=by have:=h.1;rw[Zm]at this;omega
  have e1:fs.take (m+1)=fs.take m++[Qcn fs m]:=by rw[List.take_succ_eq_append_getElem hfl,Qa8 fs m hfl]
  have hmay:(Qcn fs m).may=true:=by
   unfold Q8 at hm
   rw[List.all_eq_true]at hm
   rw[Qa8 fs m hfl];exact hm _ (List.getElem_mem _)
  cases he:(Qcn fs m).empty with
  | true=>
   have e2:J6 (fs.take (m+1))=J6 (fs.take m):=by
    rw[e1];unfold J6;rw[List.filter_append,List.filter_cons_of_neg (by simp[he])];simp
   have e3:Jy (λ i=>(Qcn fs i).empty) l (m+1)=Jy (λ i=>(Qcn fs i).empty) l m:=by rw[Jy,if_pos he]
   rw[e2,e3];exact⟨ih1,ih2⟩
  | false=>
   have e2:J6 (fs.take (m+1))=J6 (fs.take m)++[Qcn fs m]:=by
    rw[e1];unfold J6;rw[List.filter_append,List.filter_cons_of_pos (by simp[he])];simp
   have e3:Jy (λ i=>(Qcn fs i).empty) l (m+1)=Jy (λ i=>(Qcn fs i).empty) l m++[fth l m]:=by rw[Jy,if_neg (by simp[he])]
   rw[e2,e3]
   have hl2:len (J6 (fs.take m)++[Qcn fs m])=len (J6 (fs.take m))+1:=by simp[len]
   refine⟨by rw[hl2,ih1];simp[len],λ t ht=>?_⟩
   rw[hl2]at ht
   by_cases et:t<len (J6 (fs.take m))
   ·rw[Qpi (by rw[←ih1];exact et),Qs0 et];exact ih2 t et
   ·obtain rfl:t=len (J6 (fs.take m)):=by omega
    rw[Qs1]
    refine⟨?_,he,hmay⟩
    rw[ih1,Qpj]
    exact h.2 m (by omega)
theorem Qfw{L:List ByteArray}{t:Nat}(h:t<L.length):(Xo (L.take t)).size+L[t].size≤(Xo L).size:=by
 have e:Xo L=Xo (L.take t)++(L[t]++Xo (L.drop (t+1))):=by
  conv=>lhs;rw[←List.take_append_drop t L,List.drop_eq_getElem_cons h]
  rw[Qd2,Xo]
 rw[e,ByteArray.size_append,ByteArray.size_append];omega
theorem Qdr{w w':World}{g:Nat}{l:List FVal}(h:Flds w (some ⟨g,0,none⟩) l)(hk:w'.heap[g]?=w.heap[g]?):Flds w' (some ⟨g,0,none⟩) l:=λ i hi=>by
 obtain⟨b,off,e,c0,c1,c2,c3,c4,c5⟩:=h i hi
 cases e
 have e2:∀o,w'.cell? ⟨g,o,none⟩=w.cell? ⟨g,o,none⟩:=λ o=>by unfold World.cell?;rw[hk]
 exact⟨g,0,rfl,(e2 _).trans c0,(e2 _).trans c1,(e2 _).trans c2,(e2 _).trans c3,(e2 _).trans c4,(e2 _).trans c5⟩
def Q0i(s':ByteArray)(b base:Nat)(w:World)(e:Ending)(w':World):Prop:=e=.returned (.tuple #[])∧WrB w' b base s'∧WK base b w w'
theorem Qof(B b base b1 off c:Nat)(W0:World)(l:List FVal)(fs:List FSpec)(s:ByteArray)(w:World)(hl:Flds w (some ⟨b1,off,none⟩) l)(hn:len l≤1000)(h0:0<len l)(hS:FSems B W0 l fs)(hm:Q8 fs=true)(hk:Keep8 B W0 w)(hb0:Off8 W0 b)
  (ht:PTab B w) (hB:B≤base) (hW:WrB w b base s) (hs:s.size+(Qbj fs).size≤60000000000000):
  Calls Tryz.prog 105 #[pt b 0,.slice (some ⟨b1,off,none⟩) (len l) c] w (Q0i (s++Qbj fs) b base w):=by
 have HL:=QLh hl;have HS:=QLh hS;have HK:=QLh hk;have hsz:=hk.s1;have HT:=QLh ht;have HWR:=QLh hW;have HBS:Hid (base≤w.heap.size):=QLh (by have:=hW.1;have:=hW.lt;omega);have HKS:=QLh (Qmt hS hm (len l) (Nat.le_refl _));have e0:fs.take (len l)=fs:=List.take_of_length_le (by have:=hS.1;rw[Zm]at this;omega)
 rw[e0]at HKS
 have eg:=(Qph hS hk).1;clear hl hS hk ht hW e0
 go_enter Tryz.func105,Tryz.ntmps105
 go_wp2_with fail
 refine(Qsx b1 off c l w HL.out hn).mono ?_
 rintro e w1 ⟨v,rfl,hown,hb1⟩
 have HO:=QLh hown;have HB1:=QLh hb1;clear hown hb1
 go_wp2_with fail
 refine(Qvy w.heap.size v l 174 #[] (λ i=>(Qcn fs i).empty) w1 HO.out hn h0 HB1.out.size eg (λ i hi w' hb=>((Qph HS.out ((HK.out.base HB1.out hsz).base hb hsz)).2 i hi w' (Below.refl _ _)))).mono ?_
 rintro e w2 ⟨g,cap,rfl,hfl,hb2,hg,cur,hcur⟩
 have HFL:=QLh hfl;have HB2:Hid (Below w.heap.size w w2):=QLh (HB1.out.trans hb2);have HCUR:=QLh hcur;clear hfl hb2 hcur HO HB1 HL
 obtain⟨K,hK⟩:∃K,len (Jy (λ i=>(Qcn fs i).empty) l (len l))=K:=⟨_,rfl⟩
 obtain⟨kl,hkl⟩:∃kl,Jy (λ i=>(Qcn fs i).empty) l (len l)=kl:=⟨_,rfl⟩
 obtain⟨ks,hks⟩:∃ks,J6 fs=ks:=⟨_,rfl⟩
 have hK1000:K≤1000:=by rw[←hK];exact Nat.le_trans (Qms _ _ _) hn
 have HLP:Hid (Qbj fs=Qhs K++Xo (ks.map Jh)):=QLh (by
  unfold Qbj;rw[hks]
  have:=HKS.out.1
  rw[hks,hK,Zm]at this
  rw[this])
 rw[hK]
 rw[hkl]at HFL hK HKS
 rw[hks]at HKS
 have HKK:Hid (len ks=K∧len kl=K):=QLh ⟨by rw[HKS.out.1,hK],hK⟩;clear hK hkl hks;have HS2:Hid (s.size+(Qhs K).size+(Xo (ks.map Jh)).size≤60000000000000):=QLh (by rw[HLP.out,ByteArray.size_append]at hs;omega);have hs0:s.size≤60000000000000:=by omega
 have hbw:b<w.heap.size:=HWR.out.lt;have hgb:g≠b:=by omega
 have n8:Qmh (.cells cur 172 (0,0)):=Xj (by decide);clear hs
 go_wp2_with fail
 refine(Map_w B b base K s w2 (HT.out.keep HB2.out (by have:=HBS.out;omega)) hB (HWR.out.below HB2.out) (by omega) (by omega)).mono ?_
 rintro e w3 ⟨rfl,hw3,hk3⟩
 have HW3:Hid (WrB w3 b base (s++Qhs K++Xo ((ks.map Jh).take 0))):=QLh (by
  have e:s++Qhs K++Xo ((ks.map Jh).take 0)=s++Qhs K:=Xx (by simp[Xo])
  rw[e];exact hw3)
 have HK3:Hid (WK base b w2 w3):=QLh hk3;clear hw3 hk3
 go_wp2
 go_loopg [15] K (λ gg i wr=>∃m:Nat,gg+m=K∧i=.int .i64 m∧Hid (WrB wr b base (s++Qhs K++Xo ((ks.map Jh).take m)))∧Hid (WK base b w2 wr))
 case atStart=>exact⟨0,rfl,rfl,HW3.out,HK3.out⟩
 case round=>
  clear HW3 HK3
  obtain⟨m,hm2,rfl,HWW,HWK⟩:=hrel
  by_cases hlt:m<K
  ·have i1:(m:Int)<K:=by omega
   obtain⟨b',off',hbe,c0,c1,c2,c3,c4,c5⟩:=Qdr HFL.out ((HWK.out.keep g _ HCUR.out hgb n8).trans HCUR.out.symm) m (by rw[HKK.out.2];exact hlt)
   cases hbe
   rw[Nat.zero_add]at c0 c1 c2 c3 c4 c5
   obtain⟨hsem,hemp,hmay⟩:=HKS.out.2 m (by rw[HKK.out.1];exact hlt)
   have hsn:(ks.map Jh).take (m+1)=(ks.map Jh).take m++[Jh (Qcn ks m)]:=by
    have hml:m<ks.length:=by have:=HKK.out.1;rw[Zm]at this;omega
    rw[List.take_succ_eq_append_getElem (by simpa using hml),List.getElem_map,Qa8 ks m hml]
   have hct:=Qfw (L:=ks.map Jh) (t:=m) (by have:=HKK.out.1;rw[Zm]at this;simp;omega);have hfm:(ks.map Jh)[m]'(by have:=HKK.out.1;rw[Zm]at this;simp;omega)=Jh (Qcn ks m):=by
    rw[List.getElem_map,Qa8 ks m (by have:=HKK.out.1;rw[Zm]at this;omega)]
   rw[hfm]at hct
   obtain⟨v,hv⟩:∃v,fth kl m=v:=⟨_,rfl⟩
   obtain⟨f,hf⟩:∃f,Qcn ks m=f:=⟨_,rfl⟩
   rw[hv]at c0 c1 c2 c3 c4 c5 hsem
   rw[hf]at hsem hemp hmay hsn hct
   have hkey:=hsem.key;have hksz:=hsem.ksz;have ep:=hsem.ep;have hput:=hsem.put hmay hemp
   obtain⟨s1,hs1⟩:∃s1,s++Qhs K++Xo ((ks.map Jh).take m)=s1:=⟨_,rfl⟩
   rw[hs1]at HWW
   have hfsz:(Jh f).size=(Qpd f.key).size+f.bytes.size:=by unfold Jh;rw[ByteArray.size_append]
   have hs1s:s1.size+(Qpd f.key).size+f.bytes.size≤60000000000000:=by
    rw[←hs1,ByteArray.size_append,ByteArray.size_append]
    have:=HS2.out
    omega
   have HSN:Hid (s++Qhs K++Xo ((ks.map Jh).take (m+1))=s1++Qpd f.key++f.bytes):=QLh (by
    rw[hsn,Qfs,←hs1];unfold Jh;simp only[ByteArray.append_assoc])
   have HPUT:=QLh hput;have hbw2:base≤w2.heap.size:=by have:=HBS.out;have:=HB2.out.size;omega
   have HBW2:=QLh hbw2;have HK8:Hid (Keep8 B W0 wr):=QLh ((HK.out.base HB2.out hsz).wk HWK.out hb0 hB);have HTR:Hid (PTab B wr):=QLh ((HT.out.keep HB2.out (by have:=HBS.out;omega)).keep HWK.out.bel hB)
   rw[←hkey]at HSN hs1s hksz
   have HKEY:=QLh hkey;clear hsem hemp hmay hsn hct hfm hs1 hfsz hput hv hf hbw2 hkey
   go_wp2_with fail
   refine(Str_w B b base v.key s1 _ (HTR.out.keep (Qh (Below.refl _ _) _) (by have:=HTR.out.size;omega)) hB (HWW.out.below (Qh (Below.refl _ _) _)) hksz (by omega)).mono ?_
   rintro e w4 ⟨rfl,hw4,hk4⟩
   have HW4:=QLh hw4;have hbx:w4.heap[wr.heap.size]?=some (.cells #[.string v.key,.bool v.must,.func (.func v.ef) #[] v.ec,.func (.func v.mf) #[] v.mc,.func (.func v.pf) #[] v.pc,.func (.func v.gf) #[] v.gc] 172 (0,0)):=
    hk4.keep _ _ (heap_alloc_new _ _) (by have:=HWW.out.lt;omega) (Xj (by decide))
   have HKA:Hid (WK base b wr w4):=QLh ((WK.of_below (Qh (Below.refl _ _) _) (by have:=HWK.out.bel.size;have:=HBW2.out;omega)).trans hk4);have bx4:=Qa hbx 4
   simp only[List.getElem?_toArray,List.getElem?_cons_zero,List.getElem?_cons_succ]at bx4
   have lbx:=lt_of_block hbx;clear hw4 hk4 hbx c0 c1 c2 c3 c4 c5
   go_wp2_with fail
   refine(HPUT.out w4 b base _ (HK8.out.wk HKA.out hb0 hB) hb0 (HTR.out.keep HKA.out.bel hB) hB HW4.out (by rw[ByteArray.size_append];omega)).mono ?_
   rintro e w5 ⟨rfl,hw5,hk5⟩
   have HW5:Hid (WrB w5 b base (s++Qhs K++Xo ((ks.map Jh).take (m+1)))):=QLh (by rw[HSN.out];exact hw5);have HK5:Hid (WK base b w2 w5):=QLh ((HWK.out.trans HKA.out).trans hk5);clear hw5 hk5 HW4 HKA HWW HWK bx4 lbx
   go_wp2
   go_roundg (K - (m+1))
   case rel=>exact⟨m+1,by omega,by go_num,HW5.out,HK5.out⟩
   case measure=>omega
  ·obtain rfl:m=K:=by omega
   have i1:¬(m:Int)<m:=by omega
   go_wp2
   go_end0
   refine⟨rfl,?_,(WK.of_below HB2.out HBS.out).trans HWK.out⟩
   have h:=HWW.out
   rw[List.take_of_length_le (by have:=HKK.out.1;rw[Zm]at this;simp;omega),ByteArray.append_assoc,←HLP.out]at h
   exact h
def LaidIs(fs:List FSpec)(w:World)(e:Ending)(w':World):Prop:=
 e=.returned (if Q8 fs then .tuple #[.string (Qbj fs),.int .i64 0]else .tuple #[.string ⟨#[]⟩,.int .i64 2])∧Below w.heap.size w w'
theorem Qd6(B b1 off c:Nat)(W0:World)(l:List FVal)(fs:List FSpec)(w:World)(hl:Flds w (some ⟨b1,off,none⟩) l)(hn:len l≤1000)(h0:0<len l)(hS:FSems B W0 l fs)(hk:Keep8 B W0 w)(ht:PTab B w)(hs:Q8 fs=true→(Qbj fs).size≤60000000000000):
  Calls Tryz.prog 60 #[.slice (some ⟨b1,off,none⟩) (len l) c] w (LaidIs fs w):=by
 have HL:=QLh hl;have HS:=QLh hS;have HK:=QLh hk;have hsz:=hk.s1;have HSS:=QLh hs;clear hs;have HT:=QLh ht;clear hl hS hk ht
 go_enter Tryz.func60,Tryz.ntmps60
 go_wp2_with fail
 refine(Qod B W0 (some ⟨b1,off,none⟩) c l fs w HL.out hn HS.out HK.out).mono ?_
 rintro e w1 ⟨rfl,hb1⟩
 have HB1:=QLh hb1;clear hb1
 cases hm:Q8 fs with
 | false=>
  have HM:=QLh hm;clear hm
  go_wp2
  go_ret2
  exact⟨by rw[HM.out];rfl,HB1.out⟩
 | true=>
  have HM:=QLh hm;have HT1:=QLh (HT.out.keep HB1.out HT.out.size);have hs:=HSS.out hm;clear hm
  go_wp2_with fail
  refine(Qvr w1).mono ?_
  rintro e w2 ⟨rfl,hw2,hb2⟩
  have HW2:=QLh hw2;have HB2:=QLh hb2;clear hw2 hb2
  go_wp2_with fail
  refine(Qof B w1.heap.size w1.heap.size b1 off c W0 l fs ByteArray.empty w2 ((HL.out.below HB1.out).below HB2.out) hn h0 HS.out HM.out ((HK.out.next HB1.out).next HB2.out) (Off8.of_le (by have:=HB1.out.size;omega)) (HT1.out.keep HB2.out HT1.out.size) HT1.out.size HW2.out (by show 0+(Qbj fs).size≤60000000000000;omega)).mono ?_
  rintro e w3 ⟨rfl,hw3,hk3⟩
  have HW3:Hid (WrB w3 w1.heap.size w1.heap.size (Qbj fs)):=QLh (by
   have e:ByteArray.empty++Qbj fs=Qbj fs:=Xx (by simp)
   rw[e]at hw3;exact hw3)
  have HB3:Hid (Below w.heap.size w w3):=QLh ((Qk HB1.out HB2.out).trans (hk3.bel.mono HB1.out.size));clear hw3 hk3
  go_wp2_with fail
  refine(Qso _ _ _ w3 HW3.out).mono ?_
  rintro e w4 ⟨rfl,rfl⟩
  go_wp2
  go_ret2
  exact⟨by rw[HM.out];rfl,HB3.out⟩
structure CellAt(B:Nat)(w:World)(b o:Nat)(x:Value):Prop where
 cell:w.cell? ⟨b,o,none⟩=some x
 ex:b<B ∨ ∃y,w.heap[b]?=some y∧Qmh y
theorem CellAt.lt{B:Nat}{w:World}{b o:Nat}{x:Value}(h:CellAt B w b o x):b<w.heap.size:=Qw h.cell
theorem CellAt.keep{B:Nat}{w w':World}{b o:Nat}{x:Value}(h:CellAt B w b o x)(hk:Keep8 B w w'):CellAt B w' b o x:=by
 have e:w'.heap[b]?=w.heap[b]?:=by
  rcases h.ex with h1 | ⟨y,h1,h2⟩
  ·exact hk.low b h1
  ·rw[h1];exact hk.keep b y h1 h2
 refine⟨?_,?_⟩
 ·have:w'.cell? ⟨b,o,none⟩=w.cell? ⟨b,o,none⟩:=by unfold World.cell?;rw[e]
  rw[this];exact h.cell
 ·rw[e];exact h.ex
theorem CellAt.below{B:Nat}{w w':World}{b o:Nat}{x:Value}(h:CellAt B w b o x)(hb:Below w.heap.size w w'):CellAt B w' b o x:=by
 have e:w'.heap[b]?=w.heap[b]?:=hb.block b h.lt
 refine⟨?_,by rw[e];exact h.ex⟩
 have:w'.cell? ⟨b,o,none⟩=w.cell? ⟨b,o,none⟩:=by unfold World.cell?;rw[e]
 rw[this];exact h.cell
theorem Qk6(w:World):Calls Tryz.prog 184 #[] w λ e w'=>e=.returned (.bool true)∧Below w.heap.size w w':=by
 go_enter Tryz.func184,Tryz.ntmps184
 go_wp2
 go_ret
 exact⟨rfl,Below.refl _ _⟩
theorem Qk7(B bx pb po:Nat)(n:Int)(w:World)(h1:CellAt B w bx 0 (pt pb po))(h2:CellAt B w pb po (.int .u64 n)):Calls Tryz.prog 183 #[pt bx 0] w λ e w'=>e=.returned (.bool (n == 0))∧Below w.heap.size w w':=by
 have c1:=h1.cell;have c2:=h2.cell;clear h1 h2
 go_enter Tryz.func183,Tryz.ntmps183
 go_wp2
 go_ret
 exact⟨rfl,Below.refl _ _⟩
theorem Qpm(B b base bx pb po:Nat)(n:Int)(s:ByteArray)(w:World)(h1:CellAt B w bx 0 (pt pb po))(h2:CellAt B w pb po (.int .u64 n))(h0:0≤n)(hn:n≤18446744073709551615)(ht:PTab B w)(hB:B≤base)(hW:WrB w b base s)(hs:s.size+(Xr n).size≤60000000000000):
  Calls Tryz.prog 185 #[pt b 0,pt bx 0] w λ e w'=>e=.returned (.tuple #[])∧WrB w' b base (s++Xr n)∧WK base b w w':=by
 have c1:=h1.cell;have c2:=h2.cell;have H:=QLh (Qyn B b base n s w ht hB hW h0 hn (by omega));clear h1 h2 ht hW
 go_enter Tryz.func185,Tryz.ntmps185
 go_wp2_with fail
 refine H.out.mono ?_
 rintro e w' ⟨rfl,h3,h4⟩
 have H3:=QLh h3;have H4:=QLh h4;clear h3 h4
 go_wp2
 go_end0
 exact⟨rfl,H3.out,H4.out⟩
theorem Qr{B:Nat}{w:World}{n:Nat}{cs:Array Value}{T:TypeId}{o:Nat}{x:Value}(h:w.heap[n]?=some (.cells cs T (0,0)))(hT:T≠5)(hx:cs[o]?=some x):CellAt B w n o x:=⟨by rw[Qa h];exact hx,.inr ⟨_,h,Xj hT⟩⟩
theorem Qim(B bx pb po:Nat)(q:Bool)(w:World)(h1:CellAt B w bx 0 (pt pb po))(h2:CellAt B w pb po (.bool q)):Calls Tryz.prog 187 #[pt bx 0] w λ e w'=>e=.returned (.bool (!q))∧Below w.heap.size w w':=by
 have c1:=h1.cell;have c2:=h2.cell;clear h1 h2
 go_enter Tryz.func187,Tryz.ntmps187
 go_wp2
 go_ret
 exact⟨rfl,Below.refl _ _⟩
theorem Qmu(B b base:Nat)(s:ByteArray)(w:World)(ht:PTab B w)(hB:B≤base)(hW:WrB w b base s)(hs:s.size+(Xr 1).size≤60000000000000):
  Calls Tryz.prog 188 #[pt b 0] w λ e w'=>e=.returned (.tuple #[])∧WrB w' b base (s++Xr 1)∧WK base b w w':=by
 have H:=QLh (Qyn B b base 1 s w ht hB hW (by decide) (by decide) (by omega));clear ht hW
 go_enter Tryz.func188,Tryz.ntmps188
 go_wp2_with fail
 refine H.out.mono ?_
 rintro e w' ⟨rfl,h3,h4⟩
 have H3:=QLh h3;have H4:=QLh h4;clear h3 h4
 go_wp2
 go_end0
 exact⟨rfl,H3.out,H4.out⟩
theorem Qe4(w:World):Calls Tryz.prog 190 #[] w λ e w'=>e=.returned (.bool false)∧Below w.heap.size w w':=by
 go_enter Tryz.func190,Tryz.ntmps190
 go_wp2
 go_ret
 exact⟨rfl,Below.refl _ _⟩
theorem Qin(B bx pb po:Nat)(x:ByteArray)(w:World)(h1:CellAt B w bx 0 (pt pb po))(h2:CellAt B w pb po (.string x))(hx:x.size≤9223372036854775807):Calls Tryz.prog 191 #[pt bx 0] w λ e w'=>e=.returned (.bool (decide (x.size=32)))∧Below w.heap.size w w':=by
 have c1:=h1.cell;have c2:=h2.cell;have HE:Hid (((x.size:Int) == 32)=decide (x.size=32)):=QLh (by rw[Bool.eq_iff_iff];simp;omega);clear h1 h2
 go_enter Tryz.func191,Tryz.ntmps191
 go_wp2
 go_ret
 exact⟨Z7 HE.out,Below.refl _ _⟩
theorem Qio(B b base bx pb po:Nat)(x s:ByteArray)(w:World)(h1:CellAt B w bx 0 (pt pb po))(h2:CellAt B w pb po (.string x))(hx:x.size=32)(ht:PTab B w)(hB:B≤base)(hW:WrB w b base s)(hs:s.size+(Jv x).size≤60000000000000):
  Calls Tryz.prog 192 #[pt b 0,pt bx 0] w λ e w'=>e=.returned (.tuple #[])∧WrB w' b base (s++Jv x)∧WK base b w w':=by
 have c1:=h1.cell;have c2:=h2.cell;have H:=QLh (Q0g B b base x s w ht hB hW (by omega) (by omega));clear h1 h2 ht hW hx
 go_enter Tryz.func192,Tryz.ntmps192
 go_wp2_with fail
 refine H.out.mono ?_
 rintro e w' ⟨rfl,h3,h4⟩
 have H3:=QLh h3;have H4:=QLh h4;clear h3 h4
 go_wp2
 go_end0
 exact⟨rfl,H3.out,H4.out⟩
theorem Qap(B:Nat)(key:ByteArray)(pb po:Nat)(n:Int)(w:World)(hk:key.size<65536)(hBw:B≤w.heap.size)(hc:CellAt B w pb po (.int .u64 n))(h0:0≤n)(h1:n≤18446744073709551615):
  Calls Tryz.prog 109 #[.string key,pt pb po] w λ e w'=>∃v:FVal,e=.returned v.val∧FSem B w' v ⟨key,false,n == 0,true,Xr n⟩∧Below w.heap.size w w':=by
 have HC:=QLh hc;clear hc
 go_enter Tryz.func109,Tryz.ntmps109
 go_wp2
 obtain⟨bx,hbx⟩:∃bx,w.heap.size=bx:=⟨_,rfl⟩
 obtain⟨V,hV⟩:∃V,((w.alloc (.cells #[pt pb po] 177)).alloc (.cells #[.string key,.bool false,.func (.func 183) #[] #[pt w.heap.size 0],.func (.func 184) #[] #[],.func (.func 185) #[] #[pt w.heap.size 0],.func (.func 186) #[] #[pt w.heap.size 0]] 172))=V:=⟨_,rfl⟩
 have VB:Below w.heap.size w V:=by rw[←hV];(repeat (first | exact Below.refl _ _ | assumption | (refine Zd ?_) | (refine Zc ?_ _) | (refine Qh ?_ _) | (refine Zs ?_ (by first | omega | (simp;done) | (simp;omega)) _) | (refine Qk ?_ (by assumption))))
 have V0:V.heap[bx]?=some (.cells #[pt pb po] 177 (0,0)):=by rw[←hV,←hbx];exact Qf (heap_alloc_new _ _) _
 have V1:V.heap[bx+1]?=some (.cells #[.string key,.bool false,.func (.func 183) #[] #[pt bx 0],.func (.func 184) #[] #[],.func (.func 185) #[] #[pt bx 0],.func (.func 186) #[] #[pt bx 0]] 172 (0,0)):=by rw[←hV,←hbx];exact Qi _ (by simp)
 have d:∀o,V.cell? ⟨bx+1,o,none⟩=_:=Qa V1
 rw[hV]
 simp only[hbx]
 clear hV;have C0:CellAt B V bx 0 (pt pb po):=Qr V0 (by decide) rfl;have C1:CellAt B V pb po (.int .u64 n):=HC.out.below VB
 refine bodyPost_ret (v:=.agg #[.string key,.bool false,.func (.func 183) #[] #[pt bx 0],.func (.func 184) #[] #[],.func (.func 185) #[] #[pt bx 0],.func (.func 186) #[] #[pt bx 0]]) ?_ rfl ⟨⟨key,false,183,#[pt bx 0],184,#[],185,#[pt bx 0],186,#[pt bx 0]⟩,rfl,?_,by rw[←hbx];exact VB⟩
 ·simp[results,Tryz.results109,go_sem,d]
 ·refine⟨rfl,rfl,hk,enters_of Tryz.func183 (by kernel_rfl) rfl,enters_of Tryz.func184 (by kernel_rfl) rfl,enters_of Tryz.func185 (by kernel_rfl) rfl,λ w' hw=>Qk7 B bx pb po n w' (C0.keep hw) (C1.keep hw),λ w' hw=>Qk6 w',λ hm he w' b base s hw hb ht hB hW hs=>Qpm B b base bx pb po n s w' (C0.keep hw) (C1.keep hw) h0 h1 ht hB hW hs⟩
theorem Qs2(B:Nat)(key:ByteArray)(pb po:Nat)(q:Bool)(w:World)(hk:key.size<65536)(hBw:B≤w.heap.size)(hc:CellAt B w pb po (.bool q)):
  Calls Tryz.prog 110 #[.string key,pt pb po] w λ e w'=>∃v:FVal,e=.returned v.val∧FSem B w' v ⟨key,false,!q,true,Xr 1⟩∧Below w.heap.size w w':=by
 have HC:=QLh hc;clear hc
 go_enter Tryz.func110,Tryz.ntmps110
 go_wp2
 obtain⟨bx,hbx⟩:∃bx,w.heap.size=bx:=⟨_,rfl⟩
 obtain⟨V,hV⟩:∃V,((w.alloc (.cells #[pt pb po] 179)).alloc (.cells #[.string key,.bool false,.func (.func 187) #[] #[pt w.heap.size 0],.func (.func 184) #[] #[],.func (.func 188) #[] #[],.func (.func 189) #[] #[pt w.heap.size 0]] 172))=V:=⟨_,rfl⟩
 have VB:Below w.heap.size w V:=by rw[←hV];(repeat (first | exact Below.refl _ _ | assumption | (refine Zd ?_) | (refine Zc ?_ _) | (refine Qh ?_ _) | (refine Zs ?_ (by first | omega | (simp;done) | (simp;omega)) _) | (refine Qk ?_ (by assumption))))
 have V0:V.heap[bx]?=some (.cells #[pt pb po] 179 (0,0)):=by rw[←hV,←hbx];exact Qf (heap_alloc_new _ _) _
 have V1:V.heap[bx+1]?=some (.cells #[.string key,.bool false,.func (.func 187) #[] #[pt bx 0],.func (.func 184) #[] #[],.func (.func 188) #[] #[],.func (.func 189) #[] #[pt bx 0]] 172 (0,0)):=by rw[←hV,←hbx];exact Qi _ (by simp)
 have d:∀o,V.cell? ⟨bx+1,o,none⟩=_:=Qa V1
 rw[hV]
 simp only[hbx]
 clear hV;have C0:CellAt B V bx 0 (pt pb po):=Qr V0 (by decide) rfl;have C1:CellAt B V pb po (.bool q):=HC.out.below VB
 refine bodyPost_ret (v:=.agg #[.string key,.bool false,.func (.func 187) #[] #[pt bx 0],.func (.func 184) #[] #[],.func (.func 188) #[] #[],.func (.func 189) #[] #[pt bx 0]]) ?_ rfl ⟨⟨key,false,187,#[pt bx 0],184,#[],188,#[],189,#[pt bx 0]⟩,rfl,?_,by rw[←hbx];exact VB⟩
 ·simp[results,Tryz.results110,go_sem,d]
 ·refine⟨rfl,rfl,hk,enters_of Tryz.func187 (by kernel_rfl) rfl,enters_of Tryz.func184 (by kernel_rfl) rfl,enters_of Tryz.func188 (by kernel_rfl) rfl,λ w' hw=>Qim B bx pb po q w' (C0.keep hw) (C1.keep hw),λ w' hw=>Qk6 w',λ hm he w' b base s hw hb ht hB hW hs=>Qmu B b base s w' ht hB hW hs⟩
theorem Qc3(B:Nat)(key:ByteArray)(pb po:Nat)(x:ByteArray)(w:World)(hk:key.size<65536)(hBw:B≤w.heap.size)(hc:CellAt B w pb po (.string x))(hx:x.size≤9223372036854775807):
  Calls Tryz.prog 111 #[.string key,pt pb po] w λ e w'=>∃v:FVal,e=.returned v.val∧FSem B w' v ⟨key,true,false,decide (x.size=32),Jv x⟩∧Below w.heap.size w w':=by
 have HC:=QLh hc;clear hc
 go_enter Tryz.func111,Tryz.ntmps111
 go_wp2
 obtain⟨bx,hbx⟩:∃bx,w.heap.size=bx:=⟨_,rfl⟩
 obtain⟨V,hV⟩:∃V,((w.alloc (.cells #[pt pb po] 181)).alloc (.cells #[.string key,.bool true,.func (.func 190) #[] #[],.func (.func 191) #[] #[pt w.heap.size 0],.func (.func 192) #[] #[pt w.heap.size 0],.func (.func 194) #[] #[pt w.heap.size 0]] 172))=V:=⟨_,rfl⟩
 have VB:Below w.heap.size w V:=by rw[←hV];(repeat (first | exact Below.refl _ _ | assumption | (refine Zd ?_) | (refine Zc ?_ _) | (refine Qh ?_ _) | (refine Zs ?_ (by first | omega | (simp;done) | (simp;omega)) _) | (refine Qk ?_ (by assumption))))
 have V0:V.heap[bx]?=some (.cells #[pt pb po] 181 (0,0)):=by rw[←hV,←hbx];exact Qf (heap_alloc_new _ _) _
 have V1:V.heap[bx+1]?=some (.cells #[.string key,.bool true,.func (.func 190) #[] #[],.func (.func 191) #[] #[pt bx 0],.func (.func 192) #[] #[pt bx 0],.func (.func 194) #[] #[pt bx 0]] 172 (0,0)):=by rw[←hV,←hbx];exact Qi _ (by simp)
 have d:∀o,V.cell? ⟨bx+1,o,none⟩=_:=Qa V1
 rw[hV]
 simp only[hbx]
 clear hV;have C0:CellAt B V bx 0 (pt pb po):=Qr V0 (by decide) rfl;have C1:CellAt B V pb po (.string x):=HC.out.below VB
 refine bodyPost_ret (v:=.agg #[.string key,.bool true,.func (.func 190) #[] #[],.func (.func 191) #[] #[pt bx 0],.func (.func 192) #[] #[pt bx 0],.func (.func 194) #[] #[pt bx 0]]) ?_ rfl ⟨⟨key,true,190,#[],191,#[pt bx 0],192,#[pt bx 0],194,#[pt bx 0]⟩,rfl,?_,by rw[←hbx];exact VB⟩
 ·simp[results,Tryz.results111,go_sem,d]
 ·refine⟨rfl,rfl,hk,enters_of Tryz.func190 (by kernel_rfl) rfl,enters_of Tryz.func191 (by kernel_rfl) rfl,enters_of Tryz.func192 (by kernel_rfl) rfl,λ w' hw=>Qe4 w',λ w' hw=>Qin B bx pb po x w' (C0.keep hw) (C1.keep hw) hx,λ hm he w' b base s hw hb ht hB hW hs=>Qio B b base bx pb po x s w' (C0.keep hw) (C1.keep hw) (by simpa using hm) ht hB hW hs⟩
def Strs(B:Nat)(w:World)(a:Option Addr)(l:List ByteArray):Prop:=∀i,i<len l→∃b off,a=some ⟨b,off,none⟩∧CellAt B w b (off+i) (.string (sth l i))
theorem Strs.keep{B:Nat}{w w':World}{a:Option Addr}{l:List ByteArray}(h:Strs B w a l)(hk:Keep8 B w w'):Strs B w' a l:=λ i hi=>by
 obtain⟨b,off,e,hc⟩:=h i hi;exact⟨b,off,e,hc.keep hk⟩
theorem Strs.below{B:Nat}{w w':World}{a:Option Addr}{l:List ByteArray}(h:Strs B w a l)(hk:Below w.heap.size w w'):Strs B w' a l:=λ i hi=>by
 obtain⟨b,off,e,hc⟩:=h i hi;exact⟨b,off,e,hc.below hk⟩
def Q0j(w:World)(l:List ByteArray)(g:Nat)(lb:Array Value)(p:Nat→Bool):Prop:=
 (∀args w',(callFunc g args).run Tryz.prog w'=.ok (.enter g args) w')∧∀i,i<len l→∀w',Below w.heap.size w w'→Calls Tryz.prog g (#[.string (sth l i)]++lb) w' λ e w''=>e=.returned (.bool (p i))∧Below w'.heap.size w' w''
theorem Qvz(B:Nat)(a:Option Addr)(c:Nat)(l:List ByteArray)(g:Nat)(lb:Array Value)(p:Nat→Bool)(w:World)(hl:Strs B w a l)(hn:len l≤100000)(hp:Q0j w l g lb p):
  Calls Tryz.prog 260 #[.slice a (len l) c,.func (.func g) #[] lb] w (Qpe (len l) p w):=by
 have HL:=QLh hl;have HP:=QLh hp.2;have eg:=hp.1;clear hl hp
 go_enter Tryz.func260,Tryz.ntmps260
 go_wp2
 go_loopg [8] (len l) (λ g i wr=>∃m:Nat,g+m=len l∧i=.int .i64 m∧Hid (∀i,i<m→p i=false)∧Hid (Below w.heap.size w wr))
 case atStart=>exact⟨0,rfl,rfl,λ i hi=>by omega,Below.refl _ _⟩
 case round=>
  obtain⟨m,hm,rfl,HN,HB⟩:=hrel
  by_cases hlt:m<len l
  ·obtain⟨b,off,rfl,hc⟩:=(HL.out.below HB.out) m hlt
   have c0:=hc.cell;have i1:(m:Int)<len l:=by omega
   have HC:=QLh (HP.out m hlt wr HB.out);clear hc
   generalize sth l m=v at c0 HC
   go_wp2_with fail
   refine HC.out.mono ?_
   rintro e w1 ⟨rfl,hb⟩
   have HB1:Hid (Below w.heap.size w w1):=QLh (Qk HB.out hb);clear hb c0
   cases hpm:p m with
   | true=>
    go_wp2
    go_ret
    exact⟨m,rfl,.inr ⟨m,hlt,rfl,hpm,HN.out⟩,HB1.out⟩
   | false=>
    have HN2:Hid (∀i,i<m+1→p i=false):=QLh (λ i hi=>by
     by_cases e:i=m
     ·subst e;exact hpm
     ·exact HN.out i (by omega))
    clear hpm
    go_wp2
    go_roundg (len l - (m+1))
    case rel=>exact⟨m+1,by omega,by go_num,HN2.out,HB1.out⟩
    case measure=>omega
  ·obtain rfl:m=len l:=by omega
   have i1:¬((len l:Nat):Int)<len l:=by omega
   go_wp2
   go_ret
   exact⟨-1,rfl,.inl ⟨rfl,HN.out⟩,HB.out⟩
theorem Qk8(B:Nat)(a:Option Addr)(c:Nat)(l:List ByteArray)(g:Nat)(lb:Array Value)(p:Nat→Bool)(w:World)(hl:Strs B w a l)(hn:len l≤100000)(hp:Q0j w l g lb p):
  Calls Tryz.prog 249 #[.slice a (len l) c,.func (.func g) #[] lb] w λ e w'=>∃b,e=.returned (.bool b)∧(b=true ↔ ∃i,i<len l∧p i=true)∧Below w.heap.size w w':=by
 have H:=QLh (Qvz B a c l g lb p w hl hn hp);clear hl hp
 go_enter Tryz.func249,Tryz.ntmps249
 go_wp2_with fail
 refine H.out.mono ?_
 rintro e w1 ⟨r,rfl,hr,hb⟩
 have HB:=QLh hb;clear hb
 rcases hr with⟨rfl,hall⟩ | ⟨k,hk,rfl,hpk,-⟩
 ·have HA:=QLh hall
  clear hall
  go_wp2
  go_ret
  exact⟨false,rfl,⟨λ h=>(by cases h),fun ⟨i,hi,h⟩=>by rw[HA.out i hi]at h;cases h⟩,HB.out⟩
 ·have HK:=QLh hpk
  clear hpk
  go_wp2
  go_ret
  exact⟨true,rfl,⟨λ _=>⟨k,hk,HK.out⟩,λ _=>rfl⟩,HB.out⟩
theorem Qv0(B pb po:Nat)(x:ByteArray)(w:World)(h:CellAt B w pb po (.string x)):Calls Tryz.prog 211 #[pt pb po] w λ e w'=>e=.returned (.bool (decide (x.size=32)))∧Below w.heap.size w w':=by
 have c1:=h.cell;have HE:Hid (((x.size:Int) == 32)=decide (x.size=32)):=QLh (by rw[Bool.eq_iff_iff];simp;omega);clear h
 go_enter Tryz.func211,Tryz.ntmps211
 go_wp2
 go_ret
 exact⟨Z7 HE.out,Below.refl _ _⟩
theorem Qv1(B b base pb po:Nat)(x s:ByteArray)(w:World)(h:CellAt B w pb po (.string x))(hx:x.size=32)(ht:PTab B w)(hB:B≤base)(hW:WrB w b base s)(hs:s.size+(Jv x).size≤60000000000000):
  Calls Tryz.prog 212 #[pt b 0,pt pb po] w λ e w'=>e=.returned (.tuple #[])∧WrB w' b base (s++Jv x)∧WK base b w w':=by
 have c1:=h.cell;have H:=QLh (Q0g B b base x s w ht hB hW (by omega) (by omega));clear h ht hW hx
 go_enter Tryz.func212,Tryz.ntmps212
 go_wp2_with fail
 refine H.out.mono ?_
 rintro e w' ⟨rfl,h3,h4⟩
 have H3:=QLh h3;have H4:=QLh h4;clear h3 h4
 go_wp2
 go_end0
 exact⟨rfl,H3.out,H4.out⟩
theorem Qip(B b7 pb po n c:Nat)(a:Option Addr)(w:World)(h1:CellAt B w b7 0 (pt pb po))(h2:CellAt B w pb po (.slice a n c)):Calls Tryz.prog 247 #[pt b7 0] w λ e w'=>e=.returned (.bool (decide (n=0)))∧Below w.heap.size w w':=by
 have c1:=h1.cell;have c2:=h2.cell;have HE:Hid (((n:Int) == 0)=decide (n=0)):=QLh (by rw[Bool.eq_iff_iff];simp);clear h1 h2
 go_enter Tryz.func247,Tryz.ntmps247
 go_wp2
 go_ret
 exact⟨Z7 HE.out,Below.refl _ _⟩
theorem Qqx(B b9:Nat)(x:ByteArray)(w:World)(h1:CellAt B w b9 0 (.func (.func 211) #[] #[])):Calls Tryz.prog 250 #[.string x,pt b9 0] w λ e w'=>e=.returned (.bool (!decide (x.size=32)))∧Below w.heap.size w w':=by
 have c1:=h1.cell;have l1:=h1.lt;have eg:=enters_of Tryz.func211 (by kernel_rfl) rfl;clear h1
 go_enter Tryz.func250,Tryz.ntmps250
 go_wp2_with fail
 refine(Qv0 B w.heap.size 0 x _ ⟨Qa (heap_alloc_new _ _) 0,.inr ⟨_,heap_alloc_new _ _,Xj (by decide)⟩⟩).mono ?_
 rintro e w1 ⟨rfl,hb⟩
 have HB:Hid (Below w.heap.size w w1):=QLh (Qk (Qh (Below.refl _ _) _) hb);clear hb
 go_wp2
 go_ret
 exact⟨rfl,HB.out⟩
def Qab(l:List ByteArray)(most:Nat):Bool:=decide (len l≤most) && l.all λ x=>decide (x.size=32)
theorem Qmv(l:List ByteArray):((l.all λ x=>decide (x.size=32))=false ↔ ∃i,i<len l∧(!decide ((sth l i).size=32))=true):=by
 rw[List.all_eq_false]
 constructor
 ·rintro⟨x,hx,hm⟩
  obtain⟨i,hi,rfl⟩:=List.getElem_of_mem hx
  exact⟨i,hi,by rw[Qcl l i hi];simpa using hm⟩
 ·rintro⟨i,hi,hm⟩
  have hi':i<l.length:=hi
  exact⟨l[i],List.getElem_mem _,by rw[Qcl l i hi']at hm;simpa using hm⟩
theorem Qmw(B b7 b8 b9 pb po c most:Nat)(a:Option Addr)(l:List ByteArray)(w:World)(h1:CellAt B w b7 0 (pt pb po))(h2:CellAt B w pb po (.slice a (len l) c))(h3:CellAt B w b8 0 (.int .i64 most))(h4:CellAt B w b9 0 (.func (.func 211) #[] #[]))
  (hl:Strs B w a l) (hn:len l≤100000):Calls Tryz.prog 248 #[pt b7 0,pt b8 0,pt b9 0] w λ e w'=>e=.returned (.bool (Qab l most))∧Below w.heap.size w w':=by
 have c1:=h1.cell;have c2:=h2.cell;have c3:=h3.cell;have H4:=QLh h4;have HL:=QLh hl;have eg:=enters_of Tryz.func250 (by kernel_rfl) rfl;clear h1 h2 h3 h4 hl;have HCF:Hid (∀w',Below w.heap.size w w'→Calls Tryz.prog 249 #[.slice a (len l) c,.func (.func 250) #[] #[pt b9 0]] w' λ e w''=>∃b,e=.returned (.bool b)∧(b=true ↔ ∃i,i<len l∧(!decide ((sth l i).size=32))=true)∧Below w'.heap.size w' w''):=
  QLh (λ w' hb=>Qk8 B a c l _ _ (λ i=>!decide ((sth l i).size=32)) w' (HL.out.below hb) hn ⟨eg,λ i hi w'' hb2=>Qqx B b9 (sth l i) w'' ((H4.out.below hb).below hb2)⟩)
 by_cases hm:len l≤most
 ·have i1:decide (len l≤most)=true:=decide_eq_true hm
  have i2:(len l:Int)≤most:=by omega
  have HM:=QLh i1;clear i1 hm
  go_enter Tryz.func248,Tryz.ntmps248
  go_wp2_with fail
  go_still_tail 11,(by kernel_rfl)
  go_wp2_with fail
  refine(HCF.out _ (Zd (Below.refl _ _))).mono ?_
  rintro e w1 ⟨q,rfl,hq,hb⟩
  have HB:Hid (Below w.heap.size w w1):=QLh (Qk (Zd (Below.refl _ _)) hb);have HE:Hid ((!q)=Qab l most):=QLh (by
   unfold Qab
   rw[HM.out,Bool.true_and]
   have h:=Qmv l
   cases q with
   | true=>rw[h.2 (hq.1 rfl)];rfl
   | false=>
    cases hm:(l.all λ x=>decide (x.size=32))with
    | true=>rfl
    | false=>exact absurd (hq.2 (h.1 hm)) (by decide))
  clear hb hq c1 c2 c3
  go_wp2
  go_ret
  exact⟨Z7 HE.out,HB.out⟩
 ·have i1:decide (len l≤most)=false:=decide_eq_false hm
  have HM:=QLh i1;have i2:¬(len l:Int)≤most:=by omega
  go_enter Tryz.func248,Tryz.ntmps248
  go_wp2_with fail
  go_quiet (fail)
  go_wp2
  go_ret
  exact⟨Z7 (by unfold Qab;rw[HM.out];rfl),by(repeat (first | exact Below.refl _ _ | assumption | (refine Zd ?_) | (refine Zc ?_ _) | (refine Qh ?_ _) | (refine Zs ?_ (by first | omega | (simp;done) | (simp;omega)) _) | (refine Qk ?_ (by assumption))))⟩
def Qdh(l:List ByteArray):ByteArray:=Z0 (len l)++Xo (l.map Jv)
theorem Qbv{l:List ByteArray}{most:Nat}(h:Qab l most=true):len l≤most∧∀i,i<len l→(sth l i).size=32:=by
 unfold Qab at h
 rw[Bool.and_eq_true]at h
 refine⟨of_decide_eq_true h.1,λ i hi=>?_⟩
 have h2:=h.2
 rw[List.all_eq_true]at h2
 have hi':i<l.length:=hi
 rw[Qcl l i hi']
 exact of_decide_eq_true (h2 _ (List.getElem_mem _))
theorem Qmx(B b base b7 b10 pb po c:Nat)(a:Option Addr)(l:List ByteArray)(s:ByteArray)(W0 w:World)(h1:CellAt B W0 b7 0 (pt pb po))(h2:CellAt B W0 pb po (.slice a (len l) c))(h3:CellAt B W0 b10 0 (.func (.func 212) #[] #[]))
  (hl:Strs B W0 a l) (hn:len l≤60000) (h32:∀i,i<len l→(sth l i).size=32) (hk:Keep8 B W0 w) (hb0:Off8 W0 b)
  (ht:PTab B w) (hB:B≤base) (hW:WrB w b base s) (hs:s.size+(Qdh l).size≤60000000000000):
  Calls Tryz.prog 251 #[pt b 0,pt b7 0,pt b10 0] w λ e w'=>e=.returned (.tuple #[])∧WrB w' b base (s++Qdh l)∧WK base b w w':=by
 have H1:=QLh h1;have H2:=QLh h2;have H3:=QLh h3;have HL:=QLh hl;have H32:=QLh h32;have HK:=QLh hk;have HT:=QLh ht;have HWR:=QLh hW;have HBS:Hid (base≤w.heap.size):=QLh (by have:=hW.1;have:=hW.lt;omega);have HS:Hid (s.size+(Z0 (len l)).size+(Xo (l.map Jv)).size≤60000000000000):=QLh (by unfold Qdh at hs;rw[ByteArray.size_append]at hs;omega);have hs0:s.size≤60000000000000:=by omega
 have c1:=(h1.keep hk).cell;have c2:=(h2.keep hk).cell;have eg:=enters_of Tryz.func212 (by kernel_rfl) rfl;clear h1 h2 h3 hl h32 hk ht hW hs
 go_enter Tryz.func251,Tryz.ntmps251
 go_wp2_with fail
 refine(Qsn B b base (len l) s w HT.out hB HWR.out (by omega) (by omega)).mono ?_
 rintro e w3 ⟨rfl,hw3,hk3⟩
 have HW3:Hid (WrB w3 b base (s++Z0 (len l)++Xo ((l.map Jv).take 0))):=QLh (by
  have e:s++Z0 (len l)++Xo ((l.map Jv).take 0)=s++Z0 (len l):=Xx (by simp[Xo])
  rw[e];exact hw3)
 have HK3:Hid (WK base b w w3):=QLh hk3;have hk8:=HK.out.wk hk3 hb0 hB;have d1:=(H1.out.keep hk8).cell;have d2:=(H2.out.keep hk8).cell;clear hw3 hk3 hk8 c1 c2
 go_wp2
 clear d1 d2
 go_loopg [15] (len l) (λ gg i wr=>∃m:Nat,gg+m=len l∧i=.int .i64 m∧Hid (WrB wr b base (s++Z0 (len l)++Xo ((l.map Jv).take m)))∧Hid (WK base b w wr))
 case atStart=>exact⟨0,rfl,rfl,HW3.out,HK3.out⟩
 case round=>
  clear HW3 HK3
  obtain⟨m,hm2,rfl,HWW,HWK⟩:=hrel
  by_cases hlt:m<len l
  ·have i1:(m:Int)<len l:=by omega
   have hml:m<l.length:=hlt;have hk8:=HK.out.wk HWK.out hb0 hB;have HK8:=QLh hk8;have d1:=(H1.out.keep hk8).cell;have d2:=(H2.out.keep hk8).cell;have d3:=(H3.out.keep hk8).cell
   obtain⟨gb,go,rfl,hcell⟩:=(HL.out.keep hk8) m hlt
   have HCL:=QLh hcell;have hsn:(l.map Jv).take (m+1)=(l.map Jv).take m++[Jv (sth l m)]:=by
    rw[List.take_succ_eq_append_getElem (by simpa using hml),List.getElem_map,Qcl l m hml]
   have hct:=Qfw (L:=l.map Jv) (t:=m) (by simpa using hml);have hfm:(l.map Jv)[m]'(by simpa using hml)=Jv (sth l m):=by rw[List.getElem_map,Qcl l m hml]
   rw[hfm]at hct
   have h32m:=H32.out m hlt
   obtain⟨x,hx⟩:∃x,sth l m=x:=⟨_,rfl⟩
   rw[hx]at hsn hct h32m HCL
   obtain⟨s1,hs1⟩:∃s1,s++Z0 (len l)++Xo ((l.map Jv).take m)=s1:=⟨_,rfl⟩
   rw[hs1]at HWW
   have hs1s:s1.size+(Jv x).size≤60000000000000:=by
    rw[←hs1,ByteArray.size_append,ByteArray.size_append]
    have:=HS.out
    omega
   have HSN:Hid (s++Z0 (len l)++Xo ((l.map Jv).take (m+1))=s1++Jv x):=QLh (by
    rw[hsn,Qfs,←hs1];simp only[ByteArray.append_assoc])
   have HTR:Hid (PTab B wr):=QLh (HT.out.keep HWK.out.bel hB);have hbr:base≤wr.heap.size:=by have:=HWK.out.bel.size;have:=HBS.out;omega
   have HBR:=QLh hbr;clear hk8 hcell hsn hct hfm hx hs1 hbr
   go_upto_region 4 with fail
   go_still_tail 7,(by kernel_rfl)
   go_wp2_with fail
   refine(Qv1 B b base gb (go+m) x s1 _ (HCL.out.below (Zd (Below.refl _ _))) h32m (HTR.out.keep (Zd (Below.refl _ _)) HTR.out.size) hB (HWW.out.below (Zd (Below.refl _ _))) hs1s).mono ?_
   rintro e w5 ⟨rfl,hw5,hk5⟩
   have HW5:Hid (WrB w5 b base (s++Z0 (len l)++Xo ((l.map Jv).take (m+1)))):=QLh (by rw[HSN.out];exact hw5);have HK5:Hid (WK base b w w5):=QLh ((HWK.out.trans (WK.of_below (Zd (Below.refl _ _)) HBR.out)).trans hk5);clear hw5 hk5 HWW HWK d1 d2 d3 HCL
   go_wp2
   go_roundg (len l - (m+1))
   case rel=>exact⟨m+1,by omega,by go_num,HW5.out,HK5.out⟩
   case measure=>omega
  ·obtain rfl:m=len l:=by omega
   have i1:¬((len l:Nat):Int)<len l:=by omega
   go_wp2
   go_end0
   refine⟨rfl,?_,HWK.out⟩
   have h:=HWW.out
   rw[List.take_of_length_le (by rw[List.length_map];exact Nat.le_refl _),ByteArray.append_assoc]at h
   exact h
theorem CellAt.but{B:Nat}{w w':World}{b o t:Nat}{x:Value}(h:CellAt B w b o x)(hb:b≠t)(hk:∀k:Nat,k≠t→w'.heap[k]?=w.heap[k]?):CellAt B w' b o x:=by
 have e:=hk b hb
 refine⟨?_,by rw[e];exact h.ex⟩
 have:w'.cell? ⟨b,o,none⟩=w.cell? ⟨b,o,none⟩:=by unfold World.cell?;rw[e]
 rw[this];exact h.cell
theorem Qs3(B:Nat)(key:ByteArray)(pb po c most:Nat)(a:Option Addr)(l:List ByteArray)(w:World)(hk:key.size<65536)(hBw:B≤w.heap.size)(hc:CellAt B w pb po (.slice a (len l) c))(hl:Strs B w a l)(hn:len l≤100000)(hm:most≤60000)(t:Nat)(htw:t<w.heap.size)(htp:pb≠t)(hta:∀i,i<len l→∃g o,a=some ⟨g,o,none⟩∧g≠t):
  Calls Tryz.prog 210 #[.string key,pt pb po,.int .i64 most,.func (.func 211) #[] #[],.func (.func 212) #[] #[],.func (.func 213) #[] #[]] w λ e w'=>∃v:FVal,e=.returned v.val∧(∀V2:World,(∀k:Nat,k≠t→V2.heap[k]?=w'.heap[k]?)→FSem B V2 v ⟨key,false,decide (len l=0),Qab l most,Qdh l⟩)∧Below w.heap.size w w':=by
 have HC:=QLh hc;have HL:=QLh hl;clear hc hl
 go_enter Tryz.func210,Tryz.ntmps210
 go_wp2
 obtain⟨bx,hbx⟩:∃bx,w.heap.size=bx:=⟨_,rfl⟩
 obtain⟨V,hV⟩:∃V,(((((((w.alloc (.cells #[pt pb po] 230)).alloc (.cells #[.int .i64 most] 3)).alloc (.cells #[.func (.func 211) #[] #[]] 301)).alloc (.cells #[.func (.func 212) #[] #[]] 302)).alloc (.cells #[.func (.func 213) #[] #[]] 303)).alloc (.cells #[.string key,.bool false,.func (.func 247) #[] #[pt w.heap.size 0],.func (.func 248) #[] #[pt w.heap.size 0,pt (w.heap.size+1) 0,pt (w.heap.size+1+1) 0],.func (.func 251) #[] #[pt w.heap.size 0,pt (w.heap.size+1+1+1) 0],.func (.func 252) #[] #[pt (w.heap.size+1) 0,pt (w.heap.size+1+1+1+1) 0,pt w.heap.size 0]] 172)).alloc (.cells #[.string key,.bool false,.func (.func 247) #[] #[pt w.heap.size 0],.func (.func 248) #[] #[pt w.heap.size 0,pt (w.heap.size+1) 0,pt (w.heap.size+1+1) 0],.func (.func 251) #[] #[pt w.heap.size 0,pt (w.heap.size+1+1+1) 0],.func (.func 252) #[] #[pt (w.heap.size+1) 0,pt (w.heap.size+1+1+1+1) 0,pt w.heap.size 0]] 172))=V:=⟨_,rfl⟩
 have VB:Below w.heap.size w V:=by rw[←hV];(repeat (first | exact Below.refl _ _ | assumption | (refine Zd ?_) | (refine Zc ?_ _) | (refine Qh ?_ _) | (refine Zs ?_ (by first | omega | (simp;done) | (simp;omega)) _) | (refine Qk ?_ (by assumption))))
 have V0:V.heap[bx]?=some (.cells #[pt pb po] 230 (0,0)):=by rw[←hV,←hbx];exact Qf (Qf (Qf (Qf (Qf (Qf (heap_alloc_new _ _) _) _) _) _) _) _
 have V1:V.heap[bx+1]?=some (.cells #[.int .i64 most] 3 (0,0)):=by rw[←hV,←hbx];exact Qf (Qf (Qf (Qf (Qf (Qi _ (by simp)) _) _) _) _) _
 have V2:V.heap[bx+1+1]?=some (.cells #[.func (.func 211) #[] #[]] 301 (0,0)):=by rw[←hV,←hbx];exact Qf (Qf (Qf (Qf (Qi _ (by simp)) _) _) _) _
 have V3:V.heap[bx+1+1+1]?=some (.cells #[.func (.func 212) #[] #[]] 302 (0,0)):=by rw[←hV,←hbx];exact Qf (Qf (Qf (Qi _ (by simp)) _) _) _
 have V5:V.heap[bx+1+1+1+1+1]?=some (.cells #[.string key,.bool false,.func (.func 247) #[] #[pt bx 0],.func (.func 248) #[] #[pt bx 0,pt (bx+1) 0,pt (bx+1+1) 0],.func (.func 251) #[] #[pt bx 0,pt (bx+1+1+1) 0],.func (.func 252) #[] #[pt (bx+1) 0,pt (bx+1+1+1+1) 0,pt bx 0]] 172 (0,0)):=by rw[←hV,←hbx];exact Qf (Qi _ (by simp)) _
 have d:∀o,V.cell? ⟨bx+1+1+1+1+1,o,none⟩=_:=Qa V5
 rw[hV]
 simp only[hbx]
 clear hV;have hbt:bx≠t∧bx+1≠t∧bx+1+1≠t∧bx+1+1+1≠t:=by omega
 have C0:CellAt B V bx 0 (pt pb po):=Qr V0 (by decide) rfl;have C1:CellAt B V (bx+1) 0 (.int .i64 most):=Qr V1 (by decide) rfl;have C2:CellAt B V (bx+1+1) 0 (.func (.func 211) #[] #[]):=Qr V2 (by decide) rfl;have C3:CellAt B V (bx+1+1+1) 0 (.func (.func 212) #[] #[]):=Qr V3 (by decide) rfl;have CP:CellAt B V pb po (.slice a (len l) c):=HC.out.below VB;have SL:Strs B V a l:=HL.out.below VB
 refine bodyPost_ret (v:=.agg #[.string key,.bool false,.func (.func 247) #[] #[pt bx 0],.func (.func 248) #[] #[pt bx 0,pt (bx+1) 0,pt (bx+1+1) 0],.func (.func 251) #[] #[pt bx 0,pt (bx+1+1+1) 0],.func (.func 252) #[] #[pt (bx+1) 0,pt (bx+1+1+1+1) 0,pt bx 0]]) ?_ rfl ⟨⟨key,false,247,#[pt bx 0],248,#[pt bx 0,pt (bx+1) 0,pt (bx+1+1) 0],251,#[pt bx 0,pt (bx+1+1+1) 0],252,#[pt (bx+1) 0,pt (bx+1+1+1+1) 0,pt bx 0]⟩,rfl,?_,by rw[←hbx];exact VB⟩
 ·simp[results,Tryz.results210,go_sem,d]
 ·intro V2 hV2
  have D0:=C0.but hbt.1 hV2;have D1:=C1.but hbt.2.1 hV2;have D2:=C2.but hbt.2.2.1 hV2;have D3:=C3.but hbt.2.2.2 hV2;have DP:=CP.but htp hV2;have DS:Strs B V2 a l:=λ i hi=>by
   obtain⟨g,o,e,hg⟩:=hta i hi
   obtain⟨g',o',e',hc⟩:=SL i hi
   subst e;cases e'
   exact⟨g,o,rfl,hc.but hg hV2⟩
  exact⟨rfl,rfl,hk,enters_of Tryz.func247 (by kernel_rfl) rfl,enters_of Tryz.func248 (by kernel_rfl) rfl,enters_of Tryz.func251 (by kernel_rfl) rfl,λ w' hw=>Qip B bx pb po (len l) c a w' (D0.keep hw) (DP.keep hw),λ w' hw=>Qmw B bx (bx+1) (bx+1+1) pb po c most a l w' (D0.keep hw) (DP.keep hw) (D1.keep hw) (D2.keep hw) (DS.keep hw) hn,λ hm1 he w' b base s hw hb ht hB hW hs=>Qmx B b base bx (bx+1+1+1) pb po c a l s V2 w' D0 DP D3 DS (by have:=(Qbv hm1).1;omega) (Qbv hm1).2 hw hb ht hB hW hs⟩
theorem Qb5(B:Nat)(key:ByteArray)(pb po c most:Nat)(a:Option Addr)(l:List ByteArray)(w:World)(hk:key.size<65536)(hBw:B≤w.heap.size)(hc:CellAt B w pb po (.slice a (len l) c))(hl:Strs B w a l)(hn:len l≤100000)(hm:most≤60000):
  Calls Tryz.prog 145 #[.string key,pt pb po,.int .i64 most] w λ e w'=>∃v:FVal,e=.returned v.val∧FSem B w' v ⟨key,false,decide (len l=0),Qab l most,Qdh l⟩∧Below w.heap.size w w':=by
 have HM:Hid (∀w',Below w.heap.size w w'→w.heap.size<w'.heap.size→Calls Tryz.prog 210 #[.string key,pt pb po,.int .i64 most,.func (.func 211) #[] #[],.func (.func 212) #[] #[],.func (.func 213) #[] #[]] w' λ e w''=>∃v:FVal,e=.returned v.val∧(∀V2:World,(∀k:Nat,k≠w.heap.size→V2.heap[k]?=w''.heap[k]?)→FSem B V2 v ⟨key,false,decide (len l=0),Qab l most,Qdh l⟩)∧Below w'.heap.size w' w''):=
  QLh (λ w' hb hlt=>Qs3 B key pb po c most a l w' hk (Nat.le_trans hBw hb.size) (hc.below hb) (hl.below hb) hn hm w.heap.size hlt (by have:=hc.lt;omega) (λ i hi=>by
   obtain⟨g,o,e,hg⟩:=hl i hi
   exact⟨g,o,e,by have:=hg.lt;omega⟩))
 clear hc hl hBw
 go_enter Tryz.func145,Tryz.ntmps145
 go_wp2_with fail
 refine(HM.out _ (Qh (Below.refl _ _) _) (by simp)).mono ?_
 rintro e w1 ⟨v,rfl,hs,hb⟩
 have HS:=QLh hs;have HB:Hid (Below w.heap.size w w1):=QLh (Qk (Qh (Below.refl _ _) _) hb);have hblk:=(hb.block w.heap.size (by simp)).trans (heap_alloc_new w _);have hfr:∀o,w1.frozen? ⟨w.heap.size,o,none⟩=false:=Qj hblk;have hcl:∀o,w1.cell? ⟨w.heap.size,o,none⟩=_:=Qa hblk;have HBK:=QLh hblk;clear hs hb hblk
 unfold FVal.val
 go_wp2
 obtain⟨V,hV⟩:∃V,(((((w1.setCell ⟨w.heap.size,0,none⟩ (.string v.key)).setCell ⟨w.heap.size,1,none⟩ (.bool v.must)).setCell ⟨w.heap.size,2,none⟩ (.func (.func v.ef) #[] v.ec)).setCell ⟨w.heap.size,3,none⟩ (.func (.func v.mf) #[] v.mc)).setCell ⟨w.heap.size,4,none⟩ (.func (.func v.pf) #[] v.pc)).setCell ⟨w.heap.size,5,none⟩ (.func (.func v.gf) #[] v.gc)=V:=⟨_,rfl⟩
 have hV5:=Qb (Qb (Qb (Qb (Qb (Qb HBK.out (o:=0) (.string v.key)) (o:=1) (.bool v.must)) (o:=2) (.func (.func v.ef) #[] v.ec)) (o:=3) (.func (.func v.mf) #[] v.mc)) (o:=4) (.func (.func v.pf) #[] v.pc)) (o:=5) (.func (.func v.gf) #[] v.gc)
 rw[hV]at hV5
 have d:∀o,V.cell? ⟨w.heap.size,o,none⟩=_:=Qa hV5;have hbut:∀k:Nat,k≠w.heap.size→V.heap[k]?=w1.heap[k]?:=λ k hk=>by
  rw[←hV,Below.heap_setCell _ _ _ _ hk,Below.heap_setCell _ _ _ _ hk,Below.heap_setCell _ _ _ _ hk,Below.heap_setCell _ _ _ _ hk,Below.heap_setCell _ _ _ _ hk,Below.heap_setCell _ _ _ _ hk]
 have hbel:Below w.heap.size w V:=by
  rw[←hV]
  exact(((((HB.out.setCell (Nat.le_refl _) _).setCell (Nat.le_refl _) _).setCell (Nat.le_refl _) _).setCell (Nat.le_refl _) _).setCell (Nat.le_refl _) _).setCell (Nat.le_refl _) _
 rw[hV]
 refine bodyPost_ret (v:=v.val) ?_ rfl ⟨v,rfl,HS.out V hbut,hbel⟩
 simp[results,Tryz.results145,go_sem,d,FVal.val]
structure FRow(w:World)(g:Nat)(l:List FVal):Prop where
 flds:Flds w (some ⟨g,0,none⟩) l
 ex:∃cur,w.heap[g]?=some (.cells cur 172 (0,0))
theorem FRow.keep{B:Nat}{w w':World}{g:Nat}{l:List FVal}(h:FRow w g l)(hk:Keep8 B w w'):FRow w' g l:=by
 obtain⟨h1,cur,h2⟩:=h
 have h3:=hk.keep g _ h2 (Xj (by decide))
 exact⟨Qdr h1 (h3.trans h2.symm),cur,h3⟩
theorem FRow.below{w w':World}{g:Nat}{l:List FVal}(h:FRow w g l)(hk:Below w.heap.size w w'):FRow w' g l:=by
 obtain⟨h1,cur,h2⟩:=h
 have h3:=hk.block g (lt_of_block h2)
 exact⟨Qdr h1 h3,cur,h3.trans h2⟩
def Jn(key:ByteArray)(fs:List FSpec):FSpec:=⟨key,fs.any λ f=>f.must,fs.all λ f=>f.empty,Q8 fs,Qbj fs⟩
theorem Qmy(fs:List FSpec)(n:Nat)(h:len fs=n):((fs.all λ f=>f.empty)=false ↔ ∃i,i<n∧(!(Qcn fs i).empty)=true):=by
 subst h
 rw[List.all_eq_false]
 constructor
 ·rintro⟨x,hx,hm⟩
  obtain⟨i,hi,rfl⟩:=List.getElem_of_mem hx
  exact⟨i,hi,by rw[Qa8 fs i hi];simpa using hm⟩
 ·rintro⟨i,hi,hm⟩
  have hi':i<fs.length:=hi
  exact⟨fs[i],List.getElem_mem _,by rw[Qa8 fs i hi']at hm;simpa using hm⟩
theorem Qiq(fs:List FSpec)(n:Nat)(h:len fs=n):((fs.any λ f=>f.must)=true ↔ ∃i,i<n∧(Qcn fs i).must=true):=by
 subst h
 rw[List.any_eq_true]
 constructor
 ·rintro⟨x,hx,hm⟩
  obtain⟨i,hi,rfl⟩:=List.getElem_of_mem hx
  exact⟨i,hi,by rw[Qa8 fs i hi];exact hm⟩
 ·rintro⟨i,hi,hm⟩
  have hi':i<fs.length:=hi
  exact⟨fs[i],List.getElem_mem _,by rw[Qa8 fs i hi']at hm;exact hm⟩
theorem Qpn(B bx g c:Nat)(W0:World)(l:List FVal)(fs:List FSpec)(w:World)(h1:CellAt B w bx 0 (.slice (some ⟨g,0,none⟩) (len l) c))(hl:Flds w (some ⟨g,0,none⟩) l)(hn:len l≤1000)(hS:FSems B W0 l fs)(hk:Keep8 B W0 w):
  Calls Tryz.prog 178 #[pt bx 0] w λ e w'=>e=.returned (.bool (fs.all λ f=>f.empty))∧Below w.heap.size w w':=by
 have c1:=h1.cell;have H:=QLh (J7 (some ⟨g,0,none⟩) c l 179 #[] _ w hl hn (Qsv hS hk));have HI:=QLh (Qmy fs (len l) hS.1);clear h1 hl hS hk
 go_enter Tryz.func178,Tryz.ntmps178
 go_wp2_with fail
 refine H.out.mono ?_
 rintro e w1 ⟨b,rfl,hb1,hb⟩
 have HB:=QLh hb;have HE:Hid ((!b)=(fs.all λ f=>f.empty)):=QLh (by
  have h:=HI.out
  cases b with
  | true=>rw[h.2 (hb1.1 rfl)];rfl
  | false=>
   cases hm:(fs.all λ f=>f.empty)with
   | true=>rfl
   | false=>exact absurd (hb1.2 (h.1 hm)) (by decide))
 clear hb hb1
 go_wp2
 go_ret
 exact⟨Z7 HE.out,HB.out⟩
theorem Qpo(B bx g c:Nat)(W0:World)(l:List FVal)(fs:List FSpec)(w:World)(h1:CellAt B w bx 0 (.slice (some ⟨g,0,none⟩) (len l) c))(hl:Flds w (some ⟨g,0,none⟩) l)(hn:len l≤1000)(hS:FSems B W0 l fs)(hk:Keep8 B W0 w):
  Calls Tryz.prog 180 #[pt bx 0] w λ e w'=>e=.returned (.bool (Q8 fs))∧Below w.heap.size w w':=by
 have c1:=h1.cell;have H:=QLh (Qod B W0 (some ⟨g,0,none⟩) c l fs w hl hn hS hk);clear h1 hl hS hk
 go_enter Tryz.func180,Tryz.ntmps180
 go_wp2_with fail
 refine H.out.mono ?_
 rintro e w1 ⟨rfl,hb⟩
 have HB:=QLh hb;clear hb
 go_wp2
 go_ret
 exact⟨rfl,HB.out⟩
theorem Qpp(B b base bx g c:Nat)(W0:World)(l:List FVal)(fs:List FSpec)(s:ByteArray)(w:World)(h1:CellAt B w bx 0 (.slice (some ⟨g,0,none⟩) (len l) c))(hl:Flds w (some ⟨g,0,none⟩) l)(hn:len l≤1000)(h0:0<len l)(hS:FSems B W0 l fs)(hm:Q8 fs=true)(hk:Keep8 B W0 w)(hb0:Off8 W0 b)
  (ht:PTab B w) (hB:B≤base) (hW:WrB w b base s) (hs:s.size+(Qbj fs).size≤60000000000000):
  Calls Tryz.prog 181 #[pt b 0,pt bx 0] w λ e w'=>e=.returned (.tuple #[])∧WrB w' b base (s++Qbj fs)∧WK base b w w':=by
 have c1:=h1.cell;have H:=QLh (Qof B b base g 0 c W0 l fs s w hl hn h0 hS hm hk hb0 ht hB hW hs);clear h1 hl hS hk ht hW
 go_enter Tryz.func181,Tryz.ntmps181
 go_wp2_with fail
 refine H.out.mono ?_
 rintro e w1 ⟨rfl,h3,h4⟩
 have H3:=QLh h3;have H4:=QLh h4;clear h3 h4
 go_wp2
 go_end0
 exact⟨rfl,H3.out,H4.out⟩
def NumS(w:World)(lo:Nat)(key:ByteArray)(pb po:Nat)(v:FVal):Prop:=∃bx,lo≤bx∧w.heap[bx]?=some (.cells #[pt pb po] 177 (0,0))∧v=⟨key,false,183,#[pt bx 0],184,#[],185,#[pt bx 0],186,#[pt bx 0]⟩
theorem Qpq(key:ByteArray)(pb po:Nat)(w:World):Calls Tryz.prog 109 #[.string key,pt pb po] w λ e w'=>∃v:FVal,e=.returned v.val∧NumS w' w.heap.size key pb po v∧Below w.heap.size w w':=by
 go_enter Tryz.func109,Tryz.ntmps109
 go_wp2
 obtain⟨bx,hbx⟩:∃bx,w.heap.size=bx:=⟨_,rfl⟩
 obtain⟨V,hV⟩:∃V,((w.alloc (.cells #[pt pb po] 177)).alloc (.cells #[.string key,.bool false,.func (.func 183) #[] #[pt w.heap.size 0],.func (.func 184) #[] #[],.func (.func 185) #[] #[pt w.heap.size 0],.func (.func 186) #[] #[pt w.heap.size 0]] 172))=V:=⟨_,rfl⟩
 have VB:Below w.heap.size w V:=by rw[←hV];(repeat (first | exact Below.refl _ _ | assumption | (refine Zd ?_) | (refine Zc ?_ _) | (refine Qh ?_ _) | (refine Zs ?_ (by first | omega | (simp;done) | (simp;omega)) _) | (refine Qk ?_ (by assumption))))
 have V0:V.heap[bx]?=some (.cells #[pt pb po] 177 (0,0)):=by rw[←hV,←hbx];exact Qf (heap_alloc_new _ _) _
 have V1:V.heap[bx+1]?=some (.cells #[.string key,.bool false,.func (.func 183) #[] #[pt bx 0],.func (.func 184) #[] #[],.func (.func 185) #[] #[pt bx 0],.func (.func 186) #[] #[pt bx 0]] 172 (0,0)):=by rw[←hV,←hbx];exact Qi _ (by simp)
 have d:∀o,V.cell? ⟨bx+1,o,none⟩=_:=Qa V1
 rw[hV]
 simp only[hbx]
 clear hV
 refine bodyPost_ret (v:=.agg #[.string key,.bool false,.func (.func 183) #[] #[pt bx 0],.func (.func 184) #[] #[],.func (.func 185) #[] #[pt bx 0],.func (.func 186) #[] #[pt bx 0]]) ?_ rfl ⟨⟨key,false,183,#[pt bx 0],184,#[],185,#[pt bx 0],186,#[pt bx 0]⟩,rfl,⟨bx,by omega,V0,rfl⟩,by rw[←hbx];exact VB⟩
 simp[results,Tryz.results109,go_sem,d]
def Q0k(w:World)(lo:Nat)(key:ByteArray)(pb po:Nat)(v:FVal):Prop:=∃bx,lo≤bx∧w.heap[bx]?=some (.cells #[pt pb po] 179 (0,0))∧v=⟨key,false,187,#[pt bx 0],184,#[],188,#[],189,#[pt bx 0]⟩
theorem Qmz(key:ByteArray)(pb po:Nat)(w:World):Calls Tryz.prog 110 #[.string key,pt pb po] w λ e w'=>∃v:FVal,e=.returned v.val∧Q0k w' w.heap.size key pb po v∧Below w.heap.size w w':=by
 go_enter Tryz.func110,Tryz.ntmps110
 go_wp2
 obtain⟨bx,hbx⟩:∃bx,w.heap.size=bx:=⟨_,rfl⟩
 obtain⟨V,hV⟩:∃V,((w.alloc (.cells #[pt pb po] 179)).alloc (.cells #[.string key,.bool false,.func (.func 187) #[] #[pt w.heap.size 0],.func (.func 184) #[] #[],.func (.func 188) #[] #[],.func (.func 189) #[] #[pt w.heap.size 0]] 172))=V:=⟨_,rfl⟩
 have VB:Below w.heap.size w V:=by rw[←hV];(repeat (first | exact Below.refl _ _ | assumption | (refine Zd ?_) | (refine Zc ?_ _) | (refine Qh ?_ _) | (refine Zs ?_ (by first | omega | (simp;done) | (simp;omega)) _) | (refine Qk ?_ (by assumption))))
 have V0:V.heap[bx]?=some (.cells #[pt pb po] 179 (0,0)):=by rw[←hV,←hbx];exact Qf (heap_alloc_new _ _) _
 have V1:V.heap[bx+1]?=some (.cells #[.string key,.bool false,.func (.func 187) #[] #[pt bx 0],.func (.func 184) #[] #[],.func (.func 188) #[] #[],.func (.func 189) #[] #[pt bx 0]] 172 (0,0)):=by rw[←hV,←hbx];exact Qi _ (by simp)
 have d:∀o,V.cell? ⟨bx+1,o,none⟩=_:=Qa V1
 rw[hV]
 simp only[hbx]
 clear hV
 refine bodyPost_ret (v:=.agg #[.string key,.bool false,.func (.func 187) #[] #[pt bx 0],.func (.func 184) #[] #[],.func (.func 188) #[] #[],.func (.func 189) #[] #[pt bx 0]]) ?_ rfl ⟨⟨key,false,187,#[pt bx 0],184,#[],188,#[],189,#[pt bx 0]⟩,rfl,⟨bx,by omega,V0,rfl⟩,by rw[←hbx];exact VB⟩
 simp[results,Tryz.results110,go_sem,d]
def DigS(w:World)(lo:Nat)(key:ByteArray)(pb po:Nat)(v:FVal):Prop:=∃bx,lo≤bx∧w.heap[bx]?=some (.cells #[pt pb po] 181 (0,0))∧v=⟨key,true,190,#[],191,#[pt bx 0],192,#[pt bx 0],194,#[pt bx 0]⟩
theorem Qir(key:ByteArray)(pb po:Nat)(w:World):Calls Tryz.prog 111 #[.string key,pt pb po] w λ e w'=>∃v:FVal,e=.returned v.val∧DigS w' w.heap.size key pb po v∧Below w.heap.size w w':=by
 go_enter Tryz.func111,Tryz.ntmps111
 go_wp2
 obtain⟨bx,hbx⟩:∃bx,w.heap.size=bx:=⟨_,rfl⟩
 obtain⟨V,hV⟩:∃V,((w.alloc (.cells #[pt pb po] 181)).alloc (.cells #[.string key,.bool true,.func (.func 190) #[] #[],.func (.func 191) #[] #[pt w.heap.size 0],.func (.func 192) #[] #[pt w.heap.size 0],.func (.func 194) #[] #[pt w.heap.size 0]] 172))=V:=⟨_,rfl⟩
 have VB:Below w.heap.size w V:=by rw[←hV];(repeat (first | exact Below.refl _ _ | assumption | (refine Zd ?_) | (refine Zc ?_ _) | (refine Qh ?_ _) | (refine Zs ?_ (by first | omega | (simp;done) | (simp;omega)) _) | (refine Qk ?_ (by assumption))))
 have V0:V.heap[bx]?=some (.cells #[pt pb po] 181 (0,0)):=by rw[←hV,←hbx];exact Qf (heap_alloc_new _ _) _
 have V1:V.heap[bx+1]?=some (.cells #[.string key,.bool true,.func (.func 190) #[] #[],.func (.func 191) #[] #[pt bx 0],.func (.func 192) #[] #[pt bx 0],.func (.func 194) #[] #[pt bx 0]] 172 (0,0)):=by rw[←hV,←hbx];exact Qi _ (by simp)
 have d:∀o,V.cell? ⟨bx+1,o,none⟩=_:=Qa V1
 rw[hV]
 simp only[hbx]
 clear hV
 refine bodyPost_ret (v:=.agg #[.string key,.bool true,.func (.func 190) #[] #[],.func (.func 191) #[] #[pt bx 0],.func (.func 192) #[] #[pt bx 0],.func (.func 194) #[] #[pt bx 0]]) ?_ rfl ⟨⟨key,true,190,#[],191,#[pt bx 0],192,#[pt bx 0],194,#[pt bx 0]⟩,rfl,⟨bx,by omega,V0,rfl⟩,by rw[←hbx];exact VB⟩
 simp[results,Tryz.results111,go_sem,d]
structure ManySSAt(w:World)(bx pb po most:Nat):Prop where
 b0:w.heap[bx]?=some (.cells #[pt pb po] 230 (0,0))
 b1:w.heap[bx+1]?=some (.cells #[.int .i64 most] 3 (0,0))
 b2:w.heap[bx+1+1]?=some (.cells #[.func (.func 211) #[] #[]] 301 (0,0))
 b3:w.heap[bx+1+1+1]?=some (.cells #[.func (.func 212) #[] #[]] 302 (0,0))
 b4:w.heap[bx+1+1+1+1]?=some (.cells #[.func (.func 213) #[] #[]] 303 (0,0))
theorem ManySSAt.but{w w':World}{bx pb po most t:Nat}(h:ManySSAt w bx pb po most)(ht:t<bx)(hb:∀i,i≠t→w'.heap[i]?=w.heap[i]?):ManySSAt w' bx pb po most:=
 ⟨(hb _ (by omega)).trans h.b0,(hb _ (by omega)).trans h.b1,(hb _ (by omega)).trans h.b2,(hb _ (by omega)).trans h.b3,(hb _ (by omega)).trans h.b4⟩
def Qs4(w:World)(lo:Nat)(key:ByteArray)(pb po most:Nat)(v:FVal):Prop:=∃bx,lo≤bx∧ManySSAt w bx pb po most∧v=⟨key,false,247,#[pt bx 0],248,#[pt bx 0,pt (bx+1) 0,pt (bx+1+1) 0],251,#[pt bx 0,pt (bx+1+1+1) 0],252,#[pt (bx+1) 0,pt (bx+1+1+1+1) 0,pt bx 0]⟩
theorem Qqy(key:ByteArray)(pb po most:Nat)(w:World):Calls Tryz.prog 210 #[.string key,pt pb po,.int .i64 most,.func (.func 211) #[] #[],.func (.func 212) #[] #[],.func (.func 213) #[] #[]] w λ e w'=>∃v:FVal,e=.returned v.val∧Qs4 w' w.heap.size key pb po most v∧Below w.heap.size w w':=by
 go_enter Tryz.func210,Tryz.ntmps210
 go_wp2
 obtain⟨bx,hbx⟩:∃bx,w.heap.size=bx:=⟨_,rfl⟩
 obtain⟨V,hV⟩:∃V,(((((((w.alloc (.cells #[pt pb po] 230)).alloc (.cells #[.int .i64 most] 3)).alloc (.cells #[.func (.func 211) #[] #[]] 301)).alloc (.cells #[.func (.func 212) #[] #[]] 302)).alloc (.cells #[.func (.func 213) #[] #[]] 303)).alloc (.cells #[.string key,.bool false,.func (.func 247) #[] #[pt w.heap.size 0],.func (.func 248) #[] #[pt w.heap.size 0,pt (w.heap.size+1) 0,pt (w.heap.size+1+1) 0],.func (.func 251) #[] #[pt w.heap.size 0,pt (w.heap.size+1+1+1) 0],.func (.func 252) #[] #[pt (w.heap.size+1) 0,pt (w.heap.size+1+1+1+1) 0,pt w.heap.size 0]] 172)).alloc (.cells #[.string key,.bool false,.func (.func 247) #[] #[pt w.heap.size 0],.func (.func 248) #[] #[pt w.heap.size 0,pt (w.heap.size+1) 0,pt (w.heap.size+1+1) 0],.func (.func 251) #[] #[pt w.heap.size 0,pt (w.heap.size+1+1+1) 0],.func (.func 252) #[] #[pt (w.heap.size+1) 0,pt (w.heap.size+1+1+1+1) 0,pt w.heap.size 0]] 172))=V:=⟨_,rfl⟩
 have VB:Below w.heap.size w V:=by rw[←hV];(repeat (first | exact Below.refl _ _ | assumption | (refine Zd ?_) | (refine Zc ?_ _) | (refine Qh ?_ _) | (refine Zs ?_ (by first | omega | (simp;done) | (simp;omega)) _) | (refine Qk ?_ (by assumption))))
 have V0:V.heap[bx]?=some (.cells #[pt pb po] 230 (0,0)):=by rw[←hV,←hbx];exact(Qf (Qf (Qf (Qf (Qf (Qf (heap_alloc_new _ _) _) _) _) _) _) _)
 have V1:V.heap[bx+1]?=some (.cells #[.int .i64 most] 3 (0,0)):=by rw[←hV,←hbx];exact(Qf (Qf (Qf (Qf (Qf (Qi _ (by simp)) _) _) _) _) _)
 have V2:V.heap[bx+1+1]?=some (.cells #[.func (.func 211) #[] #[]] 301 (0,0)):=by rw[←hV,←hbx];exact(Qf (Qf (Qf (Qf (Qi _ (by simp)) _) _) _) _)
 have V3:V.heap[bx+1+1+1]?=some (.cells #[.func (.func 212) #[] #[]] 302 (0,0)):=by rw[←hV,←hbx];exact(Qf (Qf (Qf (Qi _ (by simp)) _) _) _)
 have V4:V.heap[bx+1+1+1+1]?=some (.cells #[.func (.func 213) #[] #[]] 303 (0,0)):=by rw[←hV,←hbx];exact(Qf (Qf (Qi _ (by simp)) _) _)
 have V5:V.heap[bx+1+1+1+1+1]?=some (.cells #[.string key,.bool false,.func (.func 247) #[] #[pt bx 0],.func (.func 248) #[] #[pt bx 0,pt (bx+1) 0,pt (bx+1+1) 0],.func (.func 251) #[] #[pt bx 0,pt (bx+1+1+1) 0],.func (.func 252) #[] #[pt (bx+1) 0,pt (bx+1+1+1+1) 0,pt bx 0]] 172 (0,0)):=by rw[←hV,←hbx];exact Qf (Qi _ (by simp)) _
 have d:∀o,V.cell? ⟨bx+1+1+1+1+1,o,none⟩=_:=Qa V5
 rw[hV]
 simp only[hbx]
 clear hV
 refine bodyPost_ret (v:=.agg #[.string key,.bool false,.func (.func 247) #[] #[pt bx 0],.func (.func 248) #[] #[pt bx 0,pt (bx+1) 0,pt (bx+1+1) 0],.func (.func 251) #[] #[pt bx 0,pt (bx+1+1+1) 0],.func (.func 252) #[] #[pt (bx+1) 0,pt (bx+1+1+1+1) 0,pt bx 0]]) ?_ rfl ⟨⟨key,false,247,#[pt bx 0],248,#[pt bx 0,pt (bx+1) 0,pt (bx+1+1) 0],251,#[pt bx 0,pt (bx+1+1+1) 0],252,#[pt (bx+1) 0,pt (bx+1+1+1+1) 0,pt bx 0]⟩,rfl,⟨bx,by omega,⟨V0,V1,V2,V3,V4⟩,rfl⟩,by rw[←hbx];exact VB⟩
 simp[results,Tryz.results210,go_sem,d]
structure ManyUSAt(w:World)(bx pb po most:Nat):Prop where
 b0:w.heap[bx]?=some (.cells #[pt pb po] 232 (0,0))
 b1:w.heap[bx+1]?=some (.cells #[.int .i64 most] 3 (0,0))
 b2:w.heap[bx+1+1]?=some (.cells #[.func (.func 147) #[] #[]] 233 (0,0))
 b3:w.heap[bx+1+1+1]?=some (.cells #[.func (.func 148) #[] #[]] 235 (0,0))
 b4:w.heap[bx+1+1+1+1]?=some (.cells #[.func (.func 150) #[] #[]] 239 (0,0))
def Qxv(w:World)(lo:Nat)(key:ByteArray)(pb po most:Nat)(v:FVal):Prop:=∃bx,lo≤bx∧ManyUSAt w bx pb po most∧v=⟨key,false,214,#[pt bx 0],215,#[pt bx 0,pt (bx+1) 0,pt (bx+1+1) 0],218,#[pt bx 0,pt (bx+1+1+1) 0],220,#[pt (bx+1) 0,pt (bx+1+1+1+1) 0,pt bx 0]⟩
theorem Qj6(key:ByteArray)(pb po most:Nat)(w:World):Calls Tryz.prog 146 #[.string key,pt pb po,.int .i64 most,.func (.func 147) #[] #[],.func (.func 148) #[] #[],.func (.func 150) #[] #[]] w λ e w'=>∃v:FVal,e=.returned v.val∧Qxv w' w.heap.size key pb po most v∧Below w.heap.size w w':=by
 go_enter Tryz.func146,Tryz.ntmps146
 go_wp2
 obtain⟨bx,hbx⟩:∃bx,w.heap.size=bx:=⟨_,rfl⟩
 obtain⟨V,hV⟩:∃V,(((((((w.alloc (.cells #[pt pb po] 232)).alloc (.cells #[.int .i64 most] 3)).alloc (.cells #[.func (.func 147) #[] #[]] 233)).alloc (.cells #[.func (.func 148) #[] #[]] 235)).alloc (.cells #[.func (.func 150) #[] #[]] 239)).alloc (.cells #[.string key,.bool false,.func (.func 214) #[] #[pt w.heap.size 0],.func (.func 215) #[] #[pt w.heap.size 0,pt (w.heap.size+1) 0,pt (w.heap.size+1+1) 0],.func (.func 218) #[] #[pt w.heap.size 0,pt (w.heap.size+1+1+1) 0],.func (.func 220) #[] #[pt (w.heap.size+1) 0,pt (w.heap.size+1+1+1+1) 0,pt w.heap.size 0]] 172)).alloc (.cells #[.string key,.bool false,.func (.func 214) #[] #[pt w.heap.size 0],.func (.func 215) #[] #[pt w.heap.size 0,pt (w.heap.size+1) 0,pt (w.heap.size+1+1) 0],.func (.func 218) #[] #[pt w.heap.size 0,pt (w.heap.size+1+1+1) 0],.func (.func 220) #[] #[pt (w.heap.size+1) 0,pt (w.heap.size+1+1+1+1) 0,pt w.heap.size 0]] 172))=V:=⟨_,rfl⟩
 have VB:Below w.heap.size w V:=by rw[←hV];(repeat (first | exact Below.refl _ _ | assumption | (refine Zd ?_) | (refine Zc ?_ _) | (refine Qh ?_ _) | (refine Zs ?_ (by first | omega | (simp;done) | (simp;omega)) _) | (refine Qk ?_ (by assumption))))
 have V0:V.heap[bx]?=some (.cells #[pt pb po] 232 (0,0)):=by rw[←hV,←hbx];exact(Qf (Qf (Qf (Qf (Qf (Qf (heap_alloc_new _ _) _) _) _) _) _) _)
 have V1:V.heap[bx+1]?=some (.cells #[.int .i64 most] 3 (0,0)):=by rw[←hV,←hbx];exact(Qf (Qf (Qf (Qf (Qf (Qi _ (by simp)) _) _) _) _) _)
 have V2:V.heap[bx+1+1]?=some (.cells #[.func (.func 147) #[] #[]] 233 (0,0)):=by rw[←hV,←hbx];exact(Qf (Qf (Qf (Qf (Qi _ (by simp)) _) _) _) _)
 have V3:V.heap[bx+1+1+1]?=some (.cells #[.func (.func 148) #[] #[]] 235 (0,0)):=by rw[←hV,←hbx];exact(Qf (Qf (Qf (Qi _ (by simp)) _) _) _)
 have V4:V.heap[bx+1+1+1+1]?=some (.cells #[.func (.func 150) #[] #[]] 239 (0,0)):=by rw[←hV,←hbx];exact(Qf (Qf (Qi _ (by simp)) _) _)
 have V5:V.heap[bx+1+1+1+1+1]?=some (.cells #[.string key,.bool false,.func (.func 214) #[] #[pt bx 0],.func (.func 215) #[] #[pt bx 0,pt (bx+1) 0,pt (bx+1+1) 0],.func (.func 218) #[] #[pt bx 0,pt (bx+1+1+1) 0],.func (.func 220) #[] #[pt (bx+1) 0,pt (bx+1+1+1+1) 0,pt bx 0]] 172 (0,0)):=by rw[←hV,←hbx];exact Qf (Qi _ (by simp)) _
 have d:∀o,V.cell? ⟨bx+1+1+1+1+1,o,none⟩=_:=Qa V5
 rw[hV]
 simp only[hbx]
 clear hV
 refine bodyPost_ret (v:=.agg #[.string key,.bool false,.func (.func 214) #[] #[pt bx 0],.func (.func 215) #[] #[pt bx 0,pt (bx+1) 0,pt (bx+1+1) 0],.func (.func 218) #[] #[pt bx 0,pt (bx+1+1+1) 0],.func (.func 220) #[] #[pt (bx+1) 0,pt (bx+1+1+1+1) 0,pt bx 0]]) ?_ rfl ⟨⟨key,false,214,#[pt bx 0],215,#[pt bx 0,pt (bx+1) 0,pt (bx+1+1) 0],218,#[pt bx 0,pt (bx+1+1+1) 0],220,#[pt (bx+1) 0,pt (bx+1+1+1+1) 0,pt bx 0]⟩,rfl,⟨bx,by omega,⟨V0,V1,V2,V3,V4⟩,rfl⟩,by rw[←hbx];exact VB⟩
 simp[results,Tryz.results146,go_sem,d]
structure ManyRSAt(w:World)(bx pb po most:Nat):Prop where
 b0:w.heap[bx]?=some (.cells #[pt pb po] 241 (0,0))
 b1:w.heap[bx+1]?=some (.cells #[.int .i64 most] 3 (0,0))
 b2:w.heap[bx+1+1]?=some (.cells #[.func (.func 154) #[] #[]] 244 (0,0))
 b3:w.heap[bx+1+1+1]?=some (.cells #[.func (.func 156) #[] #[]] 245 (0,0))
 b4:w.heap[bx+1+1+1+1]?=some (.cells #[.func (.func 157) #[] #[]] 246 (0,0))
def Qxw(w:World)(lo:Nat)(key:ByteArray)(pb po most:Nat)(v:FVal):Prop:=∃bx,lo≤bx∧ManyRSAt w bx pb po most∧v=⟨key,false,227,#[pt bx 0],228,#[pt bx 0,pt (bx+1) 0,pt (bx+1+1) 0],230,#[pt bx 0,pt (bx+1+1+1) 0],231,#[pt (bx+1) 0,pt (bx+1+1+1+1) 0,pt bx 0]⟩
theorem Qj7(key:ByteArray)(pb po most:Nat)(w:World):Calls Tryz.prog 153 #[.string key,pt pb po,.int .i64 most,.func (.func 154) #[] #[],.func (.func 156) #[] #[],.func (.func 157) #[] #[]] w λ e w'=>∃v:FVal,e=.returned v.val∧Qxw w' w.heap.size key pb po most v∧Below w.heap.size w w':=by
 go_enter Tryz.func153,Tryz.ntmps153
 go_wp2
 obtain⟨bx,hbx⟩:∃bx,w.heap.size=bx:=⟨_,rfl⟩
 obtain⟨V,hV⟩:∃V,(((((((w.alloc (.cells #[pt pb po] 241)).alloc (.cells #[.int .i64 most] 3)).alloc (.cells #[.func (.func 154) #[] #[]] 244)).alloc (.cells #[.func (.func 156) #[] #[]] 245)).alloc (.cells #[.func (.func 157) #[] #[]] 246)).alloc (.cells #[.string key,.bool false,.func (.func 227) #[] #[pt w.heap.size 0],.func (.func 228) #[] #[pt w.heap.size 0,pt (w.heap.size+1) 0,pt (w.heap.size+1+1) 0],.func (.func 230) #[] #[pt w.heap.size 0,pt (w.heap.size+1+1+1) 0],.func (.func 231) #[] #[pt (w.heap.size+1) 0,pt (w.heap.size+1+1+1+1) 0,pt w.heap.size 0]] 172)).alloc (.cells #[.string key,.bool false,.func (.func 227) #[] #[pt w.heap.size 0],.func (.func 228) #[] #[pt w.heap.size 0,pt (w.heap.size+1) 0,pt (w.heap.size+1+1) 0],.func (.func 230) #[] #[pt w.heap.size 0,pt (w.heap.size+1+1+1) 0],.func (.func 231) #[] #[pt (w.heap.size+1) 0,pt (w.heap.size+1+1+1+1) 0,pt w.heap.size 0]] 172))=V:=⟨_,rfl⟩
 have VB:Below w.heap.size w V:=by rw[←hV];(repeat (first | exact Below.refl _ _ | assumption | (refine Zd ?_) | (refine Zc ?_ _) | (refine Qh ?_ _) | (refine Zs ?_ (by first | omega | (simp;done) | (simp;omega)) _) | (refine Qk ?_ (by assumption))))
 have V0:V.heap[bx]?=some (.cells #[pt pb po] 241 (0,0)):=by rw[←hV,←hbx];exact(Qf (Qf (Qf (Qf (Qf (Qf (heap_alloc_new _ _) _) _) _) _) _) _)
 have V1:V.heap[bx+1]?=some (.cells #[.int .i64 most] 3 (0,0)):=by rw[←hV,←hbx];exact(Qf (Qf (Qf (Qf (Qf (Qi _ (by simp)) _) _) _) _) _)
 have V2:V.heap[bx+1+1]?=some (.cells #[.func (.func 154) #[] #[]] 244 (0,0)):=by rw[←hV,←hbx];exact(Qf (Qf (Qf (Qf (Qi _ (by simp)) _) _) _) _)
 have V3:V.heap[bx+1+1+1]?=some (.cells #[.func (.func 156) #[] #[]] 245 (0,0)):=by rw[←hV,←hbx];exact(Qf (Qf (Qf (Qi _ (by simp)) _) _) _)
 have V4:V.heap[bx+1+1+1+1]?=some (.cells #[.func (.func 157) #[] #[]] 246 (0,0)):=by rw[←hV,←hbx];exact(Qf (Qf (Qi _ (by simp)) _) _)
 have V5:V.heap[bx+1+1+1+1+1]?=some (.cells #[.string key,.bool false,.func (.func 227) #[] #[pt bx 0],.func (.func 228) #[] #[pt bx 0,pt (bx+1) 0,pt (bx+1+1) 0],.func (.func 230) #[] #[pt bx 0,pt (bx+1+1+1) 0],.func (.func 231) #[] #[pt (bx+1) 0,pt (bx+1+1+1+1) 0,pt bx 0]] 172 (0,0)):=by rw[←hV,←hbx];exact Qf (Qi _ (by simp)) _
 have d:∀o,V.cell? ⟨bx+1+1+1+1+1,o,none⟩=_:=Qa V5
 rw[hV]
 simp only[hbx]
 clear hV
 refine bodyPost_ret (v:=.agg #[.string key,.bool false,.func (.func 227) #[] #[pt bx 0],.func (.func 228) #[] #[pt bx 0,pt (bx+1) 0,pt (bx+1+1) 0],.func (.func 230) #[] #[pt bx 0,pt (bx+1+1+1) 0],.func (.func 231) #[] #[pt (bx+1) 0,pt (bx+1+1+1+1) 0,pt bx 0]]) ?_ rfl ⟨⟨key,false,227,#[pt bx 0],228,#[pt bx 0,pt (bx+1) 0,pt (bx+1+1) 0],230,#[pt bx 0,pt (bx+1+1+1) 0],231,#[pt (bx+1) 0,pt (bx+1+1+1+1) 0,pt bx 0]⟩,rfl,⟨bx,by omega,⟨V0,V1,V2,V3,V4⟩,rfl⟩,by rw[←hbx];exact VB⟩
 simp[results,Tryz.results153,go_sem,d]
theorem Qhb(key:ByteArray)(pb po most:Nat)(w:World):Calls Tryz.prog 145 #[.string key,pt pb po,.int .i64 most] w λ e w'=>∃v:FVal,e=.returned v.val∧Qs4 w' w.heap.size key pb po most v∧Below w.heap.size w w':=by
 go_enter Tryz.func145,Tryz.ntmps145
 go_wp2_with fail
 refine(Qqy key pb po most _).mono ?_
 rintro e w1 ⟨v,rfl,⟨bx,hbx,hat,hv⟩,hb⟩
 have HAT:=QLh hat;have HBX:Hid (w.heap.size<bx):=QLh (by simp at hbx;omega);have HVV:=QLh hv;have HB:Hid (Below w.heap.size w w1):=QLh (Qk (Qh (Below.refl _ _) _) hb);have hblk:=(hb.block w.heap.size (by simp)).trans (heap_alloc_new w _);have hfr:∀o,w1.frozen? ⟨w.heap.size,o,none⟩=false:=Qj hblk;have hcl:∀o,w1.cell? ⟨w.heap.size,o,none⟩=_:=Qa hblk;have HBK:=QLh hblk;clear hat hb hblk hbx hv
 unfold FVal.val
 go_wp2
 obtain⟨V,hV⟩:∃V,(((((w1.setCell ⟨w.heap.size,0,none⟩ (.string v.key)).setCell ⟨w.heap.size,1,none⟩ (.bool v.must)).setCell ⟨w.heap.size,2,none⟩ (.func (.func v.ef) #[] v.ec)).setCell ⟨w.heap.size,3,none⟩ (.func (.func v.mf) #[] v.mc)).setCell ⟨w.heap.size,4,none⟩ (.func (.func v.pf) #[] v.pc)).setCell ⟨w.heap.size,5,none⟩ (.func (.func v.gf) #[] v.gc)=V:=⟨_,rfl⟩
 have hV5:=Qb (Qb (Qb (Qb (Qb (Qb HBK.out (o:=0) (.string v.key)) (o:=1) (.bool v.must)) (o:=2) (.func (.func v.ef) #[] v.ec)) (o:=3) (.func (.func v.mf) #[] v.mc)) (o:=4) (.func (.func v.pf) #[] v.pc)) (o:=5) (.func (.func v.gf) #[] v.gc)
 rw[hV]at hV5
 have d:∀o,V.cell? ⟨w.heap.size,o,none⟩=_:=Qa hV5;have hbut:∀k:Nat,k≠w.heap.size→V.heap[k]?=w1.heap[k]?:=λ k hk=>by
  rw[←hV,Below.heap_setCell _ _ _ _ hk,Below.heap_setCell _ _ _ _ hk,Below.heap_setCell _ _ _ _ hk,Below.heap_setCell _ _ _ _ hk,Below.heap_setCell _ _ _ _ hk,Below.heap_setCell _ _ _ _ hk]
 have hbel:Below w.heap.size w V:=by
  rw[←hV]
  exact(((((HB.out.setCell (Nat.le_refl _) _).setCell (Nat.le_refl _) _).setCell (Nat.le_refl _) _).setCell (Nat.le_refl _) _).setCell (Nat.le_refl _) _).setCell (Nat.le_refl _) _
 rw[hV]
 refine bodyPost_ret (v:=v.val) ?_ rfl ⟨v,rfl,⟨bx,by have:=HBX.out;omega,HAT.out.but HBX.out hbut,HVV.out⟩,hbel⟩
 simp[results,Tryz.results145,go_sem,d,FVal.val]
theorem Qj8(w:World)(l:List FVal):Qjr w l 177 #[] (λ i=>(fth l i).must):=by
 refine⟨enters_of Tryz.func177 (by kernel_rfl) rfl,λ i hi w' hb=>?_⟩
 show Calls Tryz.prog 177 (#[(fth l i).val]++#[]) w' (λ e w''=>e=.returned (.bool ((fth l i).must))∧Below w'.heap.size w' w'')
 generalize fth l i=v
 show Calls Tryz.prog 177 #[v.val] w' _
 unfold FVal.val
 go_enter Tryz.func177,Tryz.ntmps177
 go_wp2
 go_ret
 exact⟨rfl,by(repeat (first | exact Below.refl _ _ | assumption | (refine Zd ?_) | (refine Zc ?_ _) | (refine Qh ?_ _) | (refine Zs ?_ (by first | omega | (simp;done) | (simp;omega)) _) | (refine Qk ?_ (by assumption))))⟩
def ObjS(w:World)(lo:Nat)(key:ByteArray)(must:Bool)(g n c:Nat)(v:FVal):Prop:=∃bx,lo≤bx∧w.heap[bx]?=some (.cells #[.slice (some ⟨g,0,none⟩) n c] 113 (0,0))∧v=⟨key,must,178,#[pt bx 0],180,#[pt bx 0],181,#[pt bx 0],182,#[pt bx 0]⟩
theorem Qis(key:ByteArray)(g c:Nat)(l:List FVal)(w:World)(hF:FRow w g l)(hn:len l≤1000):
  Calls Tryz.prog 107 #[.string key,.slice (some ⟨g,0,none⟩) (len l) c] w λ e w'=>∃v:FVal,e=.returned v.val∧ObjS w' w.heap.size key (l.any λ v=>v.must) g (len l) c v∧Below w.heap.size w w':=by
 have HF:=QLh hF;have eg:=(Qj8 w l).1;clear hF
 go_enter Tryz.func107,Tryz.ntmps107
 go_wp2_with fail
 obtain⟨bx,hbx⟩:∃bx,w.heap.size=bx:=⟨_,rfl⟩
 obtain⟨V1,hV1⟩:∃V1,(w.alloc (.cells #[.slice (some ⟨g,0,none⟩) (len l) c] 113)).alloc (.cells #[.string ⟨#[]⟩,.bool false,.nilFunc,.nilFunc,.nilFunc,.nilFunc] 172)=V1:=⟨_,rfl⟩
 have HB1:Hid (Below w.heap.size w V1):=QLh (by rw[←hV1];(repeat (first | exact Below.refl _ _ | assumption | (refine Zd ?_) | (refine Zc ?_ _) | (refine Qh ?_ _) | (refine Zs ?_ (by first | omega | (simp;done) | (simp;omega)) _) | (refine Qk ?_ (by assumption)))))
 have HX1:Hid (V1.heap[bx]?=some (.cells #[.slice (some ⟨g,0,none⟩) (len l) c] 113 (0,0))):=QLh (by rw[←hV1,←hbx];exact Qf (heap_alloc_new _ _) _);have HT1:Hid (V1.heap[bx+1]?=some (.cells #[.string ⟨#[]⟩,.bool false,.nilFunc,.nilFunc,.nilFunc,.nilFunc] 172 (0,0))):=QLh (by rw[←hV1,←hbx];exact Qi _ (by simp))
 rw[hbx]
 try rw[hV1]
 have HBX:=QLh hbx;clear hV1 hbx
 refine(J7 (some ⟨g,0,none⟩) c l 177 #[] _ V1 (HF.out.below HB1.out).flds hn (Qj8 _ l)).mono ?_
 rintro e w2 ⟨q,rfl,hq,hb2⟩
 have HQ:Hid (q=l.any λ v=>v.must):=QLh (by
  rw[Bool.eq_iff_iff,hq,List.any_eq_true]
  constructor
  ·rintro⟨i,hi,h⟩
   have hi':i<l.length:=hi
   exact⟨l[i],List.getElem_mem _,by rw[←J9 l i hi'];exact h⟩
  ·rintro⟨x,hx,h⟩
   obtain⟨i,hi,rfl⟩:=List.getElem_of_mem hx
   exact⟨i,hi,by rw[J9 l i hi];exact h⟩)
 have HB2:=QLh hb2;have HX2:Hid (w2.heap[bx]?=some (.cells #[.slice (some ⟨g,0,none⟩) (len l) c] 113 (0,0))):=QLh ((hb2.block _ (lt_of_block HX1.out)).trans HX1.out);have hT2:w2.heap[bx+1]?=some (.cells #[.string ⟨#[]⟩,.bool false,.nilFunc,.nilFunc,.nilFunc,.nilFunc] 172 (0,0)):=(hb2.block _ (lt_of_block HT1.out)).trans HT1.out;have HT2:=QLh hT2;have hfr:∀o,w2.frozen? ⟨bx+1,o,none⟩=false:=Qj hT2;have hcl:∀o,w2.cell? ⟨bx+1,o,none⟩=_:=Qa hT2;have lx:bx<w2.heap.size:=lt_of_block HX2.out;clear hb2 hq hT2
 go_wp2
 obtain⟨V,hV⟩:∃V,((((((w2.setCell ⟨bx+1,0,none⟩ (.string key)).setCell ⟨bx+1,1,none⟩ (.bool q)).setCell ⟨bx+1,2,none⟩ (.func (.func 178) #[] #[pt bx 0])).setCell ⟨bx+1,3,none⟩ (.func (.func 180) #[] #[pt bx 0])).setCell ⟨bx+1,4,none⟩ (.func (.func 181) #[] #[pt bx 0])).setCell ⟨bx+1,5,none⟩ (.func (.func 182) #[] #[pt bx 0]))=V:=⟨_,rfl⟩
 have hV5:=(Qb (Qb (Qb (Qb (Qb (Qb HT2.out (o:=0) (.string key)) (o:=1) (.bool q)) (o:=2) (.func (.func 178) #[] #[pt bx 0])) (o:=3) (.func (.func 180) #[] #[pt bx 0])) (o:=4) (.func (.func 181) #[] #[pt bx 0])) (o:=5) (.func (.func 182) #[] #[pt bx 0]))
 rw[hV]at hV5
 have d:∀o,V.cell? ⟨bx+1,o,none⟩=_:=Qa hV5;have hne:bx≠bx+1:=by omega
 have VX:V.heap[bx]?=some (.cells #[.slice (some ⟨g,0,none⟩) (len l) c] 113 (0,0)):=by
  rw[←hV,Below.heap_setCell _ _ _ _ hne,Below.heap_setCell _ _ _ _ hne,Below.heap_setCell _ _ _ _ hne,Below.heap_setCell _ _ _ _ hne,Below.heap_setCell _ _ _ _ hne,Below.heap_setCell _ _ _ _ hne];exact HX2.out
 have hwx:=HBX.out;have HBW:Below bx w w2:=by rw[←hwx];exact Qk HB1.out HB2.out
 have hbel:Below w.heap.size w V:=by
  rw[←hV,hwx]
  exact((((((HBW.setCell (Nat.le_succ_of_le (Nat.le_refl _)) _).setCell (Nat.le_succ_of_le (Nat.le_refl _)) _).setCell (Nat.le_succ_of_le (Nat.le_refl _)) _).setCell (Nat.le_succ_of_le (Nat.le_refl _)) _).setCell (Nat.le_succ_of_le (Nat.le_refl _)) _).setCell (Nat.le_succ_of_le (Nat.le_refl _)) _)
 rw[hV]
 refine bodyPost_ret (v:=.agg #[.string key,.bool q,.func (.func 178) #[] #[pt bx 0],.func (.func 180) #[] #[pt bx 0],.func (.func 181) #[] #[pt bx 0],.func (.func 182) #[] #[pt bx 0]]) ?_ rfl ⟨⟨key,q,178,#[pt bx 0],180,#[pt bx 0],181,#[pt bx 0],182,#[pt bx 0]⟩,rfl,⟨bx,by omega,VX,by rw[←HQ.out]⟩,hbel⟩
 simp[results,Tryz.results107,go_sem,d]
theorem Qog(B:Nat)(key:ByteArray)(g c:Nat)(W0:World)(l:List FVal)(fs:List FSpec)(w:World)(hk:key.size<65536)(hF:FRow w g l)(hn:len l≤1000)(h0:0<len l)(hS:FSems B W0 l fs)(hK:Keep8 B W0 w):
  Calls Tryz.prog 107 #[.string key,.slice (some ⟨g,0,none⟩) (len l) c] w λ e w'=>∃v:FVal,e=.returned v.val∧FSem B w' v (Jn key fs)∧Below w.heap.size w w':=by
 have HF:=QLh hF;have HS:=QLh hS;have HK:=QLh hK;have eg:=(Qmr (w:=w) hS).1;have HA:=QLh (Qiq fs (len l) hS.1);clear hF hS hK
 go_enter Tryz.func107,Tryz.ntmps107
 go_wp2_with fail
 obtain⟨bx,hbx⟩:∃bx,w.heap.size=bx:=⟨_,rfl⟩
 obtain⟨V1,hV1⟩:∃V1,(w.alloc (.cells #[.slice (some ⟨g,0,none⟩) (len l) c] 113)).alloc (.cells #[.string ⟨#[]⟩,.bool false,.nilFunc,.nilFunc,.nilFunc,.nilFunc] 172)=V1:=⟨_,rfl⟩
 have HB1:Hid (Below w.heap.size w V1):=QLh (by rw[←hV1];(repeat (first | exact Below.refl _ _ | assumption | (refine Zd ?_) | (refine Zc ?_ _) | (refine Qh ?_ _) | (refine Zs ?_ (by first | omega | (simp;done) | (simp;omega)) _) | (refine Qk ?_ (by assumption)))))
 have HX1:Hid (V1.heap[bx]?=some (.cells #[.slice (some ⟨g,0,none⟩) (len l) c] 113 (0,0))):=QLh (by rw[←hV1,←hbx];exact Qf (heap_alloc_new _ _) _);have HT1:Hid (V1.heap[bx+1]?=some (.cells #[.string ⟨#[]⟩,.bool false,.nilFunc,.nilFunc,.nilFunc,.nilFunc] 172 (0,0))):=QLh (by rw[←hV1,←hbx];exact Qi _ (by simp))
 rw[hbx]
 try rw[hV1]
 have HBX:=QLh hbx;clear hV1 hbx
 refine(J7 (some ⟨g,0,none⟩) c l 177 #[] _ V1 (HF.out.below HB1.out).flds hn (Qmr HS.out)).mono ?_
 rintro e w2 ⟨q,rfl,hq,hb2⟩
 have HQ:Hid (q=fs.any λ f=>f.must):=QLh (by
  rw[Bool.eq_iff_iff,hq];exact HA.out.symm)
 have HB2:=QLh hb2;have HX2:Hid (w2.heap[bx]?=some (.cells #[.slice (some ⟨g,0,none⟩) (len l) c] 113 (0,0))):=QLh ((hb2.block _ (lt_of_block HX1.out)).trans HX1.out);have hT2:w2.heap[bx+1]?=some (.cells #[.string ⟨#[]⟩,.bool false,.nilFunc,.nilFunc,.nilFunc,.nilFunc] 172 (0,0)):=(hb2.block _ (lt_of_block HT1.out)).trans HT1.out;have HT2:=QLh hT2;have hfr:∀o,w2.frozen? ⟨bx+1,o,none⟩=false:=Qj hT2;have hcl:∀o,w2.cell? ⟨bx+1,o,none⟩=_:=Qa hT2;have lx:bx<w2.heap.size:=lt_of_block HX2.out;clear hb2 hq hT2
 go_wp2
 obtain⟨V,hV⟩:∃V,((((((w2.setCell ⟨bx+1,0,none⟩ (.string key)).setCell ⟨bx+1,1,none⟩ (.bool q)).setCell ⟨bx+1,2,none⟩ (.func (.func 178) #[] #[pt bx 0])).setCell ⟨bx+1,3,none⟩ (.func (.func 180) #[] #[pt bx 0])).setCell ⟨bx+1,4,none⟩ (.func (.func 181) #[] #[pt bx 0])).setCell ⟨bx+1,5,none⟩ (.func (.func 182) #[] #[pt bx 0]))=V:=⟨_,rfl⟩
 have hV5:=(Qb (Qb (Qb (Qb (Qb (Qb HT2.out (o:=0) (.string key)) (o:=1) (.bool q)) (o:=2) (.func (.func 178) #[] #[pt bx 0])) (o:=3) (.func (.func 180) #[] #[pt bx 0])) (o:=4) (.func (.func 181) #[] #[pt bx 0])) (o:=5) (.func (.func 182) #[] #[pt bx 0]))
 rw[hV]at hV5
 have d:∀o,V.cell? ⟨bx+1,o,none⟩=_:=Qa hV5;have hne:bx≠bx+1:=by omega
 have VX:V.heap[bx]?=some (.cells #[.slice (some ⟨g,0,none⟩) (len l) c] 113 (0,0)):=by
  rw[←hV,Below.heap_setCell _ _ _ _ hne,Below.heap_setCell _ _ _ _ hne,Below.heap_setCell _ _ _ _ hne,Below.heap_setCell _ _ _ _ hne,Below.heap_setCell _ _ _ _ hne,Below.heap_setCell _ _ _ _ hne];exact HX2.out
 have hwx:=HBX.out;have HBW:Below bx w w2:=by rw[←hwx];exact Qk HB1.out HB2.out
 have hbel:Below w.heap.size w V:=by
  rw[←hV,hwx]
  exact((((((HBW.setCell (Nat.le_succ_of_le (Nat.le_refl _)) _).setCell (Nat.le_succ_of_le (Nat.le_refl _)) _).setCell (Nat.le_succ_of_le (Nat.le_refl _)) _).setCell (Nat.le_succ_of_le (Nat.le_refl _)) _).setCell (Nat.le_succ_of_le (Nat.le_refl _)) _).setCell (Nat.le_succ_of_le (Nat.le_refl _)) _)
 rw[hV]
 have C0:CellAt B V bx 0 (.slice (some ⟨g,0,none⟩) (len l) c):=Qr VX (by decide) rfl;have HKV:Keep8 B W0 V:=HK.out.next hbel;have HFV:FRow V g l:=HF.out.below hbel;have HSV:FSems B V l fs:=HS.out.later HKV
 refine bodyPost_ret (v:=.agg #[.string key,.bool q,.func (.func 178) #[] #[pt bx 0],.func (.func 180) #[] #[pt bx 0],.func (.func 181) #[] #[pt bx 0],.func (.func 182) #[] #[pt bx 0]]) ?_ rfl ⟨⟨key,q,178,#[pt bx 0],180,#[pt bx 0],181,#[pt bx 0],182,#[pt bx 0]⟩,rfl,?_,hbel⟩
 ·simp[results,Tryz.results107,go_sem,d]
 ·exact⟨rfl,HQ.out,hk,enters_of Tryz.func178 (by kernel_rfl) rfl,enters_of Tryz.func180 (by kernel_rfl) rfl,enters_of Tryz.func181 (by kernel_rfl) rfl,λ w' hw=>Qpn B bx g c V l fs w' (C0.keep hw) (HFV.keep hw).flds hn HSV hw,λ w' hw=>Qpo B bx g c V l fs w' (C0.keep hw) (HFV.keep hw).flds hn HSV hw,λ hm1 he w' b base s hw hb ht hB hW hs=>Qpp B b base bx g c V l fs s w' (C0.keep hw) (HFV.keep hw).flds hn h0 HSV hm1 hw hb ht hB hW hs⟩
theorem Qt{P:Program}{o:Oper}{a:Act}{w:World}{f:FuncId}{args:Array Value}{R:Value→World→Prop}{K:Act→World→Prop}{Q:Exit→Act→World→Prop}(h:(execOp a.eval o).run P w=.ok (.enter f args) w)
  (hc:Calls P f args w (λ e w'=>∃v,e=.returned v∧R v w')) (hK:∀v w',R v w'→K (a.put o.dst v) w'):o.wp P a w K Q:=by
 unfold Oper.wp;rw[h]
 exact hc.mono λ e w' ⟨v,he,hR⟩=>by subst he;exact hK v w' hR
def FIn(B:Nat)(w:World)(v:FVal)(f:FSpec):Prop:=B≤w.heap.size∧FSem B w v f
theorem FIn.below{B:Nat}{w w':World}{v:FVal}{f:FSpec}(h:FIn B w v f)(hb:Below w.heap.size w w'):FIn B w' v f:=⟨Nat.le_trans h.1 hb.size,h.2.later (Keep8.of_below hb h.1)⟩
def Qhj(B:Nat)(f:FSpec)(w:World)(e:Ending)(w':World):Prop:=∃u,e=.returned u∧∃v:FVal,u=v.val∧FIn B w' v f∧Below w.heap.size w w'
theorem Qbw{B:Nat}{f:FSpec}{w w':World}{e:Ending}(hB:B≤w.heap.size)(h:∃v:FVal,e=.returned v.val∧FSem B w' v f∧Below w.heap.size w w'):Qhj B f w e w':=by
 obtain⟨v,he,hs,hb⟩:=h
 exact⟨v.val,he,v,rfl,⟨Nat.le_trans hB hb.size,hs⟩,hb⟩
structure SigAt(B:Nat)(w:World)(b o:Nat)(idx:Int)(wots path:List ByteArray):Prop where
 c0:CellAt B w b o (.int .u64 idx)
 c1:∃a c,CellAt B w b (o+1) (.slice a (len wots) c)∧Strs B w a wots
 c2:∃a c,CellAt B w b (o+2) (.slice a (len path) c)∧Strs B w a path
theorem SigAt.below{B:Nat}{w w':World}{b o:Nat}{idx:Int}{wots path:List ByteArray}(h:SigAt B w b o idx wots path)(hb:Below w.heap.size w w'):SigAt B w' b o idx wots path:=by
 obtain⟨h0,⟨a1,k1,h1,s1⟩,⟨a2,k2,h2,s2⟩⟩:=h
 exact⟨h0.below hb,⟨a1,k1,h1.below hb,s1.below hb⟩,⟨a2,k2,h2.below hb,s2.below hb⟩⟩
def Zk(idx:Int)(wots path:List ByteArray):List FSpec:=
 [⟨⟨#[105]⟩,false,idx == 0,true,Xr idx⟩,⟨⟨#[112]⟩,false,decide (len path=0),Qab path 16,Qdh path⟩,⟨⟨#[118]⟩,false,decide (len wots=0),Qab wots 67,Qdh wots⟩]
def Qoh(B:Nat)(specs:List FSpec)(w:World)(e:Ending)(w':World):Prop:=
 ∃g c,∃l:List FVal,e=.returned (.slice (some ⟨g,0,none⟩) (len l) c)∧FRow w' g l∧FSems B w' l specs∧Below w.heap.size w w'
theorem Qs5(B sb so:Nat)(idx:Int)(wots path:List ByteArray)(w:World)(hB:B≤w.heap.size)(h:SigAt B w sb so idx wots path)(h0:0≤idx)(h1:idx≤18446744073709551615)(hw:len wots≤100000)(hp:len path≤100000):
  Calls Tryz.prog 108 #[pt sb so] w (Qoh B (Zk idx wots path) w):=by
 obtain⟨S0,hS0⟩:∃S0:FSpec,(⟨⟨#[105]⟩,false,idx == 0,true,Xr idx⟩:FSpec)=S0:=⟨_,rfl⟩
 obtain⟨S1,hS1⟩:∃S1:FSpec,(⟨⟨#[112]⟩,false,decide (len path=0),Qab path 16,Qdh path⟩:FSpec)=S1:=⟨_,rfl⟩
 obtain⟨S2,hS2⟩:∃S2:FSpec,(⟨⟨#[118]⟩,false,decide (len wots=0),Qab wots 67,Qdh wots⟩:FSpec)=S2:=⟨_,rfl⟩
 have HSP:Hid (Zk idx wots path=[S0,S1,S2]):=QLh (by unfold Zk;rw[hS0,hS1,hS2])
 obtain⟨a1,k1,hc1,hs1⟩:=h.c1
 obtain⟨a2,k2,hc2,hs2⟩:=h.c2
 have HS0:Hid (∀w',Below w.heap.size w w'→Calls Tryz.prog 109 #[.string ⟨#[105]⟩,pt sb so] w' (Qhj B S0 w')):=QLh (λ w' hb=>by
  rw[←hS0]
  exact(Qap B ⟨#[105]⟩ sb so idx w' (by decide) (Nat.le_trans hB hb.size) (h.c0.below hb) h0 h1).mono (λ e w'' hh=>Qbw (Nat.le_trans hB hb.size) hh))
 have HS1:Hid (∀w',Below w.heap.size w w'→Calls Tryz.prog 145 #[.string ⟨#[112]⟩,pt sb (so+2),.int .i64 16] w' (Qhj B S1 w')):=QLh (λ w' hb=>by
  rw[←hS1]
  exact(Qb5 B ⟨#[112]⟩ sb (so+2) k2 16 a2 path w' (by decide) (Nat.le_trans hB hb.size) (hc2.below hb) (hs2.below hb) hp (by decide)).mono (λ e w'' hh=>Qbw (Nat.le_trans hB hb.size) hh))
 have HS2:Hid (∀w',Below w.heap.size w w'→Calls Tryz.prog 145 #[.string ⟨#[118]⟩,pt sb (so+1),.int .i64 67] w' (Qhj B S2 w')):=QLh (λ w' hb=>by
  rw[←hS2]
  exact(Qb5 B ⟨#[118]⟩ sb (so+1) k1 67 a1 wots w' (by decide) (Nat.le_trans hB hb.size) (hc1.below hb) (hs1.below hb) hw (by decide)).mono (λ e w'' hh=>Qbw (Nat.le_trans hB hb.size) hh))
 clear h hc1 hs1 hc2 hs2 hS0 hS1 hS2
 go_enter Tryz.func108,Tryz.ntmps108
 go_upto_region 1 with fail
 refine Qp 12 1000 (none) (Qaw [λ u _=>u=(pt sb so),λ u _=>u=(pt sb so),λ u _=>u=(pt sb so),λ u w'=>∃v:FVal,u=v.val∧FIn B w' v S0,λ u _=>u=(pt sb so),λ u _=>u=(pt sb so),λ u _=>u=(pt sb (so+2)),λ u w'=>∃v:FVal,u=v.val∧FIn B w' v S1,λ u _=>u=(pt sb so),λ u _=>u=(pt sb so),λ u _=>u=(pt sb (so+1)),λ u w'=>∃v:FVal,u=v.val∧FIn B w' v S2]) rfl (by kernel_rfl) (by kernel_rfl) (Zb ⟨Qe,Qe,Qe,?m3,Qe,Qe,Qe,?m7,Qe,Qe,Qe,?m11,trivial⟩) (Q6 12 ⟨?s0,?s1,?s2,?s3,?s4,?s5,?s6,?s7,?s8,?s9,?s10,?s11,trivial⟩) ?_
 case m3=>
  exact⟨λ u w1 w2 h ⟨v,h1,h2⟩=>⟨v,h1,h2.below h⟩,λ _ u w1 w2 h ⟨v,h1,h2⟩=>⟨v,h1,h2.below (Qz h)⟩⟩
 case m7=>
  exact⟨λ u w1 w2 h ⟨v,h1,h2⟩=>⟨v,h1,h2.below h⟩,λ _ u w1 w2 h ⟨v,h1,h2⟩=>⟨v,h1,h2.below (Qz h)⟩⟩
 case m11=>
  exact⟨λ u w1 w2 h ⟨v,h1,h2⟩=>⟨v,h1,h2.below h⟩,λ _ u w1 w2 h ⟨v,h1,h2⟩=>⟨v,h1,h2.below (Qz h)⟩⟩
 case s0=>
  refine Qc (v:=(pt sb so)) (λ av wv hE hS hO hD=>?_) (λ _=>rfl)
  have f0:=QEf av 0 (pt sb so) (hO.2.2 0 rfl)
  refine⟨rfl,?_⟩
  simp[go_sem,f0]
 case s1=>
  refine Qc (v:=(pt sb so)) (λ av wv hE hS hO hD=>?_) (λ _=>rfl)
  have f3:=QEf av 3 (pt sb so) (hD.1 rfl _ rfl)
  refine⟨rfl,?_⟩
  simp[go_sem,f3]
 case s2=>
  refine Qc (v:=(pt sb so)) (λ av wv hE hS hO hD=>?_) (λ _=>rfl)
  have f4:=QEf av 4 (pt sb so) (hD.1 rfl _ rfl)
  refine⟨rfl,?_⟩
  simp[go_sem,f4]
 case s3=>
  refine Qo (λ av wv hE hS hO hD=>?_)
  have f5:=QEf av 5 (pt sb so) (hD.1 rfl _ rfl)
  refine⟨rfl,?_⟩
  refine Qt (f:=109) (args:=#[.string ⟨#[105]⟩,pt sb so]) (by simp[go_sem,f5]) (HS0.out wv (Qx hE)) (λ u w2 ⟨v,hu,hs,hb⟩=>⟨u,rfl,Qm hb,v,hu,hs⟩)
 case s4=>
  refine Qc (v:=(pt sb so)) (λ av wv hE hS hO hD=>?_) (λ _=>rfl)
  have f0:=QEf av 0 (pt sb so) (hO.2.2 0 rfl)
  refine⟨rfl,?_⟩
  simp[go_sem,f0]
 case s5=>
  refine Qc (v:=(pt sb so)) (λ av wv hE hS hO hD=>?_) (λ _=>rfl)
  have f7:=QEf av 7 (pt sb so) (hD.1 rfl _ rfl)
  refine⟨rfl,?_⟩
  simp[go_sem,f7]
 case s6=>
  refine Qc (v:=(pt sb (so+2))) (λ av wv hE hS hO hD=>?_) (λ _=>rfl)
  have f8:=QEf av 8 (pt sb so) (hD.1 rfl _ rfl)
  refine⟨rfl,?_⟩
  simp[go_sem,f8]
 case s7=>
  refine Qo (λ av wv hE hS hO hD=>?_)
  have f9:=QEf av 9 (pt sb (so+2)) (hD.1 rfl _ rfl)
  refine⟨rfl,?_⟩
  refine Qt (f:=145) (args:=#[.string ⟨#[112]⟩,pt sb (so+2),.int .i64 16]) (by simp[go_sem,f9]) (HS1.out wv (Qx hE)) (λ u w2 ⟨v,hu,hs,hb⟩=>⟨u,rfl,Qm hb,v,hu,hs⟩)
 case s8=>
  refine Qc (v:=(pt sb so)) (λ av wv hE hS hO hD=>?_) (λ _=>rfl)
  have f0:=QEf av 0 (pt sb so) (hO.2.2 0 rfl)
  refine⟨rfl,?_⟩
  simp[go_sem,f0]
 case s9=>
  refine Qc (v:=(pt sb so)) (λ av wv hE hS hO hD=>?_) (λ _=>rfl)
  have f11:=QEf av 11 (pt sb so) (hD.1 rfl _ rfl)
  refine⟨rfl,?_⟩
  simp[go_sem,f11]
 case s10=>
  refine Qc (v:=(pt sb (so+1))) (λ av wv hE hS hO hD=>?_) (λ _=>rfl)
  have f12:=QEf av 12 (pt sb so) (hD.1 rfl _ rfl)
  refine⟨rfl,?_⟩
  simp[go_sem,f12]
 case s11=>
  refine Qo (λ av wv hE hS hO hD=>?_)
  have f13:=QEf av 13 (pt sb (so+1)) (hD.1 rfl _ rfl)
  refine⟨rfl,?_⟩
  refine Qt (f:=145) (args:=#[.string ⟨#[118]⟩,pt sb (so+1),.int .i64 67]) (by simp[go_sem,f13]) (HS2.out wv (Qx hE)) (λ u w2 ⟨v,hu,hs,hb⟩=>⟨u,rfl,Qm hb,v,hu,hs⟩)
 intro a' w' hE hO hall
 have hA:=Ql (ds:=[3,4,5,6,7,8,9,10,11,12,13,14]) rfl hO (by kernel_rfl);have e3:a'.eval (.tmp 3)=(pt sb so):=hall.1 _ rfl;have e4:a'.eval (.tmp 4)=(pt sb so):=hall.2.1 _ rfl;have e5:a'.eval (.tmp 5)=(pt sb so):=hall.2.2.1 _ rfl;have e6:(λ u w'=>∃v:FVal,u=v.val∧FIn B w' v S0) (a'.eval (.tmp 6)) w':=hall.2.2.2.1 _ rfl;have e7:a'.eval (.tmp 7)=(pt sb so):=hall.2.2.2.2.1 _ rfl;have e8:a'.eval (.tmp 8)=(pt sb so):=hall.2.2.2.2.2.1 _ rfl;have e9:a'.eval (.tmp 9)=(pt sb (so+2)):=hall.2.2.2.2.2.2.1 _ rfl;have e10:(λ u w'=>∃v:FVal,u=v.val∧FIn B w' v S1) (a'.eval (.tmp 10)) w':=hall.2.2.2.2.2.2.2.1 _ rfl;have e11:a'.eval (.tmp 11)=(pt sb so):=hall.2.2.2.2.2.2.2.2.1 _ rfl;have e12:a'.eval (.tmp 12)=(pt sb so):=hall.2.2.2.2.2.2.2.2.2.1 _ rfl;have e13:a'.eval (.tmp 13)=(pt sb (so+1)):=hall.2.2.2.2.2.2.2.2.2.2.1 _ rfl;have e14:(λ u w'=>∃v:FVal,u=v.val∧FIn B w' v S2) (a'.eval (.tmp 14)) w':=hall.2.2.2.2.2.2.2.2.2.2.2.1 _ rfl
 obtain⟨v6,hv6⟩:∃v,a'.eval (.tmp 6)=v:=⟨_,rfl⟩
 rw[hv6]at e6
 obtain⟨v10,hv10⟩:∃v,a'.eval (.tmp 10)=v:=⟨_,rfl⟩
 rw[hv10]at e10
 obtain⟨v14,hv14⟩:∃v,a'.eval (.tmp 14)=v:=⟨_,rfl⟩
 rw[hv14]at e14
 simp only[List.foldl_cons,List.foldl_nil,Act.put,List.setIfInBounds_toArray,List.set_cons_succ,List.set_cons_zero,e3,e4,e5,hv6,e7,e8,e9,hv10,e11,e12,e13,hv14]at hA
 clear hO hall e3 e4 e5 hv6 e7 e8 e9 hv10 e11 e12 e13 hv14
 subst hA
 obtain⟨x0,rfl,s0⟩:=e6
 obtain⟨x1,rfl,s1⟩:=e10
 obtain⟨x2,rfl,s2⟩:=e14
 have HSS:Hid (FSems B w' [x0,x1,x2] [S0,S1,S2]):=QLh ⟨rfl,λ i hi=>by
  have:i=0 ∨ i=1 ∨ i=2:=by simp[len]at hi;omega
  rcases this with rfl | rfl | rfl
  ·exact s0.2
  ·exact s1.2
  ·exact s2.2⟩
 have HBW:Hid (Below w.heap.size w w'∧B≤w'.heap.size):=QLh ⟨Qx hE,s0.1⟩;clear s0 s1 s2 hE
 unfold FVal.val
 go_wp2
 go_ret
 refine⟨w'.heap.size,3,[x0,x1,x2],rfl,⟨Flds.block (l:=[x0,x1,x2]) (heap_alloc_new w' _),_,heap_alloc_new w' _⟩,?_,Qk HBW.out.1 (Qh (Below.refl _ _) _)⟩
 rw[HSP.out]
 exact HSS.out.later (Keep8.of_below (Qh (Below.refl _ _) _) HBW.out.2)
end Go.Proofs.YtihiaopilnjonaaGreatDoor

/- Parts of the proof, one behind the other. -/
import Derived.Test.YtpobhbdomldecaaGreatDoorIalP5
import Derived.LaidMore
import Derived.LaidHandle
import Derived.Stop.Joined
import Derived.ChangeVars
import Derived.JoinedOf
import Derived.RowKitTokens
import Derived.Test.YtpobhbdomldecaaGreatDoorCards
import Derived.Test.YtpobhbdomldecaaGreatDoorTie
import Derived.SevenTiedAt
namespace Go.Proofs.YtpobhbdomldecaaGreatDoor
open Go.RowKit
set_option linter.unusedSimpArgs false
set_option linter.unusedVariables false
set_option linter.constructorNameAsVariable false
theorem len_takeI(l:List Int)(k:Nat)(h:k≤len l):len (l.take k)=k:=by rw[len_eq]at *;simp;omega
theorem nth_takeI(l:List Int)(k i:Nat)(h:i<k):nth (l.take k) i=nth l i:=by
 unfold nth
 rw[List.getD_eq_getElem?_getD,List.getD_eq_getElem?_getD,List.getElem?_take,if_pos h]
theorem u8s_take{w:World}{a:Option Addr}{l:List Int}(h:U8s w a l){k:Nat}(hk:k≤len l):U8s w a (l.take k):=λ i hi=>by
 rw[len_takeI l k hk]at hi
 obtain⟨b,o,e,hc⟩:=h i (by omega)
 exact⟨b,o,e,by rw[nth_takeI l k i hi];exact hc⟩
theorem byte_take{l:List Int}(h:∀i,0≤nth l i∧nth l i≤255)(k:Nat):∀i,0≤nth (l.take k) i∧nth (l.take k) i≤255:=λ i=>by
 by_cases hi:i<k
 ·rw[nth_takeI l k i hi];exact h i
 ·have e:nth (l.take k) i=0:=by
   unfold nth
   rw[List.getD_eq_getElem?_getD,List.getElem?_take,if_neg hi];rfl
  rw[e];decide
theorem run_cut8(a:Option Addr)(n c k:Nat)(h:k≤n)(hc:n≤c)(w:World):(Instr.slice 41 (.slice a n c) none (some (.int .i64 (k:Nat))) none).run Tryz.prog w=.ok (.slice a k c) w:=by
 have h1:k≤c:=by omega
 cases a <;> simp[go_sem,h1]
structure RwL(F:Nat)(L:List Hdr):Prop where
 n:len L≤20
 f:F<9223372036854775808
 o:∀i,(hnth L i).Ok
 m:∀i,i<len L→hOk (hnth L i)=true
 r:∀i,i<len L→(hnth L i).rnd=(F:Int)+(i:Int)
theorem RwL.el{F:Nat}{L:List Hdr}(h:RwL F L)(h0:0<len L):elOk L=true:=
 elOk_of h0 (by have:=h.n;omega) (followH_yes (λ i hi hi0=>by
  unfold stepH
  rw[h.r i hi,h.r (i - 1) (by omega),decide_eq_true (by omega),decide_eq_true (by omega)];rfl)) (laysH_yes h.m)
theorem RwL.find{F:Nat}{L:List Hdr}(h:RwL F L){i:Nat}(hi:i<len L):findR L ((F:Int)+(i:Int))=some i:=
 findR_hit hi (λ j hj=>by rw[h.r j (by omega)];omega) (h.r i hi)
theorem rw_row(F:Nat)(l:List Int)(k:Nat)(hk:len l=k)(h20:k≤20)(hF:F<9223372036854775808):RwL F (rowL F l 0 0):=by
 have e:rowL F l 0 0=rowN F l k:=by
  unfold rowL rowO
  rw[show min (len l) 70=k by omega]
  split
  ·rw[if_neg (by decide),if_neg (by decide)]
  ·rfl
 rw[e]
 refine⟨by rw[rowN_len];omega,hF,rowN_ok F l k,λ i hi=>?_,λ i hi=>?_⟩
 ·rw[rowN_len]at hi
  rw[rowN_at F l hi];exact rowAt_may _ _ _
 ·rw[rowN_len]at hi
  rw[rowN_at F l hi]
  show((F:Int)+(i:Int)) % 18446744073709551616=_
  omega
structure AlSt(L:List Hdr)(b:Nat)(w wr:World)(v:Value)(m:Nat):Prop where
 b:Below w.heap.size w wr
 o:wr.ownsRow w.heap.size 9 1 v m ((elL (L.take m)).map Value.string)
set_option maxRecDepth 100000 in
set_option maxHeartbeats 8000000 in
theorem iall_law(B:Nat)(f:Nat)(l:List Int)(a:Option Addr)(cap:Nat)(bs:List ByteArray)(ba:Option Addr)(bc:Nat)(w:World)(ht:TE7 B w)(hf:f<18446744073709551616)(hc:U8s w a l)(hl:∀i,0≤nth l i∧nth l i≤255)(hn:len l≤9223372036854775807)(hcap:len l≤cap)(hb:Txts w ba bs)(hbn:len bs≤9223372036854775807):
  Calls Tryz.prog 12 #[.int .u64 (f:Nat),.slice a (len l) cap,.slice ba (len bs) bc] w λ e w'=>e=.returned (.bool true)∧Below w.heap.size w w':=by
 have HT:=Lib.hid ht;have HC:=Lib.hid hc;have HLB:=Lib.hid hl;have HBS:=Lib.hid hb;have HBN:=Lib.hid hbn
 obtain⟨m,hm⟩:∃m,min (len l) 20=m:=⟨_,rfl⟩
 have HM:Hid (m≤len l∧m≤20):=Lib.hid (by omega);have mn:min ((len l:Nat):Int) 20=((m:Nat):Int):=by omega
 have sl:=run_cut8 a (len l) cap m HM.out.1 hcap
 obtain⟨F,hF⟩:∃F,f / 2=F:=⟨_,rfl⟩
 have HFF:Hid (F<9223372036854775808):=Lib.hid (by omega);have kF:((f:Nat):Int) / 2=((F:Nat):Int):=by omega
 have kG:IntKind.u64.wrap ((F:Nat):Int)=((F:Nat):Int):=IntWalk.u64_in _ (by omega)
 obtain⟨i0,hi,hz0,hz1,hz2⟩:=info_parts info_str
 have HZ:=Lib.hid hz0;clear ht hc hl hb hbn hz0 hn hcap hm hF hf
 go_enter Tryz.func12,Tryz.ntmps12
 go_wp2_with fail
 refine(works27_any B w HT.out).mono ?_
 rintro e w0 ⟨rfl,hb⟩
 have B0:=Lib.hid hb;clear hb
 go_wp2_with fail
 have HR:=Lib.hid (row27_any F (l.take m) a cap 0 0 w0 (by have:=HFF.out;omega) (u8s_take (HC.out.below B0.out) HM.out.1) (byte_take HLB.out m) (by rw[len_takeI l m HM.out.1];have:=HM.out;omega) (by decide) (by decide))
 rw[len_takeI l m HM.out.1]at HR
 refine HR.out.mono ?_
 rintro e w1 ⟨v,rfl,hown,hb⟩
 have HRW:=Lib.hid (rw_row F (l.take m) m (len_takeI l m HM.out.1) HM.out.2 HFF.out)
 obtain⟨L,hL⟩:∃L,rowL F (l.take m) 0 0=L:=⟨_,rfl⟩
 rw[hL]at hown HRW
 obtain⟨la,lc,rfl,hH,hlc⟩:=Hdrs.own hown
 have B1:Hid (Below w.heap.size w w1):=Lib.hid (bnext B0.out hb);have HH:=Lib.hid hH;have HT1:=Lib.hid (HT.out.below B1.out);clear hown hb hL hH hlc HR mn sl kF kG;have HLN:=Lib.hid HRW.out.n
 go_wp2
 go_loopg [9,8] (len L) (λ gg i v wr=>∃m:Nat,gg+m=len L∧i=.int .i64 (m:Nat)∧Hid (AlSt L 0 w1 wr v m))
 case atStart=>exact⟨0,rfl,rfl,Lib.hid ⟨Below.refl _ _,World.ownsRow_nil _ _ _ _⟩⟩
 case round=>
  obtain⟨m,hm,rfl,HS⟩:=hrel
  by_cases hlt:m<len L
  ·have b0:(m:Int)<len L:=by omega
   obtain⟨g,o,rfl,⟨e0,e1,e2,e3⟩⟩:=(HH.out.below HS.out.b) m hlt
   have HRO:=Lib.hid (HRW.out.o m);have HRM:=Lib.hid (HRW.out.m m hlt)
   obtain⟨r,hr⟩:∃r,hnth L m=r:=⟨_,rfl⟩
   have HRE:=Lib.hid hr
   rw[hr]at e0 e1 e2 e3 HRO HRM
   have HLT:=Lib.hid hlt;have HMM:=Lib.hid hm;clear hr hlt hm;have hll:=HLN.out
   go_wp2_with fail
   refine(hw_yes B r _ (te_pt (HT1.out.below HS.out.b)) HRO.out HRM.out).mono ?_
   rintro e w2 ⟨rfl,hb⟩
   have HB2:Hid (Below w1.heap.size w1 w2):=Lib.hid (bnext HS.out.b hb);have HO2:=Lib.hid (own_below HS.out.o hb);clear hb e0 e1 e2 e3
   go_wp2_with (at_builtin;refine wpList_append_own _ rfl _ _ 36 rfl w1.heap.size 9 i0 (.string ⟨#[]⟩) 1 16 Tryz.underlying36 hi HZ.out hz1 hz2 rfl (by decide) _ _ _ rfl (HO2.out.alloc _) ⟨w2.heap.size,0,none⟩ 1 1 [.string (hbs r)] rfl rfl ?c1 ?c2 ?c3 ?c4 ?c5 ?_)
   case c1=>exact World.news_of_block (alloc_new_at _ rfl)
   case c2=>intro u hu;simp at hu;subst hu;rfl
   case c3=>unfold maxLen;have:=HLT.out;omega
   case c4=>have:=HLT.out;omega
   case c5=>have:=HB2.out.size;simp;omega
   intro v' w3 hown' hgrow _
   have HB3:Hid (Below w1.heap.size w1 w3):=Lib.hid (grownBy_below (balloc HB2.out _) hgrow (λ k hk=>(HO2.out.lt k hk).1));have HO3:Hid (w3.ownsRow w1.heap.size 9 1 v' (m+1) ((elL (L.take (m+1))).map Value.string)):=Lib.hid (by
    rw[elL_snoc L m HLT.out,HRE.out,List.map_append];exact hown')
   clear hown' hgrow;have hlm:=HLT.out
   go_wp2
   go_roundg (gk - 1)
   case rel=>exact⟨m+1,by have:=HMM.out;omega,by go_num,Lib.hid ⟨HB3.out,HO3.out⟩⟩
   case measure=>have:=HMM.out;omega
  ·obtain rfl:m=len L:=by omega
   have b0:¬((len L:Nat):Int)<(len L:Nat):=by omega
   have HSO:=Lib.hid HS.out.o
   rw[take_len L]at HSO
   have HSO2:Hid (wr.ownsRow w1.heap.size 9 1 u8 (len (elL L)) ((elL L).map Value.string)):=Lib.hid (by rw[elL_len];exact HSO.out)
   obtain⟨aa,ca,rfl,hta,hca,-⟩:=TextsAre.own HSO2.out
   obtain⟨wz,hwz⟩:∃wz,wz=wr:=⟨_,rfl⟩
   subst hwz
   have HTA:=Lib.hid hta;have B2:=Lib.hid HS.out.b;have HT2:=Lib.hid (HT1.out.below B2.out);have HH2:=Lib.hid (HH.out.below B2.out);have HLE:Hid (len (elL L)=len L∧len (elL L)≤64):=Lib.hid ⟨elL_len L,by rw[elL_len];have:=HLN.out;omega⟩;have HES:=Lib.hid (λ i (hi:i<len L)=>hbs_size (HRW.out.m i hi))
   rw[elL_len]
   clear hta hca HSO HSO2 HS
   go_wp2
   go_loopg [12] (len L) (λ gg i wr=>∃m:Nat,gg+m=len L∧i=.int .i64 (m:Nat)∧Hid (Below wz.heap.size wz wr))
   case atStart=>exact⟨0,rfl,rfl,Lib.hid (Below.refl _ _)⟩
   case round=>
    obtain⟨m,hm,rfl,HS⟩:=hrel
    by_cases hlt:m<len L
    ·have b0:(m:Int)<len L:=by omega
     have HIH:=Lib.hid (iheader_any B L la lc ((F:Int)+(m:Int)) wr (te_pt (HT2.out.below HS.out)) (HH2.out.below HS.out) HRW.out.o (by have:=HLN.out;omega));have hih:=ih_some (HRW.out.el (by omega)) (HRW.out.find hlt)
     unfold IhIs at HIH
     rw[hih.1,hih.2.1,hih.2.2]at HIH
     obtain⟨g,o,rfl,hcel⟩:=(HH2.out.below HS.out) m hlt
     have HRO:=Lib.hid (HRW.out.o m);have HRM:=Lib.hid (HRW.out.m m hlt);have HRR:=Lib.hid (HRW.out.r m hlt);have HEA:Hid (tth (elL L) m=hbs (hnth L m)):=Lib.hid (elL_at L m hlt)
     obtain⟨r,hr⟩:∃r,hnth L m=r:=⟨_,rfl⟩
     rw[hr]at HRO HRM HRR HEA HIH
     have HRE:=Lib.hid hr;have HLT:=Lib.hid hlt;have HMM:=Lib.hid hm;have HLK:Hid (m<len (elL L)):=Lib.hid (by rw[HLE.out.1];exact hlt)
     obtain⟨P,hP⟩:∃P,oneD (elL L) m=P:=⟨_,rfl⟩
     have HPL:Hid (len P≤16):=Lib.hid (by rw[←hP,oneD_len (by have:=HLE.out;omega)];exact depN_le (by have:=HLE.out;omega));have HY1:=Lib.hid (is_yes (f:=(F:Int)) (t:=(F:Int)+(len L:Int) - 1) (els:=elL L) (k:=m) HRO.out HRM.out HLK.out HLE.out.2 HEA.out HRR.out (by rw[HLE.out.1]))
     rw[hP]at HIH HY1
     obtain⟨s,hs⟩:∃s,hbs r=s:=⟨_,rfl⟩
     have HSS:Hid (s.size≤1000):=Lib.hid (by rw[←hs];exact hbs_size HRM.out)
     rw[hs]at HIH HY1 HEA
     obtain⟨rt,hrt⟩:∃rt,treeR (elL L)=rt:=⟨_,rfl⟩
     rw[hrt]at HY1
     obtain⟨yh,hyh,hy0,hy1,hy2,hy3⟩:=header_forth (rnd:=r.rnd) (prev:=r.prev) (txns:=r.txns) (seed:=r.seed) HRO.out.r0 HRM.out (s:=s) hs.symm
     have HN1:Hid (isE rt (r.rnd+1) (r.rnd+1) s P=19):=Lib.hid (isE_none (by
      unfold isA
      rw[decide_eq_true (show rt.size=32 by rw[←hrt];exact treeR_size _),decide_eq_true (Int.le_refl _),decide_eq_true (by omega)];rfl) hyh (by rw[hy0];omega))
     have HRT:Hid (∀wv,Below wr.heap.size wr wv→Calls Tryz.prog 64 #[.slice aa (len L) ca] wv λ e w'=>e=.returned (.string rt)∧Below wv.heap.size wv w'):=Lib.hid (λ wv hb=>by
      rw[←hrt,←HLE.out.1]
      exact lroot27_any (elL L) aa ca wv ((HTA.out.below HS.out).below hb) (by have:=HLE.out;omega) (λ i hi=>by
       rw[HLE.out.1]at hi
       rw[elL_at L i hi]
       exact Nat.le_trans (HES.out i hi) (by decide)))
     have k1:IntKind.u64.wrap ((m:Nat):Int)=((m:Nat):Int):=by have:=HLN.out;exact IntWalk.u64_in _ (by omega)
     have k2:IntKind.u64.wrap ((F:Int)+(m:Int))=(F:Int)+(m:Int):=by have:=HLN.out;have:=HFF.out;exact IntWalk.u64_in _ (by omega)
     have HPR:Hid (r.rnd+1<18446744073709551616):=Lib.hid (by rw[HRR.out];have:=HLN.out;have:=HFF.out;omega);clear hr hlt hm hih hP hs hrt hyh hy0 hy1 hy2 hy3 hcel
     go_wp2_with fail
     refine HIH.out.mono ?_
     rintro e x1 ⟨v,rfl,hv,hb⟩
     obtain⟨pa,pc,rfl,hpt,hpc,-⟩:=hv
     have BX1:=Lib.hid hb;have HPT:=Lib.hid (And.intro hpt hpc)
     obtain⟨ag,ao,hae,hac⟩:=((HTA.out.below HS.out).below hb) m HLK.out
     rw[HEA.out]at hac
     have rr:(s.toList != s.toList)=false:=by unfold bne;rw[str_beq,decide_eq_true rfl];rfl
     subst hae
     have hLl:=HLT.out;clear hb hpt hpc k1 k2 HIH
     obtain⟨X,hX⟩:∃X,(F:Int)+(len L:Int) - 1=X:=⟨_,rfl⟩
     have HXE:Hid ((F:Int)+(len L:Int) - 1=X∧U64 X):=Lib.hid ⟨hX,by have:=HLN.out;have:=HFF.out;exact⟨by omega,by omega⟩⟩;have k3:IntKind.u64.wrap ((len L:Nat):Int)=((len L:Nat):Int):=by have:=HLN.out;exact IntWalk.u64_in _ (by omega)
     have k4:IntKind.u64.wrap ((F:Int)+(len L:Int))=(F:Int)+(len L:Int):=by have:=HLN.out;have:=HFF.out;exact IntWalk.u64_in _ (by omega)
     have k5:IntKind.u64.wrap ((F:Int)+(len L:Int) - 1)=X:=by rw[hX];have:=HXE.out.2;exact IntWalk.u64_in _ (by have:=HXE.out.2.1;have:=HXE.out.2.2;omega)
     rw[hX]at HY1
     clear hX
     go_upto_region 20 with fail
     clear k3 k4 k5 rr hac
     obtain⟨W,hW⟩:∃W,x1.alloc (.cells #[.int .u64 (F:Nat),.int .u64 X] 76)=W:=⟨_,rfl⟩
     obtain⟨rb,hrb⟩:∃rb,x1.heap.size=rb:=⟨_,rfl⟩
     have HWB:Hid (W.heap[rb]?=some (.cells #[.int .u64 (F:Nat),.int .u64 X] 76 (0,0))):=Lib.hid (by rw[←hW,←hrb];exact heap_alloc_new _ _);have BW1:Hid (Below x1.heap.size x1 W):=Lib.hid (by rw[←hW];exact balloc (Below.refl _ _) _);have BW:Hid (Below wr.heap.size wr W):=Lib.hid (bnext BX1.out BW1.out)
     rw[hW,hrb]
     clear hW hrb;have HIS:Hid (∀wv,Below W.heap.size W wv→Calls Tryz.prog 57 #[.string rt,.agg #[.int .u64 (F:Nat),.int .u64 X],.string s,.slice pa (len P) pc] wv λ e w'=>e=.returned (.tuple #[.agg #[.int .u64 r.rnd,.string r.prev,.string r.txns,.string r.seed],.int .i64 0])∧Below wv.heap.size wv w'):=Lib.hid (λ wv hb=>by
      have h:=ihis_any B rt (F:Nat) X s P pa pc wv (((HT2.out.below HS.out).below BW.out).below hb) ((HPT.out.1.below BW1.out).below hb) (by have:=HPL.out;omega) HPT.out.2 ⟨by omega,by have:=HFF.out;omega⟩ HXE.out.2 (by have:=HSS.out;omega)
      unfold IsIs at h
      rw[HY1.out.1,HY1.out.2]at h
      exact h)
     have HRT2:=HRT;have c0:W.cell? ⟨rb,0,none⟩=some (.int .u64 (F:Nat)):=block_cell HWB.out 0;have c1:W.cell? ⟨rb,1,none⟩=some (.int .u64 X):=block_cell HWB.out 1;have HRT:Hid (∀wv,Below W.heap.size W wv→Calls Tryz.prog 64 #[.slice (some ⟨ag,ao,none⟩) (len L) ca] wv λ e w'=>e=.returned (.string rt)∧Below wv.heap.size wv w'):=Lib.hid (λ wv hb=>HRT2.out wv (bnext BW.out hb))
     refine wp_region_tailW 11 (FVO 10 W.heap.size) fvo_inj (λ _=>Shape) (λ _=>True) (FPR 9 10 #[.int .u64 r.rnd,.string r.prev,.string r.txns,.string r.seed] 33) (λ _ _=>shape_refl _) trivial (phis [λ u _=>u=(.slice (some ⟨ag,ao,none⟩) (len L) ca),λ u _=>u=(.string rt),λ u _=>u=(.agg #[.int .u64 (F:Nat),.int .u64 X]),λ u _=>u=(.string s),λ u _=>u=(.slice pa (len P) pc),λ u _=>u=(.tuple #[.agg #[.int .u64 r.rnd,.string r.prev,.string r.txns,.string r.seed],.int .i64 0]),λ u _=>u=(.tuple #[.agg #[.int .u64 r.rnd,.string r.prev,.string r.txns,.string r.seed],.int .i64 0]),λ u _=>u=(.agg #[.int .u64 r.rnd,.string r.prev,.string r.txns,.string r.seed]),λ u _=>u=(.int .i64 0),λ u w'=>∃(c:Nat) (cs:Array Value),u=.pointer (some ⟨c,0,none⟩)∧W.heap.size≤c∧w'.heap[c]?=some (.cells cs 33 (0,0))∧cs.size=4,λ _ _=>True]) rfl (by kernel_rfl) (by kernel_rfl) (monoW_of ⟨monoW_eq,monoW_eq,monoW_eq,monoW_eq,monoW_eq,monoW_eq,monoW_eq,monoW_eq,monoW_eq,?m9,?m10,trivial⟩) (λ _ _ _ _ _=>trivial) fpr_mono (stepsW_of 11 ⟨?s0,?s1,?s2,?s3,?s4,?s5,?s6,?s7,?s8,?s9,?s10,trivial⟩) ?_
     case m9=>
      exact λ j hj u w1 w2 h ⟨c,cs,h1,h2,h3,h4⟩=>by obtain⟨cs',h5,h6⟩:=h.2 c cs _ _ h3;exact⟨c,cs',h1,h2,h5,h6.trans h4⟩
     case m10=>
      exact λ _ _ _ _ _ _ _=>trivial
     case s0=>
      refine stepW_val (v:=(.slice (some ⟨ag,ao,none⟩) (len L) ca)) (λ _ _=>shape_refl _) (λ j vi vj w=>⟨λ h=>absurd h.1 (by decide),λ h=>absurd h.2 (by decide)⟩) (λ D av wv hE hO hD=>?_) (λ _=>rfl)
      have f8:=QEf av 8 (.slice (some ⟨ag,ao,none⟩) (len L) ca) (hO.2.2 8 rfl)
      refine⟨rfl,?_⟩
      simp[go_sem,f8]
     case s1=>
      refine stepW_wp (λ D av wv hP hE hO hD=>?_)
      have f94:=QEf av 94 (.slice (some ⟨ag,ao,none⟩) (len L) ca) (hD.1 rfl _ rfl)
      refine⟨rfl,?_⟩
      refine wp_of_call (v:=.string rt) (by simp[go_sem,f94]) (HRT.out wv (of_drewF hE.ext)) (λ w2 hb=>⟨_,rfl,esF_ext hb,rfl,(λ j oj _ _ _=>⟨λ h=>absurd h.1 (by decide),λ h=>absurd h.2 (by decide)⟩)⟩)
     case s2=>
      refine stepW_val (v:=(.agg #[.int .u64 (F:Nat),.int .u64 X])) (λ _ _=>shape_refl _) (λ j vi vj w=>⟨λ h=>absurd h.1 (by decide),λ h=>absurd h.2 (by decide)⟩) (λ D av wv hE hO hD=>?_) (λ _=>rfl)
      have f16:=QEf av 16 (.pointer (some ⟨rb,0,none⟩)) (hO.2.2 16 rfl);have c0:=extF_cell hE.ext c0;have c1:=extF_cell hE.ext c1
      refine⟨rfl,?_⟩
      simp[go_sem,f16,c0,c1]
     case s3=>
      refine stepW_val (v:=(.string s)) (λ _ _=>shape_refl _) (λ j vi vj w=>⟨λ h=>absurd h.1 (by decide),λ h=>absurd h.2 (by decide)⟩) (λ D av wv hE hO hD=>?_) (λ _=>rfl)
      have f13:=QEf av 13 (.string s) (hO.2.2 13 rfl)
      refine⟨rfl,?_⟩
      simp[go_sem,f13]
     case s4=>
      refine stepW_val (v:=(.slice pa (len P) pc)) (λ _ _=>shape_refl _) (λ j vi vj w=>⟨λ h=>absurd h.1 (by decide),λ h=>absurd h.2 (by decide)⟩) (λ D av wv hE hO hD=>?_) (λ _=>rfl)
      have f14:=QEf av 14 (.slice pa (len P) pc) (hO.2.2 14 rfl)
      refine⟨rfl,?_⟩
      simp[go_sem,f14]
     case s5=>
      refine stepW_wp (λ D av wv hP hE hO hD=>?_)
      have f95:=QEf av 95 (.string rt) (hD.1 rfl _ rfl);have f96:=QEf av 96 (.agg #[.int .u64 (F:Nat),.int .u64 X]) (hD.2.1 rfl _ rfl);have f97:=QEf av 97 (.string s) (hD.2.2.1 rfl _ rfl);have f98:=QEf av 98 (.slice pa (len P) pc) (hD.2.2.2.1 rfl _ rfl)
      refine⟨rfl,?_⟩
      refine wp_of_call (v:=.tuple #[.agg #[.int .u64 r.rnd,.string r.prev,.string r.txns,.string r.seed],.int .i64 0]) (by simp[go_sem,f95,f96,f97,f98]) (HIS.out wv (of_drewF hE.ext)) (λ w2 hb=>⟨_,rfl,esF_ext hb,rfl,(λ j oj _ _ _=>⟨λ h=>absurd h.1 (by decide),λ h=>absurd h.2 (by decide)⟩)⟩)
     case s6=>
      refine stepW_val (v:=(.tuple #[.agg #[.int .u64 r.rnd,.string r.prev,.string r.txns,.string r.seed],.int .i64 0])) (λ _ _=>shape_refl _) (λ j vi vj w=>⟨λ h=>absurd h.1 (by decide),λ h=>absurd h.2 (by decide)⟩) (λ D av wv hE hO hD=>?_) (λ _=>rfl)
      have f99:=QEf av 99 (.tuple #[.agg #[.int .u64 r.rnd,.string r.prev,.string r.txns,.string r.seed],.int .i64 0]) (hD.1 rfl _ rfl)
      refine⟨rfl,?_⟩
      simp[go_sem,f99]
     case s7=>
      refine stepW_val (v:=(.agg #[.int .u64 r.rnd,.string r.prev,.string r.txns,.string r.seed])) (λ _ _=>shape_refl _) (λ j vi vj w=>⟨λ h=>absurd h.1 (by decide),λ h=>absurd h.2 (by decide)⟩) (λ D av wv hE hO hD=>?_) (λ _=>rfl)
      have f93:=QEf av 93 (.tuple #[.agg #[.int .u64 r.rnd,.string r.prev,.string r.txns,.string r.seed],.int .i64 0]) (hD.1 rfl _ rfl)
      refine⟨rfl,?_⟩
      simp[go_sem,f93]
     case s8=>
      refine stepW_val (v:=(.int .i64 0)) (λ _ _=>shape_refl _) (λ j vi vj w=>⟨λ h=>absurd h.1 (by decide),λ h=>absurd h.2 (by decide)⟩) (λ D av wv hE hO hD=>?_) (λ _=>rfl)
      have f93:=QEf av 93 (.tuple #[.agg #[.int .u64 r.rnd,.string r.prev,.string r.txns,.string r.seed],.int .i64 0]) (hD.1 rfl _ rfl)
      refine⟨rfl,?_⟩
      simp[go_sem,f93]
     case s9=>
      refine stepW_wp (λ D av wv hP hE hO hD=>?_)
      refine⟨rfl,?_⟩
      exact wp_of_run (v:=.pointer (some ⟨wv.heap.size,0,none⟩)) (w':=wv.alloc (.cells #[.int .u64 0,.string ⟨#[]⟩,.string ⟨#[]⟩,.string ⟨#[]⟩] 33)) (by simp[go_sem]) ⟨_,rfl,esF_ext (balloc (Ext_refl _) _),⟨wv.heap.size,_,rfl,(by have:=hE.ext.size;simpa using this),heap_alloc_new _ _,rfl⟩,λ j oj hj hd _=>⟨λ h=>by
       obtain rfl:=h.2
       cases hj
       exact absurd hd (hE.notyet 10 _ rfl ⟨9,.data⟩ (by simp) rfl hE.me),λ h=>absurd h.2 (by decide)⟩⟩
     case s10=>
      refine stepW_wp (λ D av wv hP hE hO hD=>?_)
      have d17:(λ u w'=>∃(c:Nat) (cs:Array Value),u=.pointer (some ⟨c,0,none⟩)∧W.heap.size≤c∧w'.heap[c]?=some (.cells cs 33 (0,0))∧cs.size=4) (av.eval (.tmp 17)) wv:=hD.1 rfl _ rfl;have f100:=QEf av 100 (.agg #[.int .u64 r.rnd,.string r.prev,.string r.txns,.string r.seed]) (hD.2.1 rfl _ rfl)
      refine⟨rfl,?_⟩
      obtain⟨c,cs,h1,h2,h3,h4⟩:=d17
      have fA:=(ev_form av 17).symm.trans h1
      match cs,h4,h3 with
      | ⟨[u0,u1,u2,u3]⟩,_,h3=>
       have q0:wv.cell? ⟨c,0,none⟩=some u0:=block_cell h3 0;have q1:wv.cell? ⟨c,1,none⟩=some u1:=block_cell h3 1;have q2:wv.cell? ⟨c,2,none⟩=some u2:=block_cell h3 2;have q3:wv.cell? ⟨c,3,none⟩=some u3:=block_cell h3 3;have hz:∀o,wv.frozen? ⟨c,o,none⟩=false:=block_free h3;have l0:c<wv.heap.size:=lt_of_block h3
       unfold Oper.wp
       simp[go_sem,fA,f100,hz,l0,q0,q1,q2,q3]
       refine⟨esF_put h2 (extB_setIn (extB_setIn (extB_setIn (extB_setIn (ExtB_refl _ _) 0 _) 1 _) 2 _) 3 _) (λ cs t fr hk=>⟨_,block_setCell (block_setCell (block_setCell (block_setCell hk _) _) _) _,by simp⟩),undef,trivial,λ j oj hj hd hne=>⟨λ h=>absurd h.1 (by decide),λ h c' hc'=>?_⟩⟩
       obtain rfl:=h.1
       cases hj
       have hcc:(Value.pointer (some ⟨c,0,none⟩))=.pointer (some ⟨c',0,none⟩):=h1.symm.trans hc'
       cases hcc
       exact block_setCell (block_setCell (block_setCell (block_setCell h3 (o:=0) _) (o:=1) _) (o:=2) _) (o:=3) _
     intro a' w' hE _ hO hall hpair
     have hA:=act_of_outer (ds:=[94,95,96,97,98,99,93,100,101,17]) rfl hO (by kernel_rfl);have e94:a'.eval (.tmp 94)=(.slice (some ⟨ag,ao,none⟩) (len L) ca):=hall.1 _ rfl;have e95:a'.eval (.tmp 95)=(.string rt):=hall.2.1 _ rfl;have e96:a'.eval (.tmp 96)=(.agg #[.int .u64 (F:Nat),.int .u64 X]):=hall.2.2.1 _ rfl;have e97:a'.eval (.tmp 97)=(.string s):=hall.2.2.2.1 _ rfl;have e98:a'.eval (.tmp 98)=(.slice pa (len P) pc):=hall.2.2.2.2.1 _ rfl;have e99:a'.eval (.tmp 99)=(.tuple #[.agg #[.int .u64 r.rnd,.string r.prev,.string r.txns,.string r.seed],.int .i64 0]):=hall.2.2.2.2.2.1 _ rfl;have e93:a'.eval (.tmp 93)=(.tuple #[.agg #[.int .u64 r.rnd,.string r.prev,.string r.txns,.string r.seed],.int .i64 0]):=hall.2.2.2.2.2.2.1 _ rfl;have e100:a'.eval (.tmp 100)=(.agg #[.int .u64 r.rnd,.string r.prev,.string r.txns,.string r.seed]):=hall.2.2.2.2.2.2.2.1 _ rfl;have e101:a'.eval (.tmp 101)=(.int .i64 0):=hall.2.2.2.2.2.2.2.2.1 _ rfl;have e17:(λ u w'=>∃(c:Nat) (cs:Array Value),u=.pointer (some ⟨c,0,none⟩)∧W.heap.size≤c∧w'.heap[c]?=some (.cells cs 33 (0,0))∧cs.size=4) (a'.eval (.tmp 17)) w':=hall.2.2.2.2.2.2.2.2.2.1 _ rfl;have z10:(λ _ _=>True) undef w':=hall.2.2.2.2.2.2.2.2.2.2.1 _ rfl;have hpx:∀c:Nat,a'.eval (.tmp 17)=.pointer (some ⟨c,0,none⟩)→w'.heap[c]?=some (.cells #[.int .u64 r.rnd,.string r.prev,.string r.txns,.string r.seed] 33 (0,0)):=λ c hc=>hpair 9 10 _ _ rfl rfl (by decide) (by decide) (by decide) ⟨rfl,rfl⟩ c hc;clear hpair
     obtain⟨v17,hv17⟩:∃v,a'.eval (.tmp 17)=v:=⟨_,rfl⟩
     rw[hv17]at e17 hpx
     simp only[List.foldl_cons,List.foldl_nil,Act.put,List.setIfInBounds_toArray,List.set_cons_succ,List.set_cons_zero,e94,e95,e96,e97,e98,e99,e93,e100,e101,hv17]at hA
     clear hO hall e94 e95 e96 e97 e98 e99 e93 e100 e101 hv17
     subst hA
     have e17:∃(c:Nat) (cs:Array Value),v17=.pointer (some ⟨c,0,none⟩)∧W.heap.size≤c∧w'.heap[c]?=some (.cells cs 33 (0,0))∧cs.size=4:=e17
     obtain⟨xb,cs9,rfl,-,-,-⟩:=e17
     have HXB:=Lib.hid (hpx xb rfl);have BW2:Hid (Below W.heap.size W w'):=Lib.hid (of_drewF hE);clear hE hpx c0 c1
     simp only[List.drop_succ_cons,List.drop_zero]
     go_upto_region 21 with fail
     have BWA:Hid (Below wr.heap.size wr w'):=Lib.hid (bnext BW.out BW2.out);have x0:w'.cell? ⟨xb,0,none⟩=some (.int .u64 r.rnd):=block_cell HXB.out 0;have x1:w'.cell? ⟨xb,1,none⟩=some (.string r.prev):=block_cell HXB.out 1;have x2:w'.cell? ⟨xb,2,none⟩=some (.string r.txns):=block_cell HXB.out 2;have x3:w'.cell? ⟨xb,3,none⟩=some (.string r.seed):=block_cell HXB.out 3
     obtain⟨_,_,he,⟨e0,e1,e2,e3⟩⟩:=((HH2.out.below HS.out).below BWA.out) m HLT.out
     cases he
     rw[HRE.out]at e0 e1 e2 e3
     have r1:(r.prev.toList == r.prev.toList)=true:=by rw[str_beq,decide_eq_true rfl]
     have r2:(r.txns.toList == r.txns.toList)=true:=by rw[str_beq,decide_eq_true rfl]
     have r3:(r.seed.toList == r.seed.toList)=true:=by rw[str_beq,decide_eq_true rfl]
     go_quiet (fail)
     clear x0 x1 x2 x3 e0 e1 e2 e3 r1 r2 r3
     go_upto_region 23 with fail
     obtain⟨V,hV⟩:∃V,w'.drewN nq=V:=⟨_,rfl⟩
     have BV2:Hid (Below w'.heap.size w' V):=Lib.hid (by rw[←hV];exact bdrewN (Below.refl _ _) _)
     rw[hV]
     clear hV;have BVA:Hid (Below wr.heap.size wr V):=Lib.hid (bnext BWA.out BV2.out);have BVX:Hid (Below x1.heap.size x1 V):=Lib.hid (bnext (bnext BW1.out BW2.out) BV2.out)
     obtain⟨Y,hY⟩:∃Y,r.rnd+1=Y:=⟨_,rfl⟩
     have HYU:Hid (U64 Y):=Lib.hid (by have:=HPR.out;have:=HRO.out.r0.1;exact⟨by omega,by omega⟩);have k2:IntKind.u64.wrap (r.rnd+1)=Y:=by rw[hY];have:=HYU.out;exact IntWalk.u64_in _ (by have:=HYU.out.1;have:=HYU.out.2;omega)
     rw[hY]at HN1
     clear hY;have HIN:Hid (∀wv,Below V.heap.size V wv→Calls Tryz.prog 57 #[.string rt,.agg #[.int .u64 Y,.int .u64 Y],.string s,.slice pa (len P) pc] wv λ e w'=>e=.returned (.tuple #[.agg #[.int .u64 0,.string ⟨#[]⟩,.string ⟨#[]⟩,.string ⟨#[]⟩],.int .i64 19])∧Below wv.heap.size wv w'):=Lib.hid (λ wv hb=>by
      have h:=ihis_any B rt Y Y s P pa pc wv (((HT2.out.below HS.out).below BVA.out).below hb) ((HPT.out.1.below BVX.out).below hb) (by have:=HPL.out;omega) HPT.out.2 HYU.out HYU.out (by have:=HSS.out;omega)
      unfold IsIs at h
      rw[show isH rt Y Y s P=header0 from if_neg (by rw[HN1.out];decide),HN1.out]at h
      exact h)
     have HRT:Hid (∀wv,Below V.heap.size V wv→Calls Tryz.prog 64 #[.slice (some ⟨ag,ao,none⟩) (len L) ca] wv λ e w'=>e=.returned (.string rt)∧Below wv.heap.size wv w'):=Lib.hid (λ wv hb=>HRT2.out wv (bnext BVA.out hb))
     obtain⟨_,_,he,⟨e0,-,-,-⟩⟩:=((HH2.out.below HS.out).below BVA.out) m HLT.out
     cases he
     rw[HRE.out]at e0
     have i1:(m:Int)<len L:=b0;have i2:m<len L:=HLT.out
     obtain⟨W,hW⟩:∃W,V=W:=⟨_,rfl⟩
     rw[hW]at BV2 BVA BVX HIN HRT e0 ⊢
     clear hW V
     refine wp_region_tailW 23 (FVO 22 W.heap.size) fvo_inj (λ _=>Shape) (λ _=>True) (FPR 21 22 #[.int .u64 0,.string ⟨#[]⟩,.string ⟨#[]⟩,.string ⟨#[]⟩] 33) (λ _ _=>shape_refl _) trivial (phis [λ u _=>u=(.slice (some ⟨ag,ao,none⟩) (len L) ca),λ u _=>u=(.string rt),λ u _=>u=(.slice (some ⟨g,o,none⟩) (len L) lc),λ u _=>u=(.int .i64 (m:Nat)),λ u _=>u=(.pointer (some ⟨g,o+m * 4,none⟩)),λ u _=>u=(.pointer (some ⟨g,o+m * 4,none⟩)),λ u _=>u=(.int .u64 r.rnd),λ u _=>u=(.int .u64 Y),λ u _=>u=(.slice (some ⟨g,o,none⟩) (len L) lc),λ u _=>u=(.int .i64 (m:Nat)),λ u _=>u=(.pointer (some ⟨g,o+m * 4,none⟩)),λ u _=>u=(.pointer (some ⟨g,o+m * 4,none⟩)),λ u _=>u=(.int .u64 r.rnd),λ u _=>u=(.int .u64 Y),λ u _=>u=(.agg #[.int .u64 Y,.int .u64 Y]),λ u _=>u=(.string s),λ u _=>u=(.slice pa (len P) pc),λ u _=>u=(.tuple #[.agg #[.int .u64 0,.string ⟨#[]⟩,.string ⟨#[]⟩,.string ⟨#[]⟩],.int .i64 19]),λ u _=>u=(.tuple #[.agg #[.int .u64 0,.string ⟨#[]⟩,.string ⟨#[]⟩,.string ⟨#[]⟩],.int .i64 19]),λ u _=>u=(.agg #[.int .u64 0,.string ⟨#[]⟩,.string ⟨#[]⟩,.string ⟨#[]⟩]),λ u _=>u=(.int .i64 19),λ u w'=>∃(c:Nat) (cs:Array Value),u=.pointer (some ⟨c,0,none⟩)∧W.heap.size≤c∧w'.heap[c]?=some (.cells cs 33 (0,0))∧cs.size=4,λ _ _=>True]) rfl (by kernel_rfl) (by kernel_rfl) (monoW_of ⟨monoW_eq,monoW_eq,monoW_eq,monoW_eq,monoW_eq,monoW_eq,monoW_eq,monoW_eq,monoW_eq,monoW_eq,monoW_eq,monoW_eq,monoW_eq,monoW_eq,monoW_eq,monoW_eq,monoW_eq,monoW_eq,monoW_eq,monoW_eq,monoW_eq,?m21,?m22,trivial⟩) (λ _ _ _ _ _=>trivial) fpr_mono (stepsW_of 23 ⟨?s0,?s1,?s2,?s3,?s4,?s5,?s6,?s7,?s8,?s9,?s10,?s11,?s12,?s13,?s14,?s15,?s16,?s17,?s18,?s19,?s20,?s21,?s22,trivial⟩) ?_
     case m21=>
      exact λ j hj u w1 w2 h ⟨c,cs,h1,h2,h3,h4⟩=>by obtain⟨cs',h5,h6⟩:=h.2 c cs _ _ h3;exact⟨c,cs',h1,h2,h5,h6.trans h4⟩
     case m22=>
      exact λ _ _ _ _ _ _ _=>trivial
     case s0=>
      refine stepW_val (v:=(.slice (some ⟨ag,ao,none⟩) (len L) ca)) (λ _ _=>shape_refl _) (λ j vi vj w=>⟨λ h=>absurd h.1 (by decide),λ h=>absurd h.2 (by decide)⟩) (λ D av wv hE hO hD=>?_) (λ _=>rfl)
      have f8:=QEf av 8 (.slice (some ⟨ag,ao,none⟩) (len L) ca) (hO.2.2 8 rfl)
      refine⟨rfl,?_⟩
      simp[go_sem,f8,i1,i2,k2]
     case s1=>
      refine stepW_wp (λ D av wv hP hE hO hD=>?_)
      have f113:=QEf av 113 (.slice (some ⟨ag,ao,none⟩) (len L) ca) (hD.1 rfl _ rfl)
      refine⟨rfl,?_⟩
      refine wp_of_call (v:=.string rt) (by simp[go_sem,f113]) (HRT.out wv (of_drewF hE.ext)) (λ w2 hb=>⟨_,rfl,esF_ext hb,rfl,(λ j oj _ _ _=>⟨λ h=>absurd h.1 (by decide),λ h=>absurd h.2 (by decide)⟩)⟩)
     case s2=>
      refine stepW_val (v:=(.slice (some ⟨g,o,none⟩) (len L) lc)) (λ _ _=>shape_refl _) (λ j vi vj w=>⟨λ h=>absurd h.1 (by decide),λ h=>absurd h.2 (by decide)⟩) (λ D av wv hE hO hD=>?_) (λ _=>rfl)
      have f7:=QEf av 7 (.slice (some ⟨g,o,none⟩) (len L) lc) (hO.2.2 7 rfl)
      refine⟨rfl,?_⟩
      simp[go_sem,f7,i1,i2,k2]
     case s3=>
      refine stepW_val (v:=(.int .i64 (m:Nat))) (λ _ _=>shape_refl _) (λ j vi vj w=>⟨λ h=>absurd h.1 (by decide),λ h=>absurd h.2 (by decide)⟩) (λ D av wv hE hO hD=>?_) (λ _=>rfl)
      have f12:=QEf av 12 (.int .i64 (m:Nat)) (hO.2.2 12 rfl)
      refine⟨rfl,?_⟩
      simp[go_sem,f12,i1,i2,k2]
     case s4=>
      refine stepW_val (v:=(.pointer (some ⟨g,o+m * 4,none⟩))) (λ _ _=>shape_refl _) (λ j vi vj w=>⟨λ h=>absurd h.1 (by decide),λ h=>absurd h.2 (by decide)⟩) (λ D av wv hE hO hD=>?_) (λ _=>rfl)
      have f115:=QEf av 115 (.slice (some ⟨g,o,none⟩) (len L) lc) (hD.1 rfl _ rfl);have f116:=QEf av 116 (.int .i64 (m:Nat)) (hD.2.1 rfl _ rfl)
      refine⟨rfl,?_⟩
      simp[go_sem,f115,f116,i1,i2,k2]
     case s5=>
      refine stepW_val (v:=(.pointer (some ⟨g,o+m * 4,none⟩))) (λ _ _=>shape_refl _) (λ j vi vj w=>⟨λ h=>absurd h.1 (by decide),λ h=>absurd h.2 (by decide)⟩) (λ D av wv hE hO hD=>?_) (λ _=>rfl)
      have f117:=QEf av 117 (.pointer (some ⟨g,o+m * 4,none⟩)) (hD.1 rfl _ rfl)
      refine⟨rfl,?_⟩
      simp[go_sem,f117,i1,i2,k2]
     case s6=>
      refine stepW_val (v:=(.int .u64 r.rnd)) (λ _ _=>shape_refl _) (λ j vi vj w=>⟨λ h=>absurd h.1 (by decide),λ h=>absurd h.2 (by decide)⟩) (λ D av wv hE hO hD=>?_) (λ _=>rfl)
      have f118:=QEf av 118 (.pointer (some ⟨g,o+m * 4,none⟩)) (hD.1 rfl _ rfl);have e0:=extF_cell hE.ext e0
      refine⟨rfl,?_⟩
      simp[go_sem,f118,e0,i1,i2,k2]
     case s7=>
      refine stepW_val (v:=(.int .u64 Y)) (λ _ _=>shape_refl _) (λ j vi vj w=>⟨λ h=>absurd h.1 (by decide),λ h=>absurd h.2 (by decide)⟩) (λ D av wv hE hO hD=>?_) (λ _=>rfl)
      have f119:=QEf av 119 (.int .u64 r.rnd) (hD.1 rfl _ rfl)
      refine⟨rfl,?_⟩
      simp[go_sem,f119,i1,i2,k2]
     case s8=>
      refine stepW_val (v:=(.slice (some ⟨g,o,none⟩) (len L) lc)) (λ _ _=>shape_refl _) (λ j vi vj w=>⟨λ h=>absurd h.1 (by decide),λ h=>absurd h.2 (by decide)⟩) (λ D av wv hE hO hD=>?_) (λ _=>rfl)
      have f7:=QEf av 7 (.slice (some ⟨g,o,none⟩) (len L) lc) (hO.2.2 7 rfl)
      refine⟨rfl,?_⟩
      simp[go_sem,f7,i1,i2,k2]
     case s9=>
      refine stepW_val (v:=(.int .i64 (m:Nat))) (λ _ _=>shape_refl _) (λ j vi vj w=>⟨λ h=>absurd h.1 (by decide),λ h=>absurd h.2 (by decide)⟩) (λ D av wv hE hO hD=>?_) (λ _=>rfl)
      have f12:=QEf av 12 (.int .i64 (m:Nat)) (hO.2.2 12 rfl)
      refine⟨rfl,?_⟩
      simp[go_sem,f12,i1,i2,k2]
     case s10=>
      refine stepW_val (v:=(.pointer (some ⟨g,o+m * 4,none⟩))) (λ _ _=>shape_refl _) (λ j vi vj w=>⟨λ h=>absurd h.1 (by decide),λ h=>absurd h.2 (by decide)⟩) (λ D av wv hE hO hD=>?_) (λ _=>rfl)
      have f121:=QEf av 121 (.slice (some ⟨g,o,none⟩) (len L) lc) (hD.1 rfl _ rfl);have f122:=QEf av 122 (.int .i64 (m:Nat)) (hD.2.1 rfl _ rfl)
      refine⟨rfl,?_⟩
      simp[go_sem,f121,f122,i1,i2,k2]
     case s11=>
      refine stepW_val (v:=(.pointer (some ⟨g,o+m * 4,none⟩))) (λ _ _=>shape_refl _) (λ j vi vj w=>⟨λ h=>absurd h.1 (by decide),λ h=>absurd h.2 (by decide)⟩) (λ D av wv hE hO hD=>?_) (λ _=>rfl)
      have f123:=QEf av 123 (.pointer (some ⟨g,o+m * 4,none⟩)) (hD.1 rfl _ rfl)
      refine⟨rfl,?_⟩
      simp[go_sem,f123,i1,i2,k2]
     case s12=>
      refine stepW_val (v:=(.int .u64 r.rnd)) (λ _ _=>shape_refl _) (λ j vi vj w=>⟨λ h=>absurd h.1 (by decide),λ h=>absurd h.2 (by decide)⟩) (λ D av wv hE hO hD=>?_) (λ _=>rfl)
      have f124:=QEf av 124 (.pointer (some ⟨g,o+m * 4,none⟩)) (hD.1 rfl _ rfl);have e0:=extF_cell hE.ext e0
      refine⟨rfl,?_⟩
      simp[go_sem,f124,e0,i1,i2,k2]
     case s13=>
      refine stepW_val (v:=(.int .u64 Y)) (λ _ _=>shape_refl _) (λ j vi vj w=>⟨λ h=>absurd h.1 (by decide),λ h=>absurd h.2 (by decide)⟩) (λ D av wv hE hO hD=>?_) (λ _=>rfl)
      have f125:=QEf av 125 (.int .u64 r.rnd) (hD.1 rfl _ rfl)
      refine⟨rfl,?_⟩
      simp[go_sem,f125,i1,i2,k2]
     case s14=>
      refine stepW_val (v:=(.agg #[.int .u64 Y,.int .u64 Y])) (λ _ _=>shape_refl _) (λ j vi vj w=>⟨λ h=>absurd h.1 (by decide),λ h=>absurd h.2 (by decide)⟩) (λ D av wv hE hO hD=>?_) (λ _=>rfl)
      have f120:=QEf av 120 (.int .u64 Y) (hD.1 rfl _ rfl);have f126:=QEf av 126 (.int .u64 Y) (hD.2.1 rfl _ rfl)
      refine⟨rfl,?_⟩
      simp[go_sem,f120,f126,i1,i2,k2]
     case s15=>
      refine stepW_val (v:=(.string s)) (λ _ _=>shape_refl _) (λ j vi vj w=>⟨λ h=>absurd h.1 (by decide),λ h=>absurd h.2 (by decide)⟩) (λ D av wv hE hO hD=>?_) (λ _=>rfl)
      have f13:=QEf av 13 (.string s) (hO.2.2 13 rfl)
      refine⟨rfl,?_⟩
      simp[go_sem,f13,i1,i2,k2]
     case s16=>
      refine stepW_val (v:=(.slice pa (len P) pc)) (λ _ _=>shape_refl _) (λ j vi vj w=>⟨λ h=>absurd h.1 (by decide),λ h=>absurd h.2 (by decide)⟩) (λ D av wv hE hO hD=>?_) (λ _=>rfl)
      have f14:=QEf av 14 (.slice pa (len P) pc) (hO.2.2 14 rfl)
      refine⟨rfl,?_⟩
      simp[go_sem,f14,i1,i2,k2]
     case s17=>
      refine stepW_wp (λ D av wv hP hE hO hD=>?_)
      have f114:=QEf av 114 (.string rt) (hD.1 rfl _ rfl);have f127:=QEf av 127 (.agg #[.int .u64 Y,.int .u64 Y]) (hD.2.1 rfl _ rfl);have f128:=QEf av 128 (.string s) (hD.2.2.1 rfl _ rfl);have f129:=QEf av 129 (.slice pa (len P) pc) (hD.2.2.2.1 rfl _ rfl)
      refine⟨rfl,?_⟩
      refine wp_of_call (v:=.tuple #[.agg #[.int .u64 0,.string ⟨#[]⟩,.string ⟨#[]⟩,.string ⟨#[]⟩],.int .i64 19]) (by simp[go_sem,f114,f127,f128,f129]) (HIN.out wv (of_drewF hE.ext)) (λ w2 hb=>⟨_,rfl,esF_ext hb,rfl,(λ j oj _ _ _=>⟨λ h=>absurd h.1 (by decide),λ h=>absurd h.2 (by decide)⟩)⟩)
     case s18=>
      refine stepW_val (v:=(.tuple #[.agg #[.int .u64 0,.string ⟨#[]⟩,.string ⟨#[]⟩,.string ⟨#[]⟩],.int .i64 19])) (λ _ _=>shape_refl _) (λ j vi vj w=>⟨λ h=>absurd h.1 (by decide),λ h=>absurd h.2 (by decide)⟩) (λ D av wv hE hO hD=>?_) (λ _=>rfl)
      have f130:=QEf av 130 (.tuple #[.agg #[.int .u64 0,.string ⟨#[]⟩,.string ⟨#[]⟩,.string ⟨#[]⟩],.int .i64 19]) (hD.1 rfl _ rfl)
      refine⟨rfl,?_⟩
      simp[go_sem,f130,i1,i2,k2]
     case s19=>
      refine stepW_val (v:=(.agg #[.int .u64 0,.string ⟨#[]⟩,.string ⟨#[]⟩,.string ⟨#[]⟩])) (λ _ _=>shape_refl _) (λ j vi vj w=>⟨λ h=>absurd h.1 (by decide),λ h=>absurd h.2 (by decide)⟩) (λ D av wv hE hO hD=>?_) (λ _=>rfl)
      have f112:=QEf av 112 (.tuple #[.agg #[.int .u64 0,.string ⟨#[]⟩,.string ⟨#[]⟩,.string ⟨#[]⟩],.int .i64 19]) (hD.1 rfl _ rfl)
      refine⟨rfl,?_⟩
      simp[go_sem,f112,i1,i2,k2]
     case s20=>
      refine stepW_val (v:=(.int .i64 19)) (λ _ _=>shape_refl _) (λ j vi vj w=>⟨λ h=>absurd h.1 (by decide),λ h=>absurd h.2 (by decide)⟩) (λ D av wv hE hO hD=>?_) (λ _=>rfl)
      have f112:=QEf av 112 (.tuple #[.agg #[.int .u64 0,.string ⟨#[]⟩,.string ⟨#[]⟩,.string ⟨#[]⟩],.int .i64 19]) (hD.1 rfl _ rfl)
      refine⟨rfl,?_⟩
      simp[go_sem,f112,i1,i2,k2]
     case s21=>
      refine stepW_wp (λ D av wv hP hE hO hD=>?_)
      refine⟨rfl,?_⟩
      exact wp_of_run (v:=.pointer (some ⟨wv.heap.size,0,none⟩)) (w':=wv.alloc (.cells #[.int .u64 0,.string ⟨#[]⟩,.string ⟨#[]⟩,.string ⟨#[]⟩] 33)) (by simp[go_sem]) ⟨_,rfl,esF_ext (balloc (Ext_refl _) _),⟨wv.heap.size,_,rfl,(by have:=hE.ext.size;simpa using this),heap_alloc_new _ _,rfl⟩,λ j oj hj hd _=>⟨λ h=>by
       obtain rfl:=h.2
       cases hj
       exact absurd hd (hE.notyet 22 _ rfl ⟨21,.data⟩ (by simp) rfl hE.me),λ h=>absurd h.2 (by decide)⟩⟩
     case s22=>
      refine stepW_wp (λ D av wv hP hE hO hD=>?_)
      have d19:(λ u w'=>∃(c:Nat) (cs:Array Value),u=.pointer (some ⟨c,0,none⟩)∧W.heap.size≤c∧w'.heap[c]?=some (.cells cs 33 (0,0))∧cs.size=4) (av.eval (.tmp 19)) wv:=hD.1 rfl _ rfl;have f131:=QEf av 131 (.agg #[.int .u64 0,.string ⟨#[]⟩,.string ⟨#[]⟩,.string ⟨#[]⟩]) (hD.2.1 rfl _ rfl)
      refine⟨rfl,?_⟩
      obtain⟨c,cs,h1,h2,h3,h4⟩:=d19
      have fA:=(ev_form av 19).symm.trans h1
      match cs,h4,h3 with
      | ⟨[u0,u1,u2,u3]⟩,_,h3=>
       have q0:wv.cell? ⟨c,0,none⟩=some u0:=block_cell h3 0;have q1:wv.cell? ⟨c,1,none⟩=some u1:=block_cell h3 1;have q2:wv.cell? ⟨c,2,none⟩=some u2:=block_cell h3 2;have q3:wv.cell? ⟨c,3,none⟩=some u3:=block_cell h3 3;have hz:∀o,wv.frozen? ⟨c,o,none⟩=false:=block_free h3;have l0:c<wv.heap.size:=lt_of_block h3
       unfold Oper.wp
       simp[go_sem,fA,f131,hz,l0,q0,q1,q2,q3]
       refine⟨esF_put h2 (extB_setIn (extB_setIn (extB_setIn (extB_setIn (ExtB_refl _ _) 0 _) 1 _) 2 _) 3 _) (λ cs t fr hk=>⟨_,block_setCell (block_setCell (block_setCell (block_setCell hk _) _) _) _,by simp⟩),undef,trivial,λ j oj hj hd hne=>⟨λ h=>absurd h.1 (by decide),λ h c' hc'=>?_⟩⟩
       obtain rfl:=h.1
       cases hj
       have hcc:(Value.pointer (some ⟨c,0,none⟩))=.pointer (some ⟨c',0,none⟩):=h1.symm.trans hc'
       cases hcc
       exact block_setCell (block_setCell (block_setCell (block_setCell h3 (o:=0) _) (o:=1) _) (o:=2) _) (o:=3) _
     intro a' w' hE _ hO hall hpair
     have hA:=act_of_outer (ds:=[113,114,115,116,117,118,119,120,121,122,123,124,125,126,127,128,129,130,112,131,132,19]) rfl hO (by kernel_rfl)
     obtain⟨j0,j1,j2,j3,j4,j5,j6,j7,j8,j9,j10,j11,j12,j13,j14,j15,j16,j17,j18,j19,j20,j21,j22,_⟩:=hall
     have e113:a'.eval (.tmp 113)=(.slice (some ⟨ag,ao,none⟩) (len L) ca):=j0 _ rfl;have e114:a'.eval (.tmp 114)=(.string rt):=j1 _ rfl;have e115:a'.eval (.tmp 115)=(.slice (some ⟨g,o,none⟩) (len L) lc):=j2 _ rfl;have e116:a'.eval (.tmp 116)=(.int .i64 (m:Nat)):=j3 _ rfl;have e117:a'.eval (.tmp 117)=(.pointer (some ⟨g,o+m * 4,none⟩)):=j4 _ rfl;have e118:a'.eval (.tmp 118)=(.pointer (some ⟨g,o+m * 4,none⟩)):=j5 _ rfl;have e119:a'.eval (.tmp 119)=(.int .u64 r.rnd):=j6 _ rfl;have e120:a'.eval (.tmp 120)=(.int .u64 Y):=j7 _ rfl;have e121:a'.eval (.tmp 121)=(.slice (some ⟨g,o,none⟩) (len L) lc):=j8 _ rfl;have e122:a'.eval (.tmp 122)=(.int .i64 (m:Nat)):=j9 _ rfl;have e123:a'.eval (.tmp 123)=(.pointer (some ⟨g,o+m * 4,none⟩)):=j10 _ rfl;have e124:a'.eval (.tmp 124)=(.pointer (some ⟨g,o+m * 4,none⟩)):=j11 _ rfl;have e125:a'.eval (.tmp 125)=(.int .u64 r.rnd):=j12 _ rfl;have e126:a'.eval (.tmp 126)=(.int .u64 Y):=j13 _ rfl;have e127:a'.eval (.tmp 127)=(.agg #[.int .u64 Y,.int .u64 Y]):=j14 _ rfl;have e128:a'.eval (.tmp 128)=(.string s):=j15 _ rfl;have e129:a'.eval (.tmp 129)=(.slice pa (len P) pc):=j16 _ rfl;have e130:a'.eval (.tmp 130)=(.tuple #[.agg #[.int .u64 0,.string ⟨#[]⟩,.string ⟨#[]⟩,.string ⟨#[]⟩],.int .i64 19]):=j17 _ rfl;have e112:a'.eval (.tmp 112)=(.tuple #[.agg #[.int .u64 0,.string ⟨#[]⟩,.string ⟨#[]⟩,.string ⟨#[]⟩],.int .i64 19]):=j18 _ rfl;have e131:a'.eval (.tmp 131)=(.agg #[.int .u64 0,.string ⟨#[]⟩,.string ⟨#[]⟩,.string ⟨#[]⟩]):=j19 _ rfl;have e132:a'.eval (.tmp 132)=(.int .i64 19):=j20 _ rfl;have e19:(λ u w'=>∃(c:Nat) (cs:Array Value),u=.pointer (some ⟨c,0,none⟩)∧W.heap.size≤c∧w'.heap[c]?=some (.cells cs 33 (0,0))∧cs.size=4) (a'.eval (.tmp 19)) w':=j21 _ rfl;have z22:(λ _ _=>True) undef w':=j22 _ rfl;have hpx:∀c:Nat,a'.eval (.tmp 19)=.pointer (some ⟨c,0,none⟩)→w'.heap[c]?=some (.cells #[.int .u64 0,.string ⟨#[]⟩,.string ⟨#[]⟩,.string ⟨#[]⟩] 33 (0,0)):=λ c hc=>hpair 21 22 _ _ rfl rfl (by decide) (by decide) (by decide) ⟨rfl,rfl⟩ c hc;clear hpair
     obtain⟨v19,hv19⟩:∃v,a'.eval (.tmp 19)=v:=⟨_,rfl⟩
     rw[hv19]at e19 hpx
     simp only[List.foldl_cons,List.foldl_nil,Act.put,List.setIfInBounds_toArray,List.set_cons_succ,List.set_cons_zero,e113,e114,e115,e116,e117,e118,e119,e120,e121,e122,e123,e124,e125,e126,e127,e128,e129,e130,e112,e131,e132,hv19]at hA
     clear hO j22 j0 j1 j2 j3 j4 j5 j6 j7 j8 j9 j10 j11 j12 j13 j14 j15 j16 j17 j18 j19 j20 j21 e113 e114 e115 e116 e117 e118 e119 e120 e121 e122 e123 e124 e125 e126 e127 e128 e129 e130 e112 e131 e132 hv19
     subst hA
     have e19:∃(c:Nat) (cs:Array Value),v19=.pointer (some ⟨c,0,none⟩)∧W.heap.size≤c∧w'.heap[c]?=some (.cells cs 33 (0,0))∧cs.size=4:=e19
     obtain⟨xb2,cs2,rfl,-,-,-⟩:=e19
     have BX2:Hid (Below W.heap.size W w'):=Lib.hid (of_drewF hE);clear hE hpx e0 k2
     simp only[List.drop_succ_cons,List.drop_zero]
     have hll:=HLN.out
     go_wp2
     go_roundg (gk - 1)
     case rel=>exact⟨m+1,by have:=HMM.out;omega,by go_num,Lib.hid (bnext HS.out (bnext BVA.out BX2.out))⟩
     case measure=>have:=HMM.out;omega
    ·obtain rfl:m=len L:=by omega
     have b0:¬((len L:Nat):Int)<(len L:Nat):=by omega
     obtain⟨wy,hwy⟩:∃wy,wy=wr:=⟨_,rfl⟩
     subst hwy
     have B3:Hid (Below w.heap.size w wy):=Lib.hid (bnext (bnext B1.out B2.out) HS.out);have HB3:=Lib.hid (HBS.out.below B3.out);have HT3:=Lib.hid (HT.out.below B3.out);clear HS
     go_wp2
     go_loopg [22,21] 20 (λ gg i v wr=>∃(m:Nat) (Lb:List ByteArray),gg+m=20∧i=.int .i64 (m:Nat)∧Hid (Below wy.heap.size wy wr)∧Hid (wr.ownsRow wy.heap.size 9 1 v (len Lb) (Lb.map Value.string))∧Hid (len Lb≤m∧m≤len bs∧∀x ∈ Lb,BodyOk x))
     case atStart=>exact⟨0,[],rfl,rfl,Lib.hid (Below.refl _ _),Lib.hid (World.ownsRow_nil _ _ _ _),Lib.hid ⟨Nat.le_refl _,Nat.zero_le _,λ x hx=>by cases hx⟩⟩
     case round=>
      obtain⟨m,Lb,hm,rfl,HW,HOW,HI⟩:=hrel
      by_cases hin:m<len bs∧m<20
      ·obtain⟨hlt,h20⟩:=hin
       have b1:(m:Int)<len bs:=by omega
       have b2:(m:Int)<20:=by omega
       obtain⟨pb,po,rfl,cs⟩:=(HB3.out.below HW.out) m hlt
       obtain⟨x,hx⟩:∃x,tth bs m=x:=⟨_,rfl⟩
       rw[hx]at cs
       obtain⟨k,hk⟩:∃k:Nat,min x.size 64=k:=⟨_,rfl⟩
       have HK:Hid (k≤64∧k≤x.size):=Lib.hid (by omega);have kx:¬x.size<k:=by omega
       have mk:min ((x.size:Nat):Int) 64=((k:Nat):Int):=by omega
       have bl:¬len bs≤m:=by omega
       have HM9:=Lib.hid hm;have H20:=Lib.hid h20;have HLT9:=Lib.hid hlt;clear hx hk hm h20 hlt
       go_upto_region 30 with fail
       refine wp_region_all 1000 (none) (phis (List.map qv [.slice (some ⟨pb,po,none⟩) (len bs) bc,.int .i64 (m:Nat),.pointer (some ⟨pb,po+m,none⟩),.string x,.slice (some ⟨pb,po,none⟩) (len bs) bc,.int .i64 (m:Nat),.pointer (some ⟨pb,po+m,none⟩),.string x,.int .i64 (x.size:Nat),.int .i64 (k:Nat),.string (x.extract 0 k),.string (x.extract 0 k)])) rfl (by kernel_rfl) (mono_of mono_qv) (steps_of 12 ⟨?s0,?s1,?s2,?s3,?s4,?s5,?s6,?s7,?s8,?s9,?s10,?s11,trivial⟩) ?_
       case s0=>
        refine qV (λ _=>rfl) rfl λ av wv hE hO hD=>?_
        simp[go_sem,qF av 2 (.slice (some ⟨pb,po,none⟩) (len bs) bc) (hO.2.2 2 rfl),bl,mk,kx]
       case s1=>
        refine qV (λ _=>rfl) rfl λ av wv hE hO hD=>?_
        simp[go_sem,qF av 22 (.int .i64 (m:Nat)) (hO.2.2 22 rfl),bl,mk,kx]
       case s2=>
        refine qV (λ _=>rfl) rfl λ av wv hE hO hD=>?_
        simp[go_sem,qE (hD.1 rfl _ rfl),qE (hD.2.1 rfl _ rfl),bl,mk,kx]
       case s3=>
        refine qV (λ _=>rfl) rfl λ av wv hE hO hD=>?_
        simp[go_sem,qE (hD.1 rfl _ rfl),extB_cell hE (by simp) cs,bl,mk,kx]
       case s4=>
        refine qV (λ _=>rfl) rfl λ av wv hE hO hD=>?_
        simp[go_sem,qF av 2 (.slice (some ⟨pb,po,none⟩) (len bs) bc) (hO.2.2 2 rfl),bl,mk,kx]
       case s5=>
        refine qV (λ _=>rfl) rfl λ av wv hE hO hD=>?_
        simp[go_sem,qF av 22 (.int .i64 (m:Nat)) (hO.2.2 22 rfl),bl,mk,kx]
       case s6=>
        refine qV (λ _=>rfl) rfl λ av wv hE hO hD=>?_
        simp[go_sem,qE (hD.1 rfl _ rfl),qE (hD.2.1 rfl _ rfl),bl,mk,kx]
       case s7=>
        refine qV (λ _=>rfl) rfl λ av wv hE hO hD=>?_
        simp[go_sem,qE (hD.1 rfl _ rfl),extB_cell hE (by simp) cs,bl,mk,kx]
       case s8=>
        refine qV (λ _=>rfl) rfl λ av wv hE hO hD=>?_
        simp[go_sem,qE (hD.1 rfl _ rfl),bl,mk,kx]
       case s9=>
        refine qV (λ _=>rfl) rfl λ av wv hE hO hD=>?_
        simp[go_sem,qE (hD.1 rfl _ rfl),bl,mk,kx]
       case s10=>
        refine qV (λ _=>rfl) rfl λ av wv hE hO hD=>?_
        simp[go_sem,qE (hD.1 rfl _ rfl),qE (hD.2.1 rfl _ rfl),bl,mk,kx]
       case s11=>
        refine qV (λ _=>rfl) rfl λ av wv hE hO hD=>?_
        simp[go_sem,qE (hD.1 rfl _ rfl),bl,mk,kx]
       intro a' w' hE hO hall
       have hA:=act_of_outer (ds:=[145,146,147,148,149,150,151,152,153,154,155,23]) rfl hO (by kernel_rfl)
       obtain⟨j0,j1,j2,j3,j4,j5,j6,j7,j8,j9,j10,j11,-⟩:=hall
       simp only[List.foldl_cons,List.foldl_nil,Act.put,List.setIfInBounds_toArray,List.set_cons_succ,List.set_cons_zero,qJ 145 (j0 _ rfl),qJ 146 (j1 _ rfl),qJ 147 (j2 _ rfl),qJ 148 (j3 _ rfl),qJ 149 (j4 _ rfl),qJ 150 (j5 _ rfl),qJ 151 (j6 _ rfl),qJ 152 (j7 _ rfl),qJ 153 (j8 _ rfl),qJ 154 (j9 _ rfl),qJ 155 (j10 _ rfl),qJ 23 (j11 _ rfl)]at hA
       clear hO j0 j1 j2 j3 j4 j5 j6 j7 j8 j9 j10 j11
       subst hA
       have BW9:Hid (Below wr.heap.size wr w'):=Lib.hid (of_drew hE);have HO9:=Lib.hid (own_below HOW.out BW9.out);clear hE cs kx mk bl
       obtain⟨t,ht⟩:∃t,x.extract 0 k=t:=⟨_,rfl⟩
       have HTS:Hid (t.size=k):=Lib.hid (by rw[←ht,ByteArray.size_extract];have:=HK.out;omega)
       rw[ht]
       clear ht
       by_cases ht0:t.size=0
       ·have te:t.toList.isEmpty=true:=by rw[emptyB,decide_eq_true ht0]
        clear ht0
        go_wp2
        go_roundg (gk - 1)
        case rel=>exact⟨m+1,Lb,by have:=HM9.out;have:=H20.out;omega,by have:=H20.out;go_num,Lib.hid (bnext HW.out BW9.out),HO9,Lib.hid ⟨Nat.le_succ_of_le HI.out.1,HLT9.out,HI.out.2.2⟩⟩
        case measure=>have:=HM9.out;have:=H20.out;omega
       ·have te:t.toList.isEmpty=false:=by rw[emptyB,decide_eq_false ht0]
        have HBO:Hid (BodyOk t):=Lib.hid ⟨by omega,by rw[HTS.out];exact HK.out.1⟩;clear ht0
        go_wp2_with (at_builtin;refine wpList_append_own _ rfl _ _ 36 rfl wy.heap.size 9 i0 (.string ⟨#[]⟩) 1 16 Tryz.underlying36 hi HZ.out hz1 hz2 rfl (by decide) _ _ _ rfl (HO9.out.alloc _) ⟨w'.heap.size,0,none⟩ 1 1 [.string t] rfl rfl ?c1 ?c2 ?c3 ?c4 ?c5 ?_)
        case c1=>exact World.news_of_block (alloc_new_at _ rfl)
        case c2=>intro u hu;simp at hu;subst hu;rfl
        case c3=>unfold maxLen;have:=HI.out.1;have:=H20.out;omega
        case c4=>have:=HI.out.1;have:=H20.out;omega
        case c5=>have:=HW.out.size;have:=BW9.out.size;simp;omega
        intro v' w3 hown' hgrow _
        have HBN9:Hid (Below wy.heap.size wy w3):=Lib.hid (grownBy_below (balloc (bnext HW.out BW9.out) _) hgrow (λ k hk=>(HO9.out.lt k hk).1));have HON9:Hid (w3.ownsRow wy.heap.size 9 1 v' (len (Lb++[t])) ((Lb++[t]).map Value.string)):=Lib.hid (by
         rw[List.map_append,len_appT,show len [t]=1 from rfl];exact hown')
        clear hown' hgrow
        go_wp2
        go_roundg (gk - 1)
        case rel=>exact⟨m+1,Lb++[t],by have:=HM9.out;have:=H20.out;omega,by have:=H20.out;go_num,HBN9,HON9,Lib.hid ⟨by rw[len_appT,show len [t]=1 from rfl];have:=HI.out.1;omega,HLT9.out,λ y hy=>by
         rcases List.mem_append.1 hy with h | h
         ·exact HI.out.2.2 y h
         ·rw[List.mem_singleton.1 h];exact HBO.out⟩⟩
        case measure=>have:=HM9.out;have:=H20.out;omega
      ·have hex:(¬(m:Int)<len bs) ∨ ((m:Int)<len bs∧¬(m:Int)<20):=by omega
       have HI9:Hid (len Lb≤20∧∀x ∈ Lb,BodyOk x):=Lib.hid ⟨by have:=HI.out;omega,HI.out.2.2⟩;have HBI:Hid (∀i,i<len Lb→0<(tth Lb i).size∧(tth Lb i).size≤64):=Lib.hid (λ i hi=>by rw[tth_eq Lb i hi];exact HI9.out.2 _ (List.getElem_mem hi))
       obtain⟨lb,lc9,rfl,htl,-,-⟩:=TextsAre.own HOW.out
       have HTL:=Lib.hid htl
       obtain⟨wx,hwx⟩:∃wx,wx=wr:=⟨_,rfl⟩
       subst hwx
       have B4:Hid (Below w.heap.size w wx):=Lib.hid (bnext B3.out HW.out);clear htl hin hm HI
       rcases hex with h1 | ⟨h1,h2⟩
       all_goals
        go_wp2
        go_loopg [24] (len Lb) (λ gg i wr=>∃m:Nat,gg+m=len Lb∧i=.int .i64 (m:Nat)∧Hid (Below wx.heap.size wx wr))
        case atStart=>exact⟨0,rfl,rfl,Lib.hid (Below.refl _ _)⟩
        case round=>
         obtain⟨m,hm,rfl,HW⟩:=hrel
         by_cases hlt:m<len Lb
         ·have b1:(m:Int)<len Lb:=by omega
          have b2:m<len Lb:=hlt;have HBD:Hid (bdOk Lb=true):=Lib.hid (bdOk_of (by omega) (by have:=HI9.out.1;omega) HBI.out);have HTW:=Lib.hid (HTL.out.below HW.out);have HIT:=Lib.hid (itxn_any Lb lb lc9 (m:Nat) wr HTW.out (by have:=HI9.out.1;omega) (λ i hi=>Nat.le_trans (HBI.out i hi).2 (by decide)))
          unfold ItIs at HIT
          rw[(it_some HBD.out hlt).1,(it_some HBD.out hlt).2]at HIT
          have HTY:=Lib.hid (ti_yes hlt (by have:=HI9.out.1;omega) (HBI.out m hlt))
          obtain⟨P,hP⟩:∃P,oneD Lb m=P:=⟨_,rfl⟩
          have HPL:Hid (len P≤16):=Lib.hid (by rw[←hP,oneD_len (by have:=HI9.out.1;omega)];exact depN_le (by have:=HI9.out.1;omega))
          rw[hP]at HIT HTY
          obtain⟨rt,hrt⟩:∃rt,treeR Lb=rt:=⟨_,rfl⟩
          rw[hrt]at HTY
          obtain⟨g,o,rfl,cs⟩:=HTW.out m hlt
          obtain⟨x,hx⟩:∃x,tth Lb m=x:=⟨_,rfl⟩
          have HXS:Hid (x.size≤64):=Lib.hid (by rw[←hx];exact(HBI.out m hlt).2)
          rw[hx]at HTY
          have HXE:=Lib.hid hx;have HM9:=Lib.hid hm;have HLT9:=Lib.hid hlt;have HRTE:=Lib.hid hrt;clear hP hrt hx hm hlt cs
          go_wp2_with fail
          refine HIT.out.mono ?_
          rintro e x1 ⟨v,rfl,hv,hb⟩
          obtain⟨pa,pc,rfl,hpt,hpc,-⟩:=hv
          have BX1:=Lib.hid hb;have HPT:=Lib.hid (And.intro hpt hpc)
          obtain⟨_,_,he,cs⟩:=(HTW.out.below hb) m HLT9.out
          cases he
          rw[HXE.out]at cs
          have k1:IntKind.u64.wrap ((m:Nat):Int)=((m:Nat):Int):=by have:=HI9.out.1;exact IntWalk.u64_in _ (by omega)
          have k2:IntKind.u64.wrap ((len Lb:Nat):Int)=((len Lb:Nat):Int):=by have:=HI9.out.1;exact IntWalk.u64_in _ (by omega)
          have i1:(m:Int)<len Lb:=b1;have i2:m<len Lb:=b2;have HRT:Hid (∀wv,Below x1.heap.size x1 wv→Calls Tryz.prog 64 #[.slice (some ⟨g,o,none⟩) (len Lb) lc9] wv λ e w'=>e=.returned (.string rt)∧Below wv.heap.size wv w'):=Lib.hid (λ wv hb=>by
           rw[←HRTE.out]
           exact lroot27_any Lb (some ⟨g,o,none⟩) lc9 wv ((HTW.out.below BX1.out).below hb) (by have:=HI9.out.1;omega) (λ i hi=>Nat.le_trans (HBI.out i hi).2 (by decide)))
          have HTI:Hid (∀wv,Below x1.heap.size x1 wv→Calls Tryz.prog 62 #[.string rt,.agg #[.int .u64 (m:Nat),.int .u64 (len Lb:Nat)],.string x,.slice pa (len P) pc] wv λ e w'=>e=.returned (.int .i64 0)∧Below wv.heap.size wv w'):=Lib.hid (λ wv hb=>by
           have h:=itis_any rt (m:Nat) (len Lb:Nat) x P pa pc wv (HPT.out.1.below hb) (by have:=HPL.out;omega) HPT.out.2 ⟨by omega,by have:=HI9.out.1;omega⟩ ⟨by omega,by have:=HI9.out.1;omega⟩ (by have:=HXS.out;omega)
           rw[HTY.out]at h
           exact h)
          clear hb hpt hpc HIT
          go_upto_region 37 with fail
          refine wp_region_all 1000 (none) (phis (List.map qv [.int .i64 0,.bool false,.bool false,.slice (some ⟨g,o,none⟩) (len Lb) lc9,.string rt,.int .i64 (m:Nat),.int .u64 (m:Nat),.slice (some ⟨g,o,none⟩) (len Lb) lc9,.int .i64 (len Lb:Nat),.int .u64 (len Lb:Nat),.agg #[.int .u64 (m:Nat),.int .u64 (len Lb:Nat)],.slice (some ⟨g,o,none⟩) (len Lb) lc9,.int .i64 (m:Nat),.pointer (some ⟨g,o+m,none⟩),.string x,.slice pa (len P) pc,.int .i64 0,.bool false,.bool false])) rfl (by kernel_rfl) (mono_of mono_qv) (steps_of 19 ⟨?s0,?s1,?s2,?s3,?s4,?s5,?s6,?s7,?s8,?s9,?s10,?s11,?s12,?s13,?s14,?s15,?s16,?s17,?s18,trivial⟩) ?_
          case s0=>
           refine qV (λ _=>rfl) rfl λ av wv hE hO hD=>?_
           simp[go_sem,qF av 26 (.int .i64 0) (hO.2.2 26 rfl),i1,i2,k1,k2]
          case s1=>
           refine qV (λ _=>rfl) rfl λ av wv hE hO hD=>?_
           simp[go_sem,qE (hD.1 rfl _ rfl),i1,i2,k1,k2]
          case s2=>
           refine qV (λ _=>rfl) rfl λ av wv hE hO hD=>?_
           simp[go_sem,qE (hD.1 rfl _ rfl),i1,i2,k1,k2]
          case s3=>
           refine step_val (λ av wv hE hS hO hD=>⟨(wY rfl rfl rfl (hD.1 rfl _ rfl)),?_⟩) (λ _=>rfl)
           simp[go_sem,qF av 21 (.slice (some ⟨g,o,none⟩) (len Lb) lc9) (hO.2.2 21 rfl),qE (hD.1 rfl _ rfl),i1,i2,k1,k2]
          case s4=>
           refine step_wp (λ av wv hE hS hO hD=>⟨(wY rfl rfl rfl (hD.2.1 rfl _ rfl)),?_⟩)
           have f177:=qE (hD.1 rfl _ rfl)
           refine wp_of_call (v:=.string rt) (by simp[go_sem,f177]) (HRT.out wv (of_drew hE)) (λ w2 hb=>⟨_,rfl,es_of_ext hb,rfl⟩)
          case s5=>
           refine step_val (λ av wv hE hS hO hD=>⟨(wY rfl rfl rfl (hD.1 rfl _ rfl)),?_⟩) (λ _=>rfl)
           simp[go_sem,qF av 24 (.int .i64 (m:Nat)) (hO.2.2 24 rfl),qE (hD.1 rfl _ rfl),i1,i2,k1,k2]
          case s6=>
           refine step_val (λ av wv hE hS hO hD=>⟨(wY rfl rfl rfl (hD.2.1 rfl _ rfl)),?_⟩) (λ _=>rfl)
           simp[go_sem,qE (hD.1 rfl _ rfl),qE (hD.2.1 rfl _ rfl),i1,i2,k1,k2]
          case s7=>
           refine step_val (λ av wv hE hS hO hD=>⟨(wY rfl rfl rfl (hD.1 rfl _ rfl)),?_⟩) (λ _=>rfl)
           simp[go_sem,qF av 21 (.slice (some ⟨g,o,none⟩) (len Lb) lc9) (hO.2.2 21 rfl),qE (hD.1 rfl _ rfl),i1,i2,k1,k2]
          case s8=>
           refine step_val (λ av wv hE hS hO hD=>⟨(wY rfl rfl rfl (hD.2.1 rfl _ rfl)),?_⟩) (λ _=>rfl)
           simp[go_sem,qE (hD.1 rfl _ rfl),qE (hD.2.1 rfl _ rfl),i1,i2,k1,k2]
          case s9=>
           refine step_val (λ av wv hE hS hO hD=>⟨(wY rfl rfl rfl (hD.2.1 rfl _ rfl)),?_⟩) (λ _=>rfl)
           simp[go_sem,qE (hD.1 rfl _ rfl),qE (hD.2.1 rfl _ rfl),i1,i2,k1,k2]
          case s10=>
           refine step_val (λ av wv hE hS hO hD=>⟨(wY rfl rfl rfl (hD.2.2.1 rfl _ rfl)),?_⟩) (λ _=>rfl)
           simp[go_sem,qE (hD.1 rfl _ rfl),qE (hD.2.1 rfl _ rfl),qE (hD.2.2.1 rfl _ rfl),i1,i2,k1,k2]
          case s11=>
           refine step_val (λ av wv hE hS hO hD=>⟨(wY rfl rfl rfl (hD.1 rfl _ rfl)),?_⟩) (λ _=>rfl)
           simp[go_sem,qF av 21 (.slice (some ⟨g,o,none⟩) (len Lb) lc9) (hO.2.2 21 rfl),qE (hD.1 rfl _ rfl),i1,i2,k1,k2]
          case s12=>
           refine step_val (λ av wv hE hS hO hD=>⟨(wY rfl rfl rfl (hD.1 rfl _ rfl)),?_⟩) (λ _=>rfl)
           simp[go_sem,qF av 24 (.int .i64 (m:Nat)) (hO.2.2 24 rfl),qE (hD.1 rfl _ rfl),i1,i2,k1,k2]
          case s13=>
           refine step_val (λ av wv hE hS hO hD=>⟨(wY rfl rfl rfl (hD.2.2.1 rfl _ rfl)),?_⟩) (λ _=>rfl)
           simp[go_sem,qE (hD.1 rfl _ rfl),qE (hD.2.1 rfl _ rfl),qE (hD.2.2.1 rfl _ rfl),i1,i2,k1,k2]
          case s14=>
           refine step_val (λ av wv hE hS hO hD=>⟨(wY rfl rfl rfl (hD.2.1 rfl _ rfl)),?_⟩) (λ _=>rfl)
           simp[go_sem,qE (hD.1 rfl _ rfl),qE (hD.2.1 rfl _ rfl),extB_cell hE (by simp) cs,i1,i2,k1,k2]
          case s15=>
           refine step_val (λ av wv hE hS hO hD=>⟨(wY rfl rfl rfl (hD.1 rfl _ rfl)),?_⟩) (λ _=>rfl)
           simp[go_sem,qF av 25 (.slice pa (len P) pc) (hO.2.2 25 rfl),qE (hD.1 rfl _ rfl),i1,i2,k1,k2]
          case s16=>
           refine step_wp (λ av wv hE hS hO hD=>⟨(wY rfl rfl rfl (hD.2.2.2.2.2.1 rfl _ rfl)),?_⟩)
           have f178:=qE (hD.1 rfl _ rfl);have f184:=qE (hD.2.1 rfl _ rfl);have f188:=qE (hD.2.2.1 rfl _ rfl);have f189:=qE (hD.2.2.2.1 rfl _ rfl)
           refine wp_of_call (v:=.int .i64 0) (by simp[go_sem,f178,f184,f188,f189]) (HTI.out wv (of_drew hE)) (λ w2 hb=>⟨_,rfl,es_of_ext hb,rfl⟩)
          case s17=>
           refine step_val (λ av wv hE hS hO hD=>⟨(wY rfl rfl rfl (hD.2.1 rfl _ rfl)),?_⟩) (λ _=>rfl)
           simp[go_sem,qE (hD.1 rfl _ rfl),qE (hD.2.1 rfl _ rfl),i1,i2,k1,k2]
          case s18=>
           refine qV (λ _=>rfl) rfl λ av wv hE hO hD=>?_
           simp[go_sem,qE (hD.1 rfl _ rfl),qE (hD.2.1 rfl _ rfl),i1,i2,k1,k2]
          intro a' w' hE hO hall
          have hA:=act_of_outer (ds:=[174,175,176,177,178,179,180,181,182,183,184,185,186,187,188,189,190,191,192]) rfl hO (by kernel_rfl)
          obtain⟨j0,j1,j2,j3,j4,j5,j6,j7,j8,j9,j10,j11,j12,j13,j14,j15,j16,j17,j18,-⟩:=hall
          simp only[List.foldl_cons,List.foldl_nil,Act.put,List.setIfInBounds_toArray,List.set_cons_succ,List.set_cons_zero,qJ 174 (j0 _ rfl),qJ 175 (j1 _ rfl),qJ 176 (j2 _ rfl),qJ 177 (j3 _ rfl),qJ 178 (j4 _ rfl),qJ 179 (j5 _ rfl),qJ 180 (j6 _ rfl),qJ 181 (j7 _ rfl),qJ 182 (j8 _ rfl),qJ 183 (j9 _ rfl),qJ 184 (j10 _ rfl),qJ 185 (j11 _ rfl),qJ 186 (j12 _ rfl),qJ 187 (j13 _ rfl),qJ 188 (j14 _ rfl),qJ 189 (j15 _ rfl),qJ 190 (j16 _ rfl),qJ 191 (j17 _ rfl),qJ 192 (j18 _ rfl)]at hA
          clear hO j0 j1 j2 j3 j4 j5 j6 j7 j8 j9 j10 j11 j12 j13 j14 j15 j16 j17 j18
          subst hA
          have BX2:Hid (Below x1.heap.size x1 w'):=Lib.hid (of_drew hE);have h20:=HI9.out.1;clear hE cs k1 k2
          go_wp2
          go_roundg (gk - 1)
          case rel=>exact⟨m+1,by have:=HM9.out;omega,by go_num,Lib.hid (bnext HW.out (bnext BX1.out BX2.out))⟩
          case measure=>have:=HM9.out;omega
         ·obtain rfl:m=len Lb:=by omega
          have b1:¬((len Lb:Nat):Int)<(len Lb:Nat):=by omega
          go_wp2
          go_ret
          exact⟨rfl,bnext B4.out HW.out⟩
end Go.Proofs.YtpobhbdomldecaaGreatDoor
namespace Go.Proofs.YtpobhbdomldecaaGreatDoor
set_option linter.unusedSimpArgs false
set_option linter.unusedVariables false
open Go.RowKit Go.ChangeShapes Go.WideShapes Go.ChangeAt Go.ChangeMaps
section
variable {P : Program} {H : Type} {enc : TypeId × Value → H} {w : World}
theorem str_readx{n:Nat}{e:TypeId}{v:Value}{y:DataW H × List MemPlace}(he:P.underlying e=some .string)(h:DataW.trod enc P w 0 (λ _=>true) true n e [v]=some y):∃s:ByteArray,v=.string s∧s.size≤maxLen:=by
 obtain⟨s,hx,_,hw⟩:=DataW.trod_string he h
 exact⟨s,by simpa using hx,hw⟩
theorem open_txts{t e:TypeId}(ht:P.underlying t=some (.slice e))(he:P.underlying e=some .string)(hC:P.cellsOf e=1)
  {v:Value} {d:DataW H} {p:List MemPlace} {r:Reach} {base:Nat} (hv:Value.okWide P w r base t v) (h:DataW.Trod enc P w 0 (λ _=>true) true t v d p):
  ∃a c,∃l:List ByteArray,v=.slice a (len l) c∧len l≤c∧c≤maxLen∧Txts w a l:=by
 obtain⟨a,c,l,rfl,h1,h2,h3⟩:=open_elems 1 (λ x=>[Value.string x]) (λ _=>True) ht hC (by decide) (λ n cs' y hl hy=>by
  match cs',hl with
  | [v0],_=>
   obtain⟨s,rfl,_⟩:=str_readx he hy
   exact⟨s,rfl,trivial⟩) hv h
 refine⟨a,c,l,rfl,h1,h2,λ i hi=>?_⟩
 obtain⟨_,b,off,e1,e2⟩:=h3 i hi
 refine⟨b,off,e1,?_⟩
 have:=e2 0 (by decide)
 rw[Nat.mul_one,Nat.add_zero]at this
 rw[this,tth_eq l i hi];rfl
end
end Go.Proofs.YtpobhbdomldecaaGreatDoor
namespace Go.Proofs.YtpobhbdomldecaaGreatDoor
set_option linter.unusedSimpArgs false
set_option linter.unusedVariables false
open Go.RowKit Go.ChangeShapes Go.WideShapes Go.ChangeAt
def rowD(r:URow):DataW Unit:=.agg [.lit (.int .u8 r.lo),.lit (.int .u8 r.hi),.lit (.int .i64 r.size),.lit (.int .u64 r.least)]
set_option maxRecDepth 100000 in
theorem laid_row{w:World}{fuel:Nat}{cs':List Value}{r:URow}{q:List MemPlace}(hl:cs'.length=4)(h:DataW.trod (λ _=>()) Tryz.prog w 0 (λ _=>true) false fuel 342 cs'=some (rowD r,q)):cs'=r.cells:=by
 match cs',hl with
 | [v0,v1,v2,v3],_=>
  obtain⟨xs,m,_,e,_,hxl,hx⟩:=DataW.trod_struct Tryz.underlying342 h
  have cu:Tryz.prog.cellsOf 5=1:=by kernel_rfl
  have ci:Tryz.prog.cellsOf 3=1:=by kernel_rfl
  have cq:Tryz.prog.cellsOf 23=1:=by kernel_rfl
  have hxl':xs.length=4:=hxl;have h0:DataW.trod (λ _=>()) Tryz.prog w 0 (λ _=>true) false m 5 (([v0,v1,v2,v3].drop 0).take (Tryz.prog.cellsOf 5))=xs[0]?:=hx 0 _ rfl;have h1:DataW.trod (λ _=>()) Tryz.prog w 0 (λ _=>true) false m 5 (([v0,v1,v2,v3].drop 1).take (Tryz.prog.cellsOf 5))=xs[1]?:=hx 1 _ rfl;have h2:DataW.trod (λ _=>()) Tryz.prog w 0 (λ _=>true) false m 3 (([v0,v1,v2,v3].drop 2).take (Tryz.prog.cellsOf 3))=xs[2]?:=hx 2 _ rfl;have h3:DataW.trod (λ _=>()) Tryz.prog w 0 (λ _=>true) false m 23 (([v0,v1,v2,v3].drop 3).take (Tryz.prog.cellsOf 23))=xs[3]?:=hx 3 _ rfl
  rw[cu]at h0 h1
  rw[ci]at h2
  rw[cq]at h3
  match xs,hxl' with
  | [x0,x1,x2,x3],_=>
   obtain⟨n0,e0,y0,_⟩:=DataW.trod_int Tryz.underlying5 (show DataW.trod (λ _=>()) Tryz.prog w 0 (λ _=>true) false m 5 [v0]=some x0 from h0)
   obtain⟨n1,e1,y1,_⟩:=DataW.trod_int Tryz.underlying5 (show DataW.trod (λ _=>()) Tryz.prog w 0 (λ _=>true) false m 5 [v1]=some x1 from h1)
   obtain⟨n2,e2,y2,_⟩:=DataW.trod_int Tryz.underlying3 (show DataW.trod (λ _=>()) Tryz.prog w 0 (λ _=>true) false m 3 [v2]=some x2 from h2)
   obtain⟨n3,e3,y3,_⟩:=DataW.trod_int Tryz.underlying23 (show DataW.trod (λ _=>()) Tryz.prog w 0 (λ _=>true) false m 23 [v3]=some x3 from h3)
   subst y0 y1 y2 y3
   simp[rowD]at e e0 e1 e2 e3
   obtain⟨⟨a0,a1,a2,a3⟩,_⟩:=e
   subst e0 e1 e2 e3
   unfold URow.cells
   rw[a0,a1,a2,a3]
set_option maxRecDepth 100000 in
theorem laid_rows{w:World}{fuel:Nat}{cs:List Value}{l:List URow}{p:List MemPlace}(h:DataW.trod (λ _=>()) Tryz.prog w 0 (λ _=>true) false fuel 308 cs=some (.slice (l.map rowD) [],p))(hl:0<len l):
  ∃tb tq rc,cs=[.slice (some ⟨tb,tq,none⟩) (len l) rc]∧URows w (some ⟨tb,tq,none⟩) l:=by
 have hC:Tryz.prog.cellsOf 342=4:=by kernel_rfl
 rcases Go.Deep.open_slice Tryz.underlying308 h with⟨_,hx⟩ | ⟨a,n,c,m,q,D,Pl,hcs,_,hln,hm,hmm,hx,hi⟩
 ·simp at hx
 ·simp only[Prod.mk.injEq,DataW.slice.injEq]at hx
  obtain⟨⟨hD,_⟩,_⟩:=hx
  have hn:len l=n:=by have:=congrArg List.length hD;simpa [len] using this
  have hnm:n≤m:=by rw[hmm];simp;exact hln
  have each:∀i,i<len l→∃b off,a=⟨b,off,none⟩∧URowAt w b (off+i * 4) (unth l i):=λ i hil=>by
   obtain⟨cs',hc,htr⟩:=hi i (by omega)
   rw[hC]at hc
   obtain⟨_,hcl,hat⟩:=World.cells?_some hc
   have hDi:D i=rowD (unth l i):=by
    have h1:(l.map rowD)[i]?=((List.range n).map D)[i]?:=by rw[hD]
    have hil':i<l.length:=hil
    rw[List.getElem?_map,List.getElem?_map,List.getElem?_eq_getElem hil',List.getElem?_range (by omega)]at h1
    rw[unth_eq l i hil]
    exact(Option.some.inj h1).symm
   rw[hDi]at htr
   have hcs':=laid_row hcl htr
   obtain⟨b,off,spot⟩:=a
   have hat0:=hat 0 (by decide)
   rw[hcs']at hat
   have hspot:spot=none:=by
    obtain⟨cs0,hc0,htr0⟩:=hi 0 (by omega)
    rw[hC]at hc0
    obtain⟨_,hcl0,hat0⟩:=World.cells?_some hc0
    have h1:=hat0 0 (by decide);have h2:cs0[0]?=some (cs0[0]'(by omega)):=List.getElem?_eq_getElem (by omega)
    rw[h2]at h1
    simpa [Addr.add] using World.cell?_spot h1
   subst hspot
   have key:∀j,j<4→w.cell? ⟨b,off+i * 4+j,none⟩=(unth l i).cells[j]?:=λ j hj=>by
    have h1:=hat j hj
    rw[Go.Deep.add_add]at h1
    have e:(⟨b,off,none⟩:Addr).add (i * 4+j)=⟨b,off+i * 4+j,none⟩:=by
     unfold Addr.add;split
     ·rename_i h0;simp <;> omega
     ·simp[Nat.add_assoc]
    rw[e]at h1;exact h1
   exact⟨b,off,rfl,key 0 (by decide),key 1 (by decide),key 2 (by decide),key 3 (by decide)⟩
  obtain⟨b,off,rfl,_⟩:=each 0 hl
  refine⟨b,off,c,by rw[hn];exact hcs,λ i hil=>?_⟩
  obtain⟨b',off',e,hR⟩:=each i hil
  cases e
  exact⟨b,off,rfl,hR⟩
theorem tab_of{W:World}{nm:String}{g:Nat}{l:List URow}{cs:Array Value}{fuel:Nat}{p:List MemPlace}(hl:0<len l)(hg:Tryz.prog.globalNamed nm=some g)(hv:W.var? Tryz.prog nm=some cs)
  (h:DataW.trod (λ _=>()) Tryz.prog W 0 (λ _=>true) false fuel 308 cs.toList=some (.slice (l.map rowD) [],p)):TabAt W.heap.size W g l:=by
 obtain⟨tb,tq,rc,hcs,hr⟩:=laid_rows h hl
 have hc:W.cell? ⟨g,0,none⟩=some (.slice (some ⟨tb,tq,none⟩) (len l) rc):=by
  have:=World.var?_cell hg hv 0
  rw[Array.eq_one_of_toList hcs]at this
  simpa using this
 obtain⟨b',off',e,hR⟩:=hr 0 hl
 cases e
 exact⟨tb,tq,rc,lt_of_cell hc,lt_of_cell hR.c0,Nat.le_refl _,hc,hr⟩
theorem oneRow:((List.range Tryz.prog.types.size).filter λ t=>Tryz.prog.rowNamed t [101,114,114,111,114])=[89]:=by kernel_rfl
end Go.Proofs.YtpobhbdomldecaaGreatDoor
namespace Go.Proofs.YtpobhbdomldecaaGreatDoor
set_option linter.unusedSimpArgs false
set_option linter.unusedVariables false
open Go.RowKit Go.ChangeShapes Go.WideShapes Go.ChangeAt
def rowD5(r:PRow):DataW Unit:=.agg [.lit (.int .u64 r.below),.lit (.int .u8 r.first),.lit (.int .i64 r.size)]
set_option maxRecDepth 100000 in
theorem laid_prow{w:World}{fuel:Nat}{cs':List Value}{r:PRow}{q:List MemPlace}(hl:cs'.length=3)(h:DataW.trod (λ _=>()) Tryz.prog w 0 (λ _=>true) false fuel 336 cs'=some (rowD5 r,q)):cs'=r.cells:=by
 match cs',hl with
 | [v0,v1,v2],_=>
  obtain⟨xs,m,_,e,_,hxl,hx⟩:=DataW.trod_struct Tryz.underlying336 h
  have cu:Tryz.prog.cellsOf 5=1:=by kernel_rfl
  have ci:Tryz.prog.cellsOf 3=1:=by kernel_rfl
  have cq:Tryz.prog.cellsOf 23=1:=by kernel_rfl
  have hxl':xs.length=3:=hxl;have h0:DataW.trod (λ _=>()) Tryz.prog w 0 (λ _=>true) false m 23 (([v0,v1,v2].drop 0).take (Tryz.prog.cellsOf 23))=xs[0]?:=hx 0 _ rfl;have h1:DataW.trod (λ _=>()) Tryz.prog w 0 (λ _=>true) false m 5 (([v0,v1,v2].drop 1).take (Tryz.prog.cellsOf 5))=xs[1]?:=hx 1 _ rfl;have h2:DataW.trod (λ _=>()) Tryz.prog w 0 (λ _=>true) false m 3 (([v0,v1,v2].drop 2).take (Tryz.prog.cellsOf 3))=xs[2]?:=hx 2 _ rfl
  rw[cq]at h0
  rw[cu]at h1
  rw[ci]at h2
  match xs,hxl' with
  | [x0,x1,x2],_=>
   obtain⟨n0,e0,y0,_⟩:=DataW.trod_int Tryz.underlying23 (show DataW.trod (λ _=>()) Tryz.prog w 0 (λ _=>true) false m 23 [v0]=some x0 from h0)
   obtain⟨n1,e1,y1,_⟩:=DataW.trod_int Tryz.underlying5 (show DataW.trod (λ _=>()) Tryz.prog w 0 (λ _=>true) false m 5 [v1]=some x1 from h1)
   obtain⟨n2,e2,y2,_⟩:=DataW.trod_int Tryz.underlying3 (show DataW.trod (λ _=>()) Tryz.prog w 0 (λ _=>true) false m 3 [v2]=some x2 from h2)
   subst y0 y1 y2
   simp[rowD5]at e e0 e1 e2
   obtain⟨⟨a0,a1,a2⟩,_⟩:=e
   subst e0 e1 e2
   unfold PRow.cells
   rw[a0,a1,a2]
set_option maxRecDepth 100000 in
theorem laid_prows{w:World}{fuel:Nat}{cs:List Value}{l:List PRow}{p:List MemPlace}(h:DataW.trod (λ _=>()) Tryz.prog w 0 (λ _=>true) false fuel 338 cs=some (.slice (l.map rowD5) [],p))(hl:0<len l):
  ∃tb tq rc,cs=[.slice (some ⟨tb,tq,none⟩) (len l) rc]∧PRows w (some ⟨tb,tq,none⟩) l:=by
 have hC:Tryz.prog.cellsOf 336=3:=by kernel_rfl
 rcases Go.Deep.open_slice Tryz.underlying338 h with⟨_,hx⟩ | ⟨a,n,c,m,q,D,Pl,hcs,_,hln,hm,hmm,hx,hi⟩
 ·simp at hx
 ·simp only[Prod.mk.injEq,DataW.slice.injEq]at hx
  obtain⟨⟨hD,_⟩,_⟩:=hx
  have hn:len l=n:=by have:=congrArg List.length hD;simpa [len] using this
  have hnm:n≤m:=by rw[hmm];simp;exact hln
  have each:∀i,i<len l→∃b off,a=⟨b,off,none⟩∧PRowAt w b (off+i * 3) (prth l i):=λ i hil=>by
   obtain⟨cs',hc,htr⟩:=hi i (by omega)
   rw[hC]at hc
   obtain⟨_,hcl,hat⟩:=World.cells?_some hc
   have hDi:D i=rowD5 (prth l i):=by
    have h1:(l.map rowD5)[i]?=((List.range n).map D)[i]?:=by rw[hD]
    have hil':i<l.length:=hil
    rw[List.getElem?_map,List.getElem?_map,List.getElem?_eq_getElem hil',List.getElem?_range (by omega)]at h1
    rw[prth_eq l i hil]
    exact(Option.some.inj h1).symm
   rw[hDi]at htr
   have hcs':=laid_prow hcl htr
   obtain⟨b,off,spot⟩:=a
   have hat0:=hat 0 (by decide)
   rw[hcs']at hat
   have hspot:spot=none:=by
    obtain⟨cs0,hc0,htr0⟩:=hi 0 (by omega)
    rw[hC]at hc0
    obtain⟨_,hcl0,hat0⟩:=World.cells?_some hc0
    have h1:=hat0 0 (by decide);have h2:cs0[0]?=some (cs0[0]'(by omega)):=List.getElem?_eq_getElem (by omega)
    rw[h2]at h1
    simpa [Addr.add] using World.cell?_spot h1
   subst hspot
   have key:∀j,j<3→w.cell? ⟨b,off+i * 3+j,none⟩=(prth l i).cells[j]?:=λ j hj=>by
    have h1:=hat j hj
    rw[Go.Deep.add_add]at h1
    have e:(⟨b,off,none⟩:Addr).add (i * 3+j)=⟨b,off+i * 3+j,none⟩:=by
     unfold Addr.add;split
     ·rename_i h0;simp <;> omega
     ·simp[Nat.add_assoc]
    rw[e]at h1;exact h1
   exact⟨b,off,rfl,key 0 (by decide),key 1 (by decide),key 2 (by decide)⟩
  obtain⟨b,off,rfl,_⟩:=each 0 hl
  refine⟨b,off,c,by rw[hn];exact hcs,λ i hil=>?_⟩
  obtain⟨b',off',e,hR⟩:=each i hil
  cases e
  exact⟨b,off,rfl,hR⟩
def tabD5:DataW Unit:=.agg ([0,1,2,3,4].map λ k=>.slice ((hrowsP k).map rowD5) [])
set_option maxRecDepth 100000 in
theorem ptab_of{W:World}{g:Nat}{cs:Array Value}{fuel:Nat}{p:List MemPlace}(hgg:g=5)(hg:Tryz.prog.globalNamed "sextant/pack.rows"=some g)(hv:W.var? Tryz.prog "sextant/pack.rows"=some cs)
  (h:DataW.trod (λ _=>()) Tryz.prog W 0 (λ _=>true) false fuel 339 cs.toList=some (tabD5,p)):PTab W.heap.size W:=by
 obtain⟨xs,m,_,e,hcl,hxl,hx⟩:=DataW.trod_array Tryz.underlying339 h
 have hC:Tryz.prog.cellsOf 338=1:=by kernel_rfl
 have hC5:Tryz.prog.cellsOf 339=5:=by kernel_rfl
 rw[hC5]at hcl
 rw[hC]at hx
 have hd:tabD5=.agg (xs.map (·.1)):=congrArg Prod.fst e
 unfold tabD5 at hd
 have hd2:([0,1,2,3,4].map λ k=>(DataW.slice ((hrowsP k).map rowD5) []:DataW Unit))=xs.map (·.1):=by injection hd
 subst hgg
 have key:∀k,k<5→∃tb tq rc,cs[k]?=some (.slice (some ⟨tb,tq,none⟩) (len (hrowsP k)) rc)∧PRows W (some ⟨tb,tq,none⟩) (hrowsP k):=λ k hk=>by
  have hxk:k<xs.length:=by omega
  have h1:=hx k hk
  rw[List.getElem?_eq_getElem hxk]at h1
  have h2:(xs[k]'hxk).1=.slice ((hrowsP k).map rowD5) []:=by
   have h3:(xs.map (·.1))[k]?=some (xs[k]'hxk).1:=by rw[List.getElem?_map,List.getElem?_eq_getElem hxk];rfl
   rw[←hd2,List.getElem?_map]at h3
   have h4:[0,1,2,3,4][k]?=some k:=by
    have:k=0 ∨ k=1 ∨ k=2 ∨ k=3 ∨ k=4:=by omega
    rcases this with rfl | rfl | rfl | rfl | rfl <;> rfl
   rw[h4]at h3
   exact(Option.some.inj h3).symm
  have h5:DataW.trod (λ _=>()) Tryz.prog W 0 (λ _=>true) false m 338 ((cs.toList.drop (k * 1)).take 1)=some (.slice ((hrowsP k).map rowD5) [],(xs[k]'hxk).2):=by rw[h1,←h2]
  obtain⟨tb,tq,rc,hcs,hr⟩:=laid_prows h5 (rowsP_pos k)
  refine⟨tb,tq,rc,?_,hr⟩
  have h6:((cs.toList.drop (k * 1)).take 1)[0]?=some (.slice (some ⟨tb,tq,none⟩) (len (hrowsP k)) rc):=by rw[hcs];rfl
  rw[List.getElem?_take,if_pos (by decide),List.getElem?_drop]at h6
  simpa using h6
 have hlt:5<W.heap.size:=by
  obtain⟨tb,tq,rc,h1,h2⟩:=key 0 (by decide)
  have:=World.var?_cell hg hv 0
  exact lt_of_cell (this.trans h1)
 refine⟨hlt,Nat.le_refl _,λ k hk=>?_⟩
 obtain⟨tb,tq,rc,h1,h2⟩:=key k hk
 refine⟨tb,tq,rc,?_,(World.var?_cell hg hv k).trans h1,h2⟩
 obtain⟨b,off,e,hR⟩:=h2 0 (rowsP_pos k)
 cases e
 exact lt_of_cell hR.c0
end Go.Proofs.YtpobhbdomldecaaGreatDoor
namespace Go.Proofs.YtpobhbdomldecaaGreatDoor
set_option linter.unusedSimpArgs false
set_option linter.unusedVariables false
open Go.RowKit Go.ChangeShapes Go.WideShapes Go.ChangeAt
set_option maxRecDepth 100000 in
theorem of_laidI{W:World}(h:laidMetH Tryz.prog Rows.partProvesRow.laid W):TE7 W.heap.size W:=by
 have h':laidMet Tryz.prog (Rows.partProvesRow.laid.filter λ x=>x.2.handleName?.isNone) W∧handlesMet Tryz.prog (Rows.partProvesRow.laid.filter λ x=>x.2.handleName?.isSome) W:=h
 obtain⟨⟨ps,⟨gp,tp,csp,fp,pp,qp,hgp,htp,hvp,hdp,⟨g0,t0,cs0,f0,p0,q0,hg0,ht0,hv0,hd0,⟨g1,t1,cs1,f1,p1,q1,hg1,ht1,hv1,hd1,⟨g2,t2,cs2,f2,p2,q2,hg2,ht2,hv2,hd2,⟨g4,t4,cs4,f4,p4,q4,hg4,ht4,hv4,hd4,_⟩,_⟩,_⟩,_⟩,_⟩,_,_⟩,hH⟩:=h'
 obtain rfl:5=gp:=Option.some.inj ((show _=some 5 by kernel_rfl).symm.trans hgp)
 obtain rfl:339=tp:=Option.some.inj ((show _=some 339 by kernel_rfl).symm.trans htp)
 obtain rfl:0=g0:=Option.some.inj ((show _=some 0 by kernel_rfl).symm.trans hg0)
 obtain rfl:308=t0:=Option.some.inj ((show _=some 308 by kernel_rfl).symm.trans ht0)
 obtain rfl:6=g1:=Option.some.inj ((show _=some 6 by kernel_rfl).symm.trans hg1)
 obtain rfl:308=t1:=Option.some.inj ((show _=some 308 by kernel_rfl).symm.trans ht1)
 obtain rfl:2=g2:=Option.some.inj ((show _=some 2 by kernel_rfl).symm.trans hg2)
 obtain rfl:308=t2:=Option.some.inj ((show _=some 308 by kernel_rfl).symm.trans ht2)
 obtain rfl:1=g4:=Option.some.inj ((show _=some 1 by kernel_rfl).symm.trans hg4)
 obtain rfl:308=t4:=Option.some.inj ((show _=some 308 by kernel_rfl).symm.trans ht4)
 have hET:ErrType W:=by
  obtain⟨name,u,ty,e1,e2,e3,e4,e5⟩:=hH Rows.partProvesRow.laid[1] (List.mem_singleton.2 rfl)
  have en:name=[101,114,114,111,114]:=(Option.some.inj e1).symm
  subst en
  obtain rfl:349=u:=Option.some.inj ((show _=some 349 by kernel_rfl).symm.trans e2)
  have hm:ty ∈ (List.range Tryz.prog.types.size).filter λ t=>Tryz.prog.rowNamed t [101,114,114,111,114]:=List.mem_filter.2 ⟨List.mem_range.2 e3,e4⟩
  rw[oneRow]at hm
  obtain rfl:=List.mem_singleton.1 hm
  have hg:Tryz.prog.globalNamed Rows.partProvesRow.laid[1].1=some 3:=(by kernel_rfl)
  exact World.var?_cell hg e5 0
 exact⟨ptab_of rfl hgp hvp hdp,⟨tab_of (by decide) hg0 hv0 hd0,trivial,tab_of (by decide) hg1 hv1 hd1,tab_of (by decide) hg2 hv2 hd2,tab_of (by decide) hg4 hv4 hd4⟩,hET,Nat.le_refl _,lt_of_cell hET⟩
end Go.Proofs.YtpobhbdomldecaaGreatDoor
namespace Go.Proofs.YtpobhbdomldecaaGreatDoor.iall
set_option linter.unusedSimpArgs false
set_option linter.unusedVariables false
open Go.RowKit Go.ChangeShapes Go.WideShapes Go.ChangeAt
theorem door_met(os:Os)(args:Array Value):laidMetH Tryz.prog Rows.inclusionAllRow.laid ((World.doorLaid Tryz.prog 79 os).forCall (λ _ _=>0) ⟨#[],args,[]⟩).memory:=
 laidMetH_of_parts3 (fuel:=8) (laidMet_of_run' 8 (by kernel_rfl) (by kernel_rfl)) (by kernel_rfl) (by kernel_rfl)
set_option maxRecDepth 100000 in
theorem lifted(os:Os)(started:os.Started)(H:Type)(enc:TypeId × Value→H):
  ReturnsInHanded {} Tryz.checked os 12 .any (λ w args=>(Rows.inclusionAllSpec.pre enc Tryz.prog Tryz.f12 [] false w args∧laidMetH Tryz.prog Rows.inclusionAllRow.laid w)∧sizedMet enc Tryz.prog Tryz.f12 (OpenSpec.ofChange Rows.inclusionAllSpec) false w args)
   (Rows.inclusionAllSpec.post enc Tryz.prog Tryz.f12 false true false false):=by
 refine returnsInHanded_of_change_and (C:=Tryz.checked) (X:=λ w _=>laidMetH Tryz.prog Rows.inclusionAllRow.laid w) (λ _ _ _ hh h=>h.of_heap hh) own started (by kernel_rfl) Tryz.func12
  (ChangeSpec.witness_shaped (enc:=enc) (C:=Tryz.checked) (os:=os) (X:=λ w _=>laidMetH Tryz.prog Rows.inclusionAllRow.laid w) false (World.doorLaid Tryz.prog 79 os) #[.int .u64 0,.slice none 0 0,.slice none 0 0] 8 rfl (World.shaped_of_RefB (by kernel_rfl) (by kernel_rfl)) (by kernel_rfl) (by kernel_rfl) (by kernel_rfl) (door_met os _)) ?_
 intro W base args ds gs before hval0 hW _ _ hL _
 have hval:∀(j:Nat) t v,Tryz.f12.params[j]?=some t→args[j]?=some v→Value.okWide Tryz.prog W .any base t v:=hval0;have hW':=hW
 obtain⟨p,q,hA0,hV,rfl,hfz,hnd⟩:=hW
 have hA:DataW.TrodAll enc Tryz.prog W 0 (λ _=>true) true Tryz.f12.params.toList args.toList ds p:=hA0
 rw[Tryz.params12]at hA hval
 have hAA:=hA
 obtain⟨v0,vs0,d0,ds0,p0,q0,hargs,rfl,rfl,h0,r0⟩:=trodAll_cons hA
 obtain⟨v1,vs1,d1,ds1,p1,q1,rfl,rfl,rfl,h1,r1⟩:=trodAll_cons r0
 obtain⟨v2,vs2,d2,ds2,p2,q2,rfl,rfl,rfl,h2,r2⟩:=trodAll_cons r1
 obtain⟨rfl,rfl,rfl⟩:=trodAll_nil r2
 obtain rfl:args=#[v0,v1,v2]:=by cases args;simp_all
 obtain⟨rfl,rfl⟩:=trodVars_none hV
 obtain⟨x0,rfl,_,_,w0⟩:=open_int Tryz.underlying23 (hval 0 _ _ rfl rfl) h0
 have u0:=wf_u64 w0
 obtain⟨F,rfl⟩:=Int.eq_ofNat_of_zero_le u0.1
 obtain⟨a1,c1,l1,rfl,lc1,cm1,o1,k1⟩:=open_u8s Tryz.underlying41 Tryz.underlying5 (by kernel_rfl) (hval 1 _ _ rfl rfl) h1
 obtain⟨a2,c2,l2,rfl,lc2,cm2,o2⟩:=open_txts Tryz.underlying36 Tryz.underlying9 (by kernel_rfl) (hval 2 _ _ rfl rfl) h2
 have hT:=of_laidI (show laidMetH Tryz.prog Rows.partProvesRow.laid W from hL)
 unfold maxLen at cm1 cm2
 clear hA0 hval0
 refine(iall_law W.heap.size F l1 a1 c1 l2 a2 c2 W hT (by omega) o1 k1 (by omega) lc1 o2 (by omega)).mono λ e W' ⟨he,bel⟩=>?_
 subst he
 have hback:=below_trodAll laidOut bel (λ t ht=>⟨by revert t;exact of_decide_eq_true (by kernel_rfl),by revert t;exact of_decide_eq_true (by kernel_rfl)⟩) hAA
 exact⟨_,rfl,_,_,_,[],_,[],hW',trodAll_mk1 (shut_bool Tryz.underlying4 _),hback,rfl,bel.frame _,λ h=>by cases h⟩
end Go.Proofs.YtpobhbdomldecaaGreatDoor.iall

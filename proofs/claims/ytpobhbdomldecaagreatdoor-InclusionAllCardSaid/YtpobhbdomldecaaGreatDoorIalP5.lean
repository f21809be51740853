/- Parts of the proof, one behind the other. -/
import Derived.Test.YtpobhbdomldecaaGreatDoorIalP4
import Derived.Laws.AppendOwnNone
import Derived.Carry
import Derived.BigQuiet
import Derived.Lib.Strings
import Derived.Great.Walk
import Derived.Laws.AppendOwn
import Derived.Laws.MakeOwn
import Derived.Maps.AppendAt
import Derived.ArgAppend
import Derived.ProofKit
import Derived.OpenShut
import Derived.ShutString
import Derived.ChangeOld
import Derived.Deep.Slices
import Derived.Deep.Fields
import Derived.ChangeMaps5
import Derived.WideShapes
import Derived.StillTailTactics
import Derived.Defers
import Derived.Recover
namespace Go.Proofs.YtpobhbdomldecaaGreatDoor
open Go.RowKit
set_option linter.unusedSimpArgs false
set_option linter.unusedVariables false
set_option maxRecDepth 100000 in
set_option maxHeartbeats 4000000 in
theorem pmay_any(n:Int)(l:List Int)(a:Option Addr)(cap:Nat)(w:World)(h:U64s w a l)(hn:len l≤1000000000)(h0:-9223372036854775808≤n)(h1:n≤9223372036854775807):Calls Tryz.prog 166 #[.int .i64 n,.slice a (len l) cap] w λ e w'=>e=.returned (.bool (decide (SizeOk n l)))∧Below w.heap.size w w':=by
 have H:=Lib.hid h;have HN:=Lib.hid hn
 by_cases c1:n<0
 ·have E:Hid (decide (SizeOk n l)=false):=Lib.hid (decide_eq_false (λ h9=>by have:=h9.1;omega))
  clear h hn h0 h1
  go_enter Tryz.func166,Tryz.ntmps166
  go_wp2
  go_ret
  exact⟨by(rw[E.out];try rfl),Below.refl _ _⟩
 ·by_cases c2:65536<n
  ·have E:Hid (decide (SizeOk n l)=false):=Lib.hid (decide_eq_false (λ h9=>by have:=h9.2.1;omega))
   clear h hn h0 h1
   go_enter Tryz.func166,Tryz.ntmps166
   go_wp2
   go_ret
   exact⟨by(rw[E.out];try rfl),Below.refl _ _⟩
  ·by_cases c3:len l=0
   ·have E:Hid (decide (SizeOk n l)=false):=Lib.hid (decide_eq_false (λ h9=>by have:=h9.2.2.1;omega))
    have z1:((len l:Nat):Int)=0:=by omega
    clear h hn h0 h1 c3
    go_enter Tryz.func166,Tryz.ntmps166
    go_wp2
    go_ret
    exact⟨by(rw[E.out];try rfl),Below.refl _ _⟩
   ·have z1:¬((len l:Nat):Int)=0:=by omega
    have n1:IntKind.u64.wrap n=n:=IntWalk.u64_in _ (by omega);have HC:=Lib.hid (And.intro c1 (And.intro c2 c3));clear h hn h0 h1 c3
    go_enter Tryz.func166,Tryz.ntmps166
    go_upto_region 4 with fail
    clear c1 c2 z1
    go_loopg [20] (len l) (λ g i wr=>∃m:Nat,g+m=len l∧i=.int .i64 m∧Hid (MayT n l m)∧Hid (Below w.heap.size w wr))
    case atStart=>exact⟨0,rfl,rfl,Lib.hid (λ i hi=>by omega),Lib.hid (Below.refl _ _)⟩
    case round=>
     obtain⟨m,hm,rfl,HR,HW⟩:=hrel
     have HNN:=HN.out
     by_cases hlt:m<len l
     ·have b0:(m:Int)<len l:=by omega
      obtain⟨b,off,hra,e1⟩:=(H.out.below HW.out) m hlt
      subst hra
      have l1:=lt_of_cell e1
      cases hge:decide (n≤nth l m)with
      | true=>
       have HGE:=Lib.hid hge
       go_wp2
       go_ret
       refine⟨?_,HW.out⟩
       have:¬SizeOk n l:=λ h9=>by
        have h1:=(h9.2.2.2 m hlt).1;have h2:=of_decide_eq_true HGE.out
        omega
       rw[decide_eq_false this];try rfl
      | false=>
       have HGE:=Lib.hid hge
       cases m with
       | zero=>
        have e1:wr.cell? ⟨b,off,none⟩=some (.int .u64 (nth l 0)):=e1;have hge0:decide (n≤nth l 0)=false:=HGE.out
        go_wp2
        go_roundg (len l - 1)
        case rel=>exact⟨1,by omega,by go_num,Lib.hid (HR.out.next (by have:=of_decide_eq_false HGE.out;omega) (λ h=>by omega)),HW⟩
        case measure=>omega
       | succ n3=>
        obtain⟨b6,off6,hpa6,e2⟩:=(H.out.below HW.out) n3 (by omega)
        cases hpa6
        cases hris:decide (nth l (n3+1)≤nth l n3)with
        | true=>
         have HRIS:=Lib.hid hris;have i1:IntKind.i64.wrap (n3:Int)=n3:=(IntWalk.i64_in _ (by omega));have i2:0≤(n3:Int)+1:=(by omega);have i3:((n3:Int)+1).toNat=n3+1:=(by omega)
         go_wp2
         clear i1 i2 i3
         go_ret
         refine⟨?_,HW.out⟩
         have:¬SizeOk n l:=λ h9=>by
          have h1:=(h9.2.2.2 (n3+1) hlt).2 (by omega);have h2:=of_decide_eq_true HRIS.out
          rw[Nat.add_sub_cancel]at h1
          omega
         rw[decide_eq_false this];try rfl
        | false=>
         have HRIS:=Lib.hid hris;have i1:IntKind.i64.wrap (n3:Int)=n3:=(IntWalk.i64_in _ (by omega));have i2:0≤(n3:Int)+1:=(by omega);have i3:((n3:Int)+1).toNat=n3+1:=(by omega)
         go_wp2
         clear i1 i2 i3
         go_roundg (len l - (n3+1+1))
         case rel=>exact⟨n3+1+1,by omega,by go_num,Lib.hid (HR.out.next (by have:=of_decide_eq_false HGE.out;omega) (λ _=>by
          have h2:=of_decide_eq_false HRIS.out
          rw[Nat.add_sub_cancel]
          omega)),HW⟩
         case measure=>omega
     ·obtain rfl:m=len l:=by omega
      have b0:¬((len l:Nat):Int)<len l:=by omega
      have E:Hid (decide (SizeOk n l)=true):=Lib.hid (decide_eq_true ⟨by have:=HC.out.1;omega,by have:=HC.out.2.1;omega,by have:=HC.out.2.2;omega,HR.out⟩)
      go_wp2
      go_ret
      exact⟨by(rw[E.out];try rfl),HW.out⟩
def badB(ds:List ByteArray):Bool:=decide (∃d ∈ ds,d.size≠32)
theorem len32_any(s:ByteArray)(w:World):Calls Tryz.prog 168 #[.string s] w λ e w'=>e=.returned (.bool (!decide ((s.size:Int)=32)))∧w=w':=by
 go_enter Tryz.func168,Tryz.ntmps168
 go_wp2
 go_ret
 exact⟨by first | rfl | simp,rfl⟩
def BadIs(ds:List ByteArray)(w:World)(e:Ending)(w':World):Prop:=∃j:Int,e=.returned (.int .i64 j)∧(0≤j ↔ ∃d ∈ ds,d.size≠32)∧w=w'
set_option maxRecDepth 100000 in
set_option maxHeartbeats 4000000 in
theorem badidx_any(a:Option Addr)(cap:Nat)(ds:List ByteArray)(w:World)(hl:Txts w a ds)(hlen:len ds≤9223372036854775807):
  Calls Tryz.prog 227 #[.slice a (len ds) cap,.func (.func 168) #[] #[]] w (BadIs ds w):=by
 have HL:=Lib.hid hl;clear hl
 go_enter Tryz.func227,Tryz.ntmps227
 go_wp2
 go_loop [8] (λ i=>∃m:Nat,m≤len ds∧i=.int .i64 m∧Hid (∀j,j<m→(tth ds j).size=32)) (λ i=>len ds - (intOf i).toNat)
 case atStart=>exact⟨0,Nat.zero_le _,rfl,λ j hj=>by omega⟩
 case round=>
  obtain⟨m,hm,rfl,hn⟩:=hrel
  by_cases hlt:m<len ds
  ·obtain⟨b,off,rfl,hcell⟩:=HL.out m hlt
   have b0:(m:Int)<len ds:=by omega
   obtain⟨s,hs⟩:∃s,tth ds m=s:=⟨_,rfl⟩
   rw[hs]at hcell
   have HS:=Lib.hid hs;have HM:Hid (s ∈ ds):=Lib.hid (by rw[←hs,tth_eq ds m hlt];exact List.getElem_mem _);clear hs
   go_wp2_with fail
   refine(len32_any s w).mono ?_
   rintro e w' ⟨rfl,rfl⟩
   by_cases hf:s.size=32
   ·have HF:=Lib.hid hf
    rw[decide_eq_true (show((s.size:Nat):Int)=32 by omega)]
    clear hf hcell
    go_wp2
    go_round
    case rel=>exact⟨m+1,by omega,by go_num,λ j hj=>by
     by_cases e:j=m
     ·subst e;rw[HS.out];exact HF.out
     ·exact hn.out j (by omega)⟩
    case measure=>simp[intOf];omega
   ·have HF:=Lib.hid hf
    rw[decide_eq_false (show ¬((s.size:Nat):Int)=32 by omega)]
    clear hf hcell
    go_wp2
    go_ret
    exact⟨m,rfl,⟨λ _=>⟨s,HM.out,HF.out⟩,λ _=>by omega⟩,rfl⟩
  ·obtain rfl:m=len ds:=by omega
   go_wp2
   go_ret
   refine⟨-1,rfl,⟨λ h=>by omega,fun ⟨k,hk,hf⟩=>?_⟩,rfl⟩
   obtain⟨j,hj,rfl⟩:=List.getElem_of_mem hk
   have h1:=hn.out j hj
   rw[tth_eq ds j hj]at h1
   exact absurd h1 hf
theorem bad_any(a:Option Addr)(cap:Nat)(ds:List ByteArray)(w:World)(hl:Txts w a ds)(hlen:len ds≤9223372036854775807):
  Calls Tryz.prog 167 #[.slice a (len ds) cap,.func (.func 168) #[] #[]] w λ e w'=>e=.returned (.bool (badB ds))∧w=w':=by
 have HL:=Lib.hid hl;clear hl
 go_enter Tryz.func167,Tryz.ntmps167
 go_wp2_with fail
 refine(badidx_any a cap ds w HL.out hlen).mono ?_
 rintro e w' ⟨j,rfl,hj,rfl⟩
 have HJ:=Lib.hid hj;clear hj
 by_cases h:0≤j
 ·have E:Hid (badB ds=true):=Lib.hid (decide_eq_true (HJ.out.1 h))
  go_wp2
  go_ret
  exact⟨by(rw[E.out];try rfl),rfl⟩
 ·have E:Hid (badB ds=false):=Lib.hid (decide_eq_false (λ hh=>h (HJ.out.2 hh)))
  go_wp2
  go_ret
  exact⟨ret_bool (by rw[E.out];simp;omega),rfl⟩
end Go.Proofs.YtpobhbdomldecaaGreatDoor
namespace Go.Proofs.YtpobhbdomldecaaGreatDoor
open Go.RowKit
set_option linter.unusedSimpArgs false
set_option linter.unusedVariables false
theorem rowK_mem(ks:List Int)(k:Int):k ∈ rowK ks ↔ (∃j ∈ ks,k=sib j)∧k ∉ ks:=by
 unfold rowK
 rw[srt_mem,needK_mem]
theorem rowK_len(ks:List Int):(rowK ks).length=(needK ks).length:=by
 unfold rowK srt
 exact(List.mergeSort_perm _ _).length_eq
theorem sib_ne(y:Int):sib y≠y:=by unfold sib;split <;> omega
theorem rowK_single(y:Int):(rowK [y]).length=1:=by
 rw[rowK_len]
 unfold needK
 have h:([y].map sib).filter (λ s=>!decide (s ∈ [y]))=[sib y]:=by
  simp[sib_ne y]
 rw[h]
 rfl
theorem rows_get(L:List Int)(d i:Nat)(hi:i<d):rnth (rowsOf L d) i=rowK (insAll (L.map (· / 2 ^ i))):=by
 rw[rnth_eq _ i (by unfold rowsOf;simpa using hi)]
 unfold rowsOf
 simp only[List.getElem_map,List.getElem_range]
theorem rows_len(L:List Int)(d:Nat):(rowsOf L d).length=d:=by unfold rowsOf;simp
theorem needs_rows{l:List Int}{d:Nat}(hd:d≤16)(h0:0<len l):needsL (leavesL l (d:Nat)) (d:Nat)=rowsOf (leavesL l (d:Nat)) d:=by
 unfold needsL
 rw[Int.toNat_natCast,if_pos]
 refine⟨by omega,by omega,by rw[leavesL_len];exact h0,?_⟩
 unfold farB
 rw[decide_eq_false]
 rintro⟨k,hk,h9⟩
 have:=(leaves_in hd k hk).2
 omega
theorem flat_len1:∀(s:Nat) (c:List (List Int)),(∀i,i<c.length→(rnth c i).length=1)→(flatFrom s c).length=c.length
 | _,[],_=>rfl
 | s,z :: c,h=>by
  have h1:=flat_len1 (s+1) c (λ i hi=>by
   have:=h (i+1) (by simp;omega)
   simpa [rnth] using this)
  have h2:=h 0 (by simp)
  simp only[rnth,List.getD_cons_zero]at h2
  simp only[flatFrom,List.length_append,List.length_map,List.length_cons]
  omega
theorem plcL_rows{n:Int}{l:List Int}{d:Nat}(hd:depthZ n=(d:Nat))(hd16:d≤16)(h0:0<len l):plcL n l=flatLv (rowsOf (leavesL l (d:Nat)) d):=by
 unfold plcL
 rw[hd,needs_rows hd16 h0]
theorem plc_one{n:Int}{d:Nat}{x:Int}(hd:depthZ n=(d:Nat))(hd16:d≤16):(plcL n [x]).length=d:=by
 rw[plcL_rows (l:=[x]) hd hd16 (show 0<len [x]from Nat.zero_lt_one)]
 have h:=flat_len1 0 (rowsOf (leavesL [x] (d:Nat)) d) (λ i hi=>by
  rw[rows_len]at hi
  rw[rows_get _ _ _ hi]
  exact rowK_single _)
 rw[rows_len]at h
 exact h
theorem dgs_len(els:List ByteArray)(L:List (Int × Int)):len (dgsL els L)=L.length:=by unfold dgsL;rw[len_eq,List.length_map]
end Go.Proofs.YtpobhbdomldecaaGreatDoor
namespace Go.Proofs.YtpobhbdomldecaaGreatDoor
open Go.RowKit
set_option linter.unusedSimpArgs false
set_option linter.unusedVariables false
theorem overF_some(g:KnF)(p:Int):(overF g p).isSome ↔ (g (2 * p)).isSome ∨ (g (2 * p+1)).isSome:=by
 unfold overF
 by_cases e:(g (2 * p)).isSome ∨ (g (2 * p+1)).isSome
 ·rw[if_pos e];simp[e]
 ·rw[if_neg e];simp only[e];simp
def SmF(g:KnF):Prop:=∀k d,g k=some d→d.size≤1000
theorem SmF.no:SmF noF:=λ k d h=>by cases h
theorem SmF.put{g:KnF}(h:SmF g)(k:Int)(d:ByteArray)(hd:d.size≤1000):SmF (putF g k d):=λ j x hx=>by
 by_cases e:j=k
 ·subst e;rw[putF_same]at hx;cases hx;exact hd
 ·rw[putF_other g d e]at hx;exact h j x hx
theorem SmF.over(g:KnF):SmF (overF g):=λ k d hx=>by
 by_cases e:(g (2 * k)).isSome ∨ (g (2 * k+1)).isSome
 ·have:overF g k=some (hashP nodeT [kidF g (2 * k),kidF g (2 * k+1)]):=over_some e
  rw[this]at hx;cases hx
  rw[hashP_size];omega
 ·exact absurd ((overF_some g k).1 (by rw[hx];rfl)) e
def leafD(es:List ByteArray):List ByteArray:=es.map λ s=>hashP leafT [s]
theorem leafD_at(es:List ByteArray)(i:Nat)(h:i<len es):tth (leafD es) i=hashP leafT [tth es i]:=by
 have h2:i<es.length:=h
 rw[tth_eq es i h]
 unfold tth leafD
 rw[List.getD_eq_getElem?_getD,List.getElem?_map,List.getElem?_eq_getElem h2]
 rfl
def g0F(lv:List Int)(es:List ByteArray):KnF:=addF noF lv (leafD es)
theorem rowsOf_at(lv:List Int)(d i:Nat)(h:i<d):rnth (rowsOf lv d) i=rowK (insAll (lv.map (· / 2 ^ i))):=by
 rw[rnth_eq _ i (by unfold rowsOf;simpa using h)]
 unfold rowsOf
 simp
theorem rowsOf_len(lv:List Int)(d:Nat):len (rowsOf lv d)=d:=by unfold rowsOf;rw[len_eq];simp
theorem row_mem(lv:List Int)(d i:Nat)(h:i<d)(k:Int):k ∈ rnth (rowsOf lv d) i ↔ (∃y ∈ lv,k=sib (y / 2 ^ i))∧¬∃y ∈ lv,k=y / 2 ^ i:=by
 rw[rowsOf_at lv d i h,rowK_mem]
 have e:∀j,j ∈ insAll (lv.map (· / 2 ^ i)) ↔ ∃y ∈ lv,j=y / 2 ^ i:=λ j=>by
  rw[(insAll_all _).2.1,List.mem_map]
  constructor
  ·rintro⟨y,h1,rfl⟩;exact⟨y,h1,rfl⟩
  ·rintro⟨y,h1,rfl⟩;exact⟨y,h1,rfl⟩
 rw[e]
 constructor
 ·rintro⟨⟨j,hj,rfl⟩,h2⟩
  obtain⟨y,hy,rfl⟩:=(e j).1 hj
  exact⟨⟨y,hy,rfl⟩,h2⟩
 ·rintro⟨⟨y,hy,rfl⟩,h2⟩
  exact⟨⟨_,(e _).2 ⟨y,hy,rfl⟩,rfl⟩,h2⟩
theorem turnedP_rev{k:Int}{d n:Nat}(hd:d≤16)(h0:0≤k)(hk:k<n)(hn:n≤2 ^ d):turnedZ k d=((revOf k.toNat d:Nat):Int):=by
 unfold turnedZ
 rw[if_pos ⟨by omega,by omega,by rw[Int.toNat_natCast,pow_cast];omega⟩,Int.toNat_natCast]
theorem needsP_rows{ps:List Int}{d n:Nat}(hd:d≤16)(h:MayOk n ps):needsL (leavesL ps (d:Nat)) (d:Nat)=rowsOf (leavesL ps (d:Nat)) d:=needs_rows hd h.1
def rowsP(n:Int)(ps:List Int):List (List Int):=needsL (leavesL ps (depthZ n)) (depthZ n)
def neededP(n:Int)(ps:List Int):Nat:=usedR (rowsP n ps) (len (rowsP n ps))
def digP(n:Int)(ps:List Int)(es ds:List ByteArray):ByteArray:=kidF (rootG (g0F (leavesL ps (depthZ n)) es) (rowsP n ps) ds) 0
def ArgOk(n:Int)(ps:List Int)(es:List ByteArray):Prop:=SizeOk n ps∧len es=len ps
instance (n:Int) (ps:List Int) (es:List ByteArray):Decidable (ArgOk n ps es):=by unfold ArgOk;exact inferInstance
def rootE(n:Int)(ps:List Int)(es ds:List ByteArray):Int:=
 if ¬ArgOk n ps es then 2 else if badB ds=true then 5 else if len ds<neededP n ps then 4 else if neededP n ps<len ds then 3 else 0
def rootS(n:Int)(ps:List Int)(es ds:List ByteArray):ByteArray:=if rootE n ps es ds=0 then digP n ps es ds else⟨#[]⟩
def RootIs(n:Int)(ps:List Int)(es ds:List ByteArray)(w:World)(e:Ending)(w':World):Prop:=e=.returned (.tuple #[.string (rootS n ps es ds),.int .i64 (rootE n ps es ds)])∧Below w.heap.size w w'
end Go.Proofs.YtpobhbdomldecaaGreatDoor
namespace Go.Proofs.YtpobhbdomldecaaGreatDoor
open Go.RowKit
set_option linter.unusedSimpArgs false
set_option linter.unusedVariables false
def At(leaves:List Int)(lv:Nat)(kn:List Int):Prop:=∀x,x ∈ kn ↔ ∃j ∈ leaves,x=j / 2 ^ lv
theorem At.u64{leaves kn:List Int}{lv:Nat}(h:At leaves lv kn)(hu:∀k ∈ leaves,U64 k):∀k ∈ kn,U64 k:=by
 intro k hk
 obtain⟨j,hj,rfl⟩:=(h k).1 hk
 have:=hu j hj
 unfold U64 at this ⊢
 have hp:(0:Int)<2 ^ lv:=Int.pow_pos (by decide)
 exact⟨Int.ediv_nonneg this.1 (by omega),Int.le_trans (Int.ediv_le_self _ this.1) this.2⟩
end Go.Proofs.YtpobhbdomldecaaGreatDoor
namespace Go.Proofs.YtpobhbdomldecaaGreatDoor
open Go.RowKit Go.ChangeMaps
set_option linter.unusedSimpArgs false
set_option linter.unusedVariables false
theorem flat_row_len(rs:List (List Int))(i:Nat)(hi:i<len rs):(flatAt rs (i+1) 0).length=(flatAt rs i 0).length+len (rnth rs i):=by
 rw[←flatAt_row rs i hi]
 unfold flatAt
 rw[take_len,List.take_zero,List.map_nil,List.append_nil,List.length_append,List.length_map]
 rfl
end Go.Proofs.YtpobhbdomldecaaGreatDoor
namespace Go.Proofs.YtpobhbdomldecaaGreatDoor
open Go.RowKit
set_option linter.unusedSimpArgs false
set_option linter.unusedVariables false
def AtK(lv:List Int)(i:Nat)(k:Int):Prop:=∃y ∈ lv,k=y / 2 ^ i
instance (lv:List Int) (i:Nat) (k:Int):Decidable (AtK lv i k):=by unfold AtK;exact List.decidableBEx _ _
def trF(els:List ByteArray)(d:Nat)(lv:List Int)(i:Nat):KnF:=λ k=>if AtK lv i k then some (plD els d i k.toNat)else none
theorem trF_in{els:List ByteArray}{d:Nat}{lv:List Int}{i:Nat}{k:Int}(h:AtK lv i k):trF els d lv i k=some (plD els d i k.toNat):=by unfold trF;rw[if_pos h]
theorem trF_out{els:List ByteArray}{d:Nat}{lv:List Int}{i:Nat}{k:Int}(h:¬AtK lv i k):trF els d lv i k=none:=by unfold trF;rw[if_neg h]
theorem atK_half{lv:List Int}{i:Nat}(p:Int):AtK lv (i+1) p ↔ AtK lv i (2 * p) ∨ AtK lv i (2 * p+1):=by
 have half:∀y:Int,y / 2 ^ (i+1)=y / 2 ^ i / 2:=λ y=>by
  rw[Int.pow_succ,Int.ediv_ediv_of_nonneg (Int.le_of_lt (Int.pow_pos (by decide)))]
 constructor
 ·rintro⟨y,hy,rfl⟩
  rw[half]
  by_cases e:y / 2 ^ i % 2=0
  ·exact .inl ⟨y,hy,by omega⟩
  ·exact .inr ⟨y,hy,by omega⟩
 ·rintro(⟨y,hy,e⟩ | ⟨y,hy,e⟩)
  ·exact⟨y,hy,by rw[half];omega⟩
  ·exact⟨y,hy,by rw[half];omega⟩
theorem plD_up(els:List ByteArray)(d i:Nat)(p:Nat):plD els d (i+1) p=hashP nodeT [plD els d i (2 * p),plD els d i (2 * p+1)]:=rfl
theorem row_memK(lv:List Int)(d i:Nat)(h:i<d)(k:Int):k ∈ rnth (rowsOf lv d) i ↔ AtK lv i (sib k)∧¬AtK lv i k:=by
 rw[row_mem lv d i h]
 have ss:∀x,sib (sib x)=x:=λ x=>by unfold sib;split <;> split <;> omega
 constructor
 ·rintro⟨⟨y,hy,rfl⟩,h2⟩
  exact⟨⟨y,hy,by rw[ss]⟩,h2⟩
 ·rintro⟨⟨y,hy,e⟩,h2⟩
  exact⟨⟨y,hy,by rw[←e,ss]⟩,h2⟩
theorem flat_used(rs:List (List Int)):∀i,i≤len rs→(flatAt rs i 0).length=usedR rs i
 | 0,_=>rfl
 | i+1,hi=>by rw[flat_row_len rs i (by omega),flat_used rs i (by omega),usedR_next rs i (by omega)]
theorem flat_used2(rs:List (List Int))(i:Nat)(hi:i<len rs):∀j,j≤len (rnth rs i)→(flatAt rs i j).length=usedR rs i+j
 | 0,_=>flat_used rs i (by omega)
 | j+1,hj=>by rw[flatAt_next rs i j (by omega),List.length_append,flat_used2 rs i hi j (by omega)];rfl
theorem dgs_at(els:List ByteArray)(rs:List (List Int))(i j:Nat)(hi:i<len rs)(hj:j<len (rnth rs i)):tth (dgsL els (flatLv rs)) (usedR rs i+j)=plD els (depN els) i (nth (rnth rs i) j).toNat:=by
 have h:=flat_at rs i j hi hj
 rw[flat_used2 rs i hi j (by omega)]at h
 unfold dgsL tth
 rw[List.getD_eq_getElem?_getD,List.getElem?_map,h]
 simp
theorem dgs_all(els:List ByteArray)(rs:List (List Int)):len (dgsL els (flatLv rs))=usedR rs (len rs):=by
 unfold dgsL
 rw[len_eq,List.length_map,←flatAt_end,flat_used rs (len rs) (Nat.le_refl _)]
end Go.Proofs.YtpobhbdomldecaaGreatDoor
namespace Go.Proofs.YtpobhbdomldecaaGreatDoor
open Go.RowKit
set_option linter.unusedSimpArgs false
set_option linter.unusedVariables false
theorem bad_no{ds:List ByteArray}(h:∀d ∈ ds,d.size=32):badB ds=false:=decide_eq_false (by rintro⟨d,hd,h9⟩;exact h9 (h d hd))
theorem rootE_ok{n:Int}{ps:List Int}{es ds:List ByteArray}(h1:ArgOk n ps es)(h2:badB ds=false)(h3:len ds=neededP n ps):rootE n ps es ds=0∧rootS n ps es ds=digP n ps es ds:=by
 have h9:rootE n ps es ds=0:=by
  unfold rootE
  rw[if_neg (λ h=>h h1),if_neg (by rw[h2];simp),if_neg (by omega),if_neg (by omega)]
 exact⟨h9,by unfold rootS;rw[if_pos h9]⟩
end Go.Proofs.YtpobhbdomldecaaGreatDoor
namespace Go.Proofs.YtpobhbdomldecaaGreatDoor
open Go.RowKit
set_option linter.unusedSimpArgs false
set_option linter.unusedVariables false
structure Agree(els own:List ByteArray)(ps:List Int):Prop where
 len_:len own=len els
 off:∀i:Nat,((i:Nat):Int) ∉ ps→tth els i=tth own i
theorem Agree.refl(els:List ByteArray)(ps:List Int):Agree els els ps:=⟨rfl,λ _ _=>rfl⟩
theorem plD_same{els own:List ByteArray}{d:Nat}(hl:len own=len els):∀(i k:Nat),i≤d→k<2 ^ (d - i)→(∀j,j<2 ^ d→j / 2 ^ i=k→tth els (revOf j d)=tth own (revOf j d))→plD els d i k=plD own d i k
 | 0,k,_,hk,h=>by
  have h1:=h k (by simpa using hk) (by simp)
  show(if revOf k d<len els then hashP leafT [tth els (revOf k d)]else hashP noneT [])=(if revOf k d<len own then hashP leafT [tth own (revOf k d)]else hashP noneT [])
  rw[h1,hl]
 | i+1,k,hi,hk,h=>by
  have hp:2 ^ (d - i)=2 * 2 ^ (d - (i+1)):=by rw[show d - i=d - (i+1)+1 by omega,Nat.pow_succ];omega
  have half:∀j,j / 2 ^ (i+1)=j / 2 ^ i / 2:=λ j=>by rw[Nat.pow_succ,Nat.div_div_eq_div_mul]
  rw[plD_up,plD_up,plD_same hl i (2 * k) (by omega) (by omega) (λ j hj e=>h j hj (by rw[half];omega)),plD_same hl i (2 * k+1) (by omega) (by omega) (λ j hj e=>h j hj (by rw[half];omega))]
theorem row_same{els own:List ByteArray}{ps:List Int}{d n i:Nat}{x:Int}(hd:d≤16)(hn:n≤2 ^ d)(hu:∀k ∈ ps,U64 k)(hm:MayOk n ps)(ha:Agree els own ps)(hi:i<d)(hx:x ∈ rnth (rowsOf (leavesL ps (d:Nat)) d) i):plD els d i x.toNat=plD own d i x.toNat:=by
 have h1:=(row_memK _ d i hi x).1 hx
 obtain⟨⟨y,hy,e⟩,_⟩:=(row_mem _ d i hi x).1 hx
 have hb:=leaves_in hd y hy;have h3:=half_bd hb.1 hb.2 (Nat.le_of_lt hi)
 obtain⟨q,hq⟩:∃q,d - i=q+1:=⟨d - i - 1,by omega⟩
 have h4:0≤x∧x<2 ^ (q+1):=by rw[e];rw[hq]at h3;exact sib_bd h3.1 h3.2
 obtain⟨xn,rfl⟩:=Int.eq_ofNat_of_zero_le h4.1
 refine plD_same ha.len_ i xn (by omega) (by rw[hq];have:=h4.2;rw[pow_cast]at this;omega) (λ j hj hjx=>ha.off _ (λ hp=>h1.2 ?_))
 have hk:=hu _ hp
 obtain⟨m,hml,hme⟩:=List.getElem_of_mem hp
 have hr:((revOf j d:Nat):Int)<n:=by
  have:=(hm.2 m hml).1
  rw[nth_eq ps m hml,hme]at this
  exact this
 refine⟨((j:Nat):Int),?_,?_⟩
 ·unfold leavesL
  refine List.mem_map.2 ⟨_,hp,?_⟩
  rw[turnedP_rev hd (Int.natCast_nonneg _) hr hn,Int.toNat_natCast,revOf_revOf hj]
 ·rw[pow_cast,←hjx]
  exact(Int.natCast_ediv j (2 ^ i))
theorem addF_all(g:KnF)(ks:List Int)(ds:List ByteArray)(f:Int→ByteArray):∀m,m≤len ks→(∀j,j<m→tth ds j=f (nth ks j))→∀k,addF g (ks.take m) ds k=if k ∈ ks.take m then some (f k)else g k
 | 0,_,_,k=>by simp[addF]
 | m+1,hm,h,k=>by
  have hm2:m<ks.length:=hm;have hs:ks.take (m+1)=ks.take m++[nth ks m]:=by rw[List.take_succ_eq_append_getElem hm2,nth_eq ks m hm2]
  rw[addF_take g ks ds m hm]
  by_cases e:k=nth ks m
  ·subst e
   rw[putF_same,h m (Nat.lt_succ_self m),hs,if_pos (by simp)]
  ·rw[putF_other _ _ e,addF_all g ks ds f m (by omega) (λ j hj=>h j (by omega)) k,hs]
   by_cases e2:k ∈ ks.take m
   ·rw[if_pos e2,if_pos (by simp[e2])]
   ·rw[if_neg e2,if_neg (by simp[e2,e])]
theorem addF_full(g:KnF)(ks:List Int)(ds:List ByteArray)(f:Int→ByteArray)(h:∀j,j<len ks→tth ds j=f (nth ks j))(k:Int):addF g ks ds k=if k ∈ ks then some (f k)else g k:=by
 have:=addF_all g ks ds f (len ks) (Nat.le_refl _) h k
 rw[take_len]at this
 exact this
theorem root_back{els own es:List ByteArray}{ps:List Int}{d:Nat}(hdd:depN els=d)(hd:d≤16)(hn:len els≤2 ^ d)(hu:∀k ∈ ps,U64 k)(hm:MayOk (len els:Nat) ps)(ha:Agree els own ps)
  (hel:len es=len ps) (hes:∀m,m<len ps→tth es m=tth own (nth ps m).toNat):∀i,i≤d→
  rootT (g0F (leavesL ps (d:Nat)) es) (rowsOf (leavesL ps (d:Nat)) d) (dgsL els (flatLv (rowsOf (leavesL ps (d:Nat)) d))) i=trF own d (leavesL ps (d:Nat)) i
 | 0,_=>by
  funext k
  show g0F (leavesL ps (d:Nat)) es k=_
  unfold g0F
  rw[addF_full noF _ _ (λ k=>plD own d 0 k.toNat) (λ m hm2=>?_) k]
  ·unfold trF noF
   by_cases e:k ∈ leavesL ps (d:Nat)
   ·rw[if_pos e,if_pos ⟨k,e,by simp⟩]
   ·rw[if_neg e,if_neg]
    rintro⟨y,hy,rfl⟩
    exact e (by simpa using hy)
  ·rw[leavesL_len]at hm2
   rw[leafD_at es m (by omega),hes m hm2]
   have h1:=(hm.2 m hm2).1;have h2:=(hu _ (mem_nth hm2)).1;have h3:nth (leavesL ps (d:Nat)) m=turnedZ (nth ps m) (d:Nat):=by
    have h9:m<ps.length:=hm2
    unfold leavesL nth
    simp[h9]
   rw[h3,turnedP_rev hd h2 h1 hn]
   show _=plD own d 0 (((revOf (nth ps m).toNat d:Nat):Int).toNat)
   rw[Int.toNat_natCast]
   show _=(if revOf (revOf (nth ps m).toNat d) d<len own then hashP leafT [tth own (revOf (revOf (nth ps m).toNat d) d)]else hashP noneT [])
   rw[revOf_revOf (show(nth ps m).toNat<2 ^ d by omega),if_pos (by rw[ha.len_];omega)]
 | i+1,hi=>by
  have IH:=root_back hdd hd hn hu hm ha hel hes i (by omega);have hil:i<len (rowsOf (leavesL ps (d:Nat)) d):=by rw[rowsOf_len];omega
  rw[rootT_next _ _ _ i hil,IH]
  have hH:∀k,addF (trF own d (leavesL ps (d:Nat)) i) (rnth (rowsOf (leavesL ps (d:Nat)) d) i) ((dgsL els (flatLv (rowsOf (leavesL ps (d:Nat)) d))).drop (usedR (rowsOf (leavesL ps (d:Nat)) d) i)) k=if AtK (leavesL ps (d:Nat)) i k ∨ k ∈ rnth (rowsOf (leavesL ps (d:Nat)) d) i then some (plD own d i k.toNat)else none:=λ k=>by
   rw[addF_full _ _ _ (λ k=>plD els d i k.toNat) (λ j hj=>by rw[tth_drop,dgs_at els _ i j hil hj,hdd]) k]
   by_cases e:k ∈ rnth (rowsOf (leavesL ps (d:Nat)) d) i
   ·rw[if_pos e,if_pos (.inr e),row_same hd hn hu hm ha (by omega) e]
   ·rw[if_neg e]
    by_cases e2:AtK (leavesL ps (d:Nat)) i k
    ·rw[trF_in e2,if_pos (.inl e2)]
    ·rw[trF_out e2,if_neg (λ h9=>h9.elim e2 e)]
  funext p
  by_cases hp:AtK (leavesL ps (d:Nat)) (i+1) p
  ·rw[trF_in hp]
   have hk:=(atK_half p).1 hp;have s0:sib (2 * p)=2 * p+1:=by unfold sib;split <;> omega
   have s1:sib (2 * p+1)=2 * p:=by unfold sib;split <;> omega
   have h0:AtK (leavesL ps (d:Nat)) i (2 * p) ∨ 2 * p ∈ rnth (rowsOf (leavesL ps (d:Nat)) d) i:=by
    by_cases e:AtK (leavesL ps (d:Nat)) i (2 * p)
    ·exact .inl e
    ·exact .inr ((row_memK _ d i (by omega) _).2 ⟨by rw[s0];exact hk.resolve_left e,e⟩)
   have h1:AtK (leavesL ps (d:Nat)) i (2 * p+1) ∨ 2 * p+1 ∈ rnth (rowsOf (leavesL ps (d:Nat)) d) i:=by
    by_cases e:AtK (leavesL ps (d:Nat)) i (2 * p+1)
    ·exact .inl e
    ·exact .inr ((row_memK _ d i (by omega) _).2 ⟨by rw[s1];exact hk.resolve_right e,e⟩)
   have hp0:0≤p:=by
    obtain⟨y,hy,rfl⟩:=hp
    exact Int.ediv_nonneg (leaves_in hd y hy).1 (Int.le_of_lt (Int.pow_pos (by decide)))
   rw[over_some (show prIs _ p from .inl (by rw[hH,if_pos h0];rfl))]
   unfold kidF
   rw[hH,hH,if_pos h0,if_pos h1]
   show some (hashP nodeT [plD own d i (2 * p).toNat,plD own d i (2 * p+1).toNat])=some (plD own d (i+1) p.toNat)
   rw[plD_up,show(2 * p).toNat=2 * p.toNat by omega,show(2 * p+1).toNat=2 * p.toNat+1 by omega]
  ·rw[trF_out hp]
   have hk:¬(AtK (leavesL ps (d:Nat)) i (2 * p) ∨ AtK (leavesL ps (d:Nat)) i (2 * p+1)):=λ h9=>hp ((atK_half p).2 h9)
   rw[not_or]at hk
   have s0:sib (2 * p)=2 * p+1:=by unfold sib;split <;> omega
   have s1:sib (2 * p+1)=2 * p:=by unfold sib;split <;> omega
   have n0:¬(AtK (leavesL ps (d:Nat)) i (2 * p) ∨ 2 * p ∈ rnth (rowsOf (leavesL ps (d:Nat)) d) i):=by
    rintro(h | h)
    ·exact hk.1 h
    ·exact hk.2 (by have:=((row_memK _ d i (by omega) _).1 h).1;rw[s0]at this;exact this)
   have n1:¬(AtK (leavesL ps (d:Nat)) i (2 * p+1) ∨ 2 * p+1 ∈ rnth (rowsOf (leavesL ps (d:Nat)) d) i):=by
    rintro(h | h)
    ·exact hk.2 h
    ·exact hk.1 (by have:=((row_memK _ d i (by omega) _).1 h).1;rw[s1]at this;exact this)
   have g0:=(hH (2 * p)).trans (if_neg n0);have g1:=(hH (2 * p+1)).trans (if_neg n1)
   unfold overF
   rw[g0,g1]
   simp
theorem back_root{els own es:List ByteArray}{ps:List Int}(hn:len els≤65536)(hu:∀k ∈ ps,U64 k)(hm:MayOk (len els:Nat) ps)(ha:Agree els own ps)
  (hel:len es=len ps) (hes:∀m,m<len ps→tth es m=tth own (nth ps m).toNat):
  rootE (len els:Nat) ps es (dgsL els (plcL (len els:Nat) ps))=0∧rootS (len els:Nat) ps es (dgsL els (plcL (len els:Nat) ps))=plD own (depN own) (depN own) 0:=by
 obtain⟨d,hdd⟩:∃d,depN els=d:=⟨_,rfl⟩
 have hd:d≤16:=by rw[←hdd];exact depN_le hn
 have hdz:depthZ (len els:Nat)=((d:Nat):Int):=by rw[depthZ_len hn,hdd]
 have hn2:len els≤2 ^ d:=by rw[←hdd];exact(depth_bd (len els) hn).2.1
 have hdo:depN own=d:=by unfold depN;rw[ha.len_];exact hdd
 have hrw:rowsP (len els:Nat) ps=rowsOf (leavesL ps (d:Nat)) d:=by unfold rowsP;rw[hdz,needs_rows hd hm.1]
 have hpl:plcL (len els:Nat) ps=flatLv (rowsOf (leavesL ps (d:Nat)) d):=by unfold plcL;rw[hdz,needs_rows hd hm.1]
 have hA:ArgOk (len els:Nat) ps es:=⟨⟨by omega,by omega,hm⟩,hel⟩;have hB:badB (dgsL els (plcL (len els:Nat) ps))=false:=bad_no (λ x hx=>by
  unfold dgsL at hx
  obtain⟨y,_,rfl⟩:=List.mem_map.1 hx
  exact plD_size _ _ _ _)
 have hN:len (dgsL els (plcL (len els:Nat) ps))=neededP (len els:Nat) ps:=by
  unfold neededP
  rw[hrw,hpl,dgs_all]
 have h:=rootE_ok hA hB hN
 refine⟨h.1,h.2.trans ?_⟩
 unfold digP
 rw[hrw,hpl,hdz,hdo]
 have hr:=root_back hdd hd hn2 hu hm ha hel hes d (Nat.le_refl _)
 unfold rootT at hr
 rw[List.take_of_length_le (by have:=rowsOf_len (leavesL ps (d:Nat)) d;rw[len_eq]at this;omega)]at hr
 rw[hr]
 have hk:AtK (leavesL ps (d:Nat)) d 0:=by
  have h1:0<(leavesL ps (d:Nat)).length:=by have h5:(leavesL ps (d:Nat)).length=len ps:=leavesL_len ps (d:Nat);have h6:=hm.1;omega
  refine⟨(leavesL ps (d:Nat))[0],List.getElem_mem h1,?_⟩
  have h2:=leaves_in hd _ (List.getElem_mem h1)
  exact(Int.ediv_eq_zero_of_lt h2.1 h2.2).symm
 unfold kidF
 rw[trF_in hk]
 rfl
end Go.Proofs.YtpobhbdomldecaaGreatDoor
namespace Go.Proofs.YtpobhbdomldecaaGreatDoor
open Go.RowKit Go.ChangeMaps
set_option linter.unusedSimpArgs false
set_option linter.unusedVariables false
def keysOf(L:List (Int × Value)):List Int:=L.map (·.1)
theorem keysOf_len(L:List (Int × Value)):(keysOf L).length=L.length:=by simp[keysOf]
theorem keysOf_get(L:List (Int × Value))(i:Nat)(h:i<L.length):(keysOf L)[i]'(by rw[keysOf_len];exact h)=L[i].1:=by simp[keysOf]
theorem Come.snoc{L:List (Int × Value)}{nb:Nat}{seen:Array Nat}{pre:List Int}(h:Come (keysOf L) nb seen pre)(hn:(L.map (·.1)).Nodup){i:Nat}(hi:i<L.length)(hs:¬nb+i ∈ seen):Come (keysOf L) nb (seen.push (nb+i)) (pre++[L[i].1]):=by
 have:=(h.next hn (i:=i) (by rw[keysOf_len];exact hi) hs).2
 rw[keysOf_get L i hi]at this
 exact this
theorem Come.fin{L:List (Int × Value)}{nb:Nat}{seen:Array Nat}{pre:List Int}(h:Come (keysOf L) nb seen pre)(ha:∀i,i<L.length→nb+i ∈ seen):∀k,k ∈ pre ↔ k ∈ L.map (·.1):=λ k=>by
 rw[h.2]
 constructor
 ·rintro⟨i,hi,_,e⟩;exact e ▸ List.getElem_mem hi
 ·intro hk
  obtain⟨i,hi,e⟩:=List.getElem_of_mem hk
  exact⟨i,hi,ha i (by simpa using hi),e⟩
theorem Ranging.keep{w w':World}{b r n:Nat}{q:IntKind}{l:List (Int × Value)}{seen:Array Nat}(h:Ranging w b r q n l seen)(h1:w'.heap[b]?=w.heap[b]?)(h2:w'.heap[r]?=w.heap[r]?):Ranging w' b r q n l seen:=⟨h1.trans h.map,h2.trans h.iter⟩
def KnownAt(b n:Nat)(g:KnF)(w:World):Prop:=∃L,w.heap[b]?=some (mObj .u64 n L)∧MapF L g
def KoverIs(g:KnF)(w:World)(e:Ending)(w':World):Prop:=∃b,e=.returned (.map (some b))∧KnownAt b 0 (overF g) w'∧w.heap.size≤b∧Below w.heap.size w w'
set_option maxRecDepth 100000 in
set_option maxHeartbeats 8000000 in
theorem kover_any(b n:Nat)(g:KnF)(w:World)(h:KnownAt b n g w)(hz:∀k d,g k=some d→d.size≤1000):
  Calls Tryz.prog 170 #[.map (some b)] w (KoverIs g w):=by
 obtain⟨L,hb,hm⟩:=h
 have HL:=Lib.hid hb;have HM:=Lib.hid hm;have HZ:=Lib.hid hz;have HBL:Hid (b<w.heap.size):=Lib.hid (lt_of_block hb);have hmm:=@run_makeMap Tryz.prog;clear hb hm hz
 go_enter Tryz.func170,Tryz.ntmps170
 go_upto_region 2 with fail
 clear hmm
 obtain⟨pb,hpb⟩:∃pb,w.heap.size=pb:=⟨_,rfl⟩
 obtain⟨V,hV⟩:∃V,w.alloc (Obj.map #[] 0)=V:=⟨_,rfl⟩
 have HVP:Hid (V.heap[pb]?=some (mObj .u64 0 [])):=Lib.hid (by rw[←hV];exact alloc_new_at _ hpb);have HVL:Hid (V.heap[b]?=some (mObj .u64 n L)):=Lib.hid (by rw[←hV];exact block_alloc HL.out _);have HVW:Hid (Below w.heap.size w V):=Lib.hid (by rw[←hV];exact balloc (Below.refl _ _) _);have HBP:Hid (b<pb∧w.heap.size≤pb):=Lib.hid ⟨by have:=HBL.out;omega,by omega⟩
 rw[hV,hpb]
 clear hV hpb HL
 go_wp2_with (at_range;refine wpList_range_m rfl _ 200 23 9 .u64 rfl Tryz.underlying200 b n _ rfl HVL.out ?_;intro hrg)
 go_frame
 obtain⟨r,hr⟩:∃r,V.heap.size=r:=⟨_,rfl⟩
 obtain⟨U,hU⟩:∃U,V.alloc (.mapIter (some b) (n+L.length) #[] (n+L.length))=U:=⟨_,rfl⟩
 rw[hr,hU]at hrg ⊢
 have HR:=Lib.hid hrg;have HUP:Hid (U.heap[pb]?=some (mObj .u64 0 [])):=Lib.hid (by rw[←hU];exact block_alloc HVP.out _);have HUW:Hid (Below w.heap.size w U):=Lib.hid (by rw[←hU];exact balloc HVW.out _);have HRP:Hid (pb<r):=Lib.hid (by rw[←hr];exact lt_of_block HVP.out);clear hU hr hrg HVL HVP HVW
 go_loopw [4,5,6] (λ _ _ _ wr=>∃(seen:Array Nat) (pre:List Int) (QL:List (Int × Value)),Hid (Ranging wr b r .u64 n L seen)∧Hid (Come (keysOf L) n seen pre)∧Hid (wr.heap[pb]?=some (mObj .u64 0 QL))∧Hid (PairF QL (resF g pre))∧Hid (Below w.heap.size w wr)) (λ _ _ _ wr=>rLeft wr r (n+L.length))
 case atStart=>exact⟨#[],[],[],HR,Lib.hid (Come.start _ _),HUP,Lib.hid (by rw[resF_nil];exact PairF.nil),HUW⟩
 case round=>
  clear HR HUP HUW
  obtain⟨seen,pre,QL,HR,HC,HP,HF,HW⟩:=hrel
  go_wp2_with (at_next;refine wpList_next_m rfl _ rfl b r .u64 n _ seen rfl HR.out ?_ ?_)
  ·intro hall
   have HALL:=Lib.hid hall;clear hall;have HQA:Hid (PairF QL g):=Lib.hid (by
    have h1:=HF.out
    rw[resF_all (g:=g) (pre:=pre) (λ k hk=>(HC.out.fin HALL.out k).2 (HM.out.keys hk))]at h1
    exact h1)
   clear HALL HC HF HR;have hmm:=@run_makeMap Tryz.prog
   go_upto_region 9 with fail
   clear hmm
   obtain⟨ob,hob⟩:∃ob,wr.heap.size=ob:=⟨_,rfl⟩
   obtain⟨V,hV⟩:∃V,wr.alloc (Obj.map #[] 0)=V:=⟨_,rfl⟩
   have HVO:Hid (V.heap[ob]?=some (mObj .u64 0 [])):=Lib.hid (by rw[←hV];exact alloc_new_at _ hob);have HVP:Hid (V.heap[pb]?=some (mObj .u64 0 QL)):=Lib.hid (by rw[←hV];exact block_alloc HP.out _);have HVW:Hid (Below w.heap.size w V):=Lib.hid (by rw[←hV];exact balloc HW.out _);have HOP:Hid (pb<ob∧w.heap.size≤ob):=Lib.hid ⟨by rw[←hob];exact lt_of_block HP.out,by rw[←hob];exact HW.out.size⟩
   rw[hV,hob]
   clear hV hob HP HW
   obtain⟨zn,hzn⟩:∃zn:Nat,0=zn:=⟨_,rfl⟩
   have HVP:=Lib.hid (by have h:=HVP.out;rw[hzn]at h;exact h);clear hzn
   go_wp2_with (at_range;refine wpList_range_m rfl _ 263 23 265 .u64 rfl Tryz.underlying263 pb zn _ rfl HVP.out ?_;intro hrg)
   go_frame
   obtain⟨r2,hr2⟩:∃r2,V.heap.size=r2:=⟨_,rfl⟩
   obtain⟨U2,hU2⟩:∃U2,V.alloc (.mapIter (some pb) (zn+QL.length) #[] (zn+QL.length))=U2:=⟨_,rfl⟩
   rw[hr2,hU2]at hrg ⊢
   have HR:=Lib.hid hrg;have HUO:Hid (U2.heap[ob]?=some (mObj .u64 0 [])):=Lib.hid (by rw[←hU2];exact block_alloc HVO.out _);have HUW:Hid (Below w.heap.size w U2):=Lib.hid (by rw[←hU2];exact balloc HVW.out _);have HRO:Hid (ob<r2):=Lib.hid (by rw[←hr2];exact lt_of_block HVO.out);clear hU2 hr2 hrg HVO HVP HVW
   go_loopw [8,9] (λ _ _ wr=>∃(seen:Array Nat) (pre:List Int) (OL:List (Int × Value)),Hid (Ranging wr pb r2 .u64 zn QL seen)∧Hid (Come (keysOf QL) zn seen pre)∧Hid (wr.heap[ob]?=some (mObj .u64 0 OL))∧Hid (MapF OL (resF (overF g) pre))∧Hid (Below w.heap.size w wr)) (λ _ _ wr=>rLeft wr r2 (zn+QL.length))
   case atStart=>exact⟨#[],[],[],HR,Lib.hid (Come.start _ _),HUO,Lib.hid (by rw[resF_nil];exact MapF.nil),HUW⟩
   case round=>
    clear HR HUO HUW
    obtain⟨seen,pre,OL,HR,HC,HO,HF,HW⟩:=hrel
    go_wp2_with (at_next;refine wpList_next_m rfl _ rfl pb r2 .u64 zn _ seen rfl HR.out ?_ ?_)
    ·intro hall
     have HALL:=Lib.hid hall;clear hall;have HOA:Hid (MapF OL (overF g)):=Lib.hid (by
      have h1:=HF.out
      rw[resF_all (g:=overF g) (pre:=pre) (λ k hk=>(HC.out.fin HALL.out k).2 (HQA.out.keys hk))]at h1
      exact h1)
     clear HALL HC HF HR
     go_wp2
     go_ret
     exact⟨ob,rfl,⟨OL,HO.out,HOA.out⟩,HOP.out.2,HW.out⟩
    ·intro i hi w1 hns hr1 hlt hb1 hsz hoth hen
     have HR1:=Lib.hid hr1;have HRX9:=Lib.hid hr1;have HLT:=Lib.hid hlt;have HC1:Hid (Come (keysOf QL) zn (seen.push (zn+i)) (pre++[QL[i].1])):=Lib.hid (HC.out.snoc HQA.out.nodup hi hns);have HO1:Hid (w1.heap[ob]?=some (mObj .u64 0 OL)):=Lib.hid ((hoth ob (by have:=HRO.out;omega)).trans HO.out);have HW1:Hid (Below w.heap.size w w1):=Lib.hid (HW.out.trans (hb1 _ (by have:=HRO.out;have:=HOP.out;omega)))
     obtain⟨hd,hpi⟩:=HQA.out.at i hi
     have hku:=HQA.out.u64 _ (List.getElem_mem hi)
     obtain⟨k,hk⟩:∃k,QL[i].1=k:=⟨_,rfl⟩
     rw[hk]at hku hen HC1 hd hpi ⊢
     obtain⟨x0,hx0⟩:∃x0,kidF g (2 * k)=x0:=⟨_,rfl⟩
     obtain⟨x1,hx1⟩:∃x1,kidF g (2 * k+1)=x1:=⟨_,rfl⟩
     have hd2:QL[i].2=.agg #[.string x0,.string x1]:=by rw[hd,←hx0,←hx1];rfl
     rw[hd2]at hen ⊢
     have hov:overF g k=some (hashP nodeT [x0,x1]):=by rw[←hx0,←hx1];exact over_some hpi
     have HOV:=Lib.hid hov;have HKU:=Lib.hid hku;have HXZ:Hid (x0.size≤1000000∧x1.size≤1000000):=Lib.hid (by
      have hkz:∀j,(kidF g j).size≤1000000:=λ j=>by
       unfold kidF
       cases hg:g j with
       | none=>show(0:Nat)≤_;omega
       | some d=>have:=HZ.out j d hg;show d.size≤_;omega
      rw[←hx0,←hx1]
      exact⟨hkz _,hkz _⟩)
     clear hd hd2 hku hk hns hr1 hlt hb1 hsz hoth hx0 hx1 hov hpi
     go_upto_region 12 with fail
     obtain⟨q,hq⟩:∃q,w1.heap.size=q:=⟨_,rfl⟩
     obtain⟨X,hX⟩:∃X,w1.alloc (Obj.cells #[.string x0,.string x1] 265)=X:=⟨_,rfl⟩
     have HQ0:Hid (X.heap[q]?=some (.cells #[.string x0,.string x1] 265 (0,0))):=Lib.hid (by rw[←hX];exact alloc_new_at _ hq);have HRX:Hid (Ranging X pb r2 .u64 zn QL (seen.push (zn+i))):=Lib.hid (HR1.out.keep (by rw[←hX];exact Below.heap_alloc _ _ _ (lt_of_block HR1.out.map)) (by rw[←hX];exact Below.heap_alloc _ _ _ (lt_of_block HR1.out.iter)));have HOX:Hid (X.heap[ob]?=some (mObj .u64 0 OL)):=Lib.hid (by rw[←hX];exact block_alloc HO1.out _);have HWX:Hid (Below w.heap.size w X):=Lib.hid (by rw[←hX];exact balloc HW1.out _)
     rw[hq,hX]
     clear hq hX HR1 HO1 HW1 HR HC HO HW;have c0:X.cell? ⟨q,0,none⟩=some (.string x0):=by rw[block_cell HQ0.out];rfl
     have c1:X.cell? ⟨q,1,none⟩=some (.string x1):=by rw[block_cell HQ0.out];rfl
     have c2:q<X.heap.size:=lt_of_block HQ0.out
     go_wp2_with fail
     clear c0 c1 c2
     refine(hash2_any nodeT x0 x1 X (by decide) (by decide) HXZ.out.1 HXZ.out.2).mono ?_
     rintro e w' ⟨rfl,hXd⟩
     have HRZ:Hid (Ranging w' pb r2 .u64 zn QL (seen.push (zn+i))):=Lib.hid (HRX.out.keep (hXd.block _ (lt_of_block HRX.out.map)) (hXd.block _ (lt_of_block HRX.out.iter)));have HOZ:Hid (w'.heap[ob]?=some (mObj .u64 0 OL)):=Lib.hid ((hXd.block _ (lt_of_block HOX.out)).trans HOX.out);have HWZ:Hid (Below w.heap.size w w'):=Lib.hid (bnext HWX.out hXd)
     obtain⟨D,hD⟩:∃D,hashP nodeT [x0,x1]=D:=⟨_,rfl⟩
     rw[hD]at HOV ⊢
     clear hXd HRX HOX HWX HQ0 hD
     go_wp2_with (at_mapUpdate;refine wpList_mapUpdate_m rfl _ _ _ 200 23 9 .u64 rfl Tryz.underlying200 Tryz.underlying23 ob 0 _ rfl HOZ.out _ _ rfl rfl ?_)
     have HPP:Hid ((setBlock w' ob (mObj .u64 0 (mPut OL k (.string D)))).heap[ob]?=some (mObj .u64 0 (mPut OL k (.string D)))):=Lib.hid (setBlock_same HOZ.out);have HFF:Hid (MapF (mPut OL k (.string D)) (resF (overF g) (pre++[k]))):=Lib.hid (by
      rw[resF_snoc pre HOV.out]
      exact HF.out.put _ D HKU.out)
     have HRR:Hid (Ranging (setBlock w' ob (mObj .u64 0 (mPut OL k (.string D)))) pb r2 .u64 zn QL (seen.push (zn+i))):=Lib.hid (HRZ.out.keep (setBlock_other (by have:=HOP.out;omega)) (setBlock_other (by have:=HRO.out;omega)));have HWW:Hid (Below w.heap.size w (setBlock w' ob (mObj .u64 0 (mPut OL k (.string D))))):=Lib.hid (setBlock_below HWZ.out HOP.out.2);have HLL:Hid (rLeft (setBlock w' ob (mObj .u64 0 (mPut OL k (.string D)))) r2 (zn+QL.length)<rLeft wr r2 (zn+QL.length)):=Lib.hid (by have:=HLT.out;rw[HRX9.out.left]at this;rw[HRR.out.left];exact this)
     go_roundw
     case rel=>
      (repeat apply Exists.intro)
      exact⟨⟨_,_,_,HRR,HC1,HPP,HFF,HWW⟩,rfl⟩
     case measure=>exact HLL.out
  ·intro i hi w1 hns hr1 hlt hb1 hsz hoth hen
   have HR1:=Lib.hid hr1;have HRX9:=Lib.hid hr1;have HLT:=Lib.hid hlt;have HC1:Hid (Come (keysOf L) n (seen.push (n+i)) (pre++[L[i].1])):=Lib.hid (HC.out.snoc HM.out.nodup hi hns);have HP1:Hid (w1.heap[pb]?=some (mObj .u64 0 QL)):=Lib.hid ((hoth pb (by have:=HRP.out;omega)).trans HP.out);have HW1:Hid (Below w.heap.size w w1):=Lib.hid (HW.out.trans (hb1 _ (by have:=HRP.out;have:=HBP.out;omega)))
   obtain⟨d,hd,hg⟩:=HM.out.at i hi
   have hku:=HM.out.u64 _ (List.getElem_mem hi)
   obtain⟨k,hk⟩:∃k,L[i].1=k:=⟨_,rfl⟩
   obtain⟨kn,rfl⟩:∃kn:Nat,k=(kn:Nat):=⟨k.toNat,by unfold U64 at hku;omega⟩
   rw[hk]at hg hku hen HC1 ⊢
   rw[hd]at hen ⊢
   have HG:=Lib.hid hg;have hk1:kn<18446744073709551616:=by unfold U64 at hku;omega
   have HKU:=Lib.hid hku;clear hd hg hku hk hns hr1 hlt hb1 hsz hoth
   obtain⟨y,hy⟩:∃y,kn % 2=y:=⟨_,rfl⟩
   have s3:bits .and .u64 ((kn:Nat):Int) 1=((y:Nat):Int):=by
    rw[show(1:Int)=((1:Nat):Int)from rfl,u64_and_nat _ _ hk1 (by omega),Nat.and_one_is_mod,hy]
   have HPA:Hid (∀w9,Calls Tryz.prog 228 #[.int .u64 ((kn:Nat):Int)] w9 λ e w'=>e=.returned (.int .u64 (((kn:Nat):Int) / 2))∧w9=w'):=Lib.hid (λ w9=>(parent_any ((kn:Nat):Int) w9 (by omega) (by omega)).mono (λ e w' h9=>⟨h9.1,h9.2.symm⟩))
   go_wp2_with fail
   refine(HPA.out w1).mono ?_
   rintro e w2 ⟨rfl,rfl⟩
   obtain⟨ph,hph⟩:∃ph:Int,((kn:Nat):Int) / 2=ph:=⟨_,rfl⟩
   have HPH:=Lib.hid hph
   obtain⟨x0,hx0⟩:∃x0,kidF (resF g pre) (2 * ph)=x0:=⟨_,rfl⟩
   obtain⟨x1,hx1⟩:∃x1,kidF (resF g pre) (2 * ph+1)=x1:=⟨_,rfl⟩
   have HLK:Hid ((mGet QL ph).getD (.agg #[.string ⟨#[]⟩,.string ⟨#[]⟩])=.agg #[.string x0,.string x1]):=Lib.hid (by rw[←hx0,←hx1];exact HF.out.look ph);have HX0:=Lib.hid hx0;have HX1:=Lib.hid hx1
   rw[hph]at HPA ⊢
   clear hph hx0 hx1
   go_upto_region 6 with(at_lookup;refine wpList_lookup_m rfl _ _ 263 23 265 .u64 rfl Tryz.underlying263 Tryz.underlying23 (.agg #[.string ⟨#[]⟩,.string ⟨#[]⟩]) (Tryz.zeroValue265 _) pb 0 _ rfl HP1.out _ rfl ?_;rw[HLK.out])
   obtain⟨q,hq⟩:∃q,w1.heap.size=q:=⟨_,rfl⟩
   obtain⟨X,hX⟩:∃X,w1.alloc (Obj.cells #[.string x0,.string x1] 265)=X:=⟨_,rfl⟩
   have HQ0:Hid (X.heap[q]?=some (.cells #[.string x0,.string x1] 265 (0,0))):=Lib.hid (by rw[←hX];exact alloc_new_at _ hq);have HRX:Hid (Ranging X b r .u64 n L (seen.push (n+i))):=Lib.hid (HR1.out.keep (by rw[←hX];exact Below.heap_alloc _ _ _ (lt_of_block HR1.out.map)) (by rw[←hX];exact Below.heap_alloc _ _ _ (lt_of_block HR1.out.iter)));have HPX:Hid (X.heap[pb]?=some (mObj .u64 0 QL)):=Lib.hid (by rw[←hX];exact block_alloc HP1.out _);have HWX:Hid (Below w.heap.size w X):=Lib.hid (by rw[←hX];exact balloc HW1.out _);have HQL:Hid (r<q∧b<q∧pb<q):=Lib.hid ⟨by rw[←hq];exact lt_of_block HR1.out.iter,by rw[←hq];exact lt_of_block HR1.out.map,by rw[←hq];exact lt_of_block HP1.out⟩
   rw[hq,hX]
   clear hq hX HR1 HP1 HW1 HR HC HP HW;have hy2:y<2:=by omega
   obtain⟨v0,hv0⟩:∃v0,(#[Value.string x0,.string x1]:Array Value)[y]?=some v0:=by
    rcases(by omega:y=0 ∨ y=1)with rfl | rfl <;> exact⟨_,rfl⟩
   have c0:X.cell? ⟨q,y,none⟩=some v0:=by rw[block_cell HQ0.out,hv0]
   have c1:X.frozen? ⟨q,y,none⟩=false:=block_free HQ0.out y;have c2:q<X.heap.size:=lt_of_block HQ0.out;have b1:¬2≤y:=by omega
   have b2:¬(2:Int)≤(y:Int):=by omega
   obtain⟨z0,hz0⟩:∃z0,(if y=0 then d else x0)=z0:=⟨_,rfl⟩
   obtain⟨z1,hz1⟩:∃z1,(if y=0 then x1 else d)=z1:=⟨_,rfl⟩
   have HZS:Hid ((#[Value.string x0,.string x1]:Array Value).setIfInBounds y (.string d)=#[.string z0,.string z1]):=Lib.hid (by
    rw[←hz0,←hz1]
    rcases(by omega:y=0 ∨ y=1)with rfl | rfl <;> rfl)
   have HZP:Hid (prPut (resF g pre) ((kn:Nat):Int) d=.agg #[.string z0,.string z1]):=Lib.hid (by
    unfold prPut
    rw[HPH.out,HX0.out,HX1.out,←hz0,←hz1]
    rcases(by omega:y=0 ∨ y=1)with rfl | rfl
    ·rw[if_pos (show((kn:Nat):Int) % 2=0 by omega)];rfl
    ·rw[if_neg (show ¬((kn:Nat):Int) % 2=0 by omega)];rfl)
   clear hv0 hy hy2 hz0 hz1
   go_upto_region 7 with fail
   clear c0 c1 c2 b1 b2 s3
   obtain⟨Y,hY⟩:∃Y,X.setCell ⟨q,y,none⟩ (.string d)=Y:=⟨_,rfl⟩
   have HQB:Hid (Y.heap[q]?=some (.cells #[.string z0,.string z1] 265 (0,0))):=Lib.hid (by rw[←hY,←HZS.out];exact block_setCell HQ0.out _);have HRY:Hid (Ranging Y b r .u64 n L (seen.push (n+i))):=Lib.hid (HRX.out.keep (by rw[←hY];exact Below.heap_setCell _ _ _ _ (show b≠q by have:=HQL.out;omega)) (by rw[←hY];exact Below.heap_setCell _ _ _ _ (show r≠q by have:=HQL.out;omega)));have HPY:Hid (Y.heap[pb]?=some (mObj .u64 0 QL)):=Lib.hid (by rw[←hY];exact(Below.heap_setCell _ _ _ _ (show pb≠q by have:=HQL.out;omega)).trans HPX.out);have HWY:Hid (Below w.heap.size w Y):=Lib.hid (by rw[←hY];exact bset HWX.out (show w.heap.size≤q by have:=HQL.out;have:=HBP.out;omega) _)
   rw[hY]
   clear hY HQ0 HRX HPX HWX HZS;have HPB:Hid (∀w9,Calls Tryz.prog 228 #[.int .u64 ((kn:Nat):Int)] w9 λ e w'=>e=.returned (.int .u64 ph)∧Below w9.heap.size w9 w'):=Lib.hid (λ w9=>(HPA.out w9).mono (λ e w' h9=>⟨h9.1,by rw[←h9.2];exact Below.refl _ _⟩));have HI2:Hid ((Tryz.prog.info? 265).map (·.size)=some (#[Value.string z0,.string z1]:Array Value).size):=Lib.hid (by kernel_rfl)
   refine wp_region_tail 4 1000 (none) (phis (List.map qv [.map (some pb),.int .u64 (kn:Nat),.int .u64 ph,.agg #[.string z0,.string z1]])) rfl (by kernel_rfl) (by kernel_rfl) (mono_of mono_qv) (steps_of 4 ⟨?s0,?s1,?s2,?s3,trivial⟩) ?_
   case s0=>
    refine qV (λ _=>rfl) rfl λ av wv hE hO hD=>?_
    simp[go_sem,qF av 3 (.map (some pb)) (hO.2.2 3 rfl)]
   case s1=>
    refine qV (λ _=>rfl) rfl λ av wv hE hO hD=>?_
    simp[go_sem,qF av 4 (.int .u64 (kn:Nat)) (hO.2.2 4 rfl)]
   case s2=>
    refine step_wp (λ av wv hE hS hO hD=>⟨rfl,?_⟩)
    have f27:=qE (hD.1 rfl _ rfl)
    refine wp_of_call (v:=.int .u64 ph) (by simp[go_sem,f27]) (HPB.out wv) (λ w2 hb=>⟨_,rfl,es_of_ext hb,rfl⟩)
   case s3=>
    refine step_wp (λ av wv hE hS hO hD=>⟨rfl,?_⟩)
    have h6:av.eval (.tmp 6)=(.pointer (some ⟨q,0,none⟩)):=hO.2.2 6 rfl
    exact wp_load_row 265 _ rfl q h6 265 #[.string z0,.string z1] (0,0) _ (extB_block hE (by simp) HQB.out) Tryz.underlying265 rfl HI2.out ⟨_,rfl,es_of_ext (Ext_refl _),rfl⟩
   intro a' w' hE hO hall
   have hA:=act_of_outer (ds:=[26,27,28,29]) rfl hO (by kernel_rfl)
   obtain⟨j0,j1,j2,j3,-⟩:=hall
   simp only[List.foldl_cons,List.foldl_nil,Act.put,List.setIfInBounds_toArray,List.set_cons_succ,List.set_cons_zero,qJ 26 (j0 _ rfl),qJ 27 (j1 _ rfl),qJ 28 (j2 _ rfl),qJ 29 (j3 _ rfl)]at hA
   clear hO j0 j1 j2 j3
   subst hA
   have hXd:=of_drew hE;have HRZ:Hid (Ranging w' b r .u64 n L (seen.push (n+i))):=Lib.hid (HRY.out.keep (hXd.block _ (lt_of_block HRY.out.map)) (hXd.block _ (lt_of_block HRY.out.iter)));have HPZ:Hid (w'.heap[pb]?=some (mObj .u64 0 QL)):=Lib.hid ((hXd.block _ (lt_of_block HPY.out)).trans HPY.out);have HWZ:Hid (Below w.heap.size w w'):=Lib.hid (bnext HWY.out hXd);clear hE hXd HPB HI2 HQB HRY HPY HWY
   simp only[List.drop_succ_cons,List.drop_zero]
   go_wp2_with (at_mapUpdate;refine wpList_mapUpdate_m rfl _ _ _ 263 23 265 .u64 rfl Tryz.underlying263 Tryz.underlying23 pb 0 _ rfl HPZ.out _ _ rfl rfl ?_)
   have HPP:Hid ((setBlock w' pb (mObj .u64 0 (mPut QL ph (.agg #[.string z0,.string z1])))).heap[pb]?=some (mObj .u64 0 (mPut QL ph (.agg #[.string z0,.string z1])))):=Lib.hid (setBlock_same HPZ.out);have HFF:Hid (PairF (mPut QL ph (.agg #[.string z0,.string z1])) (resF g (pre++[((kn:Nat):Int)]))):=Lib.hid (by
    rw[resF_snoc pre HG.out,←HZP.out,←HPH.out]
    exact HF.out.put _ d HKU.out)
   have HRR:Hid (Ranging (setBlock w' pb (mObj .u64 0 (mPut QL ph (.agg #[.string z0,.string z1])))) b r .u64 n L (seen.push (n+i))):=Lib.hid (HRZ.out.keep (setBlock_other (by have:=HBP.out;omega)) (setBlock_other (by have:=HRP.out;omega)));have HWW:Hid (Below w.heap.size w (setBlock w' pb (mObj .u64 0 (mPut QL ph (.agg #[.string z0,.string z1]))))):=Lib.hid (setBlock_below HWZ.out HBP.out.2);have HLL:Hid (rLeft (setBlock w' pb (mObj .u64 0 (mPut QL ph (.agg #[.string z0,.string z1])))) r (n+L.length)<rLeft wr r (n+L.length)):=Lib.hid (by have:=HLT.out;rw[HRX9.out.left]at this;rw[HRR.out.left];exact this)
   go_roundw
   case rel=>
    (repeat apply Exists.intro)
    exact⟨⟨_,_,_,HRR,HC1,HPP,HFF,HWW⟩,rfl⟩
   case measure=>exact HLL.out
end Go.Proofs.YtpobhbdomldecaaGreatDoor
namespace Go.Proofs.YtpobhbdomldecaaGreatDoor
open Go.RowKit Go.ChangeMaps
set_option linter.unusedSimpArgs false
set_option linter.unusedVariables false
set_option maxRecDepth 100000 in
set_option maxHeartbeats 4000000 in
theorem proot_arg(n:Int)(ps:List Int)(es ds:List ByteArray)(pa ea da:Option Addr)(pc ec dc:Nat)(w:World)(hp:U64s w pa ps)(hl:len ps≤100)(h0:-9223372036854775808≤n)(h1:n≤9223372036854775807)(hb:¬ArgOk n ps es)(hle:len es≤1000000):
  Calls Tryz.prog 102 #[.int .i64 n,.slice pa (len ps) pc,.slice ea (len es) ec,.slice da (len ds) dc] w (RootIs n ps es ds w):=by
 have HE:Hid (rootE n ps es ds=2∧rootS n ps es ds=⟨#[]⟩):=Lib.hid (by
  have h9:rootE n ps es ds=2:=by unfold rootE;rw[if_pos hb]
  exact⟨h9,by unfold rootS;rw[h9];rfl⟩)
 have HM:=Lib.hid (λ w9 hb9=>pmay_any n ps pa pc w9 (hp.below hb9) (by omega) h0 h1)
 by_cases hs:SizeOk n ps
 ·have hne:¬len es=len ps:=λ h9=>hb ⟨hs,h9⟩
  have z1:¬((len es:Nat):Int)=((len ps:Nat):Int):=by omega
  rw[decide_eq_true hs]at HM
  clear hb hs hp hl h0 h1 hne hle
  go_enter Tryz.func102,Tryz.ntmps102
  go_wp2_with fail
  refine(HM.out _ (balloc (Below.refl _ _) _)).mono ?_
  rintro e w1 ⟨rfl,hb1⟩
  have HB1:Hid (Below w.heap.size w w1):=Lib.hid (bnext (balloc (Below.refl _ _) _) hb1);clear hb1
  go_wp2
  go_ret2
  exact⟨by rw[HE.out.1,HE.out.2];rfl,HB1.out⟩
 ·rw[decide_eq_false hs]at HM
  clear hb hs hp hl h0 h1 hle
  go_enter Tryz.func102,Tryz.ntmps102
  go_wp2_with fail
  refine(HM.out _ (balloc (Below.refl _ _) _)).mono ?_
  rintro e w1 ⟨rfl,hb1⟩
  have HB1:Hid (Below w.heap.size w w1):=Lib.hid (bnext (balloc (Below.refl _ _) _) hb1);clear hb1
  go_wp2
  go_ret2
  exact⟨by rw[HE.out.1,HE.out.2];rfl,HB1.out⟩
set_option maxRecDepth 100000 in
set_option maxHeartbeats 4000000 in
theorem proot_form(n:Int)(ps:List Int)(es ds:List ByteArray)(pa ea da:Option Addr)(pc ec dc:Nat)(w:World)(hp:U64s w pa ps)(hd:Txts w da ds)(hl:len ps≤100)(hld:len ds≤1000000)(h0:-9223372036854775808≤n)(h1:n≤9223372036854775807)(hb:ArgOk n ps es)(hbad:badB ds=true):
  Calls Tryz.prog 102 #[.int .i64 n,.slice pa (len ps) pc,.slice ea (len es) ec,.slice da (len ds) dc] w (RootIs n ps es ds w):=by
 have HE:Hid (rootE n ps es ds=5∧rootS n ps es ds=⟨#[]⟩):=Lib.hid (by
  have h9:rootE n ps es ds=5:=by unfold rootE;rw[if_neg (λ h=>h hb),if_pos hbad]
  exact⟨h9,by unfold rootS;rw[h9];rfl⟩)
 have HM:=Lib.hid (λ w9 hb9=>pmay_any n ps pa pc w9 (hp.below hb9) (by omega) h0 h1)
 rw[decide_eq_true hb.1]at HM
 have hel:=hb.2;have HBD:=Lib.hid (λ w9 hb9=>bad_any da dc ds w9 (hd.below hb9) (by omega))
 rw[hbad]at HBD
 clear hb hp hl h0 h1 hbad hld hd
 go_enter Tryz.func102,Tryz.ntmps102
 rw[hel]
 go_upto_region 1 with fail
 obtain⟨pb,hpb⟩:∃pb,w.heap.size=pb:=⟨_,rfl⟩
 obtain⟨V,hV⟩:∃V,w.alloc (.cells #[.slice da (len ds) dc] 36)=V:=⟨_,rfl⟩
 have HVP:Hid (V.heap[pb]?=some (.cells #[.slice da (len ds) dc] 36 (0,0))):=Lib.hid (by rw[←hV];exact alloc_new_at _ hpb);have HVW:Hid (Below w.heap.size w V):=Lib.hid (by rw[←hV];exact balloc (Below.refl _ _) _)
 rw[hpb,hV]
 clear hV hpb
 go_wp2_with fail
 refine(HM.out _ HVW.out).mono ?_
 rintro e w1 ⟨rfl,hb1⟩
 have HP1:Hid (w1.heap[pb]?=some (.cells #[.slice da (len ds) dc] 36 (0,0))):=Lib.hid ((hb1.block _ (lt_of_block HVP.out)).trans HVP.out);have HB1:Hid (Below w.heap.size w w1):=Lib.hid (bnext HVW.out hb1);clear hb1;have c0:w1.cell? ⟨pb,0,none⟩=some (.slice da (len ds) dc):=by rw[block_cell HP1.out];rfl
 have c2:pb<w1.heap.size:=lt_of_block HP1.out
 go_wp2_with fail
 refine(HBD.out w1 HB1.out).mono ?_
 rintro e w2 ⟨rfl,rfl⟩
 clear c0 c2
 go_wp2
 go_ret2
 exact⟨by rw[HE.out.1,HE.out.2];rfl,HB1.out⟩
end Go.Proofs.YtpobhbdomldecaaGreatDoor
namespace Go.Proofs.YtpobhbdomldecaaGreatDoor
open Go.RowKit Go.ChangeMaps
set_option linter.unusedSimpArgs false
set_option linter.unusedVariables false
def NextIs(pb:Nat)(a:Option Addr)(ds:List ByteArray)(w:World)(e:Ending)(w':World):Prop:=∃a' c',e=.returned (.string (tth ds 0))∧w'=w.setCell ⟨pb,0,none⟩ (.slice a' (len ds - 1) c')∧len ds - 1≤c'∧(∀w9,Txts w9 a ds→Txts w9 a' (ds.drop 1))
theorem txts_drop1{w:World}{b off:Nat}{ds:List ByteArray}(h:Txts w (some ⟨b,off,none⟩) ds):Txts w (some ⟨b,off+1,none⟩) (ds.drop 1):=λ i hi=>by
 have h1:i<(ds.drop 1).length:=hi
 rw[List.length_drop]at h1
 obtain⟨b2,off2,e,hc⟩:=h (i+1) (by omega:i+1<ds.length)
 cases e
 refine⟨b,off+1,rfl,?_⟩
 rw[tth_drop,Nat.add_assoc,Nat.add_comm 1 i]
 exact hc
theorem nextd_any(pb:Nat)(a:Option Addr)(c:Nat)(ds:List ByteArray)(w:World)(hb:w.heap[pb]?=some (.cells #[.slice a (len ds) c] 36 (0,0)))(ht:Txts w a ds)(h0:0<len ds)(hc:len ds≤c):
  Calls Tryz.prog 169 #[.pointer (some ⟨pb,0,none⟩)] w (NextIs pb a ds w):=by
 obtain⟨b,off,rfl,hcell⟩:=ht 0 h0
 have c0:w.cell? ⟨pb,0,none⟩=some (.slice (some ⟨b,off,none⟩) (len ds) c):=by rw[block_cell hb];rfl
 have c1:w.frozen? ⟨pb,0,none⟩=false:=block_free hb 0;have c2:pb<w.heap.size:=lt_of_block hb;have l1:=lt_of_cell hcell;have z0:(0:Int)<(len ds:Int):=by omega
 have z1:¬len ds≤0:=by omega
 rw[Nat.add_zero]at hcell
 clear hb ht
 go_enter Tryz.func169,Tryz.ntmps169
 go_wp2_with fail
 ·skip
  go_ret
  refine⟨_,_,rfl,rfl,by omega,λ w9 h9=>?_⟩
  rw[show ds.drop 1=[]from List.drop_eq_nil_of_le (by have:len ds=ds.length:=rfl;omega)]
  exact Txts.nil _ _
 ·skip
  go_ret
  exact⟨_,_,rfl,rfl,by omega,λ w9 h9=>txts_drop1 h9⟩
end Go.Proofs.YtpobhbdomldecaaGreatDoor
namespace Go.Proofs.YtpobhbdomldecaaGreatDoor
open Go.RowKit Go.ChangeMaps
set_option linter.unusedSimpArgs false
set_option linter.unusedVariables false
theorem leaves_nth(ps:List Int)(d:Int)(m:Nat)(h:m<len ps):nth (leavesL ps d) m=turnedZ (nth ps m) d:=by
 have h2:m<ps.length:=h
 unfold leavesL nth
 simp[h2]
structure LvAt(mb:Nat)(g:KnF)(w:World):Prop where
 at_:KnownAt mb 0 g w
 small:SmF g
theorem LvAt.keep{mb:Nat}{g:KnF}{w w':World}(h:LvAt mb g w)(hk:w'.heap[mb]?=w.heap[mb]?):LvAt mb g w':=by
 obtain⟨⟨L,h1,h2⟩,h3⟩:=h
 exact⟨⟨L,hk.trans h1,h2⟩,h3⟩
theorem LvAt.lt{mb:Nat}{g:KnF}{w:World}(h:LvAt mb g w):mb<w.heap.size:=by
 obtain⟨⟨L,h1,h2⟩,h3⟩:=h
 exact lt_of_block h1
theorem own_keeps{wr W4:World}{T:TypeId}{base b n size:Nat}{v:Value}{xs:List Value}(h:wr.ownsRow base T size v n xs)(hg:wr.grownBy W4 v.ownBlock)(hb:b<base)(hl:b<wr.heap.size):W4.heap[b]?=wr.heap[b]?:=
 hg.block b hl (λ e=>by have:=(h.lt b e.symm).1;omega)
theorem take_snoc_nth{l:List Int}{m:Nat}(h:m<len l):l.take (m+1)=l.take m++[nth l m]:=by
 have h2:m<l.length:=h
 rw[List.take_succ_eq_append_getElem h2,nth_eq l m h2]
theorem own_setBlock{w:World}{base n:Nat}{T:TypeId}{size:Nat}{v:Value}{xs:List Value}{p:Nat}(h:w.ownsRow base T size v n xs)(hp:p<base)(o:Obj):(setBlock w p o).ownsRow base T size v n xs:=by
 refine⟨h.1,?_⟩
 rcases h.2 with h2 | ⟨g,cap,cur,rfl,hg,hgb,h3⟩
 ·exact .inl h2
 ·exact .inr ⟨g,cap,cur,rfl,hg,(setBlock_other (by omega)).trans hgb,h3⟩
def RowsU(B:Nat)(w:World)(a:Option Addr)(rs:List (List Int)):Prop:=
 ∀m,m<len rs→∃rb ro ra rc,a=some ⟨rb,ro,none⟩∧B≤rb∧w.cell? ⟨rb,ro+m,none⟩=some (.slice ra (len (rnth rs m)) rc)∧∀q,q<len (rnth rs m)→∃ub uo,ra=some ⟨ub,uo,none⟩∧B≤ub∧w.cell? ⟨ub,uo+q,none⟩=some (.int .u64 (nth (rnth rs m) q))
theorem rowsU_of{w:World}{B:Nat}{v:Value}{vals:List Value}{rs:List (List Int)}(h:w.ownsRow B 64 1 v vals.length vals)(hr:RowsAre w B vals rs):∃a cap,v=.slice a (len rs) cap∧RowsU B w a rs:=by
 have hl:vals.length=len rs:=hr.1
 rcases h.2 with⟨rfl,h2⟩ | ⟨g,cap,cur,rfl,hg,hgb,_⟩
 ·exact⟨none,0,by rw[←hl,h2],λ m hm=>by omega⟩
 ·refine⟨some ⟨g,0,none⟩,cap,by rw[hl],λ m hm=>?_⟩
  have hm2:m<rs.length:=hm
  obtain⟨u,h1,h2⟩:=hr.2 m hm2
  have hc:=h.cellAt m (by omega)
  rw[h1]at hc
  rw[←rnth_eq rs m hm2]at h2
  obtain⟨ra,rc,rfl,hU,_,_⟩:=own_u64 h2
  refine⟨g,0,ra,rc,rfl,hg,by rw[Nat.zero_add];exact hc,λ q hq=>?_⟩
  obtain⟨ub,uo,rfl,hcq⟩:=hU q hq
  refine⟨ub,uo,rfl,?_,hcq⟩
  exact(h2.lt ub rfl).1
def Upper(B:Nat)(w w':World):Prop:=∀b,B≤b→b<w.heap.size→w'.heap[b]?=w.heap[b]?
theorem Upper.refl(B:Nat)(w:World):Upper B w w:=λ b _ _=>rfl
theorem Upper.cell{B:Nat}{w w':World}(h:Upper B w w'){b o:Nat}{v:Value}(hb:B≤b)(hc:w.cell? ⟨b,o,none⟩=some v):w'.cell? ⟨b,o,none⟩=some v:=
 (World.cell?_of_block (w:=w) (h b hb (lt_of_cell hc))).trans hc
theorem Upper.bel{B:Nat}{w w' w2:World}(h:Upper B w w')(hs:w.heap.size≤w'.heap.size)(hb:Below w'.heap.size w' w2):Upper B w w2:=λ b h1 h2=>(hb.block b (by omega)).trans (h b h1 h2)
theorem Upper.set{B:Nat}{w w':World}(h:Upper B w w'){p:Nat}(hp:p<B)(k:Nat)(v:Value):Upper B w (w'.setCell ⟨p,k,none⟩ v):=λ b h1 h2=>(Below.heap_setCell _ _ _ _ (by omega:b≠p)).trans (h b h1 h2)
theorem Upper.map{B:Nat}{w w':World}(h:Upper B w w'){p:Nat}(hp:p<B ∨ w.heap.size≤p)(o:Obj):Upper B w (setBlock w' p o):=λ b h1 h2=>(setBlock_other (by omega)).trans (h b h1 h2)
theorem usedR_bd{rs:List (List Int)}(h:∀i,len (rnth rs i)≤100):∀m,m≤len rs→usedR rs m≤100 * m
 | 0,_=>Nat.le_refl _
 | m+1,hm=>by
  rw[usedR_next rs m (by omega)]
  have:=usedR_bd h m (by omega);have:=h m
  omega
theorem LvAt.put{mb:Nat}{g:KnF}{w:World}{L:List (Int × Value)}(hl:w.heap[mb]?=some (mObj .u64 0 L))(hm:MapF L g)(hs:SmF g){t:Int}{D:ByteArray}(ht:U64 t)(hd:D.size≤1000):LvAt mb (putF g t D) (setBlock w mb (mObj .u64 0 (mPut L t (.string D)))):=
 ⟨⟨_,setBlock_same hl,hm.put t D ht⟩,hs.put t D hd⟩
theorem row_u64{ps:List Int}{d i:Nat}{t:Int}(hd:d≤16)(hi:i<d)(h:t ∈ rnth (rowsOf (leavesL ps (d:Nat)) d) i):U64 t:=by
 obtain⟨⟨y,hy,rfl⟩,_⟩:=(row_mem _ d i hi t).1 h
 obtain⟨h1,h2⟩:=leaves_in hd y hy
 have h3:=half_bd h1 h2 (Nat.le_of_lt hi)
 obtain⟨e,he⟩:∃e,d - i=e+1:=⟨d - i - 1,by omega⟩
 rw[he]at h3
 have h4:=sib_bd h3.1 h3.2;have h5:(2:Int) ^ (e+1)≤65536:=by
  rw[pow_cast]
  have:2 ^ (e+1)≤65536:=Nat.pow_le_pow_right (n:=2) (by decide) (by omega:e+1≤16)
  omega
 unfold U64
 omega
set_option maxRecDepth 100000 in
set_option maxHeartbeats 8000000 in
theorem proot_main(nn:Nat)(ps:List Int)(es ds:List ByteArray)(pa ea da:Option Addr)(pc ec dc:Nat)(w:World)(hp:U64s w pa ps)(he:Txts w ea es)(hd:Txts w da ds)(hl:len ps≤100)(hu:∀k ∈ ps,U64 k)(hld:len ds≤1000000)(hdc:len ds≤dc)(hez:∀i,i<len es→(tth es i).size≤1000000)(hb:ArgOk (nn:Nat) ps es)(hbad:badB ds=false):
  Calls Tryz.prog 102 #[.int .i64 (nn:Nat),.slice pa (len ps) pc,.slice ea (len es) ec,.slice da (len ds) dc] w (RootIs (nn:Nat) ps es ds w):=by
 have hn16:nn≤65536:=by have:=hb.1.2.1;omega
 obtain⟨d,hdd⟩:∃d:Nat,Lib.bitLen (nn - 1)=d:=⟨_,rfl⟩
 have hdz:depthZ (nn:Nat)=(d:Nat):=by unfold depthZ;rw[if_neg (by omega),Int.toNat_natCast,hdd]
 have hdb:=depth_bd nn hn16
 rw[hdd]at hdb
 have HD16:Hid (d≤16):=Lib.hid hdb.1
 obtain⟨lv,hlv⟩:∃lv,leavesL ps (d:Nat)=lv:=⟨_,rfl⟩
 have HLN:Hid (len lv=len ps):=Lib.hid (by rw[←hlv,leavesL_len]);have HLU:Hid (∀k ∈ lv,U64 k):=Lib.hid (by rw[←hlv];exact leavesL_u64 ps _)
 obtain⟨rs,hrs⟩:∃rs,rowsOf lv d=rs:=⟨_,rfl⟩
 have HNR:Hid (needsL lv (d:Nat)=rs):=Lib.hid (by rw[←hrs,←hlv];exact needsP_rows hdb.1 hb.1.2.2);have HRL:Hid (len rs=d):=Lib.hid (by rw[←hrs,rowsOf_len]);have HLV:=Lib.hid hlv;have HRS:=Lib.hid hrs;have HNM:Hid ((∀i,len (rnth rs i)≤100)∧(flatLv rs).length≤1600):=Lib.hid (by
  rw[←HNR.out]
  exact⟨rnth_nl _ _ (by rw[HLN.out];exact hl),flat_bd _ _ (by rw[HLN.out];exact hl)⟩)
 have HRP:Hid (rowsP (nn:Nat) ps=rs):=Lib.hid (by unfold rowsP;rw[hdz,hlv];exact HNR.out);have HDP:Hid (digP (nn:Nat) ps es ds=kidF (rootG (g0F lv es) rs ds) 0):=Lib.hid (by unfold digP;rw[HRP.out,hdz,hlv]);have HNP:Hid (neededP (nn:Nat) ps=usedR rs (len rs)):=Lib.hid (by unfold neededP;rw[HRP.out]);have HM:=Lib.hid (λ w9 hb9=>pmay_any (nn:Nat) ps pa pc w9 (hp.below hb9) (by omega) (by omega) (by omega))
 rw[decide_eq_true hb.1]at HM
 have hel:=hb.2;have HBD:=Lib.hid (λ w9 hb9=>bad_any da dc ds w9 (hd.below hb9) (by omega))
 rw[hbad]at HBD
 have HDE:=Lib.hid (λ w9=>depth_any (nn:Nat) w9 (by omega) (by omega))
 rw[hdz]at HDE
 have HLF:=Lib.hid (λ k (hk:U64 k) w9=>leaf_any k (d:Nat) w9 hk.1 hk.2);have HP:=Lib.hid hp;have HES:=Lib.hid he;have HDS:=Lib.hid hd;have HU:=Lib.hid hu;have HL100:=Lib.hid hl;have HEZ:=Lib.hid hez;have HEL:=Lib.hid hel;have HLD:=Lib.hid hld;have HDC:=Lib.hid hdc;have HARG:=Lib.hid hb;have HBADF:=Lib.hid hbad
 obtain⟨i0,hi,hz0,hz1,hz2⟩:=info_parts info_u64
 have HZ0:=Lib.hid hz0;clear hp he hd hl hu hld hdc hez hb hbad hn16 hdd hdz hdb hlv hrs hel hz0
 go_enter Tryz.func102,Tryz.ntmps102
 rw[HEL.out]
 go_upto_region 1 with fail
 obtain⟨pb,hpb⟩:∃pb,w.heap.size=pb:=⟨_,rfl⟩
 obtain⟨V,hV⟩:∃V,w.alloc (.cells #[.slice da (len ds) dc] 36)=V:=⟨_,rfl⟩
 have HVP:Hid (V.heap[pb]?=some (.cells #[.slice da (len ds) dc] 36 (0,0))):=Lib.hid (by rw[←hV];exact alloc_new_at _ hpb);have HVW:Hid (Below w.heap.size w V):=Lib.hid (by rw[←hV];exact balloc (Below.refl _ _) _);have HPB:Hid (w.heap.size≤pb):=Lib.hid (Nat.le_of_eq hpb)
 rw[hpb,hV]
 clear hV hpb
 go_wp2_with fail
 refine(HM.out _ HVW.out).mono ?_
 rintro e w1 ⟨rfl,hb1⟩
 have HP1:Hid (w1.heap[pb]?=some (.cells #[.slice da (len ds) dc] 36 (0,0))):=Lib.hid ((hb1.block _ (lt_of_block HVP.out)).trans HVP.out);have HB1:Hid (Below w.heap.size w w1):=Lib.hid (bnext HVW.out hb1);clear hb1 HVP HVW HM;have c0:w1.cell? ⟨pb,0,none⟩=some (.slice da (len ds) dc):=by rw[block_cell HP1.out];rfl
 have c2:pb<w1.heap.size:=lt_of_block HP1.out
 go_wp2_with fail
 refine(HBD.out w1 HB1.out).mono ?_
 rintro e w2 ⟨rfl,rfl⟩
 clear c0 c2 HBD
 go_wp2_with fail
 refine(HDE.out w1).mono ?_
 rintro e w2 ⟨rfl,rfl⟩
 have hmm:=@run_makeMap Tryz.prog
 go_upto_region 9 with fail
 clear hmm HDE
 obtain⟨mb,hmb⟩:∃mb,w1.heap.size=mb:=⟨_,rfl⟩
 obtain⟨V,hV⟩:∃V,w1.alloc (Obj.map #[] 0)=V:=⟨_,rfl⟩
 have HVM:Hid (LvAt mb (addF noF (lv.take 0) (leafD es)) V):=Lib.hid ⟨⟨[],by rw[←hV];exact alloc_new_at _ hmb,by rw[List.take_zero];exact MapF.nil⟩,by rw[List.take_zero];exact SmF.no⟩;have HVP:Hid (V.heap[pb]?=some (.cells #[.slice da (len ds) dc] 36 (0,0))):=Lib.hid (by rw[←hV];exact block_alloc HP1.out _);have HVW:Hid (Below w.heap.size w V):=Lib.hid (by rw[←hV];exact balloc HB1.out _);have HMB:Hid (pb<mb∧w.heap.size≤mb):=Lib.hid ⟨by rw[←hmb];exact lt_of_block HP1.out,by rw[←hmb];exact HB1.out.size⟩
 obtain⟨B,hB⟩:∃B,V.heap.size=B:=⟨_,rfl⟩
 have HBM:Hid (mb<B):=Lib.hid (by rw[←hB];exact HVM.out.lt);have HVB:Hid (B≤V.heap.size):=Lib.hid (Nat.le_of_eq hB.symm)
 rw[hmb,hV]
 clear hV hmb HB1 HP1 hB
 go_loopg [45,12] (len ps) (λ g i v wr=>∃m:Nat,g+m=len ps∧i=.int .i64 m∧Hid (wr.ownsRow B 23 1 v m ((lv.take m).map (Value.int .u64)))∧Hid (LvAt mb (addF noF (lv.take m) (leafD es)) wr)∧Hid (wr.heap[pb]?=some (.cells #[.slice da (len ds) dc] 36 (0,0)))∧Hid (Below w.heap.size w wr)∧Hid (B≤wr.heap.size))
 case atStart=>exact⟨0,rfl,rfl,Lib.hid (World.ownsRow_nil _ _ _ _),HVM,HVP,HVW,HVB⟩
 case round=>
  clear HVM HVP HVW HVB
  obtain⟨m,hm,rfl,HO,HG,HPX,HW,HBS⟩:=hrel
  have HNN:=HL100.out
  by_cases hlt:m<len ps
  ·have b0:(m:Int)<len ps:=by omega
   have b1:¬len ps≤m:=by omega
   obtain⟨b,off,hra,hcell⟩:=HP.out.below HW.out m hlt
   subst hra
   obtain⟨eb,eo,hea,hcel⟩:=HES.out.below HW.out m (by rw[HEL.out];exact hlt)
   subst hea
   obtain⟨k,hk⟩:∃k,nth ps m=k:=⟨_,rfl⟩
   have hku:U64 k:=by rw[←hk];exact HU.out _ (mem_nth hlt)
   obtain⟨s,hs⟩:∃s,tth es m=s:=⟨_,rfl⟩
   have HSZ:Hid (s.size≤1000000):=Lib.hid (by rw[←hs];exact HEZ.out m (by rw[HEL.out];exact hlt))
   obtain⟨t,ht⟩:∃t,turnedZ k (d:Nat)=t:=⟨_,rfl⟩
   have HSS:=Lib.hid hs;have HTN:Hid (nth lv m=t):=Lib.hid (by rw[←HLV.out,leaves_nth ps _ m hlt,hk,ht]);have HTU:Hid (U64 t):=Lib.hid (by rw[←HTN.out];exact HLU.out _ (mem_nth (by rw[HLN.out];exact hlt)));have HLK:=Lib.hid (HLF.out k hku wr)
   rw[ht]at HLK
   have HLD9:Hid (tth (leafD es) m=hashP leafT [s]):=Lib.hid (by rw[leafD_at es m (by rw[HEL.out];exact hlt),hs])
   rw[hk]at hcell
   rw[hs]at hcel
   have l1:=lt_of_cell hcell;have HCE:=Lib.hid hcel;clear hk hku hs ht hcel
   go_upto_region 11 with fail
   clear hcell l1
   go_wp2_with fail
   refine HLK.out.mono ?_
   rintro e w2 ⟨rfl,rfl⟩
   go_upto_region 13 with(at_builtin;refine wpList_append_own _ rfl _ _ 64 rfl B 23 i0 (.int .u64 0) 1 8 Tryz.underlying64 hi HZ0.out hz1 hz2 rfl (by decide) _ _ _ rfl (HO.out.alloc _) ⟨wr.heap.size,0,none⟩ 1 1 [.int .u64 t] rfl rfl (World.news_of_block (heap_alloc_new _ _)) (by intro u hu9;simp at hu9;subst hu9;rfl) (by unfold maxLen;omega) (by omega) (by have:=HBS.out;simp;omega) ?_;intro v2 w4 hown2 hgrow2 _)
   have HX9:Hid (Below wr.heap.size wr (wr.alloc (.cells #[.int .u64 t] 23))):=Lib.hid (balloc (Below.refl _ _) _);have HO4:Hid (w4.ownsRow B 23 1 v2 (m+1) ((lv.take (m+1)).map (Value.int .u64))):=Lib.hid (by
    rw[take_snoc_nth (by rw[HLN.out];exact hlt),HTN.out,List.map_append]
    exact hown2)
   have HG4:Hid (LvAt mb (addF noF (lv.take m) (leafD es)) w4):=Lib.hid (HG.out.keep ((own_keeps (HO.out.alloc _) hgrow2 HBM.out (by have:=HG.out.lt;simp;omega)).trans (HX9.out.block _ HG.out.lt)));have HP4:Hid (w4.heap[pb]?=some (.cells #[.slice da (len ds) dc] 36 (0,0))):=Lib.hid (((own_keeps (HO.out.alloc _) hgrow2 (by have:=HBM.out;have:=HMB.out;omega) (by have:=lt_of_block HPX.out;simp;omega)).trans (HX9.out.block _ (lt_of_block HPX.out))).trans HPX.out);have HW4:Hid (Below w.heap.size w w4):=Lib.hid (grownBy_below (balloc HW.out _) hgrow2 (λ k hk'=>Nat.le_trans (Nat.le_trans HMB.out.2 (Nat.le_of_lt HBM.out)) (HO.out.lt k hk').1));have HB4:Hid (B≤w4.heap.size):=Lib.hid (by have h9:=hgrow2.size;have:=HBS.out;simp at h9;omega);clear hown2 hgrow2 HX9 HO HG HPX HW HBS HLK HCE
   obtain⟨eb2,eo2,he2,hcel2⟩:=HES.out.below HW4.out m (by rw[HEL.out];exact hlt)
   cases he2
   rw[HSS.out]at hcel2
   have l2:=lt_of_cell hcel2;have HELL:=HEL.out;have b3:(m:Int)<(len es:Int):=by omega
   have b4:¬len es≤m:=by omega
   go_wp2_with fail
   refine(hash1_any leafT s w4 (by decide) (by decide) HSZ.out).mono ?_
   rintro e w5 ⟨rfl,hb5⟩
   clear hcel2 l2 b3 b4 HELL;have HO5:Hid (w5.ownsRow B 23 1 v2 (m+1) ((lv.take (m+1)).map (Value.int .u64))):=Lib.hid (own_below HO4.out hb5);have HG5:Hid (LvAt mb (addF noF (lv.take m) (leafD es)) w5):=Lib.hid (HG4.out.keep (hb5.block _ HG4.out.lt));have HP5:Hid (w5.heap[pb]?=some (.cells #[.slice da (len ds) dc] 36 (0,0))):=Lib.hid ((hb5.block _ (lt_of_block HP4.out)).trans HP4.out);have HW5:Hid (Below w.heap.size w w5):=Lib.hid (bnext HW4.out hb5);have HB5:Hid (B≤w5.heap.size):=Lib.hid (Nat.le_trans HB4.out hb5.size)
   obtain⟨⟨L,hL,hmf⟩,hsm⟩:=HG5.out
   have HLL:=Lib.hid hL;have HMF:=Lib.hid hmf;have HSM:=Lib.hid hsm
   obtain⟨D,hD⟩:∃D,hashP leafT [s]=D:=⟨_,rfl⟩
   have HDZ9:Hid (D.size≤1000):=Lib.hid (by rw[←hD,hashP_size];omega);have HAF:Hid (addF noF (lv.take (m+1)) (leafD es)=putF (addF noF (lv.take m) (leafD es)) t D):=Lib.hid (by rw[addF_take _ _ _ m (by rw[HLN.out];exact hlt),HTN.out,HLD9.out,hD])
   rw[hD]
   clear hb5 hL hmf hsm hD HO4 HG4 HP4 HW4 HB4 HG5
   go_upto_region 14 with(at_mapUpdate;refine wpList_mapUpdate_m rfl _ _ _ 200 23 9 .u64 rfl Tryz.underlying200 Tryz.underlying23 mb 0 _ rfl HLL.out t (.string D) rfl rfl ?_)
   obtain⟨U,hU⟩:∃U,setBlock w5 mb (mObj .u64 0 (mPut L t (.string D)))=U:=⟨_,rfl⟩
   have HG6:Hid (LvAt mb (addF noF (lv.take (m+1)) (leafD es)) U):=Lib.hid (by rw[HAF.out,←hU];exact LvAt.put HLL.out HMF.out HSM.out HTU.out HDZ9.out);have HO6:Hid (U.ownsRow B 23 1 v2 (m+1) ((lv.take (m+1)).map (Value.int .u64))):=Lib.hid (by rw[←hU];exact own_setBlock HO5.out HBM.out _);have HP6:Hid (U.heap[pb]?=some (.cells #[.slice da (len ds) dc] 36 (0,0))):=Lib.hid (by rw[←hU];exact(setBlock_other (by have:=HMB.out;omega)).trans HP5.out);have HW6:Hid (Below w.heap.size w U):=Lib.hid (by rw[←hU];exact setBlock_below HW5.out HMB.out.2);have HB6:Hid (B≤U.heap.size):=Lib.hid (by rw[←hU,setBlock_size];exact HB5.out)
   rw[hU]
   clear hU HO5 HP5 HW5 HB5 HLL
   go_wp2
   go_roundg (len ps - (m+1))
   case rel=>exact⟨m+1,by omega,by go_num,HO6,HG6,HP6,HW6,HB6⟩
   case measure=>omega
  ·obtain rfl:m=len ps:=by omega
   have b0:¬((len ps:Nat):Int)<len ps:=by omega
   have HGZ:Hid (LvAt mb (g0F lv es) wr):=Lib.hid (by
    have h9:=HG.out
    rw[show lv.take (len ps)=lv by rw[←HLN.out,take_len]]at h9
    exact h9)
   have HOZ:Hid (wr.ownsRow B 23 1 u12 (len ps) (lv.map (Value.int .u64))):=Lib.hid (by
    have h9:=HO.out
    rw[show lv.take (len ps)=lv by rw[←HLN.out,take_len]]at h9
    exact h9)
   obtain⟨al,cl,rfl,hUl,_,_⟩:=own_u64 HOZ.out
   have HND:=Lib.hid (needs_any al cl lv (d:Nat) wr hUl (by rw[HLN.out];exact HL100.out) HLU.out)
   rw[HNR.out]at HND
   clear hUl HO HG HOZ hm
   go_wp2_with fail
   refine HND.out.mono ?_
   rintro e w3 ⟨v,vals,rfl,hr1,hr2,hb3⟩
   obtain⟨a3,cap3,rfl,hRU⟩:=rowsU_of hr1 hr2
   have HRU:=Lib.hid hRU
   obtain⟨B2,hB2⟩:∃B2,wr.heap.size=B2:=⟨_,rfl⟩
   rw[hB2]at HRU
   have HB2:Hid (mb<B2∧pb<B2):=Lib.hid ⟨by rw[←hB2];exact HGZ.out.lt,by rw[←hB2];exact lt_of_block HPX.out⟩;have HG3:Hid (LvAt mb (g0F lv es) w3):=Lib.hid (HGZ.out.keep (hb3.block _ HGZ.out.lt));have HP3:Hid (w3.heap[pb]?=some (.cells #[.slice da (len ds) dc] 36 (0,0))):=Lib.hid ((hb3.block _ (lt_of_block HPX.out)).trans HPX.out);have HW3:Hid (Below w.heap.size w w3):=Lib.hid (bnext HW.out hb3);have HB23:Hid (B2≤w3.heap.size):=Lib.hid (by rw[←hB2];exact hb3.size);clear hr1 hr2 hRU hB2 hb3 HND HGZ HPX HW HBS
   go_upto_region 18 with fail
   go_loopg [71,17] (len rs) (λ g i v wr=>∃m:Nat,g+m=len rs∧i=.int .i64 m∧v=.int .i64 (usedR rs m:Nat)∧wr=w3)
   case atStart=>exact⟨0,rfl,rfl,rfl,rfl⟩
   case round=>
    obtain⟨m,hm,rfl,rfl,rfl⟩:=hrel
    have hr16:len rs≤16:=by have:=HRL.out;have:=HD16.out;omega
    by_cases hlt:m<len rs
    ·have b1:(m:Int)<len rs:=by omega
     have b2:¬len rs≤m:=by omega
     obtain⟨rb,ro,ra,rc,hra3,_,hrc,_⟩:=HRU.out m hlt
     subst hra3
     have l1:=lt_of_cell hrc;have HN9:Hid (usedR rs (m+1)=usedR rs m+len (rnth rs m)):=Lib.hid (usedR_next rs m hlt);have hub:usedR rs m+len (rnth rs m)≤1600:=by
      rw[←usedR_next rs m hlt]
      have:=usedR_bd HNM.out.1 (m+1) (by omega)
      omega
     obtain⟨u,hu⟩:∃u,usedR rs m=u:=⟨_,rfl⟩
     obtain⟨q,hq⟩:∃q,len (rnth rs m)=q:=⟨_,rfl⟩
     rw[hu,hq]at hub HN9
     rw[hq]at hrc
     rw[hu]
     clear hu hq
     go_wp2
     go_roundg (len rs - (m+1))
     case rel=>exact⟨m+1,by omega,by go_num,by rw[HN9.out];go_num,rfl⟩
     case measure=>omega
    ·obtain rfl:m=len rs:=by omega
     have b1:¬((len rs:Nat):Int)<len rs:=by omega
     have hub:usedR rs (len rs)≤1600:=by
      have:=usedR_bd HNM.out.1 (len rs) (Nat.le_refl _)
      omega
     obtain⟨N,hN⟩:∃N,usedR rs (len rs)=N:=⟨_,rfl⟩
     have HNN:=Lib.hid hN
     rw[hN]at hub HNP ⊢
     have HUB:=Lib.hid hub;clear hN hub hm hr16;have c0:wr.cell? ⟨pb,0,none⟩=some (.slice da (len ds) dc):=by rw[block_cell HP3.out];rfl
     have c2:pb<wr.heap.size:=lt_of_block HP3.out
     by_cases hlt4:len ds<N
     ·have z1:((len ds:Nat):Int)<((N:Nat):Int):=by omega
      have HE:Hid (rootE (nn:Nat) ps es ds=4∧rootS (nn:Nat) ps es ds=⟨#[]⟩):=Lib.hid (by
       have h9:rootE (nn:Nat) ps es ds=4:=by unfold rootE;rw[if_neg (λ h=>h HARG.out),if_neg (by rw[HBADF.out];simp),HNP.out,if_pos hlt4]
       exact⟨h9,by unfold rootS;rw[h9];rfl⟩)
      clear hlt4
      go_wp2
      go_ret2
      exact⟨by rw[HE.out.1,HE.out.2];rfl,HW3.out⟩
     ·have z1:¬((len ds:Nat):Int)<((N:Nat):Int):=by omega
      by_cases hlt3:N<len ds
      ·have z2:((N:Nat):Int)<((len ds:Nat):Int):=by omega
       have HE:Hid (rootE (nn:Nat) ps es ds=3∧rootS (nn:Nat) ps es ds=⟨#[]⟩):=Lib.hid (by
        have h9:rootE (nn:Nat) ps es ds=3:=by unfold rootE;rw[if_neg (λ h=>h HARG.out),if_neg (by rw[HBADF.out];simp),HNP.out,if_neg hlt4,if_pos hlt3]
        exact⟨h9,by unfold rootS;rw[h9];rfl⟩)
       clear hlt4 hlt3
       go_wp2
       go_ret2
       exact⟨by rw[HE.out.1,HE.out.2];rfl,HW3.out⟩
      ·have z2:¬((N:Nat):Int)<((len ds:Nat):Int):=by omega
       have HEQ:Hid (len ds=N):=Lib.hid (by omega);have HE:Hid (rootE (nn:Nat) ps es ds=0∧rootS (nn:Nat) ps es ds=kidF (rootG (g0F lv es) rs ds) 0):=Lib.hid (by
        have h9:rootE (nn:Nat) ps es ds=0:=by unfold rootE;rw[if_neg (λ h=>h HARG.out),if_neg (by rw[HBADF.out];simp),HNP.out,if_neg hlt4,if_neg hlt3]
        exact⟨h9,by unfold rootS;rw[h9,if_pos rfl];exact HDP.out⟩)
       clear hlt4 hlt3
       go_upto_region 28 with fail
       clear z1 z2 c0 c2
       obtain⟨W3,hW3⟩:∃W3,W3=wr:=⟨_,rfl⟩
       subst hW3
       have HG9:Hid (LvAt mb (rootT (g0F lv es) rs ds 0) W3):=HG3;have HBX9:Hid (∃a' c',W3.heap[pb]?=some (.cells #[.slice a' (len (ds.drop (usedR rs 0))) c'] 36 (0,0))∧len (ds.drop (usedR rs 0))≤c'∧∀w9,Txts w9 da ds→Txts w9 a' (ds.drop (usedR rs 0))):=Lib.hid ⟨da,dc,HP3.out,HDC.out,λ _ h9=>h9⟩;clear HG3 HP3
       go_loopg [93,11] (len rs) (λ g i v wz=>∃m kb:Nat,g+m=len rs∧i=.int .i64 m∧v=.map (some kb)∧Hid (LvAt kb (rootT (g0F lv es) rs ds m) wz)∧Hid (∃a' c',wz.heap[pb]?=some (.cells #[.slice a' (len (ds.drop (usedR rs m))) c'] 36 (0,0))∧len (ds.drop (usedR rs m))≤c'∧∀w9,Txts w9 da ds→Txts w9 a' (ds.drop (usedR rs m)))∧Hid (Below w.heap.size w wz)∧Hid (Upper B2 W3 wz)∧Hid (pb<kb∧w.heap.size≤kb∧(kb<B2 ∨ W3.heap.size≤kb)∧W3.heap.size≤wz.heap.size))
       case atStart=>exact⟨0,mb,rfl,rfl,rfl,HG9,HBX9,HW3,Lib.hid (Upper.refl _ _),Lib.hid ⟨HMB.out.1,HMB.out.2,.inl HB2.out.1,Nat.le_refl _⟩⟩
       case round=>
        clear HG9 HBX9
        obtain⟨m,kb,hm,rfl,rfl,HG,HBX,HWZ,HUP,HKB⟩:=hrel
        obtain⟨wz,hwz⟩:∃wz,wz=wr:=⟨_,rfl⟩
        subst hwz
        have hr16:len rs≤16:=by have:=HRL.out;have:=HD16.out;omega
        by_cases hlt:m<len rs
        ·have b1:(m:Int)<len rs:=by omega
         have b2:¬len rs≤m:=by omega
         obtain⟨rb,ro,ra,rc,hra3,hrb,hrc,hrq⟩:=HRU.out m hlt
         subst hra3
         have hrc2:=HUP.out.cell hrb hrc;have l1:=lt_of_cell hrc2
         obtain⟨row,hrow⟩:∃row,rnth rs m=row:=⟨_,rfl⟩
         have HROW:=Lib.hid hrow
         rw[hrow]at hrc2 hrq
         have HRQ:=Lib.hid hrq;have HRLN:Hid (len row≤100):=Lib.hid (by rw[←hrow];exact HNM.out.1 m);have HHM:=Lib.hid hm;have HHL:=Lib.hid hlt
         obtain⟨u,hu⟩:∃u,usedR rs m=u:=⟨_,rfl⟩
         have HUU:Hid (usedR rs m=u):=Lib.hid hu;have HUT:Hid (u+len row≤len ds):=Lib.hid (by
          have h1:=usedR_next rs m hlt;have h2:=usedR_le rs (m+1)
          rw[hrow,hu]at h1
          rw[HEQ.out,←HNN.out]
          omega)
         obtain⟨GT,hGT⟩:∃GT,rootT (g0F lv es) rs ds m=GT:=⟨_,rfl⟩
         have HGT:=Lib.hid hGT
         rw[hGT]at HG
         rw[hu]at HBX
         have HG0:Hid (LvAt kb (addF GT (row.take 0) (ds.drop u)) wz):=Lib.hid (by rw[List.take_zero];exact HG.out);have HBX0:Hid (∃a' c',wz.heap[pb]?=some (.cells #[.slice a' (len (ds.drop (u+0))) c'] 36 (0,0))∧len (ds.drop (u+0))≤c'∧∀w9,Txts w9 da ds→Txts w9 a' (ds.drop (u+0))):=HBX
         obtain⟨GK,hGK⟩:∃G,G=gk:=⟨_,rfl⟩
         subst hGK
         clear hrc hrq hrow hu hGT HG HBX hm hlt hr16
         go_upto_region 31 with fail
         clear hrc2 l1 b1 b2
         go_loopg [99] (len row) (λ g j wy=>∃q:Nat,g+q=len row∧j=.int .i64 q∧Hid (LvAt kb (addF GT (row.take q) (ds.drop u)) wy)∧Hid (∃a' c',wy.heap[pb]?=some (.cells #[.slice a' (len (ds.drop (u+q))) c'] 36 (0,0))∧len (ds.drop (u+q))≤c'∧∀w9,Txts w9 da ds→Txts w9 a' (ds.drop (u+q)))∧Hid (Below w.heap.size w wy)∧Hid (Upper B2 W3 wy)∧Hid (W3.heap.size≤wy.heap.size))
         case atStart=>exact⟨0,rfl,rfl,HG0,HBX0,HWZ,HUP,Lib.hid HKB.out.2.2.2⟩
         case round=>
          clear HG0 HBX0 HWZ HUP
          obtain⟨q,hq,rfl,HG,HBX,HWZ,HUP,HSZ⟩:=hrel
          obtain⟨wy,hwy⟩:∃wy,wy=wr:=⟨_,rfl⟩
          subst hwy
          have hr100:=HRLN.out
          by_cases hlq:q<len row
          ·have b1:(q:Int)<len row:=by omega
           have b2:¬len row≤q:=by omega
           obtain⟨ub,uo,hua,hub,huc⟩:=HRQ.out q hlq
           subst hua
           have huc2:=HUP.out.cell hub huc;have l2:=lt_of_cell huc2
           obtain⟨t,ht⟩:∃t,nth row q=t:=⟨_,rfl⟩
           rw[ht]at huc2
           have HTU:Hid (U64 t):=Lib.hid (by
            have h1:t ∈ rnth rs m:=by rw[HROW.out,←ht];exact mem_nth hlq
            rw[←HRS.out,←HLV.out]at h1
            exact row_u64 HD16.out (by rw[←HRL.out];exact HHL.out) h1)
           obtain⟨a9,c9,hbx,hc9,hta⟩:=HBX.out
           have HTN:Hid (addF GT (row.take (q+1)) (ds.drop u)=putF (addF GT (row.take q) (ds.drop u)) t (tth ds (u+q))):=Lib.hid (by rw[addF_take _ _ _ q hlq,ht,tth_drop]);have hdl:len (ds.drop (u+q))=len ds - (u+q):=by rw[len_eq,List.length_drop];rfl
           have hut:=HUT.out;have HNX:=Lib.hid (nextd_any pb a9 c9 (ds.drop (u+q)) wy hbx (hta _ (HDS.out.below HWZ.out)) (by omega) hc9);have HDD:Hid ((tth ds (u+q)).size≤1000):=Lib.hid (by
            have h1:=of_decide_eq_false HBADF.out;have h2:u+q<ds.length:=by have:len ds=ds.length:=rfl;omega
            apply Classical.byContradiction
            intro h3
            exact h1 ⟨ds[u+q],List.getElem_mem h2,λ h4=>h3 (by rw[tth_eq ds (u+q) h2,h4];omega)⟩)
           have HC9:Hid (len (ds.drop (u+q)) - 1≤c9):=Lib.hid (by omega);have HBQ:=Lib.hid hbx;have HDL1:Hid (len (ds.drop (u+(q+1)))=len (ds.drop (u+q)) - 1):=Lib.hid (by rw[len_eq,List.length_drop,hdl];have:len ds=ds.length:=rfl;omega)
           obtain⟨⟨L,hL,hmf⟩,hsm⟩:=HG.out
           have HLW:=Lib.hid hL;have HMF:=Lib.hid hmf;have HSM:=Lib.hid hsm
           obtain⟨D,hD⟩:∃D,tth ds (u+q)=D:=⟨_,rfl⟩
           have HT0:Hid (tth (ds.drop (u+q)) 0=D):=Lib.hid (by rw[tth_drop,Nat.add_zero,hD])
           rw[hD]at HDD HTN
           clear hbx hc9 hut hdl hL hmf hsm hD huc ht
           go_wp2_with fail
           refine HNX.out.mono ?_
           rintro e w2 ⟨a',c',rfl,hw2,hc',hta'⟩
           rw[HT0.out]
           have HCC:=Lib.hid hc';have HTA:=Lib.hid hta';have HKP:Hid (pb≠kb):=Lib.hid (by have:=HKB.out.1;omega);have HL2:Hid (w2.heap[kb]?=some (mObj .u64 0 L)):=Lib.hid (by rw[hw2];exact(Below.heap_setCell _ _ _ _ (show kb≠pb by have:=HKP.out;omega)).trans HLW.out);have HP2:Hid (w2.heap[pb]?=some (.cells #[.slice a' (len (ds.drop (u+q)) - 1) c'] 36 (0,0))):=Lib.hid (by rw[hw2];exact block_setCell HBQ.out _);have HW2:Hid (Below w.heap.size w w2):=Lib.hid (by rw[hw2];exact bset HWZ.out HPB.out _);have HU2:Hid (Upper B2 W3 w2):=Lib.hid (by rw[hw2];exact HUP.out.set HB2.out.2 _ _);have HS2:Hid (W3.heap.size≤w2.heap.size):=Lib.hid (by rw[hw2];have:=HSZ.out;simp[World.setCell];exact this);clear hw2 hc' hta' HLW HBQ HBX HWZ HUP HSZ HNX huc2 l2 b2
           go_upto_region 34 with(at_mapUpdate;refine wpList_mapUpdate_m rfl _ _ _ 200 23 9 .u64 rfl Tryz.underlying200 Tryz.underlying23 kb 0 _ rfl HL2.out t (.string D) rfl rfl ?_)
           obtain⟨U,hU⟩:∃U,setBlock w2 kb (mObj .u64 0 (mPut L t (.string D)))=U:=⟨_,rfl⟩
           have HG6:Hid (LvAt kb (addF GT (row.take (q+1)) (ds.drop u)) U):=Lib.hid (by rw[HTN.out,←hU];exact LvAt.put HL2.out HMF.out HSM.out HTU.out HDD.out);have HBX6:Hid (∃a' c',U.heap[pb]?=some (.cells #[.slice a' (len (ds.drop (u+(q+1)))) c'] 36 (0,0))∧len (ds.drop (u+(q+1)))≤c'∧∀w9,Txts w9 da ds→Txts w9 a' (ds.drop (u+(q+1)))):=Lib.hid (by
            rw[HDL1.out,←hU]
            refine⟨a',c',(setBlock_other HKP.out).trans HP2.out,HCC.out,λ w9 h9=>?_⟩
            have h8:=HTA.out w9 (hta w9 h9)
            rw[List.drop_drop]at h8
            exact h8)
           have HW6:Hid (Below w.heap.size w U):=Lib.hid (by rw[←hU];exact setBlock_below HW2.out HKB.out.2.1);have HU6:Hid (Upper B2 W3 U):=Lib.hid (by rw[←hU];exact HU2.out.map HKB.out.2.2.1 _);have HS6:Hid (W3.heap.size≤U.heap.size):=Lib.hid (by rw[←hU,setBlock_size];exact HS2.out)
           rw[hU]
           clear hU HL2 HP2 HW2 HU2 HS2
           go_wp2
           go_roundg (len row - (q+1))
           case rel=>exact⟨q+1,by omega,by go_num,HG6,HBX6,HW6,HU6,HS6⟩
           case measure=>omega
          ·obtain rfl:q=len row:=by omega
           have b1:¬((len row:Nat):Int)<len row:=by omega
           have HOV:=Lib.hid (kover_any kb 0 _ wy HG.out.at_ HG.out.small);have hm:=HHM.out;have hlt:=HHL.out;have hr16:len rs≤16:=by have:=HRL.out;have:=HD16.out;omega
           have HRT:Hid (rootT (g0F lv es) rs ds (m+1)=overF (addF GT (row.take (len row)) (ds.drop u))):=Lib.hid (by rw[rootT_next _ _ _ m hlt,HGT.out,HROW.out,HUU.out,take_len]);have HUN:Hid (usedR rs (m+1)=u+len row):=Lib.hid (by rw[usedR_next rs m hlt,HUU.out,HROW.out]);have HPLT:Hid (pb<wy.heap.size):=Lib.hid (by obtain⟨a9,c9,hbx,_⟩:=HBX.out;exact lt_of_block hbx)
           go_wp2_with fail
           refine HOV.out.mono ?_
           rintro e w2 ⟨b9,rfl,hk9,hb9,hbel⟩
           have HG6:Hid (LvAt b9 (rootT (g0F lv es) rs ds (m+1)) w2):=Lib.hid (by rw[HRT.out];exact⟨hk9,SmF.over _⟩);have HBX6:Hid (∃a' c',w2.heap[pb]?=some (.cells #[.slice a' (len (ds.drop (usedR rs (m+1)))) c'] 36 (0,0))∧len (ds.drop (usedR rs (m+1)))≤c'∧∀w9,Txts w9 da ds→Txts w9 a' (ds.drop (usedR rs (m+1)))):=Lib.hid (by
            rw[HUN.out]
            obtain⟨a9,c9,hbx,h2,h3⟩:=HBX.out
            exact⟨a9,c9,(hbel.block _ (lt_of_block hbx)).trans hbx,h2,h3⟩)
           have HW6:Hid (Below w.heap.size w w2):=Lib.hid (bnext HWZ.out hbel);have HUP6:Hid (Upper B2 W3 w2):=Lib.hid (HUP.out.bel HSZ.out hbel);have HKB6:Hid (pb<b9∧w.heap.size≤b9∧(b9<B2 ∨ W3.heap.size≤b9)∧W3.heap.size≤w2.heap.size):=Lib.hid (by
            have h1:=HPLT.out;have h2:=HSZ.out;have h3:=hbel.size;have h4:=HWZ.out.size
            exact⟨by omega,by omega,.inr (by omega),by omega⟩)
           clear hk9 hb9 hbel
           go_wp2
           go_roundg (len rs - (m+1))
           case rel=>exact⟨m+1,b9,by omega,by go_num,rfl,HG6,HBX6,HW6,HUP6,HKB6⟩
           case measure=>omega
        ·obtain rfl:m=len rs:=by omega
         have b1:¬((len rs:Nat):Int)<len rs:=by omega
         obtain⟨⟨L,hL,hmf⟩,_⟩:=HG.out
         have HLL:=Lib.hid hL;have HLK:Hid ((mGet L 0).getD (.string ⟨#[]⟩)=.string (rootS (nn:Nat) ps es ds)):=Lib.hid (by
          have h1:=hmf.look 0
          rw[HE.out.2]
          unfold rootT at h1
          rw[take_len]at h1
          exact h1)
         clear hL hmf
         go_wp2_with (at_lookup;refine wpList_lookup_m rfl _ _ 200 23 9 .u64 rfl Tryz.underlying200 Tryz.underlying23 (.string ⟨#[]⟩) (Tryz.zeroValue9 _) kb 0 _ rfl HLL.out 0 rfl ?_;rw[HLK.out])
         go_ret2
         exact⟨by rw[HE.out.1];rfl,HWZ.out⟩
end Go.Proofs.YtpobhbdomldecaaGreatDoor
namespace Go.Proofs.YtpobhbdomldecaaGreatDoor
open Go.RowKit
set_option linter.unusedSimpArgs false
set_option linter.unusedVariables false
structure PrIn(ps:List Int)(es ds:List ByteArray)(pa ea da:Option Addr)(dc:Nat)(w:World):Prop where
 p:U64s w pa ps
 e:Txts w ea es
 d:Txts w da ds
 pl:len ps≤100
 pu:∀k ∈ ps,U64 k
 el:len es≤1000000
 dl:len ds≤1000000
 dc_:len ds≤dc
 ez:∀i,i<len es→(tth es i).size≤1000000
theorem PrIn.below{ps:List Int}{es ds:List ByteArray}{pa ea da:Option Addr}{dc:Nat}{w w':World}(h:PrIn ps es ds pa ea da dc w)(hb:Below w.heap.size w w'):PrIn ps es ds pa ea da dc w':=
 ⟨h.p.below hb,h.e.below hb,h.d.below hb,h.pl,h.pu,h.el,h.dl,h.dc_,h.ez⟩
theorem proot_any(n:Int)(ps:List Int)(es ds:List ByteArray)(pa ea da:Option Addr)(pc ec dc:Nat)(w:World)(h:PrIn ps es ds pa ea da dc w)(h0:-9223372036854775808≤n)(h1:n≤9223372036854775807):
  Calls Tryz.prog 102 #[.int .i64 n,.slice pa (len ps) pc,.slice ea (len es) ec,.slice da (len ds) dc] w (RootIs n ps es ds w):=by
 by_cases hb:ArgOk n ps es
 ·cases hbad:badB ds with
  | true=>exact proot_form n ps es ds pa ea da pc ec dc w h.p h.d h.pl h.dl h0 h1 hb hbad
  | false=>
   obtain⟨nn,rfl⟩:=Int.eq_ofNat_of_zero_le hb.1.1
   exact proot_main nn ps es ds pa ea da pc ec dc w h.p h.e h.d h.pl h.pu h.dl h.dc_ h.ez hb hbad
 ·exact proot_arg n ps es ds pa ea da pc ec dc w h.p h.pl h0 h1 hb h.el
def checkE(r:ByteArray)(n:Int)(ps:List Int)(es ds:List ByteArray):Int:=if rootE n ps es ds=0∧rootS n ps es ds≠r then 20 else rootE n ps es ds
set_option maxRecDepth 100000 in
theorem pcheck_any(r:ByteArray)(n:Int)(ps:List Int)(es ds:List ByteArray)(pa ea da:Option Addr)(pc ec dc:Nat)(w:World)(h:PrIn ps es ds pa ea da dc w)(h0:-9223372036854775808≤n)(h1:n≤9223372036854775807):
  Calls Tryz.prog 47 #[.string r,.int .i64 n,.slice pa (len ps) pc,.slice ea (len es) ec,.slice da (len ds) dc] w λ e w'=>e=.returned (.int .i64 (checkE r n ps es ds))∧Below w.heap.size w w':=by
 have HR:=Lib.hid (proot_any n ps es ds pa ea da pc ec dc w h h0 h1);clear h h0 h1
 go_enter Tryz.func47,Tryz.ntmps47
 go_wp2_with fail
 refine HR.out.mono ?_
 rintro e w1 ⟨rfl,hb1⟩
 have HB1:=Lib.hid hb1;have HCE:Hid (checkE r n ps es ds=if rootE n ps es ds=0∧rootS n ps es ds≠r then 20 else rootE n ps es ds):=Lib.hid rfl
 obtain⟨E,hE⟩:∃E,rootE n ps es ds=E:=⟨_,rfl⟩
 obtain⟨D,hD⟩:∃D,rootS n ps es ds=D:=⟨_,rfl⟩
 rw[hE,hD]at HCE ⊢
 clear hb1 hE hD
 by_cases he:E=0
 ·subst he
  by_cases hd:D=r
  ·have e1:(D.toList == r.toList)=true:=by rw[str_beq];exact decide_eq_true hd
   have HC2:Hid (checkE r n ps es ds=0):=Lib.hid (by rw[HCE.out,if_neg (λ h=>h.2 hd)]);clear hd
   go_wp2
   go_ret
   exact⟨by rw[HC2.out];rfl,HB1.out⟩
  ·have e1:(D.toList == r.toList)=false:=by rw[str_beq];exact decide_eq_false hd
   have HC2:Hid (checkE r n ps es ds=20):=Lib.hid (by rw[HCE.out,if_pos ⟨rfl,hd⟩]);clear hd
   go_wp2
   go_ret
   exact⟨by rw[HC2.out];rfl,HB1.out⟩
 ·have e1:(E == 0)=false:=by simpa using he
  have HC2:Hid (checkE r n ps es ds=E):=Lib.hid (by rw[HCE.out,if_neg (λ h=>he h.1)])
  go_wp2
  go_ret
  exact⟨by rw[HC2.out];rfl,HB1.out⟩
end Go.Proofs.YtpobhbdomldecaaGreatDoor
namespace Go.Proofs.YtpobhbdomldecaaGreatDoor
open Go.RowKit
set_option linter.unusedSimpArgs false
set_option linter.unusedVariables false
def treeR(l:List ByteArray):ByteArray:=plD l (depN l) (depN l) 0
theorem treeR_size(l:List ByteArray):(treeR l).size=32:=plD_size _ _ _ _
theorem one_may{n k:Nat}(hk:k<n):MayOk (n:Nat) [((k:Nat):Int)]:=⟨(by decide:0<1),λ i hi=>by
 have hi:i<1:=hi
 obtain rfl:i=0:=by omega
 exact⟨by show((k:Nat):Int)<n;omega,λ h=>by omega⟩⟩
theorem one_u64{n k:Nat}(hn:n≤65536)(hk:k<n):∀x ∈ [((k:Nat):Int)],U64 x:=λ x hx=>by
 obtain rfl:=List.mem_singleton.1 hx
 exact⟨by omega,by omega⟩
def oneD(els:List ByteArray)(k:Nat):List ByteArray:=dgsL els (plcL (len els:Nat) [((k:Nat):Int)])
theorem oneD_len{els:List ByteArray}{k:Nat}(hn:len els≤65536):len (oneD els k)=depN els:=by
 unfold oneD
 rw[dgs_len,plc_one (d:=depN els) (depthZ_len hn) (depN_le hn)]
theorem one_back{els:List ByteArray}{k:Nat}(hn:len els≤65536)(hk:k<len els):rootE (len els:Nat) [((k:Nat):Int)] [tth els k] (oneD els k)=0∧rootS (len els:Nat) [((k:Nat):Int)] [tth els k] (oneD els k)=treeR els:=
 back_root hn (one_u64 hn hk) (one_may hk) (Agree.refl _ _) rfl (λ m hm=>by
  have hm:m<1:=hm
  obtain rfl:m=0:=by omega
  rfl)
theorem one_check{els:List ByteArray}{k:Nat}(hn:len els≤65536)(hk:k<len els):checkE (treeR els) (len els:Nat) [((k:Nat):Int)] [tth els k] (oneD els k)=0:=by
 have h:=one_back hn hk
 unfold checkE
 rw[h.1,h.2,if_neg (λ h=>h.2 rfl)]
theorem own_capP{w:World}{base n c:Nat}{a:Option Addr}{xs:List Value}{m:Nat}(h:w.ownsRow base 9 1 (.slice a m c) n xs):m≤c∧(a=none→c=0):=by
 rcases h.2 with⟨e,_⟩ | ⟨g,cap,cur,e,_,_,h3,_⟩
 ·injection e with e1 e2 e3;exact⟨by omega,λ _=>e3⟩
 ·injection e with e1 e2 e3;exact⟨by omega,λ e9=>by rw[e9]at e1;cases e1⟩
def TextsAre(L:List ByteArray)(v:Value)(w:World):Prop:=∃a c,v=.slice a (len L) c∧Txts w a L∧len L≤c∧(a=none→c=0)
theorem TextsAre.below{L:List ByteArray}{v:Value}{w w':World}(h:TextsAre L v w)(hb:Below w.heap.size w w'):TextsAre L v w':=by
 obtain⟨a,c,h1,h2,h3,h4⟩:=h
 exact⟨a,c,h1,h2.below hb,h3,h4⟩
theorem TextsAre.nil(w:World):TextsAre [] (.slice none 0 0) w:=⟨none,0,rfl,Txts.nil _ _,Nat.le_refl _,λ _=>rfl⟩
theorem TextsAre.own{w:World}{base n:Nat}{v:Value}{L:List ByteArray}(h:w.ownsRow base 9 1 v n (L.map Value.string)):TextsAre L v w:=by
 obtain⟨a,c,rfl,ht⟩:=own_txts h
 obtain⟨h1,h2⟩:=own_capP h
 exact⟨a,c,rfl,ht,h1,h2⟩
end Go.Proofs.YtpobhbdomldecaaGreatDoor
namespace Go.Proofs.YtpobhbdomldecaaGreatDoor
open Go.RowKit
set_option linter.unusedSimpArgs false
set_option linter.unusedVariables false
structure Hdr where
 rnd:Int
 prev:ByteArray
 txns:ByteArray
 seed:ByteArray
abbrev Hdr.val(r:Hdr):Value:=.agg #[.int .u64 r.rnd,.string r.prev,.string r.txns,.string r.seed]
def Hdr.cells(r:Hdr):List Value:=[.int .u64 r.rnd,.string r.prev,.string r.txns,.string r.seed]
theorem Hdr.cells_len(r:Hdr):r.cells.length=4:=rfl
theorem Hdr.cells_one(r:Hdr):∀u ∈ r.cells,u.oneCell'=true:=by intro u hu;simp only[Hdr.cells,List.mem_cons,List.not_mem_nil,or_false]at hu;rcases hu with rfl | rfl | rfl | rfl <;> rfl
def Hdr.zero:Hdr:=⟨0,ByteArray.empty,ByteArray.empty,ByteArray.empty⟩
def hnth(l:List Hdr)(i:Nat):Hdr:=l.getD i Hdr.zero
theorem hnth_eq(l:List Hdr)(i:Nat)(h:i<l.length):hnth l i=l[i]:=by unfold hnth;rw[List.getD_eq_getElem?_getD,List.getElem?_eq_getElem h];rfl
structure HdrAt(w:World)(b o:Nat)(r:Hdr):Prop where
 c0:w.cell? ⟨b,o,none⟩=some (.int .u64 r.rnd)
 c1:w.cell? ⟨b,o+1,none⟩=some (.string r.prev)
 c2:w.cell? ⟨b,o+2,none⟩=some (.string r.txns)
 c3:w.cell? ⟨b,o+3,none⟩=some (.string r.seed)
theorem HdrAt.below{w w':World}{b o:Nat}{r:Hdr}(h:HdrAt w b o r)(hb:Below w.heap.size w w'):HdrAt w' b o r:=by
 have hl:=lt_of_cell h.c0;have e:∀q,w'.cell? ⟨b,q,none⟩=w.cell? ⟨b,q,none⟩:=λ q=>hb.cell (p:=⟨b,q,none⟩) hl
 obtain⟨c0,c1,c2,c3⟩:=h
 constructor <;> (rw[e];assumption)
def Hdrs(w:World)(a:Option Addr)(l:List Hdr):Prop:=∀i,i<len l→∃b off,a=some ⟨b,off,none⟩∧HdrAt w b (off+i * 4) (hnth l i)
theorem Hdrs.nil(w:World)(a:Option Addr):Hdrs w a []:=λ i hi=>absurd hi (by simp[len])
theorem Hdrs.below{w w':World}{a:Option Addr}{l:List Hdr}(h:Hdrs w a l)(hb:Below w.heap.size w w'):Hdrs w' a l:=λ i hi=>by
 obtain⟨b,off,rfl,hc⟩:=h i hi
 exact⟨b,off,rfl,hc.below hb⟩
theorem Hdrs.take{w:World}{a:Option Addr}{l:List Hdr}(h:Hdrs w a l)(k:Nat):Hdrs w a (l.take k):=λ i hi=>by
 have hi2:i<l.length∧i<k:=by simp only[len,List.length_take]at hi;omega
 have hi3:i<(l.take k).length:=hi;have e:hnth (l.take k) i=hnth l i:=by rw[hnth_eq l i hi2.1,hnth_eq _ i hi3,List.getElem_take]
 rw[e];exact h i hi2.1
theorem Hdrs.own{w:World}{base e n:Nat}{v:Value}{l:List Hdr}(h:w.ownsRow base e 4 v n (l.flatMap Hdr.cells)):∃a cap,v=.slice a (len l) cap∧Hdrs w a l∧len l≤cap:=by
 have hn:len l=n:=by have:=h.1;rw[flat_length Hdr.cells 4 Hdr.cells_len]at this;rw[len_eq];omega
 obtain⟨h1,h2⟩:=h
 rcases h2 with⟨rfl,h2⟩ | ⟨g,cap,cur,rfl,hg,hh,hc1,hc2,hc3,hc4⟩
 ·obtain rfl:l=[]:=List.eq_nil_of_length_eq_zero (by rw[←len_eq];omega)
  exact⟨none,0,rfl,Hdrs.nil _ _,Nat.le_refl _⟩
 ·refine⟨some ⟨g,0,none⟩,cap,by rw[hn],λ i hi=>⟨g,0,rfl,?_⟩,by omega⟩
  have hown:w.ownsRow base e 4 (.slice (some ⟨g,0,none⟩) n cap) n (l.flatMap Hdr.cells):=⟨h1,.inr ⟨g,cap,cur,rfl,hg,hh,hc1,hc2,hc3,hc4⟩⟩;have key:∀r,r<4→w.cell? ⟨g,0+i * 4+r,none⟩=(hnth l i).cells[r]?:=λ r hr=>by
   have:=hown.cellAt (i * 4+r) (by rw[←hn];omega)
   rw[Nat.zero_add,this,flat_get Hdr.cells 4 Hdr.cells_len l i r hi hr,hnth_eq l i hi]
  exact⟨key 0 (by decide),key 1 (by decide),key 2 (by decide),key 3 (by decide)⟩
theorem Hdrs.block{w:World}{g:Nat}{l:List Hdr}{t:TypeId}{fr:Nat × Nat}(h:w.heap[g]?=some (.cells (l.flatMap Hdr.cells).toArray t fr)):Hdrs w (some ⟨g,0,none⟩) l:=λ i hi=>⟨g,0,rfl,by
 have key:∀r,r<4→w.cell? ⟨g,0+i * 4+r,none⟩=(hnth l i).cells[r]?:=λ r hr=>by
  rw[Nat.zero_add,block_cell h,List.getElem?_toArray,flat_get Hdr.cells 4 Hdr.cells_len l i r hi hr,hnth_eq l i hi]
 exact⟨key 0 (by decide),key 1 (by decide),key 2 (by decide),key 3 (by decide)⟩⟩
structure Hdr.Ok(r:Hdr):Prop where
 r0:U64i r.rnd
 p1:r.prev.size≤1000000
 t1:r.txns.size≤1000000
 s1:r.seed.size≤1000000
theorem Hdr.zero_ok:Hdr.zero.Ok:=⟨⟨by decide,by decide⟩,by decide,by decide,by decide⟩
theorem hoks{L:List Hdr}(h:∀p ∈ L,p.Ok):∀i,(hnth L i).Ok:=λ i=>by
 rcases Nat.lt_or_ge i L.length with hi | hi
 ·rw[hnth_eq L i hi];exact h _ (List.getElem_mem hi)
 ·unfold hnth;rw[List.getD_eq_getElem?_getD,List.getElem?_eq_none hi];exact Hdr.zero_ok
def hsp(r:Hdr):List FSpec:=headerSpecs r.rnd r.prev r.txns r.seed
def hOk(r:Hdr):Bool:=allMay (hsp r)
def hbs(r:Hdr):ByteArray:=layP (hsp r)
theorem hOk_eq(r:Hdr):hOk r=(decide (r.prev.size=32) && decide (r.seed.size=32) && decide (r.txns.size=32)):=may_header _ _ _ _
theorem hbs_size{r:Hdr}(h:hOk r=true):(hbs r).size≤1000:=headerSz h
def stepH(a b:Hdr):Bool:=decide (a.rnd<b.rnd) && decide (b.rnd - a.rnd=1)
def followH(R:Hdr→Hdr→Bool)(l:List Hdr):Bool:=(List.range (len l)).all λ i=>decide (i=0) || R (hnth l (i - 1)) (hnth l i)
theorem followH_no{R:Hdr→Hdr→Bool}{l:List Hdr}{i:Nat}(hi:i<len l)(h0:0<i)(h:R (hnth l (i - 1)) (hnth l i)=false):followH R l=false:=by
 unfold followH
 rw[List.all_eq_false]
 exact⟨i,List.mem_range.2 hi,by rw[h];simp;omega⟩
theorem followH_yes{R:Hdr→Hdr→Bool}{l:List Hdr}(h:∀i,i<len l→0<i→R (hnth l (i - 1)) (hnth l i)=true):followH R l=true:=by
 unfold followH
 rw[List.all_eq_true]
 intro i hi
 by_cases h0:i=0
 ·simp[h0]
 ·rw[h i (List.mem_range.1 hi) (by omega)];simp
theorem followH_at{R:Hdr→Hdr→Bool}{l:List Hdr}(h:followH R l=true){i:Nat}(hi:i<len l)(h0:0<i):R (hnth l (i - 1)) (hnth l i)=true:=by
 unfold followH at h
 have:=List.all_eq_true.1 h i (List.mem_range.2 hi)
 simp at this
 rcases this with h1 | h1
 ·omega
 ·exact h1
def laysH(l:List Hdr):Bool:=l.all hOk
theorem laysH_yes{l:List Hdr}(h:∀i,i<len l→hOk (hnth l i)=true):laysH l=true:=by
 unfold laysH
 rw[List.all_eq_true]
 intro x hx
 obtain⟨i,hi,rfl⟩:=List.getElem_of_mem hx
 have:=h i hi
 rwa [hnth_eq l i hi]at this
theorem laysH_at{l:List Hdr}(h:laysH l=true){i:Nat}(hi:i<len l):hOk (hnth l i)=true:=by
 unfold laysH at h
 rw[hnth_eq l i hi]
 exact List.all_eq_true.1 h _ (List.getElem_mem hi)
def elOk(l:List Hdr):Bool:=decide (0<len l) && decide (len l≤64) && followH stepH l && laysH l
def elL(l:List Hdr):List ByteArray:=l.map hbs
theorem elL_len(l:List Hdr):len (elL l)=len l:=by unfold elL;rw[len_eq,len_eq,List.length_map]
theorem elL_snoc(l:List Hdr)(m:Nat)(h:m<len l):elL (l.take (m+1))=elL (l.take m)++[hbs (hnth l m)]:=by
 unfold elL
 have h2:m<l.length:=h
 rw[List.take_succ_eq_append_getElem h2,List.map_append,hnth_eq l m h2]
 rfl
theorem elL_at(l:List Hdr)(i:Nat)(h:i<len l):tth (elL l) i=hbs (hnth l i):=by
 have h2:i<l.length:=h
 rw[hnth_eq l i h2]
 unfold tth elL
 rw[List.getD_eq_getElem?_getD,List.getElem?_map,List.getElem?_eq_getElem h2]
 rfl
theorem elOk_at{l:List Hdr}(h:elOk l=true):0<len l∧len l≤64∧followH stepH l=true∧laysH l=true:=by
 unfold elOk at h
 simp only[Bool.and_eq_true,decide_eq_true_eq]at h
 exact⟨h.1.1.1,h.1.1.2,h.1.2,h.2⟩
theorem elOk_of{l:List Hdr}(h1:0<len l)(h2:len l≤64)(h3:followH stepH l=true)(h4:laysH l=true):elOk l=true:=by
 unfold elOk
 rw[decide_eq_true h1,decide_eq_true h2,h3,h4];rfl
theorem elL_size{l:List Hdr}(h:elOk l=true):∀i,i<len (elL l)→(tth (elL l) i).size≤1000:=λ i hi=>by
 rw[elL_len]at hi
 rw[elL_at l i hi]
 exact hbs_size (laysH_at (elOk_at h).2.2.2 hi)
def bodsOk(l:List ByteArray):Bool:=decide (len l≤64) && l.all λ s=>decide (0<s.size) && decide (s.size≤64)
end Go.Proofs.YtpobhbdomldecaaGreatDoor
namespace Go.Proofs.YtpobhbdomldecaaGreatDoor
open Go.RowKit
set_option linter.unusedSimpArgs false
set_option linter.unusedVariables false
theorem len_appT{α:Type}(a b:List α):len (a++b)=len a+len b:=by rw[len_eq,List.length_append];rfl
end Go.Proofs.YtpobhbdomldecaaGreatDoor
namespace Go.Proofs.YtpobhbdomldecaaGreatDoor
open Go.RowKit
set_option linter.unusedSimpArgs false
set_option linter.unusedVariables false
def RElIs(l:List Hdr)(w:World)(e:Ending)(w':World):Prop:=∃v,e=.returned (.tuple #[v,.bool (elOk l)])∧(elOk l=true→TextsAre (elL l) v w')∧Below w.heap.size w w'
structure ElSt(l:List Hdr)(w wr:World)(v:Value)(m:Nat):Prop where
 b:Below w.heap.size w wr
 o:wr.ownsRow w.heap.size 9 1 v (len (elL (l.take m))) ((elL (l.take m)).map Value.string)
 y:∀j,j<m→hOk (hnth l j)=true
 s:∀j,0<j→j<m→stepH (hnth l (j - 1)) (hnth l j)=true
theorem lenT(l:List Hdr)(m:Nat)(h:m≤len l):len (elL (l.take m))=m:=by rw[elL_len,len_eq,List.length_take];rw[len_eq]at h;omega
theorem bod_no{l:List ByteArray}{m:Nat}(hm:m<len l)(h:¬(0<(tth l m).size∧(tth l m).size≤64)):bodsOk l=false:=by
 unfold bodsOk
 have:(l.all λ s=>decide (0<s.size) && decide (s.size≤64))=false:=by
  rw[List.all_eq_false]
  refine⟨tth l m,by rw[tth_eq l m hm];exact List.getElem_mem hm,?_⟩
  simp only[Bool.and_eq_true,decide_eq_true_eq]
  exact h
 rw[this];simp
theorem bod_yes{l:List ByteArray}(hn:len l≤64)(h:∀m,m<len l→0<(tth l m).size∧(tth l m).size≤64):bodsOk l=true:=by
 unfold bodsOk
 rw[decide_eq_true hn,Bool.true_and,List.all_eq_true]
 intro x hx
 obtain⟨i,hi,rfl⟩:=List.getElem_of_mem hx
 have:=h i hi
 rw[tth_eq l i hi]at this
 simp[this.1,this.2]
end Go.Proofs.YtpobhbdomldecaaGreatDoor
namespace Go.Proofs.YtpobhbdomldecaaGreatDoor
set_option linter.unusedSimpArgs false
set_option linter.unusedVariables false
open Go.RowKit Go.ChangeShapes Go.WideShapes Go.ChangeAt Go.Deep
section
variable {H : Type} {enc : TypeId × Value → H} {P : Program} {w : World}
theorem below_trodAll(hl:laidOutB P=true){W W':World}(hb:Below W.heap.size W W'):∀{ts:List TypeId} {vs:List Value} {ds:List (DataW H)} {ps:List MemPlace},
  (∀t ∈ ts,P.readableRec t=true∧t<P.types.size)→DataW.TrodAll enc P W 0 (λ _=>true) true ts vs ds ps→DataW.TrodAll enc P W' 0 (λ b=>decide (b<W.heap.size)) true ts vs ds ps
 | [],vs,ds,ps,_,h=>by
  obtain⟨rfl,rfl,rfl⟩:=trodAll_nil h
  exact trodAll_mk0
 | t :: ts,vs,ds,ps,ht,h=>by
  obtain⟨v,vs',d,ds',p,q,rfl,rfl,rfl,h0,r0⟩:=trodAll_cons h
  have lt0:∀x ∈ p,x.block<W.heap.size:=by obtain⟨m,hm⟩:=h0;exact DataW.trod_lt m _ _ _ hm
  exact trodAll_cons_mk (Below.trod hl (ht t (List.mem_cons_self ..)).1 (ht t (List.mem_cons_self ..)).2 h0 hb lt0) (below_trodAll hl hb (λ t' h'=>ht t' (List.mem_cons_of_mem _ h')) r0)
theorem list_of{α:Type}{n:Nat}{p:Nat→α→Prop}(h:∀i,i<n→∃x,p i x):∃l:List α,l.length=n∧∀i (hi:i<l.length),p i l[i]:=by
 induction n with
 | zero=>exact⟨[],rfl,λ i hi=>by simp at hi⟩
 | succ n ih=>
  obtain⟨l,hl,hp⟩:=ih (λ i hi=>h i (by omega))
  obtain⟨x,hx⟩:=h n (by omega)
  refine⟨l++[x],by simp[hl],λ i hi=>?_⟩
  rcases Nat.lt_or_ge i l.length with h' | h'
  ·rw[List.getElem_append_left h'];exact hp i h'
  ·have e:i=l.length:=by simp at hi;omega
   subst e
   simp only[List.getElem_append_right (Nat.le_refl _),Nat.sub_self,List.getElem_cons_zero]
   rw[hl];exact hx
theorem open_elems{α:Type}{t e:TypeId}(k:Nat)(cells:α→List Value)(ok:α→Prop)(ht:P.underlying t=some (.slice e))(hC:P.cellsOf e=k)(hk:0<k)
  (hel:∀n cs' y,cs'.length=k→DataW.trod enc P w 0 (λ _=>true) true n e cs'=some y→∃x,cs'=cells x∧ok x)
  {v:Value} {d:DataW H} {p:List MemPlace} {r:Reach} {base:Nat} (hv:Value.okWide P w r base t v) (h:DataW.Trod enc P w 0 (λ _=>true) true t v d p):
  ∃a c,∃l:List α,v=.slice a (len l) c∧len l≤c∧c≤maxLen∧∀i (hi:i<l.length),ok l[i]∧∃b off,a=some ⟨b,off,none⟩∧∀j,j<k→w.cell? ⟨b,off+i * k+j,none⟩=(cells l[i])[j]?:=by
 obtain⟨a0,n0,c0,rfl⟩:=okWide_slice ht hv
 obtain⟨fuel,hf⟩:=h
 rcases open_slice ht hf with⟨hcs,_⟩ | ⟨a,n,c,m,q,D,Pl,hcs,_,hl,hm,hmm,_,hi⟩
 ·simp[Value.cells]at hcs
  obtain⟨rfl,rfl,rfl⟩:=hcs
  exact⟨none,0,[],rfl,Nat.le_refl _,Nat.zero_le _,λ i hi=>by simp at hi⟩
 ·simp[Value.cells]at hcs
  obtain⟨rfl,rfl,rfl⟩:=hcs
  have hnm:n0≤m:=by rw[hmm];simp;exact hl
  have each:∀i,i<n0→∃x,ok x∧∃b off,some a=some ⟨b,off,none⟩∧∀j,j<k→w.cell? ⟨b,off+i * k+j,none⟩=(cells x)[j]?:=by
   intro i hin
   obtain⟨cs',hc,htr⟩:=hi i (by omega)
   rw[hC]at hc
   obtain⟨_,hcl,hat⟩:=World.cells?_some hc
   obtain⟨x,rfl,hx⟩:=hel q cs' _ hcl htr
   obtain⟨b,off,spot⟩:=a
   have hspot:spot=none:=by
    obtain⟨cs0,hc0,htr0⟩:=hi 0 (by omega)
    rw[hC]at hc0
    obtain⟨_,hcl0,hat0⟩:=World.cells?_some hc0
    have h1:=hat0 0 hk;have h2:cs0[0]?=some (cs0[0]'(by omega)):=List.getElem?_eq_getElem (by omega)
    rw[h2]at h1
    simpa [Addr.add] using World.cell?_spot h1
   subst hspot
   refine⟨x,hx,b,off,rfl,λ j hj=>?_⟩
   have h1:=hat j hj
   rw[Go.Deep.add_add]at h1
   have e:(⟨b,off,none⟩:Addr).add (i * k+j)=⟨b,off+i * k+j,none⟩:=by
    unfold Addr.add;split
    ·rename_i h0;simp <;> omega
    ·simp[Nat.add_assoc]
   rw[e]at h1;exact h1
  obtain⟨l,hll,hp⟩:=list_of each
  subst hll
  exact⟨some a,c0,l,rfl,hl,hm,hp⟩
theorem cell_read{n:Nat}{e:TypeId}{k:IntKind}{v:Value}{y:DataW H × List MemPlace}(he:P.underlying e=some (.int k))(h:DataW.trod enc P w 0 (λ _=>true) true n e [v]=some y):∃x,v=.int k x∧(Lit.int k x).wf=true:=by
 obtain⟨x,hx,_,hw⟩:=DataW.trod_int he h
 exact⟨x,by simpa using hx,hw⟩
theorem wf_u64{x:Int}(h:(Lit.int .u64 x).wf=true):0≤x∧x<18446744073709551616:=by
 simp[Lit.wf,IntKind.min,IntKind.max,IntKind.bits,IntKind.signed]at h;omega
theorem wf_u8{x:Int}(h:(Lit.int .u8 x).wf=true):0≤x∧x≤255:=by
 simp[Lit.wf,IntKind.min,IntKind.max,IntKind.bits,IntKind.signed]at h;omega
end
end Go.Proofs.YtpobhbdomldecaaGreatDoor
namespace Go.Proofs.YtpobhbdomldecaaGreatDoor
set_option linter.unusedSimpArgs false
set_option linter.unusedVariables false
open Go.RowKit Go.ChangeShapes Go.WideShapes Go.ChangeAt
theorem own:ownKnob Tryz.prog.godebug=none:=by kernel_rfl
theorem laidOut:laidOutB Tryz.prog=true:=by kernel_rfl
end Go.Proofs.YtpobhbdomldecaaGreatDoor
namespace Go.Proofs.YtpobhbdomldecaaGreatDoor
set_option linter.unusedSimpArgs false
set_option linter.unusedVariables false
open Go.RowKit Go.ChangeShapes Go.WideShapes Go.ChangeAt Go.ChangeMaps
section
variable {P : Program} {H : Type} {enc : TypeId × Value → H} {w : World}
theorem open_u8s{t e:TypeId}(ht:P.underlying t=some (.slice e))(he:P.underlying e=some (.int .u8))(hC:P.cellsOf e=1)
  {v:Value} {d:DataW H} {p:List MemPlace} {r:Reach} {base:Nat} (hv:Value.okWide P w r base t v) (h:DataW.Trod enc P w 0 (λ _=>true) true t v d p):
  ∃a c,∃l:List Int,v=.slice a (len l) c∧len l≤c∧c≤maxLen∧U8s w a l∧∀i,0≤nth l i∧nth l i≤255:=by
 obtain⟨a,c,l,rfl,h1,h2,h3⟩:=open_elems 1 (λ x=>[Value.int .u8 x]) (λ x=>0≤x∧x≤255) ht hC (by decide) (λ n cs' y hl hy=>by
  match cs',hl with
  | [v0],_=>
   obtain⟨x,rfl,hw⟩:=cell_read he hy
   exact⟨x,rfl,wf_u8 hw⟩) hv h
 refine⟨a,c,l,rfl,h1,h2,λ i hi=>?_,λ i=>?_⟩
 ·obtain⟨_,b,off,e1,e2⟩:=h3 i hi
  refine⟨b,off,e1,?_⟩
  have:=e2 0 (by decide)
  rw[Nat.mul_one,Nat.add_zero]at this
  rw[this,nth_eq l i hi];rfl
 ·rcases Nat.lt_or_ge i l.length with hi | hi
  ·rw[nth_eq l i hi];exact(h3 i hi).1
  ·have:nth l i=0:=by unfold nth;rw[List.getD_eq_getElem?_getD,List.getElem?_eq_none hi];rfl
   rw[this];decide
end
end Go.Proofs.YtpobhbdomldecaaGreatDoor
namespace Go.Proofs.YtpobhbdomldecaaGreatDoor
open Go.RowKit
set_option linter.unusedSimpArgs false
set_option linter.unusedVariables false
def isOkR(r:Except Flt Rcd):Bool:=match r with | .ok _=>true | .error _=>false
def EvOf(r:Except Flt Rcd)(ev:Value):Prop:=match r with
 | .ok _=>ev=.nilIface
 | .error _=>∃fb,ev=.iface 290 (.pointer (some ⟨fb,0,none⟩))
theorem rqHeader_any(B:Nat)(s:ByteArray)(w:World)(h:TE7 B w)(hs:s.size≤9223372036854775807):Calls Tryz.prog 112 #[.string s] w λ e w'=>∃ev,e=.returned (.tuple #[.agg (cellsHeader (recV (readR s (headerGs s) header0) header0)),ev])∧EvOf (readR s (headerGs s) header0) ev∧Below w.heap.size w w':=by
 refine(reaHeader_any B s w h.t h.e h.s h.g hs).mono ?_
 rintro e w' ⟨hb,hh⟩
 cases hr:readR s (headerGs s) header0 with
 | error f=>
  rw[hr]at hh
  obtain⟨fb,he,hf⟩:=hh
  exact⟨_,he,⟨fb,rfl⟩,hb⟩
 | ok y=>
  rw[hr]at hh
  exact⟨_,hh.2.2,rfl,hb⟩
end Go.Proofs.YtpobhbdomldecaaGreatDoor
namespace Go.Proofs.YtpobhbdomldecaaGreatDoor
open Go.RowKit
set_option linter.unusedSimpArgs false
set_option linter.unusedVariables false
def findR(l:List Hdr)(r:Int):Option Nat:=l.findIdx? λ h=>decide (h.rnd=r)
theorem findR_hit{l:List Hdr}{r:Int}{i:Nat}(hi:i<len l)(h:∀j,j<i→(hnth l j).rnd≠r)(h':(hnth l i).rnd=r):findR l r=some i:=by
 unfold findR
 rw[List.findIdx?_eq_some_iff_getElem]
 refine⟨hi,?_,λ j hj=>?_⟩
 ·rw[hnth_eq l i hi]at h';simp[h']
 ·have:=h j hj;rw[hnth_eq l j (Nat.lt_trans hj hi)]at this;simp[this]
theorem findR_none{l:List Hdr}{r:Int}(h:∀j,j<len l→(hnth l j).rnd≠r):findR l r=none:=by
 unfold findR
 rw[List.findIdx?_eq_none_iff]
 intro x hx
 obtain⟨i,hi,rfl⟩:=List.getElem_of_mem hx
 have:=h i hi;rw[hnth_eq l i hi]at this;simp[this]
def ihO(l:List Hdr)(r:Int):Option Nat:=if elOk l=true then findR l r else none
def ihS(l:List Hdr)(r:Int):ByteArray:=match ihO l r with | some i=>hbs (hnth l i) | none=>⟨#[]⟩
def ihP(l:List Hdr)(r:Int):List ByteArray:=match ihO l r with | some i=>oneD (elL l) i | none=>[]
def ihE(l:List Hdr)(r:Int):Int:=if elOk l=true then(match findR l r with | some _=>0 | none=>19)else 2
def IhIs(l:List Hdr)(r:Int)(w:World)(e:Ending)(w':World):Prop:=∃v,e=.returned (.tuple #[.string (ihS l r),v,.int .i64 (ihE l r)])∧TextsAre (ihP l r) v w'∧Below w.heap.size w w'
theorem ih_no{l:List Hdr}{r:Int}(h:elOk l=false):ihS l r=⟨#[]⟩∧ihP l r=[]∧ihE l r=2:=by
 have e:ihO l r=none:=if_neg (by rw[h];decide)
 refine⟨?_,?_,if_neg (by rw[h];decide)⟩
 ·unfold ihS;rw[e]
 ·unfold ihP;rw[e]
theorem ih_none{l:List Hdr}{r:Int}(h:elOk l=true)(hf:findR l r=none):ihS l r=⟨#[]⟩∧ihP l r=[]∧ihE l r=19:=by
 have e:ihO l r=none:=(if_pos h).trans hf
 refine⟨?_,?_,?_⟩
 ·unfold ihS;rw[e]
 ·unfold ihP;rw[e]
 ·unfold ihE;rw[if_pos h,hf]
theorem ih_some{l:List Hdr}{r:Int}{i:Nat}(h:elOk l=true)(hf:findR l r=some i):ihS l r=hbs (hnth l i)∧ihP l r=oneD (elL l) i∧ihE l r=0:=by
 have e:ihO l r=some i:=(if_pos h).trans hf
 refine⟨?_,?_,?_⟩
 ·unfold ihS;rw[e]
 ·unfold ihP;rw[e]
 ·unfold ihE;rw[if_pos h,hf]
def isA(root:ByteArray)(f t:Int):Bool:=decide (root.size=32) && decide (f≤t) && decide (t - f<64)
def isE(root:ByteArray)(f t:Int)(s:ByteArray)(p:List ByteArray):Int:=
 if isA root f t=true then
  match readR s (headerGs s) header0 with
  | .error _=>5
  | .ok y=>if f≤(y 0).n∧(y 0).n≤t then(if checkE root (t - f+1) [(y 0).n - f] [s] p=0 then 0 else 20)else 19
 else 2
def isH(root:ByteArray)(f t:Int)(s:ByteArray)(p:List ByteArray):Rcd:=if isE root f t s p=0 then recV (readR s (headerGs s) header0) header0 else header0
def IsIs(root:ByteArray)(f t:Int)(s:ByteArray)(p:List ByteArray)(w:World)(e:Ending)(w':World):Prop:=e=.returned (.tuple #[.agg (cellsHeader (isH root f t s p)),.int .i64 (isE root f t s p)])∧Below w.heap.size w w'
def bdOk(l:List ByteArray):Bool:=decide (0<len l) && bodsOk l
def itO(l:List ByteArray)(i:Int):Option Nat:=if bdOk l=true∧0≤i∧i<len l then some i.toNat else none
def itP(l:List ByteArray)(i:Int):List ByteArray:=match itO l i with | some k=>oneD l k | none=>[]
def itE(l:List ByteArray)(i:Int):Int:=if bdOk l=true then(if 0≤i∧i<len l then 0 else 19)else 2
def ItIs(l:List ByteArray)(i:Int)(w:World)(e:Ending)(w':World):Prop:=∃v,e=.returned (.tuple #[v,.int .i64 (itE l i)])∧TextsAre (itP l i) v w'∧Below w.heap.size w w'
theorem it_no{l:List ByteArray}{i:Int}(h:bdOk l=false):itP l i=[]∧itE l i=2:=by
 have e:itO l i=none:=if_neg (λ h9=>by rw[h]at h9;exact absurd h9.1 (by decide))
 exact⟨by unfold itP;rw[e],if_neg (by rw[h];decide)⟩
theorem it_none{l:List ByteArray}{i:Int}(h:bdOk l=true)(hi:¬(0≤i∧i<len l)):itP l i=[]∧itE l i=19:=by
 have e:itO l i=none:=if_neg (λ h9=>hi h9.2)
 exact⟨by unfold itP;rw[e],(if_pos h).trans (if_neg hi)⟩
theorem it_some{l:List ByteArray}{k:Nat}(h:bdOk l=true)(hi:k<len l):itP l (k:Nat)=oneD l k∧itE l (k:Nat)=0:=by
 have hi2:0≤((k:Nat):Int)∧((k:Nat):Int)<len l:=⟨by omega,by omega⟩;have e:itO l (k:Nat)=some k:=by unfold itO;rw[if_pos ⟨h,hi2⟩];rfl
 exact⟨by unfold itP;rw[e],(if_pos h).trans (if_pos hi2)⟩
def tiA(root:ByteArray)(i n:Int)(s:ByteArray):Bool:=decide (root.size=32) && decide (1≤n) && decide (n≤64) && decide (i<n) && decide (0<s.size) && decide (s.size≤64)
def tiE(root:ByteArray)(i n:Int)(s:ByteArray)(p:List ByteArray):Int:=if tiA root i n s=true then(if checkE root n [i] [s] p=0 then 0 else 20)else 2
theorem bdOk_at{l:List ByteArray}(h:bdOk l=true):0<len l∧len l≤64∧∀i,i<len l→0<(tth l i).size∧(tth l i).size≤64:=by
 unfold bdOk bodsOk at h
 simp only[Bool.and_eq_true,decide_eq_true_eq]at h
 refine⟨h.1,h.2.1,λ i hi=>?_⟩
 have:=List.all_eq_true.1 h.2.2 (tth l i) (by rw[tth_eq l i hi];exact List.getElem_mem hi)
 simpa using this
theorem bdOk_of{l:List ByteArray}(h0:0<len l)(h1:len l≤64)(h:∀i,i<len l→0<(tth l i).size∧(tth l i).size≤64):bdOk l=true:=by
 unfold bdOk
 rw[decide_eq_true h0,bod_yes h1 h];rfl
theorem bdOk_bad{l:List ByteArray}{m:Nat}(hm:m<len l)(h:¬(0<(tth l m).size∧(tth l m).size≤64)):bdOk l=false:=by
 unfold bdOk
 rw[bod_no hm h];simp
theorem bdOk_len{l:List ByteArray}(h:¬(0<len l∧len l≤64)):bdOk l=false:=by
 cases e:bdOk l with
 | false=>rfl
 | true=>exact absurd ⟨(bdOk_at e).1,(bdOk_at e).2.1⟩ h
end Go.Proofs.YtpobhbdomldecaaGreatDoor
namespace Go.Proofs.YtpobhbdomldecaaGreatDoor
open Go.RowKit
set_option linter.unusedSimpArgs false
set_option linter.unusedVariables false
structure PT(B:Nat)(w:World):Prop where
 p:PTab B w
 s:B≤w.heap.size
theorem PT.below{B:Nat}{w w':World}(h:PT B w)(hb:Below w.heap.size w w'):PT B w':=⟨h.p.keep hb h.s,Nat.le_trans h.s hb.size⟩
theorem hw_any(B:Nat)(r:Hdr)(w:World)(ht:PT B w)(ho:r.Ok):Calls Tryz.prog 44 #[r.val] w (LaidIs (hsp r) w):=
 wheader2_any B r.rnd r.prev r.txns r.seed w ht.p ho.r0 (Nat.le_trans ho.p1 (by decide)) (Nat.le_trans ho.t1 (by decide)) (Nat.le_trans ho.s1 (by decide)) (λ h=>Nat.le_trans (headerSz h) (by decide))
theorem hw_yes(B:Nat)(r:Hdr)(w:World)(ht:PT B w)(ho:r.Ok)(h:hOk r=true):Calls Tryz.prog 44 #[r.val] w λ e w'=>e=.returned (.tuple #[.string (hbs r),.int .i64 0])∧Below w.heap.size w w':=
 (hw_any B r w ht ho).mono λ e w' hh=>laid_yes h rfl hh
theorem hw_no(B:Nat)(r:Hdr)(w:World)(ht:PT B w)(ho:r.Ok)(h:hOk r=false):Calls Tryz.prog 44 #[r.val] w λ e w'=>e=.returned (.tuple #[.string ⟨#[]⟩,.int .i64 2])∧Below w.heap.size w w':=
 (hw_any B r w ht ho).mono λ e w' hh=>laid_no h hh
end Go.Proofs.YtpobhbdomldecaaGreatDoor
namespace Go.Proofs.YtpobhbdomldecaaGreatDoor
open Go.RowKit
set_option linter.unusedSimpArgs false
set_option linter.unusedVariables false
def BoxL(w:World)(xb:Nat)(a:Option Addr)(n cap:Nat):Prop:=w.heap[xb]?=some (.cells #[.slice a n cap] 22 (0,0))
theorem BoxL.below{w w':World}{xb:Nat}{a:Option Addr}{n cap:Nat}(h:BoxL w xb a n cap)(hb:Below w.heap.size w w'):BoxL w' xb a n cap:=(hb.block _ (lt_of_block h)).trans h
end Go.Proofs.YtpobhbdomldecaaGreatDoor
namespace Go.Proofs.YtpobhbdomldecaaGreatDoor
open Go.RowKit
set_option linter.unusedSimpArgs false
set_option linter.unusedVariables false
theorem info_u8h:(Tryz.prog.info? 5).map (λ i=>(i.zero,i.size,i.bytes))=some (some (.int .u8 0),1,1):=by kernel_rfl
theorem info_hdr:(Tryz.prog.info? 33).map (λ i=>(i.zero,i.size,i.bytes))=some (some Hdr.zero.val,4,56):=by kernel_rfl
end Go.Proofs.YtpobhbdomldecaaGreatDoor
namespace Go.Proofs.YtpobhbdomldecaaGreatDoor
open Go.RowKit
set_option linter.unusedSimpArgs false
set_option linter.unusedVariables false
def textL(c:Nat):List UInt8:=(List.range 32).map λ i=>UInt8.ofNat ((c+i % 3) % 256)
theorem textL_len(c:Nat):(textL c).length=32:=by unfold textL;rw[List.length_map,List.length_range]
theorem textL_at(c m:Nat)(h:m<32):Value.int .u8 (((c+m % 3) % 256:Nat):Int)=byV ((textL c).getD m 0):=by
 unfold textL byV
 rw[List.getD_eq_getElem?_getD,List.getElem?_map,List.getElem?_range h]
 simp
def textS(c:Nat):ByteArray:=⟨(textL c).toArray⟩
theorem textS_size(c:Nat):(textS c).size=32:=by
 show(textL c).toArray.size=32
 rw[List.size_toArray,textL_len]
set_option maxRecDepth 100000 in
theorem make_b32(K:List UInt8)(W:World):(Instr.makeSlice 41 (.int .i64 32) (.int .i64 32)).run Tryz.prog W=.ok (.slice (some ⟨W.heap.size,0,none⟩) 32 32) (W.alloc (.cells (filC K 32 0) 5)):=by
 obtain⟨i0,hi,hz0,hz1,hz2⟩:=info_parts info_u8h
 have hr:=run_make (P:=Tryz.prog) W 41 5 i0 (.int .u8 0) Tryz.underlying41 hi hz0 .i64 .i64 32 32 (by decide) (Int.le_refl _) (by rw[hz2];decide) (by decide);have e:madeCells (Value.int .u8 0).cells (32 * 1)=filC K 32 0:=by
  apply Array.toList_inj.1
  show(madeCells #[.int .u8 0] (32 * 1)).toList=_
  rw[toList_madeCells_one]
  rfl
 rw[hr,hz1]
 show Result.ok _ (W.alloc (.cells (madeCells (Value.int .u8 0).cells (32 * 1)) 5))=_
 rw[e]
 rfl
set_option maxRecDepth 100000 in
set_option maxHeartbeats 4000000 in
theorem text27_any(c:Nat)(w:World)(hc:c≤255):Calls Tryz.prog 56 #[.int .u8 (c:Nat)] w λ e w'=>e=.returned (.string (textS c))∧Below w.heap.size w w':=by
 have HC:=Lib.hid hc;have mk:=make_b32 (textL c);clear hc
 go_enter Tryz.func56,Tryz.ntmps56
 go_upto_region 2 with fail
 obtain⟨lb,hlb⟩:∃lb,w.heap.size=lb:=⟨_,rfl⟩
 obtain⟨U,hU⟩:∃U,w.alloc (.cells (filC (textL c) 32 0) 5)=U:=⟨_,rfl⟩
 have HUB:Hid (U.heap[lb]?=some (.cells (filC (textL c) 32 0) 5 (0,0))):=Lib.hid (by rw[←hU];exact alloc_new_at _ hlb);have HUW:Hid (Below w.heap.size w U):=Lib.hid (by rw[←hU];exact balloc (Below.refl _ _) _);have HLB:Hid (w.heap.size≤lb):=Lib.hid (Nat.le_of_eq hlb)
 rw[hlb]
 rw[hU]
 clear hU hlb mk
 go_wp2
 go_loopg [4] 32 (λ g i wr=>∃m:Nat,g+m=32∧i=.int .i64 m∧Hid (wr.heap[lb]?=some (.cells (filC (textL c) 32 m) 5 (0,0)))∧Hid (Below w.heap.size w wr))
 case atStart=>exact⟨0,rfl,rfl,HUB,HUW⟩
 case round=>
  clear HUB HUW
  obtain⟨m,hm,rfl,HUB,HUW⟩:=hrel
  by_cases hlt:m<32
  ·have i1:(m:Int)<32:=by omega
   obtain⟨W,hW⟩:∃W,wr=W:=⟨_,rfl⟩
   rw[hW]at HUB HUW ⊢
   have c0:W.cell? ⟨lb,m,none⟩=some (byV 0):=by rw[block_cell HUB.out,filC_at _ _ _ hlt (textL_len c)]
   have c1:W.frozen? ⟨lb,m,none⟩=false:=block_free HUB.out m;have c2:lb<W.heap.size:=lt_of_block HUB.out;clear hW;have HM:=Lib.hid hm;clear hm;have ev:Value.int .u8 (((c:Int)+(m:Int) % 3) % 256)=byV ((textL c).getD m 0):=by rw[←textL_at c m hlt];congr 1
   have HEV:=Lib.hid ev;have HLT:=Lib.hid hlt;clear ev hlt
   go_upto_region 4 with fail
   rw[HEV.out]
   clear c0 c1 c2;have HU2:Hid ((W.setCell ⟨lb,m,none⟩ (byV ((textL c).getD m 0))).heap[lb]?=some (.cells (filC (textL c) 32 (m+1)) 5 (0,0))):=Lib.hid (by
    have:=block_setCell HUB.out (o:=m) (byV ((textL c).getD m 0))
    rw[filC_set _ _ _ HLT.out (textL_len c)]at this
    exact this)
   have HU4:Hid (Below w.heap.size w (W.setCell ⟨lb,m,none⟩ (byV ((textL c).getD m 0)))):=Lib.hid (bset HUW.out HLB.out _)
   go_wp2
   go_roundg (gk - 1)
   case rel=>exact⟨m+1,by have:=HM.out;have:=HLT.out;omega,by have:=HLT.out;go_num,HU2,HU4⟩
   case measure=>have:=HM.out;have:=HLT.out;omega
  ·obtain rfl:m=32:=by omega
   have i1:¬((32:Nat):Int)<32:=by decide
   have HUB:=Lib.hid (by have h:=HUB.out;rw[filC_all _ _ (textL_len c)]at h;exact h);have cv:(convert 41 9 (.slice (some ⟨lb,0,none⟩) 32 32)).run Tryz.prog wr=.ok (.string (textS c)) wr:=conv_block wr lb 0 32 32 (textL c) (textL_len c) (λ i hi=>byV_block HUB.out i (by rw[textL_len];exact hi))
   go_wp2
   go_ret
   exact⟨rfl,HUW.out⟩
end Go.Proofs.YtpobhbdomldecaaGreatDoor
namespace Go.Proofs.YtpobhbdomldecaaGreatDoor
open Go.RowKit
set_option linter.unusedSimpArgs false
set_option linter.unusedVariables false
theorem own_setk{base n c g m k:Nat}{w:World}{e:TypeId}{xs:List Value}{u:Value}(h:w.ownsRow base e k (.slice (some ⟨g,0,none⟩) n c) n xs):(w.setCell ⟨g,m,none⟩ u).ownsRow base e k (.slice (some ⟨g,0,none⟩) n c) n (xs.set m u):=by
 refine⟨by rw[List.length_set];exact h.1,?_⟩
 rcases h.2 with⟨hz,_⟩ | ⟨g9,cap,cur,hv,hg,hh,h1,h2,h3,h4⟩
 ·cases hz
 ·cases hv
  refine Or.inr ⟨g,c,cur.setIfInBounds m u,rfl,hg,block_setCell hh u,h1,h2,by rw[Array.size_setIfInBounds];exact h3,?_⟩
  rw[Array.toList_setIfInBounds,←h4,List.take_set]
theorem flat_set{α β:Type}(f:α→List β)(k:Nat)(hf:∀x,(f x).length=k){u:β}{x':α}:∀(l:List α) (i j:Nat) (hi:i<l.length),j<k→f x'=(f l[i]).set j u→(l.flatMap f).set (i * k+j) u=(l.set i x').flatMap f
 | x :: l,0,j,_,hj,hx=>by
  simp only[List.flatMap_cons,Nat.zero_mul,Nat.zero_add,List.getElem_cons_zero,List.set_cons_zero]at hx ⊢
  rw[List.set_append_left _ _ (by rw[hf];exact hj),hx]
 | x :: l,i+1,j,hi,hj,hx=>by
  simp only[List.flatMap_cons,List.getElem_cons_succ,List.set_cons_succ]at hx ⊢
  rw[List.set_append_right _ _ (by rw[hf,Nat.add_mul];omega),hf,show(i+1) * k+j - k=i * k+j by rw[Nat.add_mul];omega]
  rw[flat_set f k hf l i j (by simpa using hi) hj hx]
def OwnH(base g c:Nat)(L:List Hdr)(w:World):Prop:=w.ownsRow base 33 4 (.slice (some ⟨g,0,none⟩) (len L) c) (len L) (L.flatMap Hdr.cells)
theorem OwnH.below{base g c:Nat}{L:List Hdr}{w w':World}(h:OwnH base g c L w)(hb:Below w.heap.size w w'):OwnH base g c L w':=own_below h hb
theorem OwnH.set{base g c:Nat}{L:List Hdr}{w:World}(h:OwnH base g c L w){i j:Nat}{u:Value}{r':Hdr}(hi:i<len L)(hj:j<4)(hr:r'.cells=(hnth L i).cells.set j u):OwnH base g c (L.set i r') (w.setCell ⟨g,i * 4+j,none⟩ u):=by
 unfold OwnH
 have hl:len (L.set i r')=len L:=by rw[len_eq,len_eq,List.length_set]
 rw[hl,←flat_set Hdr.cells 4 Hdr.cells_len L i j hi hj (by rw[hr,hnth_eq L i hi])]
 exact own_setk h
theorem hset_len(L:List Hdr)(i:Nat)(r:Hdr):len (L.set i r)=len L:=by rw[len_eq,len_eq,List.length_set]
theorem OwnH.lt{base g c:Nat}{L:List Hdr}{w:World}(h:OwnH base g c L w):base≤g∧g<w.heap.size:=h.1 |> λ _=>World.ownsRow.lt h g rfl
structure HCells(w:World)(g i:Nat)(r:Hdr):Prop where
 c0:w.cell? ⟨g,i * 4,none⟩=some (.int .u64 r.rnd)
 c1:w.cell? ⟨g,i * 4+1,none⟩=some (.string r.prev)
 c2:w.cell? ⟨g,i * 4+2,none⟩=some (.string r.txns)
 c3:w.cell? ⟨g,i * 4+3,none⟩=some (.string r.seed)
 f:∀o,w.frozen? ⟨g,o,none⟩=false
theorem OwnH.at{base g c:Nat}{L:List Hdr}{w:World}(h:OwnH base g c L w){i:Nat}(hi:i<len L):HCells w g i (hnth L i):=by
 obtain⟨a,cap,e,hh,_⟩:=Hdrs.own h
 cases e
 obtain⟨b,off,e,⟨h0,h1,h2,h3⟩⟩:=hh i hi
 cases e
 rw[Nat.zero_add]at h0 h1 h2 h3
 rcases h.2 with⟨hz,_⟩ | ⟨g9,cap,cur,hv,hg,hb,_⟩
 ·cases hz
 ·cases hv
  exact⟨h0,h1,h2,h3,block_free hb⟩
theorem OwnH.hdrs{base g c:Nat}{L:List Hdr}{w:World}(h:OwnH base g c L w):Hdrs w (some ⟨g,0,none⟩) L:=by
 obtain⟨a,cap,e,hh,_⟩:=Hdrs.own h
 cases e
 exact hh
theorem ownH_of{base n:Nat}{v:Value}{L:List Hdr}{w:World}(h:w.ownsRow base 33 4 v n (L.flatMap Hdr.cells)):(v=.slice none 0 0∧L=[]) ∨ ∃g c,v=.slice (some ⟨g,0,none⟩) (len L) c∧OwnH base g c L w:=by
 have hn:len L=n:=by have:=h.1;rw[flat_length Hdr.cells 4 Hdr.cells_len]at this;rw[len_eq];omega
 rcases h.2 with⟨hv,h0⟩ | ⟨g,cap,cur,hv,hr⟩
 ·exact .inl ⟨hv,List.eq_nil_of_length_eq_zero (by rw[←len_eq];omega)⟩
 ·exact .inr ⟨g,cap,by rw[hn];exact hv,by unfold OwnH;rw[hn,←hv];exact h⟩
end Go.Proofs.YtpobhbdomldecaaGreatDoor
namespace Go.Proofs.YtpobhbdomldecaaGreatDoor
open Go.RowKit
set_option linter.unusedSimpArgs false
set_option linter.unusedVariables false
set_option linter.constructorNameAsVariable false
theorem own_base{base b' n k:Nat}{e:TypeId}{v:Value}{w:World}{xs:List Value}(h:w.ownsRow base e k v n xs)(hb:b'≤base):w.ownsRow b' e k v n xs:=
 ⟨h.1,h.2.imp id (fun ⟨g,cap,cur,hv,hg,r⟩=>⟨g,cap,cur,hv,Nat.le_trans hb hg,r⟩)⟩
def rowAt(f c i:Nat):Hdr:=⟨((f:Int)+(i:Int)) % 18446744073709551616,textS c,textS ((c+1) % 256),textS ((c+2) % 256)⟩
def lett(l:List Int)(i:Nat):Nat:=(nth l i).toNat
def rowN(f:Nat)(l:List Int)(n:Nat):List Hdr:=(List.range n).map λ i=>rowAt f (lett l i) i
theorem rowN_len(f:Nat)(l:List Int)(n:Nat):len (rowN f l n)=n:=by unfold rowN;rw[len_eq];simp
theorem rowN_snoc(f:Nat)(l:List Int)(n:Nat):rowN f l (n+1)=rowN f l n++[rowAt f (lett l n) n]:=by unfold rowN;rw[List.range_succ,List.map_append];rfl
theorem rowN_at(f:Nat)(l:List Int){n i:Nat}(h:i<n):hnth (rowN f l n) i=rowAt f (lett l i) i:=by
 unfold rowN
 rw[hnth_eq _ i (by simpa using h)]
 simp
theorem rowAt_ok(f c i:Nat):(rowAt f c i).Ok:=⟨⟨by show(0:Int)≤((f:Int)+(i:Int)) % 18446744073709551616;omega,by show((f:Int)+(i:Int)) % 18446744073709551616≤18446744073709551615;omega⟩,by unfold rowAt;rw[textS_size];decide,by unfold rowAt;rw[textS_size];decide,by unfold rowAt;rw[textS_size];decide⟩
def rowO(o0 o1:Nat)(L:List Hdr):List Hdr:=
 if o1<len L then
  (if o0 % 8=1 then L.set o1 { hnth L o1 with rnd:=((hnth L o1).rnd+1) % 18446744073709551616 }
   else if o0 % 8=2 then L.set o1 { hnth L o1 with txns:=(hnth L o1).txns.extract 1 (hnth L o1).txns.size } else L)
 else L
def rowL(f:Nat)(l:List Int)(o0 o1:Nat):List Hdr:=rowO o0 o1 (rowN f l (min (len l) 70))
theorem rowN_ok(f:Nat)(l:List Int)(n:Nat):∀i,(hnth (rowN f l n) i).Ok:=hoks (λ p hp=>by
 unfold rowN at hp
 obtain⟨i,_,rfl⟩:=List.mem_map.1 hp
 exact rowAt_ok _ _ _)
theorem row_fin{base b' g c i:Nat}{L R:List Hdr}{r':Hdr}{W:World}(h:OwnH base g c (L.set i r') W)(hR:R=L.set i r')(hb:b'≤base):W.ownsRow b' 33 4 (.slice (some ⟨g,0,none⟩) (len L) c) (len R) (R.flatMap Hdr.cells):=by
 subst hR
 have h2:=own_base h hb
 rw[hset_len]at h2 ⊢
 exact h2
def Row27Is(f:Nat)(l:List Int)(o0 o1:Nat)(w:World)(e:Ending)(w':World):Prop:=∃v,e=.returned v∧w'.ownsRow w.heap.size 33 4 v (len (rowL f l o0 o1)) ((rowL f l o0 o1).flatMap Hdr.cells)∧Below w.heap.size w w'
set_option maxRecDepth 100000 in
set_option maxHeartbeats 1000000 in
theorem row27_any(f:Nat)(l:List Int)(a:Option Addr)(cap o0 o1:Nat)(w:World)(hf:f<18446744073709551616)(hc:U8s w a l)(hl:∀i,0≤nth l i∧nth l i≤255)(hn:len l≤9223372036854775807)(h0:o0≤255)(h1:o1≤255):
  Calls Tryz.prog 48 #[.int .u64 (f:Nat),.slice a (len l) cap,.agg #[.int .u8 (o0:Nat),.int .u8 (o1:Nat)]] w (Row27Is f l o0 o1 w):=by
 have HC:=Lib.hid hc;have HLT:=Lib.hid hl;have HF:=Lib.hid hf;have HN:=Lib.hid hn;have H0:=Lib.hid h0;have H1:=Lib.hid h1
 obtain⟨i0,hi,hz0,hz1,hz2⟩:=info_parts info_hdr
 have HZ0:=Lib.hid hz0;clear hc hl hf hn h0 h1 hz0
 go_enter Tryz.func48,Tryz.ntmps48
 go_upto_region 1 with fail
 obtain⟨V,hV⟩:∃V,w.alloc (.cells #[.int .u8 (o0:Nat),.int .u8 (o1:Nat)] 70)=V:=⟨_,rfl⟩
 obtain⟨ob,hob⟩:∃ob,w.heap.size=ob:=⟨_,rfl⟩
 have HV:Hid (Below w.heap.size w V):=Lib.hid (by rw[←hV];exact balloc (Below.refl _ _) _);have HOB:Hid (V.heap[ob]?=some (.cells #[.int .u8 (o0:Nat),.int .u8 (o1:Nat)] 70 (0,0))):=Lib.hid (by rw[←hV,←hob];exact heap_alloc_new _ _)
 rw[hV,hob]
 clear hV hob
 go_wp2
 go_loopg [8,7] 70 (λ gg i v wr=>∃m:Nat,gg+m=70∧i=.int .i64 (m:Nat)∧Hid (m≤len l)∧Hid (Below V.heap.size V wr)∧Hid (wr.ownsRow V.heap.size 33 4 v m ((rowN f l m).flatMap Hdr.cells)))
 case atStart=>exact⟨0,rfl,rfl,Lib.hid (Nat.zero_le _),Lib.hid (Below.refl _ _),Lib.hid (World.ownsRow_nil _ _ _ _)⟩
 case round=>
  obtain⟨m,hm,rfl,HML,HB,HOWN⟩:=hrel
  by_cases hin:m<len l∧m<70
  ·obtain⟨hlt,h70⟩:=hin
   have b0:(m:Int)<len l:=by omega
   have b1:(m:Int)<70:=by omega
   obtain⟨pb,po,rfl,cs⟩:=((HC.out.below HV.out).below HB.out) m hlt
   obtain⟨c,hcc⟩:∃c,lett l m=c:=⟨_,rfl⟩
   have hx:=HLT.out m;have ec:nth l m=((c:Nat):Int):=by rw[←hcc];unfold lett;omega
   have HCB:Hid (c≤255):=Lib.hid (by omega);have HCE:=Lib.hid hcc
   rw[ec]at cs
   have HM:=Lib.hid hm;have H70:=Lib.hid h70;have HLL:=Lib.hid hlt;have kw:IntKind.u64.wrap ((m:Nat):Int)=((m:Nat):Int):=IntWalk.u64_in _ (by omega)
   obtain⟨X,hX⟩:∃X,IntKind.u64.wrap ((f:Int)+(m:Int))=X:=⟨_,rfl⟩
   have HXE:Hid (((f:Int)+(m:Int)) % 18446744073709551616=X):=Lib.hid (by rw[←hX,IntKind.wrap_u64]);clear ec hx hcc hm h70 hlt;have HNL:=HN.out
   go_wp2_with fail
   refine(text27_any c _ HCB.out).mono ?_
   rintro e w1 ⟨rfl,hb⟩
   have HB1:=Lib.hid (bnext HB.out hb);have HO1:=Lib.hid (own_below HOWN.out hb);clear hb cs kw
   obtain⟨c1,hc1⟩:∃c1,(c+1) % 256=c1:=⟨_,rfl⟩
   obtain⟨c2,hc2⟩:∃c2,(c+2) % 256=c2:=⟨_,rfl⟩
   have HK1:Hid (((c:Int)+1) % 256=((c1:Nat):Int)∧c1≤255):=Lib.hid ⟨by omega,by omega⟩;have HK2:Hid (((c:Int)+2) % 256=((c2:Nat):Int)∧c2≤255):=Lib.hid ⟨by omega,by omega⟩;have HRW:Hid (rowAt f c m=⟨((f:Int)+(m:Int)) % 18446744073709551616,textS c,textS c1,textS c2⟩):=Lib.hid (by unfold rowAt;rw[hc1,hc2]);clear hc1 hc2
   go_wp2_with fail
   rw[HK1.out.1]
   refine(text27_any c1 _ HK1.out.2).mono ?_
   rintro e w2 ⟨rfl,hb⟩
   have HB2:=Lib.hid (bnext HB1.out hb);have HO2:=Lib.hid (own_below HO1.out hb);clear hb
   go_wp2_with fail
   rw[HK2.out.1]
   refine(text27_any c2 _ HK2.out.2).mono ?_
   rintro e w3 ⟨rfl,hb⟩
   have HB3:=Lib.hid (bnext HB2.out hb);have HO3:=Lib.hid (own_below HO2.out hb);clear hb
   obtain⟨t0,ht0⟩:∃t,textS c=t:=⟨_,rfl⟩
   obtain⟨t1,ht1⟩:∃t,textS c1=t:=⟨_,rfl⟩
   obtain⟨t2,ht2⟩:∃t,textS c2=t:=⟨_,rfl⟩
   rw[HXE.out,ht0,ht1,ht2]at HRW
   rw[ht2]
   simp only[ht0,ht1]
   clear hX ht0 ht1 ht2
   go_wp2_with (at_builtin;refine wpList_append_lies _ rfl _ _ 22 rfl V.heap.size 33 i0 Hdr.zero.val 4 56 Tryz.underlying22 hi HZ0.out hz1 hz2 rfl (by decide) _ m _ rfl (HO3.out.alloc _) ⟨w3.heap.size,0,none⟩ 1 1 (Hdr.cells ⟨X,t0,t1,t2⟩) rfl rfl ?d1 (Hdr.cells_one _) (by decide) ?d4 ?d5 ?d6 _ rfl ?_)
   case d1=>exact World.news_of_block (alloc_new_at _ rfl)
   case d4=>unfold maxLen;have:=H70.out;omega
   case d5=>have:=H70.out;omega
   case d6=>have:=HB3.out.size;simp;omega
   intro g cp w4 hown hgrow hat hgl
   have HB4:=Lib.hid (grownBy_below (balloc HB3.out _) hgrow (λ q hq=>(HO3.out.lt q hq).1));have HO4:Hid (w4.ownsRow V.heap.size 33 4 (.slice (some ⟨g,0,none⟩) (m+1) cp) (m+1) ((rowN f l (m+1)).flatMap Hdr.cells)):=Lib.hid (by
    rw[rowN_snoc,HCE.out,HRW.out,List.flatMap_append]
    simpa using hown)
   clear hown hgrow hat hgl;have h70:=H70.out
   go_wp2
   go_roundg (gk - 1)
   case rel=>exact⟨m+1,by have:=HM.out;omega,by go_num,Lib.hid HLL.out,HB4,HO4⟩
   case measure=>have:=HM.out;omega
  ·have hex:(¬(m:Int)<len l) ∨ ((m:Int)<len l∧¬(m:Int)<70):=by omega
   have HMM:Hid (min (len l) 70=m):=Lib.hid (by have:=HML.out;omega)
   obtain⟨L,hL⟩:∃L,rowN f l m=L:=⟨_,rfl⟩
   have HRO:Hid (rowL f l o0 o1=rowO o0 o1 L):=Lib.hid (by unfold rowL;rw[HMM.out,hL]);have hln:len L=m:=by rw[←hL,rowN_len]
   have HO:=Lib.hid HOWN.out
   rw[hL,←hln]at HO
   have HBB:=Lib.hid HB.out;have HB0:Hid (wr.heap[ob]?=some (.cells #[.int .u8 (o0:Nat),.int .u8 (o1:Nat)] 70 (0,0))):=Lib.hid ((HB.out.block _ (lt_of_block HOB.out)).trans HOB.out);have c0:wr.cell? ⟨ob,0,none⟩=some (.int .u8 (o0:Nat)):=block_cell HB0.out 0;have c1:wr.cell? ⟨ob,1,none⟩=some (.int .u8 (o1:Nat)):=block_cell HB0.out 1;have kw:IntKind.i64.wrap ((o1:Nat):Int)=((o1:Nat):Int):=by have:=H1.out;exact IntWalk.i64_in _ (by omega)
   have HM70:Hid (len L≤70):=Lib.hid (by omega)
   by_cases ho:o1<len L
   ·have d0:(o1:Int)<len L:=by omega
    rcases ownH_of HO.out with⟨-,hnil⟩ | ⟨g,c,rfl,hoo⟩
    ·rw[hnil]at ho;exact absurd ho (by show ¬o1<0;omega)
    have HOO:=Lib.hid hoo;have HGB:=Lib.hid hoo.lt
    obtain⟨e0,e1,e2,e3,fz⟩:=hoo.at ho
    have HROK:Hid (hnth L o1).Ok:=Lib.hid (by rw[←hL];exact rowN_ok f l m o1)
    obtain⟨r,hr⟩:∃r,hnth L o1=r:=⟨_,rfl⟩
    rw[hr]at e0 e1 e2 e3 HROK
    have HTZ:Hid (r.txns.size=32):=Lib.hid (by rw[←hr,←hL,rowN_at f l (by omega)];exact textS_size _);have HRE:=Lib.hid hr;have HOL:=Lib.hid ho;clear hr hoo hL hm hin hln
    by_cases q1:o0 % 8=1
    ·have k1:(((o0:Nat):Int) % 8 == 1)=true:=by simp;omega
     obtain⟨X,hX⟩:∃X,IntKind.u64.wrap (r.rnd+1)=X:=⟨_,rfl⟩
     have HXE:Hid ((r.rnd+1) % 18446744073709551616=X):=Lib.hid (by rw[←hX,IntKind.wrap_u64]);have HEQ:Hid (rowL f l o0 o1=L.set o1 { r with rnd:=X }):=Lib.hid (by rw[HRO.out];unfold rowO;rw[if_pos HOL.out,if_pos q1,HRE.out,HXE.out]);clear q1
     rcases hex with h1 | ⟨h1,h2⟩
     all_goals
      go_upto_region 14 with fail
      have HSS:Hid (OwnH V.heap.size g c (L.set o1 { r with rnd:=X }) (wr.setCell ⟨g,o1 * 4,none⟩ (.int .u64 X))):=Lib.hid (HOO.out.set (j:=0) HOL.out (by decide) (by rw[HRE.out];rfl));have HBS:Hid (Below V.heap.size V (wr.setCell ⟨g,o1 * 4,none⟩ (.int .u64 X))):=Lib.hid (bset HBB.out HGB.out.1 _)
      go_wp2
      go_ret
      exact⟨_,rfl,row_fin HSS.out HEQ.out HV.out.size,bnext HV.out HBS.out⟩
    ·have k1:(((o0:Nat):Int) % 8 == 1)=false:=by simp;omega
     by_cases q2:o0 % 8=2
     ·have k2:(((o0:Nat):Int) % 8 == 2)=true:=by simp;omega
      obtain⟨X,hX⟩:∃X,r.txns.extract 1 r.txns.size=X:=⟨_,rfl⟩
      have HEQ:Hid (rowL f l o0 o1=L.set o1 { r with txns:=X }):=Lib.hid (by rw[HRO.out];unfold rowO;rw[if_pos HOL.out,if_neg q1,if_pos q2,HRE.out,hX]);have sz1:¬r.txns.size<1:=by have:=HTZ.out;omega
      have sz2:1≤r.txns.size:=by have:=HTZ.out;omega
      clear q1 q2
      rcases hex with h1 | ⟨h1,h2⟩
      all_goals
       go_upto_region 14 with fail
       have HSS:Hid (OwnH V.heap.size g c (L.set o1 { r with txns:=X }) (wr.setCell ⟨g,o1 * 4+2,none⟩ (.string X))):=Lib.hid (HOO.out.set (j:=2) HOL.out (by decide) (by rw[HRE.out];rfl));have HBS:Hid (Below V.heap.size V (wr.setCell ⟨g,o1 * 4+2,none⟩ (.string X))):=Lib.hid (bset HBB.out HGB.out.1 _)
       go_wp2
       go_ret
       exact⟨_,rfl,row_fin HSS.out HEQ.out HV.out.size,bnext HV.out HBS.out⟩
     ·have k2:(((o0:Nat):Int) % 8 == 2)=false:=by simp;omega
      have HEQ:Hid (rowL f l o0 o1=L):=Lib.hid (by rw[HRO.out];unfold rowO;rw[if_pos HOL.out,if_neg q1,if_neg q2]);clear q1 q2
      rcases hex with h1 | ⟨h1,h2⟩
      all_goals
       go_wp2
       go_ret
       exact⟨_,rfl,own_base (by rw[HEQ.out];exact HO.out) HV.out.size,bnext HV.out HBB.out⟩
   ·have d0:¬(o1:Int)<len L:=by omega
    have HEQ:Hid (rowL f l o0 o1=L):=Lib.hid (by rw[HRO.out];unfold rowO;rw[if_neg ho])
    obtain⟨a9,c9,hv9,_⟩:=Hdrs.own HO.out
    subst hv9
    clear ho hL hm hin hln
    rcases hex with h1 | ⟨h1,h2⟩
    all_goals
     go_wp2
     go_ret
     exact⟨_,rfl,own_base (by rw[HEQ.out];exact HO.out) HV.out.size,bnext HV.out HBB.out⟩
end Go.Proofs.YtpobhbdomldecaaGreatDoor
namespace Go.Proofs.YtpobhbdomldecaaGreatDoor
open Go.RowKit
set_option linter.unusedSimpArgs false
set_option linter.unusedVariables false
def abT:List ByteArray:=[⟨#[97]⟩,⟨#[98]⟩]
theorem abT_txts{w:World}{b:Nat}{t:TypeId}{fr:Nat × Nat}(h:w.heap[b]?=some (.cells #[.string ⟨#[97]⟩,.string ⟨#[98]⟩] t fr)):Txts w (some ⟨b,0,none⟩) abT:=λ i hi=>⟨b,0,rfl,by
 have hi:i<2:=hi
 rw[block_cell h,Nat.zero_add]
 have:i=0 ∨ i=1:=by omega
 rcases this with rfl | rfl <;> rfl⟩
theorem abT_size:∀i,i<len abT→(tth abT i).size≤1:=λ i hi=>by
 have hi:i<2:=hi;have:i=0 ∨ i=1:=by omega
 rcases this with rfl | rfl <;> decide
theorem one_txts1{w:World}{b:Nat}{t:TypeId}{fr:Nat × Nat}{s:ByteArray}(h:w.heap[b]?=some (.cells #[.string s] t fr)):Txts w (some ⟨b,0,none⟩) [s]:=λ i hi=>⟨b,0,rfl,by
 have hi:i<1:=hi
 obtain rfl:i=0:=by omega
 rw[block_cell h];rfl⟩
theorem oks1{x:Hdr}(hx:x.Ok):∀i,(hnth [x] i).Ok:=hoks (λ p hp=>by
 rw[List.mem_singleton.1 hp];exact hx)
end Go.Proofs.YtpobhbdomldecaaGreatDoor
namespace Go.Proofs.YtpobhbdomldecaaGreatDoor
open Go.RowKit
set_option linter.unusedSimpArgs false
set_option linter.unusedVariables false
theorem nilB:(⟨#[]⟩:ByteArray).toList=[]:=by kernel_rfl
theorem emptyB(s:ByteArray):s.toList.isEmpty=decide (s.size=0):=by
 have h:=str_beq s ⟨#[]⟩
 rw[nilB]at h
 by_cases e:s.size=0
 ·have:s=⟨#[]⟩:=ByteArray.ext (Array.eq_empty_of_size_eq_zero e)
  rw[this,nilB];rfl
 ·have hn:¬s=⟨#[]⟩:=λ h9=>e (by rw[h9];rfl)
  rw[decide_eq_false hn]at h
  rw[decide_eq_false e]
  cases hs:s.toList with
  | nil=>rw[hs]at h;cases h
  | cons x l=>rfl
def BodyOk(s:ByteArray):Prop:=0<s.size∧s.size≤64
end Go.Proofs.YtpobhbdomldecaaGreatDoor
namespace Go.Proofs.YtpobhbdomldecaaGreatDoor
open Go.RowKit
set_option linter.unusedSimpArgs false
set_option linter.unusedVariables false
def bodyB(s:ByteArray):Bool:=decide (0<s.size) && decide (s.size≤64)
set_option maxRecDepth 100000 in
theorem ibody_any(s:ByteArray)(w:World)(hs:s.size≤9223372036854775807):Calls Tryz.prog 120 #[.string s] w λ e w'=>e=.returned (.bool (bodyB s))∧Below w.heap.size w w':=by
 by_cases h0:s.size=0
 ·have te:s.toList.isEmpty=true:=by rw[emptyB,decide_eq_true h0]
  have HE:Hid (bodyB s=false):=Lib.hid (by unfold bodyB;rw[decide_eq_false (by omega)];rfl);clear h0
  go_enter Tryz.func120,Tryz.ntmps120
  go_wp2
  go_ret
  exact⟨by rw[HE.out];rfl,Below.refl _ _⟩
 ·have te:s.toList.isEmpty=false:=by rw[emptyB,decide_eq_false h0]
  by_cases h1:s.size≤64
  ·have i1:((s.size:Nat):Int)≤64:=by omega
   have HE:Hid (bodyB s=true):=Lib.hid (by unfold bodyB;rw[decide_eq_true (by omega:0<s.size),decide_eq_true h1];rfl);clear h0 h1
   go_enter Tryz.func120,Tryz.ntmps120
   go_wp2
   go_ret
   exact⟨by rw[HE.out];rfl,Below.refl _ _⟩
  ·have i1:¬((s.size:Nat):Int)≤64:=by omega
   have HE:Hid (bodyB s=false):=Lib.hid (by unfold bodyB;rw[decide_eq_false h1];simp);clear h0 h1
   go_enter Tryz.func120,Tryz.ntmps120
   go_wp2
   go_ret
   exact⟨by rw[HE.out];rfl,Below.refl _ _⟩
set_option maxRecDepth 100000 in
theorem itxn1_any(i:Int)(s:ByteArray)(w:World)(hs:s.size≤9223372036854775807):Calls Tryz.prog 119 #[.int .i64 i,.string s] w λ e w'=>e=.returned (.tuple #[.string s,.bool (bodyB s)])∧Below w.heap.size w w':=by
 go_enter Tryz.func119,Tryz.ntmps119
 go_wp2_with fail
 refine(ibody_any s w hs).mono ?_
 rintro e w1 ⟨rfl,hb⟩
 go_wp2
 go_ret2
 exact⟨rfl,hb⟩
structure BeSt(l:List ByteArray)(w wr:World)(v:Value)(m:Nat):Prop where
 b:Below w.heap.size w wr
 o:wr.ownsRow w.heap.size 9 1 v m ((l.take m).map Value.string)
 y:∀j,j<m→bodyB (tth l j)=true
def RBdIs(l:List ByteArray)(w:World)(e:Ending)(w':World):Prop:=∃v,e=.returned (.tuple #[v,.bool (bdOk l)])∧(bdOk l=true→TextsAre l v w')∧Below w.heap.size w w'
theorem bodyB_at{s:ByteArray}(h:bodyB s=true):0<s.size∧s.size≤64:=by
 unfold bodyB at h
 simpa using h
theorem bodyB_no{s:ByteArray}(h:bodyB s=false):¬(0<s.size∧s.size≤64):=λ h9=>by
 unfold bodyB at h
 rw[decide_eq_true h9.1,decide_eq_true h9.2]at h
 exact absurd h (by decide)
theorem take_snocT(l:List ByteArray)(m:Nat)(h:m<len l):l.take (m+1)=l.take m++[tth l m]:=by
 have h2:m<l.length:=h
 rw[List.take_succ_eq_append_getElem h2,tth_eq l m h2]
theorem take_lenT(l:List ByteArray):l.take (len l)=l:=by rw[len_eq];exact List.take_length
set_option maxRecDepth 100000 in
set_option maxHeartbeats 4000000 in
theorem ielS_any(l:List ByteArray)(a:Option Addr)(cap:Nat)(w:World)(hc:Txts w a l)(hn:len l≤100000)(hz:∀i,i<len l→(tth l i).size≤9223372036854775807):
  Calls Tryz.prog 118 #[.slice a (len l) cap,.int .i64 64,.func (.func 119) #[] #[]] w (RBdIs l w):=by
 have HC:=Lib.hid hc;have HN:=Lib.hid hn;have HZZ:=Lib.hid hz;clear hc hn hz
 obtain⟨i0,hi,hz0,hz1,hz2⟩:=info_parts info_str
 have HZ:=Lib.hid hz0;clear hz0
 go_enter Tryz.func118,Tryz.ntmps118
 go_wp2
 go_loopg [15,8] (len l) (λ gg i v wr=>∃m:Nat,gg+m=len l∧i=.int .i64 (m:Nat)∧Hid (BeSt l w wr v m))
 case atStart=>exact⟨0,rfl,rfl,Lib.hid ⟨Below.refl _ _,World.ownsRow_nil _ _ _ _,λ j h=>by omega⟩⟩
 case round=>
  obtain⟨m,hm,rfl,HS⟩:=hrel
  by_cases hlt:m<len l
  ·have b0:(m:Int)<len l:=by omega
   obtain⟨pb,po,rfl,cs⟩:=(HC.out.below HS.out.b) m hlt
   have HSZ:=Lib.hid (HZZ.out m hlt)
   obtain⟨x,hx⟩:∃x,tth l m=x:=⟨_,rfl⟩
   rw[hx]at cs HSZ
   have HX:=Lib.hid hx;have HLT:=Lib.hid hlt;have HM:=Lib.hid hm;clear hx hlt
   go_wp2_with fail
   refine(itxn1_any _ x _ HSZ.out).mono ?_
   rintro e w1 ⟨rfl,hb⟩
   have HB1:Hid (Below w.heap.size w w1):=Lib.hid (bnext HS.out.b hb);have HO1:=Lib.hid (own_below HS.out.o hb);clear hb cs
   cases hbx:bodyB x with
   | true=>
    have HBX:=Lib.hid hbx;clear hbx
    go_wp2_with (at_builtin;refine wpList_append_own _ rfl _ _ 36 rfl w.heap.size 9 i0 (.string ⟨#[]⟩) 1 16 Tryz.underlying36 hi HZ.out hz1 hz2 rfl (by decide) _ _ _ rfl (HO1.out.alloc _) ⟨w1.heap.size,0,none⟩ 1 1 [.string x] rfl rfl ?c1 ?c2 ?c3 ?c4 ?c5 ?_)
    case c1=>exact World.news_of_block (alloc_new_at _ rfl)
    case c2=>intro u hu;simp at hu;subst hu;rfl
    case c3=>unfold maxLen;have:=HN.out;have:=HLT.out;omega
    case c4=>have:=HN.out;have:=HLT.out;omega
    case c5=>have:=HB1.out.size;simp;omega
    intro v' w2 hown' hgrow _
    have HB3:Hid (Below w.heap.size w w2):=Lib.hid (grownBy_below (balloc HB1.out _) hgrow (λ k hk=>(HO1.out.lt k hk).1));have HO3:Hid (w2.ownsRow w.heap.size 9 1 v' (m+1) ((l.take (m+1)).map Value.string)):=Lib.hid (by
     rw[take_snocT l m HLT.out,HX.out,List.map_append,List.map_take];exact hown')
    clear hown' hgrow;have HNN:=HN.out
    go_wp2
    go_roundg (gk - 1)
    case rel=>exact⟨m+1,by have:=HM.out;have:=HLT.out;omega,by have:=HLT.out;go_num,Lib.hid ⟨HB3.out,HO3.out,λ j hj=>by
     by_cases e:j=m
     ·subst e;rw[HX.out];exact HBX.out
     ·exact HS.out.y j (by omega)⟩⟩
    case measure=>have:=HM.out;have:=HLT.out;omega
   | false=>
    have HE:Hid (bdOk l=false):=Lib.hid (bdOk_bad HLT.out (by rw[HX.out];exact bodyB_no hbx));clear hbx
    go_wp2
    go_ret2
    exact⟨.slice none 0 0,by rw[HE.out];rfl,λ h=>absurd h (by rw[HE.out];decide),HB1.out⟩
  ·obtain rfl:m=len l:=by omega
   have b0:¬((len l:Nat):Int)<(len l:Nat):=by omega
   have HSO:=Lib.hid HS.out.o
   rw[take_lenT]at HSO
   have HSB:=Lib.hid HS.out.b;have HY:=Lib.hid (λ i (hi:i<len l)=>bodyB_at (HS.out.y i hi))
   by_cases h0:len l=0
   ·have c1:¬(1:Int)≤len l:=by omega
    have HE:Hid (bdOk l=false):=Lib.hid (bdOk_len (by omega));clear h0
    go_wp2
    go_ret2
    exact⟨_,by rw[HE.out];rfl,λ h=>absurd h (by rw[HE.out];decide),HSB.out⟩
   ·have c1:(1:Int)≤len l:=by omega
    by_cases h64:len l≤64
    ·have c2:(len l:Int)≤64:=by omega
     have HE:Hid (bdOk l=true):=Lib.hid (bdOk_of (by omega) h64 HY.out);clear h0 h64
     go_wp2
     go_ret2
     exact⟨_,by rw[HE.out];rfl,λ h=>TextsAre.own HSO.out,HSB.out⟩
    ·have c2:¬(len l:Int)≤64:=by omega
     have HE:Hid (bdOk l=false):=Lib.hid (bdOk_len (by omega));clear h0 h64
     go_wp2
     go_ret2
     exact⟨_,by rw[HE.out];rfl,λ h=>absurd h (by rw[HE.out];decide),HSB.out⟩
set_option maxRecDepth 100000 in
set_option maxHeartbeats 1000000 in
theorem iprove_any(els:List ByteArray)(a:Option Addr)(cap k:Nat)(w:World)(ht:Txts w a els)(hn:len els≤65536)(hz:∀i,i<len els→(tth els i).size≤140737488355200)(hk:k<len els):
  Calls Tryz.prog 105 #[.slice a (len els) cap,.int .i64 (k:Nat)] w λ e w'=>∃v,e=.returned (.tuple #[v,.int .i64 0])∧TextsAre (oneD els k) v w'∧Below w.heap.size w w':=by
 have HT:=Lib.hid ht;have HN:=Lib.hid hn;have HZ:=Lib.hid hz;have HK:=Lib.hid hk;clear ht hn hz hk;have kw:IntKind.u64.wrap ((k:Nat):Int)=((k:Nat):Int):=by have:=HN.out;have:=HK.out;exact IntWalk.u64_in _ (by omega)
 go_enter Tryz.func105,Tryz.ntmps105
 go_wp2_with fail
 refine(build_any els a cap w HT.out HN.out HZ.out).mono ?_
 rintro e w1 ⟨b,rfl,hs,ht,hb⟩
 have HTR:=Lib.hid ht;have HB:=Lib.hid hb;clear hs ht hb
 go_wp2_with fail
 refine(prove_ok els b [((k:Nat):Int)] (some ⟨w1.heap.size,0,none⟩) 1 _ (HTR.out.below (balloc (Below.refl _ _) _)) HN.out (λ i hi=>⟨_,0,rfl,by
  have hi:i<1:=hi
  obtain rfl:i=0:=by omega
  rw[block_cell (heap_alloc_new _ _)];rfl⟩) (by show 1≤100;decide) (one_u64 HN.out HK.out) (one_may HK.out)).mono ?_
 rintro e w2 ⟨v,rfl,ho,hb⟩
 have HB2:Hid (Below w.heap.size w w2):=Lib.hid (bnext (balloc HB.out _) hb);have HV:Hid (TextsAre (oneD els k) v w2):=Lib.hid (TextsAre.own ho);clear hb ho
 go_wp2
 go_ret2
 exact⟨v,rfl,HV.out,HB2.out⟩
end Go.Proofs.YtpobhbdomldecaaGreatDoor
namespace Go.Proofs.YtpobhbdomldecaaGreatDoor
open Go.RowKit
set_option linter.unusedSimpArgs false
set_option linter.unusedVariables false
set_option linter.constructorNameAsVariable false
def eB(l:List Hdr)(i:Nat):Bool:=hOk (hnth l i) && (decide (i=0) || stepH (hnth l (i - 1)) (hnth l i))
def Ih1Is(l:List Hdr)(i:Nat)(w:World)(e:Ending)(w':World):Prop:=∃s,e=.returned (.tuple #[.string s,.bool (eB l i)])∧(eB l i=true→s=hbs (hnth l i))∧Below w.heap.size w w'
set_option maxRecDepth 100000 in
set_option maxHeartbeats 4000000 in
theorem ih1_any(B:Nat)(l:List Hdr)(a:Option Addr)(cap xb i:Nat)(w:World)(ht:PT B w)(hc:Hdrs w a l)(ho:∀i,(hnth l i).Ok)(hx:BoxL w xb a (len l) cap)(hi:i<len l)(hn:len l≤100000):
  Calls Tryz.prog 104 #[.int .i64 (i:Nat),(hnth l i).val,.pointer (some ⟨xb,0,none⟩)] w (Ih1Is l i w):=by
 have HT:=Lib.hid ht;have HC:=Lib.hid hc;have HO:=Lib.hid ho;have HX:=Lib.hid hx;have HI:=Lib.hid hi;have HN:=Lib.hid hn;clear ht hc ho hx hi hn
 obtain⟨r,hr⟩:∃r,hnth l i=r:=⟨_,rfl⟩
 have HRE:=Lib.hid hr;have HRO:Hid r.Ok:=Lib.hid (by rw[←hr];exact HO.out i);have HXX:Hid (xb<w.heap.size):=Lib.hid (lt_of_block HX.out)
 rw[hr]
 clear hr
 cases hok:hOk r with
 | false=>
  have HE:Hid (eB l i=false):=Lib.hid (by unfold eB;rw[HRE.out,hok];rfl);have HW:=Lib.hid (λ w9 h9=>hw_no B r w9 h9 HRO.out hok);clear hok
  go_enter Tryz.func104,Tryz.ntmps104
  go_wp2_with fail
  refine(HW.out _ (HT.out.below (balloc (Below.refl _ _) _))).mono ?_
  rintro e w1 ⟨rfl,hb⟩
  have HB:Hid (Below w.heap.size w w1):=Lib.hid (bnext (balloc (Below.refl _ _) _) hb);clear hb HW
  go_upto_region 2 with fail
  go_quiet (fail)
  go_wp2
  go_ret2
  exact⟨_,by rw[HE.out];rfl,λ h=>absurd h (by rw[HE.out];decide),bdrewN HB.out _⟩
 | true=>
  have HOK:=Lib.hid hok;have HW:=Lib.hid (λ w9 h9=>hw_yes B r w9 h9 HRO.out hok);clear hok
  go_enter Tryz.func104,Tryz.ntmps104
  go_wp2_with fail
  refine(HW.out _ (HT.out.below (balloc (Below.refl _ _) _))).mono ?_
  rintro e w1 ⟨rfl,hb⟩
  have HB:Hid (Below w.heap.size w w1):=Lib.hid (bnext (balloc (Below.refl _ _) _) hb);have HH:Hid (w1.heap[w.heap.size]?=some (.cells #[.int .u64 r.rnd,.string r.prev,.string r.txns,.string r.seed] 33 (0,0))):=Lib.hid ((hb.block _ (by simp)).trans (heap_alloc_new _ _));have HX1:=Lib.hid (HX.out.below HB.out);clear hb HW;have x0:w1.cell? ⟨xb,0,none⟩=some (.slice a (len l) cap):=block_cell HX1.out 0;have h0:w1.cell? ⟨w.heap.size,0,none⟩=some (.int .u64 r.rnd):=block_cell HH.out 0
  by_cases hi0:i=0
  ·subst hi0
   have HE:Hid (eB l 0=true):=Lib.hid (by unfold eB;rw[HRE.out,HOK.out];rfl)
   go_upto_region 2 with fail
   go_quiet (fail)
   go_wp2
   go_ret2
   exact⟨_,by rw[HE.out];rfl,λ _=>by rw[HRE.out],bdrewN HB.out _⟩
  ·obtain⟨k,rfl⟩:∃k,i=k+1:=⟨i - 1,by omega⟩
   obtain⟨b,off,rfl,⟨f0,f1,f2,f3⟩⟩:=(HC.out.below HB.out) k (by have:=HI.out;omega)
   obtain⟨p,hp⟩:∃p,hnth l k=p:=⟨_,rfl⟩
   have HPO:Hid p.Ok:=Lib.hid (by rw[←hp];exact HO.out k)
   rw[hp]at f0
   have i1:((k:Int)+1 == 0)=false:=by simp;omega
   have i2:IntKind.i64.wrap (k:Int)=(k:Int):=by have:=HN.out;have:=HI.out;exact IntWalk.i64_in _ (by omega)
   have i3:(k:Int)<len l:=by have:=HI.out;omega
   have i4:k<len l:=by have:=HI.out;omega
   have HST:Hid (eB l (k+1)=stepH p r):=Lib.hid (by unfold eB;rw[HRE.out,HOK.out,show k+1 - 1=k from rfl,hp];simp);clear f1 f2 f3 hi0 hp;have hp0:=HPO.out.r0;have hr0:=HRO.out.r0
   by_cases c1:p.rnd<r.rnd
   ·have sb:IntKind.u64.wrap (r.rnd - p.rnd)=r.rnd - p.rnd:=by have:=hp0.1;have:=hr0.2;exact IntWalk.u64_in _ (by omega)
    by_cases c2:r.rnd - p.rnd=1
    ·have HE:Hid (eB l (k+1)=true):=Lib.hid (by rw[HST.out];unfold stepH;rw[decide_eq_true c1,decide_eq_true c2];rfl)
     have e2:(r.rnd - p.rnd == 1)=true:=by simp[c2]
     clear hp0 hr0 c2
     go_upto_region 2 with fail
     go_quiet (fail)
     go_wp2
     go_ret2
     exact⟨_,by rw[HE.out];rfl,λ _=>by rw[HRE.out],bdrewN HB.out _⟩
    ·have HE:Hid (eB l (k+1)=false):=Lib.hid (by rw[HST.out];unfold stepH;rw[decide_eq_false c2];simp)
     have e2:(r.rnd - p.rnd == 1)=false:=by simp[c2]
     clear hp0 hr0 c2
     go_upto_region 2 with fail
     go_quiet (fail)
     go_wp2
     go_ret2
     exact⟨_,by rw[HE.out];rfl,λ h=>absurd h (by rw[HE.out];decide),bdrewN HB.out _⟩
   ·have HE:Hid (eB l (k+1)=false):=Lib.hid (by rw[HST.out];unfold stepH;rw[decide_eq_false c1];rfl)
    have e1:decide (p.rnd<r.rnd)=false:=decide_eq_false c1;clear hp0 hr0 c1
    go_upto_region 2 with fail
    go_quiet (fail)
    go_wp2
    go_ret2
    exact⟨_,by rw[HE.out];rfl,λ h=>absurd h (by rw[HE.out];decide),bdrewN HB.out _⟩
end Go.Proofs.YtpobhbdomldecaaGreatDoor
namespace Go.Proofs.YtpobhbdomldecaaGreatDoor
open Go.RowKit
set_option linter.unusedSimpArgs false
set_option linter.unusedVariables false
set_option linter.constructorNameAsVariable false
theorem eB_at{l:List Hdr}{m:Nat}(h:eB l m=true):hOk (hnth l m)=true∧(0<m→stepH (hnth l (m - 1)) (hnth l m)=true):=by
 unfold eB at h
 simp only[Bool.and_eq_true,Bool.or_eq_true,decide_eq_true_eq]at h
 exact⟨h.1,λ h0=>by
  rcases h.2 with h9 | h9
  ·omega
  ·exact h9⟩
theorem eB_no{l:List Hdr}{m:Nat}(hm:m<len l)(h:eB l m=false):elOk l=false:=by
 cases e:elOk l with
 | false=>rfl
 | true=>
  have h1:=elOk_at e;have h2:=laysH_at h1.2.2.2 hm
  unfold eB at h
  rw[h2]at h
  by_cases h0:m=0
  ·rw[decide_eq_true h0]at h;cases h
  ·rw[followH_at h1.2.2.1 hm (by omega)]at h
   simp at h
set_option maxRecDepth 100000 in
set_option maxHeartbeats 4000000 in
theorem ielH_any(B:Nat)(l:List Hdr)(a:Option Addr)(cap xb:Nat)(w:World)(ht:PT B w)(hc:Hdrs w a l)(ho:∀i,(hnth l i).Ok)(hx:BoxL w xb a (len l) cap)(hn:len l≤100000):
  Calls Tryz.prog 103 #[.slice a (len l) cap,.int .i64 64,.func (.func 104) #[] #[.pointer (some ⟨xb,0,none⟩)]] w (RElIs l w):=by
 have HT:=Lib.hid ht;have HC:=Lib.hid hc;have HN:=Lib.hid hn;have HX:=Lib.hid hx;have HIH:=Lib.hid (fun (i:Nat) (w9:World) (hi:i<len l) (hb:Below w.heap.size w w9)=>ih1_any B l a cap xb i w9 (ht.below hb) (hc.below hb) ho (hx.below hb) hi hn);clear ht hc hn hx ho
 obtain⟨i0,hi,hz0,hz1,hz2⟩:=info_parts info_str
 have HZ:=Lib.hid hz0;clear hz0
 go_enter Tryz.func103,Tryz.ntmps103
 go_wp2
 go_loopg [15,8] (len l) (λ gg i v wr=>∃m:Nat,gg+m=len l∧i=.int .i64 (m:Nat)∧Hid (ElSt l w wr v m))
 case atStart=>exact⟨0,rfl,rfl,Lib.hid ⟨Below.refl _ _,World.ownsRow_nil _ _ _ _,λ j h=>by omega,λ j _ h=>by omega⟩⟩
 case round=>
  obtain⟨m,hm,rfl,HS⟩:=hrel
  by_cases hlt:m<len l
  ·have b0:(m:Int)<len l:=by omega
   obtain⟨b,off,rfl,⟨e0,e1,e2,e3⟩⟩:=(HC.out.below HS.out.b) m hlt
   have HI1:=Lib.hid (λ w9 hb=>HIH.out m w9 hlt hb)
   unfold Ih1Is at HI1
   have HEA:Hid (eB l m=true→hOk (hnth l m)=true∧(0<m→stepH (hnth l (m - 1)) (hnth l m)=true)):=Lib.hid eB_at;have HEN:Hid (eB l m=false→elOk l=false):=Lib.hid (eB_no hlt)
   obtain⟨r,hr⟩:∃r,hnth l m=r:=⟨_,rfl⟩
   have HRE:=Lib.hid hr
   rw[hr]at e0 e1 e2 e3 HI1
   have HLT:=Lib.hid hlt;have HM:=Lib.hid hm;clear hr hlt hm
   go_upto_region 5 with fail
   obtain⟨V,hV⟩:∃V,wr.alloc (.cells #[.int .u64 r.rnd,.string r.prev,.string r.txns,.string r.seed] 33)=V:=⟨_,rfl⟩
   obtain⟨tb,htb⟩:∃tb,wr.heap.size=tb:=⟨_,rfl⟩
   have HBV:Hid (Below w.heap.size w V):=Lib.hid (by rw[←hV];exact balloc HS.out.b _);have HOV:Hid (V.ownsRow w.heap.size 9 1 u8 (len (elL (l.take m))) ((elL (l.take m)).map Value.string)):=Lib.hid (by rw[←hV];exact HS.out.o.alloc _);have HVH:Hid (V.heap[tb]?=some (.cells #[.int .u64 r.rnd,.string r.prev,.string r.txns,.string r.seed] 33 (0,0))):=Lib.hid (by rw[←hV,←htb];exact heap_alloc_new _ _)
   rw[hV,htb]
   clear hV htb e0 e1 e2 e3;have d0:V.cell? ⟨tb,0,none⟩=some (.int .u64 r.rnd):=block_cell HVH.out 0;have d1:V.cell? ⟨tb,1,none⟩=some (.string r.prev):=block_cell HVH.out 1;have d2:V.cell? ⟨tb,2,none⟩=some (.string r.txns):=block_cell HVH.out 2;have d3:V.cell? ⟨tb,3,none⟩=some (.string r.seed):=block_cell HVH.out 3
   go_wp2_with fail
   refine(HI1.out V HBV.out).mono ?_
   rintro e w1 ⟨s,rfl,hs,hb⟩
   have HB1:Hid (Below w.heap.size w w1):=Lib.hid (bnext HBV.out hb);have HO1:=Lib.hid (own_below HOV.out hb);clear hb d0 d1 d2 d3
   cases he:eB l m with
   | true=>
    obtain rfl:=hs he
    have HK:=Lib.hid (HEA.out he);clear hs he
    go_wp2_with (at_builtin;refine wpList_append_own _ rfl _ _ 36 rfl w.heap.size 9 i0 (.string ⟨#[]⟩) 1 16 Tryz.underlying36 hi HZ.out hz1 hz2 rfl (by decide) _ _ _ rfl (HO1.out.alloc _) ⟨w1.heap.size,0,none⟩ 1 1 [.string (hbs r)] rfl rfl ?c1 ?c2 ?c3 ?c4 ?c5 ?_)
    case c1=>exact World.news_of_block (alloc_new_at _ rfl)
    case c2=>intro u hu;simp at hu;subst hu;rfl
    case c3=>unfold maxLen;have:=HN.out;have:=HLT.out;have:=lenT l m (by omega);omega
    case c4=>have:=HN.out;have:=HLT.out;have:=lenT l m (by omega);omega
    case c5=>have:=HB1.out.size;simp;omega
    intro v' w2 hown' hgrow _
    have HB3:Hid (Below w.heap.size w w2):=Lib.hid (grownBy_below (balloc HB1.out _) hgrow (λ k hk=>(HO1.out.lt k hk).1));have HO3:Hid (w2.ownsRow w.heap.size 9 1 v' (len (elL (l.take (m+1)))) ((elL (l.take (m+1))).map Value.string)):=Lib.hid (by
     rw[elL_snoc l m HLT.out,HRE.out,List.map_append,len_appT,show len [hbs r]=1 from rfl];exact hown')
    clear hown' hgrow;have HNN:=HN.out;have HLL:=HLT.out
    go_wp2
    go_roundg (gk - 1)
    case rel=>exact⟨m+1,by have:=HM.out;omega,by go_num,Lib.hid ⟨HB3.out,HO3.out,λ j hj=>by
     by_cases e:j=m
     ·subst e;exact HK.out.1
     ·exact HS.out.y j (by omega),λ j h0 hj=>by
     by_cases e:j=m
     ·subst e;exact HK.out.2 h0
     ·exact HS.out.s j h0 (by omega)⟩⟩
    case measure=>have:=HM.out;omega
   | false=>
    have HE:=Lib.hid (HEN.out he);clear hs he
    go_wp2
    go_ret2
    exact⟨.slice none 0 0,by rw[HE.out];rfl,λ h=>absurd h (by rw[HE.out];decide),HB1.out⟩
  ·obtain rfl:m=len l:=by omega
   have b0:¬((len l:Nat):Int)<(len l:Nat):=by omega
   have HTK:Hid (l.take (len l)=l):=Lib.hid (take_len l);have HSO:=Lib.hid HS.out.o
   rw[HTK.out]at HSO
   have HSB:=Lib.hid HS.out.b;have HY1:Hid (laysH l=true):=Lib.hid (laysH_yes (λ i hi=>HS.out.y i hi));have HY2:Hid (followH stepH l=true):=Lib.hid (followH_yes (λ i hi h0=>HS.out.s i h0 hi));have HEO:Hid (elOk l=(decide (0<len l) && decide (len l≤64))):=Lib.hid (by unfold elOk;rw[HY1.out,HY2.out];simp)
   by_cases h0:len l=0
   ·have c1:¬(1:Int)≤len l:=by omega
    have HE:Hid (elOk l=false):=Lib.hid (by rw[HEO.out,decide_eq_false (by omega)];rfl);clear h0
    go_wp2
    go_ret2
    exact⟨_,by rw[HE.out];rfl,λ h=>absurd h (by rw[HE.out];decide),HSB.out⟩
   ·have c1:(1:Int)≤len l:=by omega
    by_cases h64:len l≤64
    ·have c2:(len l:Int)≤64:=by omega
     have HE:Hid (elOk l=true):=Lib.hid (by rw[HEO.out,decide_eq_true (by omega),decide_eq_true h64];rfl);clear h0 h64
     go_wp2
     go_ret2
     exact⟨_,by rw[HE.out];rfl,λ h=>TextsAre.own HSO.out,HSB.out⟩
    ·have c2:¬(len l:Int)≤64:=by omega
     have HE:Hid (elOk l=false):=Lib.hid (by rw[HEO.out,decide_eq_false h64];simp);clear h0 h64
     go_wp2
     go_ret2
     exact⟨_,by rw[HE.out];rfl,λ h=>absurd h (by rw[HE.out];decide),HSB.out⟩
set_option maxRecDepth 100000 in
set_option maxHeartbeats 4000000 in
theorem iheader_any(B:Nat)(l:List Hdr)(a:Option Addr)(cap:Nat)(rd:Int)(w:World)(ht:PT B w)(hc:Hdrs w a l)(ho:∀i,(hnth l i).Ok)(hn:len l≤65536):
  Calls Tryz.prog 49 #[.slice a (len l) cap,.int .u64 rd] w (IhIs l rd w):=by
 have HC:=Lib.hid hc;have HN:=Lib.hid hn;have HO:=Lib.hid ho;have HEL:=Lib.hid (ielH_any B l a cap w.heap.size (w.alloc (.cells #[.slice a (len l) cap] 22)) (ht.below (balloc (Below.refl _ _) _)) (hc.below (balloc (Below.refl _ _) _)) ho (heap_alloc_new _ _) (by omega));clear ht hc hn ho
 cases hel:elOk l with
 | false=>
  have HE:=Lib.hid (ih_no (r:=rd) hel)
  go_enter Tryz.func49,Tryz.ntmps49
  go_wp2_with fail
  refine HEL.out.mono ?_
  rintro e w1 ⟨v,rfl,hv,hb⟩
  rw[hel]
  have HB:Hid (Below w.heap.size w w1):=Lib.hid (bnext (balloc (Below.refl _ _) _) hb);clear hv hb hel HEL
  go_wp2
  refine bodyPost_ret (v:=.tuple #[.string ⟨#[]⟩,.slice none 0 0,.int .i64 2]) (by simp[results,Tryz.results49,go_sem]) rfl ⟨_,by rw[HE.out.1,HE.out.2.2],by rw[HE.out.2.1];exact TextsAre.nil _,HB.out⟩
 | true=>
  have HOK:=Lib.hid hel;have HSZ:=Lib.hid (elL_size hel)
  go_enter Tryz.func49,Tryz.ntmps49
  go_wp2_with fail
  refine HEL.out.mono ?_
  rintro e w1 ⟨v,rfl,hv,hb⟩
  obtain⟨a1,c1,rfl,ht1,-,-⟩:=hv hel
  rw[hel]
  have HB:Hid (Below w.heap.size w w1):=Lib.hid (bnext (balloc (Below.refl _ _) _) hb);have HX:Hid (BoxL w1 w.heap.size a (len l) cap):=Lib.hid ((hb.block _ (by simp)).trans (heap_alloc_new _ _));have HT1:=Lib.hid ht1
  rw[elL_len]
  have HPV:=Lib.hid (fun (k:Nat) (w9:World) (h:Txts w9 a1 (elL l)) (hk:k<len l)=>iprove_any (elL l) a1 c1 k w9 h (by rw[elL_len];exact HN.out) (λ i hi=>Nat.le_trans (HSZ.out i hi) (by decide)) (by rw[elL_len];exact hk))
  rw[elL_len]at HPV
  clear hv hb hel ht1 HEL;have x0:w1.cell? ⟨w.heap.size,0,none⟩=some (.slice a (len l) cap):=block_cell HX.out 0
  go_wp2_with fail
  clear x0
  go_loopg [21] (len l) (λ gg i wr=>∃m:Nat,gg+m=len l∧i=.int .i64 (m:Nat)∧Hid (Below w.heap.size w wr)∧Hid (Below w1.heap.size w1 wr)∧Hid (∀j,j<m→(hnth l j).rnd≠rd))
  case atStart=>exact⟨0,rfl,rfl,HB,Lib.hid (Below.refl _ _),Lib.hid (λ j h=>by omega)⟩
  case round=>
   obtain⟨m,hm,rfl,HW,HW1,HI⟩:=hrel
   by_cases hlt:m<len l
   ·have b0:(m:Int)<len l:=by omega
    obtain⟨b,off,rfl,⟨e0,e1,e2,e3⟩⟩:=(HC.out.below HW.out) m hlt
    obtain⟨r,hr⟩:∃r,hnth l m=r:=⟨_,rfl⟩
    have HRE:=Lib.hid hr
    rw[hr]at e0 e1 e2 e3
    have HLT:=Lib.hid hlt;have HM:=Lib.hid hm;clear hr hlt hm;have HNN:=HN.out
    by_cases hrd:r.rnd=rd
    ·have hq:(r.rnd != rd)=false:=by simp[hrd]
     have hq2:(r.rnd == rd)=true:=by simp[hrd]
     have HF:=Lib.hid (ih_some HOK.out (findR_hit HLT.out HI.out (by rw[HRE.out];exact hrd)));clear hrd
     go_wp2_with fail
     refine(HPV.out m _ ((HT1.out.below HW1.out).below (balloc (Below.refl _ _) _)) HLT.out).mono ?_
     rintro e x1 ⟨v,rfl,hv,hb⟩
     have HB1:Hid (Below w.heap.size w x1):=Lib.hid (bnext HW.out (bnext (balloc (Below.refl _ _) _) hb));have HV:=Lib.hid hv
     obtain⟨g,o,rfl,hcc⟩:=((HT1.out.below HW1.out).below (bnext (balloc (Below.refl _ _) _) hb)) m (by rw[elL_len];exact HLT.out)
     rw[elL_at l m HLT.out,HRE.out]at hcc
     have HLL:=HLT.out;clear hb hv e0 e1 e2 e3 hq hq2
     go_wp2
     refine bodyPost_ret (v:=.tuple #[.string (hbs r),v,.int .i64 0]) (by simp[results,Tryz.results49,go_sem]) rfl ⟨v,by rw[HF.out.1,HF.out.2.2,HRE.out],by rw[HF.out.2.1];exact HV.out,HB1.out⟩
    ·have hq:(r.rnd != rd)=true:=by simp[hrd]
     have hq2:(r.rnd == rd)=false:=by simp[hrd]
     have HR:=Lib.hid hrd;clear hrd;have HLL:=HLT.out
     go_wp2
     go_roundg (gk - 1)
     case rel=>exact⟨m+1,by have:=HM.out;omega,by go_num,Lib.hid (balloc HW.out _),Lib.hid (balloc HW1.out _),Lib.hid (λ j hj=>by
      by_cases e:j=m
      ·subst e;rw[HRE.out];exact HR.out
      ·exact HI.out j (by omega))⟩
     case measure=>have:=HM.out;omega
   ·obtain rfl:m=len l:=by omega
    have b0:¬((len l:Nat):Int)<(len l:Nat):=by omega
    have HF:=Lib.hid (ih_none HOK.out (findR_none HI.out))
    go_wp2
    refine bodyPost_ret (v:=.tuple #[.string ⟨#[]⟩,.slice none 0 0,.int .i64 19]) (by simp[results,Tryz.results49,go_sem]) rfl ⟨_,by rw[HF.out.1,HF.out.2.2],by rw[HF.out.2.1];exact TextsAre.nil _,HW.out⟩
end Go.Proofs.YtpobhbdomldecaaGreatDoor
namespace Go.Proofs.YtpobhbdomldecaaGreatDoor
open Go.RowKit
set_option linter.unusedSimpArgs false
set_option linter.unusedVariables false
def Keeps(b:Nat)(w1 w2:World):Prop:=w1.heap.size≤w2.heap.size∧∀i,b≤i→i<w1.heap.size→w2.heap[i]?=w1.heap[i]?
theorem Keeps.of{b:Nat}{w1 w2:World}(h:Below w1.heap.size w1 w2):Keeps b w1 w2:=⟨h.size,λ i _ hi=>h.block i hi⟩
set_option maxRecDepth 100000 in
set_option maxHeartbeats 4000000 in
theorem ifirst_any(n rb:Nat)(F:Nat→FuncId)(C:Nat→Array Value)(E:Nat→Int)(I:Nat→World→Prop)(Q:Int→World→Prop)(w:World)
  (hn:n≤100)
  (eg:∀k args w,(callFunc (F k) args).run Tryz.prog w=.ok (.enter (F k) args) w)
  (hI:∀k w1 w2,I k w1→Below w1.heap.size w1 w2→I k w2)
  (hc:∀k,k<n→∀w1,I k w1→w1.cell? ⟨rb,k * 2,none⟩=some (.func (.func (F k)) #[] (C k))∧w1.cell? ⟨rb,k * 2+1,none⟩=some (.int .i64 (E k)))
  (h0:I 0 w)
  (hs:∀k,k<n→∀w1,w.heap.size≤w1.heap.size→I k w1→Calls Tryz.prog (F k) (C k) w1 λ e w2=>∃b,e=.returned (.bool b)∧(b=true→I (k+1) w2)∧(b=false→Q (E k) w2)∧Keeps w.heap.size w1 w2)
  (hq:∀w1,I n w1→Q 0 w1):
  Calls Tryz.prog 109 #[.slice (some ⟨rb,0,none⟩) n n] w λ e w'=>∃x,e=.returned (.int .i64 x)∧Q x w':=by
 have HI:=Lib.hid hI;have HC:=Lib.hid hc;have H0:=Lib.hid h0;have HS:=Lib.hid hs;have HQ:=Lib.hid hq;have HN:=Lib.hid hn;have EG:=Lib.hid eg;clear hI hc h0 hs hq hn eg
 go_enter Tryz.func109,Tryz.ntmps109
 go_wp2
 go_loopg [7] n (λ gg i wr=>∃m:Nat,gg+m=n∧i=.int .i64 (m:Nat)∧Hid (I m wr)∧Hid (w.heap.size≤wr.heap.size))
 case atStart=>exact⟨0,rfl,rfl,H0,Lib.hid (Nat.le_refl _)⟩
 case round=>
  obtain⟨m,hm,rfl,HM,HW⟩:=hrel
  by_cases hlt:m<n
  ·have b0:(m:Int)<n:=by omega
   obtain⟨c0,c1⟩:=HC.out m hlt wr HM.out
   have HLT:=Lib.hid hlt;clear hlt
   go_upto_region 4 with fail
   obtain⟨V,hV⟩:∃V,wr.alloc (.cells #[.func (.func (F m)) #[] (C m),.int .i64 (E m)] 140)=V:=⟨_,rfl⟩
   obtain⟨tb,htb⟩:∃tb,wr.heap.size=tb:=⟨_,rfl⟩
   have HV:Hid (Below wr.heap.size wr V):=Lib.hid (by rw[←hV];exact balloc (Below.refl _ _) _);have HVC:Hid (V.heap[tb]?=some (.cells #[.func (.func (F m)) #[] (C m),.int .i64 (E m)] 140 (0,0))):=Lib.hid (by rw[←hV,←htb];exact heap_alloc_new _ _);have HVI:Hid (I m V):=Lib.hid (HI.out m wr V HM.out HV.out);have HTB:Hid (w.heap.size≤tb):=Lib.hid (by rw[←htb];exact HW.out);have HVW:Hid (w.heap.size≤V.heap.size):=Lib.hid (Nat.le_trans HW.out HV.out.size)
   rw[hV,htb]
   clear hV htb c0 c1;have egm:=EG.out m;have d0:V.cell? ⟨tb,0,none⟩=some (.func (.func (F m)) #[] (C m)):=block_cell HVC.out 0
   go_wp2_with fail
   refine(HS.out m HLT.out V HVW.out HVI.out).mono ?_
   rintro e w1 ⟨b,rfl,hy,hn,hk⟩
   have HK:=Lib.hid ((hk.2 tb HTB.out (lt_of_block HVC.out)).trans HVC.out);have HK1:Hid (w.heap.size≤w1.heap.size):=Lib.hid (Nat.le_trans HVW.out hk.1);clear hk d0 egm
   cases b with
   | true=>
    have HI1:=Lib.hid (hy rfl);have HNN:=HN.out;clear hy hn
    go_wp2
    go_roundg (gk - 1)
    case rel=>exact⟨m+1,by have:=HLT.out;omega,by have:=HLT.out;go_num,HI1,HK1⟩
    case measure=>have:=HLT.out;omega
   | false=>
    have HQ1:=Lib.hid (hn rfl);clear hy hn;have d1:w1.cell? ⟨tb,1,none⟩=some (.int .i64 (E m)):=block_cell HK.out 1
    go_wp2
    go_ret
    exact⟨_,rfl,HQ1.out⟩
  ·obtain rfl:m=n:=by omega
   have b0:¬((m:Nat):Int)<(m:Nat):=by omega
   go_wp2
   go_ret
   exact⟨0,rfl,HQ.out _ HM.out⟩
set_option maxRecDepth 100000 in
set_option maxHeartbeats 1000000 in
theorem iproved_any(root:ByteArray)(i n:Int)(s:ByteArray)(P:List ByteArray)(pa:Option Addr)(pc:Nat)(w:World)(hp:Txts w pa P)(hl:len P≤1000000)(hc:len P≤pc)(hi:U64 i)(hn:0≤n∧n≤100)(hs:s.size≤1000000):
  Calls Tryz.prog 115 #[.string root,.int .u64 i,.int .u64 n,.string s,.slice pa (len P) pc] w λ e w'=>e=.returned (.bool (decide (checkE root n [i] [s] P=0)))∧Below w.heap.size w w':=by
 have HP:Hid (PrIn [i] [s] P (some ⟨w.heap.size,0,none⟩) (some ⟨w.heap.size+1,0,none⟩) pa pc ((w.alloc (.cells #[.int .u64 i] 23)).alloc (.cells #[.string s] 9))):=Lib.hid
  { p:=λ j hj=>⟨_,0,rfl,by
     have hj:j<1:=hj
     obtain rfl:j=0:=by omega
     rw[block_cell (block_alloc (heap_alloc_new _ _) _)];rfl⟩
    e:=one_txts1 (alloc_new_at _ (by simp))
    d:=hp.below (balloc (balloc (Below.refl _ _) _) _)
    pl:=by show 1≤100;decide
    pu:=λ k hk=>by obtain rfl:=List.mem_singleton.1 hk;exact hi
    el:=by show 1≤1000000;decide
    dl:=hl
    dc_:=hc
    ez:=λ j hj=>by
     have hj:j<1:=hj
     obtain rfl:j=0:=by omega
     exact hs }
 have HN:=Lib.hid hn;have kw:IntKind.i64.wrap n=n:=IntWalk.i64_in _ (by omega);clear hp hl hc hi hn hs
 go_enter Tryz.func115,Tryz.ntmps115
 go_wp2_with fail
 refine(pcheck_any root n [i] [s] P (some ⟨w.heap.size,0,none⟩) (some ⟨w.heap.size+1,0,none⟩) pa 1 1 pc _ HP.out (by have:=HN.out;omega) (by have:=HN.out;omega)).mono ?_
 rintro e w1 ⟨rfl,hb⟩
 have HB:Hid (Below w.heap.size w w1):=Lib.hid (bnext (balloc (balloc (Below.refl _ _) _) _) hb);clear hb HP
 obtain⟨K,hK⟩:∃K,checkE root n [i] [s] P=K:=⟨_,rfl⟩
 have HKK:Hid (decide (checkE root n [i] [s] P=0)=(K == 0)):=Lib.hid (by rw[hK];rfl)
 rw[hK]
 clear hK
 go_wp2
 go_ret
 exact⟨by rw[HKK.out];rfl,HB.out⟩
structure TiB(root:ByteArray)(i n:Int)(s:ByteArray)(pa:Option Addr)(pl pc b0 b2 b3 bi bn:Nat)(w:World):Prop where
 r_:w.heap[b0]?=some (.cells #[.string root] 9 (0,0))
 s_:w.heap[b2]?=some (.cells #[.string s] 9 (0,0))
 p_:w.heap[b3]?=some (.cells #[.slice pa pl pc] 36 (0,0))
 i_:w.heap[bi]?=some (.cells #[.int .u64 i] 23 (0,0))
 n_:w.heap[bn]?=some (.cells #[.int .u64 n] 23 (0,0))
theorem TiB.below{root:ByteArray}{i n:Int}{s:ByteArray}{pa:Option Addr}{pl pc b0 b2 b3 bi bn:Nat}{w w':World}(h:TiB root i n s pa pl pc b0 b2 b3 bi bn w)(hb:Below w.heap.size w w'):TiB root i n s pa pl pc b0 b2 b3 bi bn w':=
 ⟨(hb.block _ (lt_of_block h.r_)).trans h.r_,(hb.block _ (lt_of_block h.s_)).trans h.s_,(hb.block _ (lt_of_block h.p_)).trans h.p_,(hb.block _ (lt_of_block h.i_)).trans h.i_,(hb.block _ (lt_of_block h.n_)).trans h.n_⟩
set_option maxRecDepth 100000 in
set_option maxHeartbeats 4000000 in
theorem tis1_any(root:ByteArray)(i n:Int)(s:ByteArray)(pa:Option Addr)(pl pc b0 b2 b3 bi bn:Nat)(w:World)(h:TiB root i n s pa pl pc b0 b2 b3 bi bn w)(hs:s.size≤9223372036854775807):
  Calls Tryz.prog 122 #[.pointer (some ⟨b0,0,none⟩),.pointer (some ⟨bn,0,none⟩),.pointer (some ⟨bi,0,none⟩),.pointer (some ⟨b2,0,none⟩)] w λ e w'=>e=.returned (.bool (tiA root i n s))∧Below w.heap.size w w':=by
 have c0:w.cell? ⟨b0,0,none⟩=some (.string root):=block_cell h.r_ 0;have c1:w.cell? ⟨bn,0,none⟩=some (.int .u64 n):=block_cell h.n_ 0;have c2:w.cell? ⟨bi,0,none⟩=some (.int .u64 i):=block_cell h.i_ 0;have c3:w.cell? ⟨b2,0,none⟩=some (.string s):=block_cell h.s_ 0;have HS:=Lib.hid hs;clear h hs
 by_cases h1:root.size=32
 ·have e1:((root.size:Nat):Int)=32:=by omega
  by_cases h2:1≤n
  ·by_cases h3:n≤64
   ·by_cases h4:i<n
    ·have HE:Hid (tiA root i n s=bodyB s):=Lib.hid (by unfold tiA bodyB;rw[decide_eq_true h1,decide_eq_true h2,decide_eq_true h3,decide_eq_true h4];simp)
     clear h1
     go_enter Tryz.func122,Tryz.ntmps122
     go_wp2_with fail
     refine(ibody_any s _ HS.out).mono ?_
     rintro e w1 ⟨rfl,hb⟩
     go_wp2
     go_ret
     exact⟨by rw[HE.out];rfl,hb⟩
    ·have HE:Hid (tiA root i n s=false):=Lib.hid (by unfold tiA;rw[decide_eq_false h4];simp)
     clear h1
     go_enter Tryz.func122,Tryz.ntmps122
     go_wp2
     go_ret
     exact⟨by rw[HE.out];rfl,Below.refl _ _⟩
   ·have HE:Hid (tiA root i n s=false):=Lib.hid (by unfold tiA;rw[decide_eq_false h3];simp)
    clear h1
    go_enter Tryz.func122,Tryz.ntmps122
    go_wp2
    go_ret
    exact⟨by rw[HE.out];rfl,Below.refl _ _⟩
  ·have HE:Hid (tiA root i n s=false):=Lib.hid (by unfold tiA;rw[decide_eq_false h2];simp)
   clear h1
   go_enter Tryz.func122,Tryz.ntmps122
   go_wp2
   go_ret
   exact⟨by rw[HE.out];rfl,Below.refl _ _⟩
 ·have e1:¬((root.size:Nat):Int)=32:=by omega
  have HE:Hid (tiA root i n s=false):=Lib.hid (by unfold tiA;rw[decide_eq_false h1];rfl);clear h1
  go_enter Tryz.func122,Tryz.ntmps122
  go_wp2
  go_ret
  exact⟨by rw[HE.out];rfl,Below.refl _ _⟩
set_option maxRecDepth 100000 in
theorem tis2_any(root:ByteArray)(i n:Int)(s:ByteArray)(P:List ByteArray)(pa:Option Addr)(pc b0 b2 b3 bi bn:Nat)(w:World)(h:TiB root i n s pa (len P) pc b0 b2 b3 bi bn w)(hp:Txts w pa P)(hl:len P≤1000000)(hc:len P≤pc)(hi:U64 i)(hn:0≤n∧n≤100)(hs:s.size≤1000000):
  Calls Tryz.prog 123 #[.pointer (some ⟨b0,0,none⟩),.pointer (some ⟨bi,0,none⟩),.pointer (some ⟨bn,0,none⟩),.pointer (some ⟨b2,0,none⟩),.pointer (some ⟨b3,0,none⟩)] w λ e w'=>e=.returned (.bool (decide (checkE root n [i] [s] P=0)))∧Below w.heap.size w w':=by
 have c0:w.cell? ⟨b0,0,none⟩=some (.string root):=block_cell h.r_ 0;have c1:w.cell? ⟨bn,0,none⟩=some (.int .u64 n):=block_cell h.n_ 0;have c2:w.cell? ⟨bi,0,none⟩=some (.int .u64 i):=block_cell h.i_ 0;have c3:w.cell? ⟨b2,0,none⟩=some (.string s):=block_cell h.s_ 0;have c4:w.cell? ⟨b3,0,none⟩=some (.slice pa (len P) pc):=block_cell h.p_ 0;have HR:=Lib.hid (iproved_any root i n s P pa pc w hp hl hc hi hn hs);clear h hp hl hc hi hn hs
 go_enter Tryz.func123,Tryz.ntmps123
 go_wp2_with fail
 refine HR.out.mono ?_
 rintro e w1 ⟨rfl,hb⟩
 have HB:=Lib.hid hb
 obtain⟨K,hK⟩:∃K,decide (checkE root n [i] [s] P=0)=K:=⟨_,rfl⟩
 have HKK:=Lib.hid hK
 rw[hK]
 clear hK hb HR
 go_wp2
 go_ret
 exact⟨by rw[HKK.out];rfl,HB.out⟩
end Go.Proofs.YtpobhbdomldecaaGreatDoor
namespace Go.Proofs.YtpobhbdomldecaaGreatDoor
open Go.RowKit
set_option linter.unusedSimpArgs false
set_option linter.unusedVariables false
def tisF(k:Nat):FuncId:=match k with | 0=>122 | _=>123
def tisC(b0 b2 b3 bi bn k:Nat):Array Value:=match k with | 0=>#[.pointer (some ⟨b0,0,none⟩),.pointer (some ⟨bn,0,none⟩),.pointer (some ⟨bi,0,none⟩),.pointer (some ⟨b2,0,none⟩)] | _=>#[.pointer (some ⟨b0,0,none⟩),.pointer (some ⟨bi,0,none⟩),.pointer (some ⟨bn,0,none⟩),.pointer (some ⟨b2,0,none⟩),.pointer (some ⟨b3,0,none⟩)]
def tisE(k:Nat):Int:=match k with | 0=>2 | _=>20
set_option maxRecDepth 100000 in
theorem tis_rules(root:ByteArray)(i n:Int)(s:ByteArray)(P:List ByteArray)(pa:Option Addr)(pc b0 b2 b3 bi bn rb:Nat)(w:World)(h:TiB root i n s pa (len P) pc b0 b2 b3 bi bn w)(hp:Txts w pa P)(hl:len P≤1000000)(hc:len P≤pc)(hi:U64 i)(hs:s.size≤1000000)
  (hr:w.heap[rb]?=some (.cells #[.func (.func 122) #[] (tisC b0 b2 b3 bi bn 0),.int .i64 2,.func (.func 123) #[] (tisC b0 b2 b3 bi bn 1),.int .i64 20] 140 (0,0))):
  Calls Tryz.prog 109 #[.slice (some ⟨rb,0,none⟩) 2 2] w λ e w'=>e=.returned (.int .i64 (tiE root i n s P))∧Below w.heap.size w w':=by
 refine(ifirst_any 2 rb tisF (tisC b0 b2 b3 bi bn) tisE (λ k w1=>Below w.heap.size w w1∧(1≤k→tiA root i n s=true)∧(2≤k→checkE root n [i] [s] P=0)) (λ x w1=>x=tiE root i n s P∧Below w.heap.size w w1) w (by decide) (λ k args w=>?_) (λ k w1 w2 h hb=>⟨bnext h.1 hb,h.2⟩) (λ k hk w1 hI=>?_) ⟨Below.refl _ _,λ h=>absurd h (by decide),λ h=>absurd h (by decide)⟩ (λ k hk w1 hw hI=>?_) (λ w1 hI=>?_)).mono ?_
 ·unfold tisF;split <;> simp[go_sem]
 ·have hr1:=(hI.1.block _ (lt_of_block hr)).trans hr
  match k,hk with
  | 0,_=>exact⟨block_cell hr1 0,block_cell hr1 1⟩
  | 1,_=>exact⟨block_cell hr1 2,block_cell hr1 3⟩
 ·match k,hk with
  | 0,_=>
   refine(tis1_any root i n s pa (len P) pc b0 b2 b3 bi bn w1 (h.below hI.1) (Nat.le_trans hs (by decide))).mono ?_
   rintro e w2 ⟨rfl,hb⟩
   refine⟨_,rfl,λ ht=>⟨bnext hI.1 hb,λ _=>ht,λ h=>absurd h (by decide)⟩,λ hf=>⟨?_,bnext hI.1 hb⟩,Keeps.of hb⟩
   unfold tiE;rw[hf];rfl
  | 1,_=>
   have hA:=hI.2.1 (by decide);have hn:0≤n∧n≤100:=by
    have:=hA
    unfold tiA at this
    simp only[Bool.and_eq_true,decide_eq_true_eq]at this
    omega
   refine(tis2_any root i n s P pa pc b0 b2 b3 bi bn w1 (h.below hI.1) (hp.below hI.1) hl hc hi hn hs).mono ?_
   rintro e w2 ⟨rfl,hb⟩
   refine⟨_,rfl,λ ht=>⟨bnext hI.1 hb,λ _=>hA,λ _=>of_decide_eq_true ht⟩,λ hf=>⟨?_,bnext hI.1 hb⟩,Keeps.of hb⟩
   unfold tiE;rw[if_pos hA,if_neg (of_decide_eq_false hf)];rfl
 ·refine⟨?_,hI.1⟩
  unfold tiE;rw[if_pos (hI.2.1 (by decide)),if_pos (hI.2.2 (by decide))]
 ·rintro e w' ⟨x,rfl,rfl,hb⟩
  exact⟨rfl,hb⟩
set_option maxRecDepth 100000 in
set_option maxHeartbeats 2000000 in
theorem itis_any(root:ByteArray)(i n:Int)(s:ByteArray)(P:List ByteArray)(pa:Option Addr)(pc:Nat)(w:World)(hp:Txts w pa P)(hl:len P≤1000000)(hc:len P≤pc)(hi:U64 i)(hn:U64 n)(hs:s.size≤1000000):
  Calls Tryz.prog 62 #[.string root,.agg #[.int .u64 i,.int .u64 n],.string s,.slice pa (len P) pc] w λ e w'=>e=.returned (.int .i64 (tiE root i n s P))∧Below w.heap.size w w':=by
 have HP:=Lib.hid hp;have HL:=Lib.hid hl;have HC:=Lib.hid hc;have HI:=Lib.hid hi;have HN:=Lib.hid hn;have HS:=Lib.hid hs;clear hp hl hc hi hn hs
 go_enter Tryz.func62,Tryz.ntmps62
 go_upto_region 1 with fail
 obtain⟨V,hV⟩:∃V,(((w.alloc (.cells #[.string root] 9)).alloc (.cells #[.int .u64 i,.int .u64 n] 76)).alloc (.cells #[.string s] 9)).alloc (.cells #[.slice pa (len P) pc] 36)=V:=⟨_,rfl⟩
 have HBV:Hid (Below w.heap.size w V):=Lib.hid (by rw[←hV];(repeat (first | exact Below.refl _ _ | assumption | (refine bdrew ?_) | (refine bdrewN ?_ _) | (refine balloc ?_ _) | (refine bset ?_ (by first | omega | (simp;done) | (simp;omega)) _) | (refine bnext ?_ (by assumption)))))
 have V0:Hid (V.heap[w.heap.size]?=some (.cells #[.string root] 9 (0,0))):=Lib.hid (by rw[←hV];(repeat (first | exact alloc_new_at _ (by repeat (first | rfl | refine alloc_size _ ?_)) | refine block_alloc ?_ _)))
 have V1:Hid (V.heap[w.heap.size+1]?=some (.cells #[.int .u64 i,.int .u64 n] 76 (0,0))):=Lib.hid (by rw[←hV];(repeat (first | exact alloc_new_at _ (by repeat (first | rfl | refine alloc_size _ ?_)) | refine block_alloc ?_ _)))
 have V2:Hid (V.heap[w.heap.size+1+1]?=some (.cells #[.string s] 9 (0,0))):=Lib.hid (by rw[←hV];(repeat (first | exact alloc_new_at _ (by repeat (first | rfl | refine alloc_size _ ?_)) | refine block_alloc ?_ _)))
 have V3:Hid (V.heap[w.heap.size+1+1+1]?=some (.cells #[.slice pa (len P) pc] 36 (0,0))):=Lib.hid (by rw[←hV];(repeat (first | exact alloc_new_at _ (by repeat (first | rfl | refine alloc_size _ ?_)) | refine block_alloc ?_ _)))
 have HSZ:Hid (V.heap.size=w.heap.size+4):=Lib.hid (by rw[←hV];simp)
 rw[hV]
 obtain⟨b,hb⟩:∃b,w.heap.size=b:=⟨_,rfl⟩
 rw[hb]at V0 V1 V2 V3 HSZ ⊢
 clear hV hb
 obtain⟨b1,hb1⟩:∃b1,b+1=b1:=⟨_,rfl⟩
 have z0:b1<V.heap.size:=by have:=HSZ.out;omega
 have z1:b1≠V.heap.size:=by have:=HSZ.out;omega
 have z2:b1≠V.heap.size+1:=by have:=HSZ.out;omega
 rw[hb1]at V1 V2 V3 ⊢
 clear hb1;have y0:V.cell? ⟨b1,0,none⟩=some (.int .u64 i):=block_cell V1.out 0;have y1:V.cell? ⟨b1,1,none⟩=some (.int .u64 n):=block_cell V1.out 1
 go_cut [9,10] (λ s9 s10 wx=>∃bi bn:Nat,s9=.pointer (some ⟨bi,0,none⟩)∧s10=.pointer (some ⟨bn,0,none⟩)∧Hid (wx.heap[bi]?=some (.cells #[.int .u64 i] 23 (0,0)))∧Hid (wx.heap[bn]?=some (.cells #[.int .u64 n] 23 (0,0)))∧Hid (Below V.heap.size V wx))
 case first=>
  go_region
  all_goals
   go_wp2_with fail
   go_meet
   first
    | exact⟨_,_,rfl,rfl,Lib.hid (block_alloc (heap_alloc_new _ _) _),Lib.hid (alloc_new_at _ (by simp)),Lib.hid (bdrew (balloc (balloc (Below.refl _ _) _) _))⟩
    | exact⟨_,_,rfl,rfl,Lib.hid (alloc_new_at _ (by simp)),Lib.hid (block_alloc (heap_alloc_new _ _) _),Lib.hid (bdrew (balloc (balloc (Below.refl _ _) _) _))⟩
 case rest=>
  obtain⟨bi,bn,rfl,rfl,HX,HY,HCB⟩:=hcut
  have K0:=Lib.hid ((HCB.out.block _ (lt_of_block V0.out)).trans V0.out);have K2:=Lib.hid ((HCB.out.block _ (lt_of_block V2.out)).trans V2.out);have K3:=Lib.hid ((HCB.out.block _ (lt_of_block V3.out)).trans V3.out);have HWB:Hid (Below w.heap.size w wc):=Lib.hid (bnext HBV.out HCB.out);have HTB:Hid (TiB root i n s pa (len P) pc b (b1+1) (b1+1+1) bi bn wc):=Lib.hid ⟨K0.out,K2.out,K3.out,HX.out,HY.out⟩;clear y0 y1 z0 z1 z2
  go_wp2_with fail
  refine(tis_rules root i n s P pa pc b (b1+1) (b1+1+1) bi bn _ _ (HTB.out.below (balloc (Below.refl _ _) _)) ((HP.out.below HWB.out).below (balloc (Below.refl _ _) _)) HL.out HC.out HI.out HS.out (heap_alloc_new _ _)).mono ?_
  rintro e w2 ⟨rfl,hb⟩
  have HB2:Hid (Below w.heap.size w w2):=Lib.hid (bnext HWB.out (bnext (balloc (Below.refl _ _) _) hb));clear hb
  go_wp2
  go_ret
  exact⟨rfl,HB2.out⟩
end Go.Proofs.YtpobhbdomldecaaGreatDoor
namespace Go.Proofs.YtpobhbdomldecaaGreatDoor
open Go.RowKit
set_option linter.unusedSimpArgs false
set_option linter.unusedVariables false
structure IsB(root:ByteArray)(f t:Int)(s:ByteArray)(pa:Option Addr)(pl pc b0 b2 b3 bf bt bh:Nat)(x:Rcd)(w:World):Prop where
 r_:w.heap[b0]?=some (.cells #[.string root] 9 (0,0))
 s_:w.heap[b2]?=some (.cells #[.string s] 9 (0,0))
 p_:w.heap[b3]?=some (.cells #[.slice pa pl pc] 36 (0,0))
 f_:w.heap[bf]?=some (.cells #[.int .u64 f] 23 (0,0))
 t_:w.heap[bt]?=some (.cells #[.int .u64 t] 23 (0,0))
 h_:w.heap[bh]?=some (.cells #[.int .u64 (x 0).n,.string (x 1).s,.string (x 2).s,.string (x 3).s] 33 (0,0))
theorem IsB.below{root:ByteArray}{f t:Int}{s:ByteArray}{pa:Option Addr}{pl pc b0 b2 b3 bf bt bh:Nat}{x:Rcd}{w w':World}(h:IsB root f t s pa pl pc b0 b2 b3 bf bt bh x w)(hb:Below w.heap.size w w'):IsB root f t s pa pl pc b0 b2 b3 bf bt bh x w':=
 ⟨(hb.block _ (lt_of_block h.r_)).trans h.r_,(hb.block _ (lt_of_block h.s_)).trans h.s_,(hb.block _ (lt_of_block h.p_)).trans h.p_,(hb.block _ (lt_of_block h.f_)).trans h.f_,(hb.block _ (lt_of_block h.t_)).trans h.t_,(hb.block _ (lt_of_block h.h_)).trans h.h_⟩
set_option maxRecDepth 100000 in
set_option maxHeartbeats 2000000 in
theorem his1_any(root:ByteArray)(f t:Int)(s:ByteArray)(pa:Option Addr)(pl pc b0 b2 b3 bf bt bh:Nat)(x:Rcd)(w:World)(h:IsB root f t s pa pl pc b0 b2 b3 bf bt bh x w)(hf:U64 f)(ht:U64 t):
  Calls Tryz.prog 110 #[.pointer (some ⟨b0,0,none⟩),.pointer (some ⟨bt,0,none⟩),.pointer (some ⟨bf,0,none⟩)] w λ e w'=>e=.returned (.bool (isA root f t))∧Below w.heap.size w w':=by
 have c0:w.cell? ⟨b0,0,none⟩=some (.string root):=block_cell h.r_ 0;have c1:w.cell? ⟨bt,0,none⟩=some (.int .u64 t):=block_cell h.t_ 0;have c2:w.cell? ⟨bf,0,none⟩=some (.int .u64 f):=block_cell h.f_ 0;clear h
 by_cases h1:root.size=32
 ·have e1:((root.size:Nat):Int)=32:=by omega
  by_cases h2:f≤t
  ·have sb:IntKind.u64.wrap (t - f)=t - f:=by have:=hf.1;have:=ht.2;exact IntWalk.u64_in _ (by omega)
   by_cases h3:t - f<64
   ·have HE:Hid (isA root f t=true):=Lib.hid (by unfold isA;rw[decide_eq_true h1,decide_eq_true h2,decide_eq_true h3];rfl)
    clear h1 hf ht
    go_enter Tryz.func110,Tryz.ntmps110
    go_wp2
    go_ret
    exact⟨by rw[HE.out];rfl,Below.refl _ _⟩
   ·have HE:Hid (isA root f t=false):=Lib.hid (by unfold isA;rw[decide_eq_false h3];simp)
    clear h1 hf ht
    go_enter Tryz.func110,Tryz.ntmps110
    go_wp2
    go_ret
    exact⟨by rw[HE.out];rfl,Below.refl _ _⟩
  ·have HE:Hid (isA root f t=false):=Lib.hid (by unfold isA;rw[decide_eq_false h2];simp)
   clear h1 hf ht
   go_enter Tryz.func110,Tryz.ntmps110
   go_wp2
   go_ret
   exact⟨by rw[HE.out];rfl,Below.refl _ _⟩
 ·have e1:¬((root.size:Nat):Int)=32:=by omega
  have HE:Hid (isA root f t=false):=Lib.hid (by unfold isA;rw[decide_eq_false h1];rfl);clear h1 hf ht
  go_enter Tryz.func110,Tryz.ntmps110
  go_wp2
  go_ret
  exact⟨by rw[HE.out];rfl,Below.refl _ _⟩
set_option maxRecDepth 100000 in
theorem his3_any(root:ByteArray)(f t:Int)(s:ByteArray)(pa:Option Addr)(pl pc b0 b2 b3 bf bt bh:Nat)(x:Rcd)(w:World)(h:IsB root f t s pa pl pc b0 b2 b3 bf bt bh x w):
  Calls Tryz.prog 113 #[.pointer (some ⟨bh,0,none⟩),.pointer (some ⟨bf,0,none⟩),.pointer (some ⟨bt,0,none⟩)] w λ e w'=>e=.returned (.bool (decide (f≤(x 0).n) && decide ((x 0).n≤t)))∧Below w.heap.size w w':=by
 have c0:w.cell? ⟨bh,0,none⟩=some (.int .u64 (x 0).n):=block_cell h.h_ 0;have c1:w.cell? ⟨bt,0,none⟩=some (.int .u64 t):=block_cell h.t_ 0;have c2:w.cell? ⟨bf,0,none⟩=some (.int .u64 f):=block_cell h.f_ 0;clear h
 generalize (x 0).n=r at c0
 by_cases h1:f≤r
 ·by_cases h2:r≤t
  ·have HE:Hid ((decide (f≤r) && decide (r≤t))=true):=Lib.hid (by rw[decide_eq_true h1,decide_eq_true h2];rfl)
   go_enter Tryz.func113,Tryz.ntmps113
   go_wp2
   go_ret
   exact⟨by rw[HE.out];rfl,Below.refl _ _⟩
  ·have HE:Hid (decide (r≤t)=false):=Lib.hid (decide_eq_false h2)
   rw[decide_eq_true h1]
   go_enter Tryz.func113,Tryz.ntmps113
   go_wp2
   go_ret
   exact⟨by simp[HE.out],Below.refl _ _⟩
 ·rw[decide_eq_false h1]
  go_enter Tryz.func113,Tryz.ntmps113
  go_wp2
  go_ret
  exact⟨by simp,Below.refl _ _⟩
set_option maxRecDepth 100000 in
theorem his4_any(root:ByteArray)(f t:Int)(s:ByteArray)(P:List ByteArray)(pa:Option Addr)(pc b0 b2 b3 bf bt bh:Nat)(x:Rcd)(w:World)(h:IsB root f t s pa (len P) pc b0 b2 b3 bf bt bh x w)(hp:Txts w pa P)(hl:len P≤1000000)(hc:len P≤pc)(hf:U64 f)(ht:U64 t)(hft:f≤t∧t - f<64)(hr:f≤(x 0).n∧(x 0).n≤t)(hs:s.size≤1000000):
  Calls Tryz.prog 114 #[.pointer (some ⟨b0,0,none⟩),.pointer (some ⟨bh,0,none⟩),.pointer (some ⟨bf,0,none⟩),.pointer (some ⟨bt,0,none⟩),.pointer (some ⟨b2,0,none⟩),.pointer (some ⟨b3,0,none⟩)] w λ e w'=>e=.returned (.bool (decide (checkE root (t - f+1) [(x 0).n - f] [s] P=0)))∧Below w.heap.size w w':=by
 have c0:w.cell? ⟨b0,0,none⟩=some (.string root):=block_cell h.r_ 0;have c1:w.cell? ⟨bh,0,none⟩=some (.int .u64 (x 0).n):=block_cell h.h_ 0;have c2:w.cell? ⟨bf,0,none⟩=some (.int .u64 f):=block_cell h.f_ 0;have c3:w.cell? ⟨bt,0,none⟩=some (.int .u64 t):=block_cell h.t_ 0;have c4:w.cell? ⟨b2,0,none⟩=some (.string s):=block_cell h.s_ 0;have c5:w.cell? ⟨b3,0,none⟩=some (.slice pa (len P) pc):=block_cell h.p_ 0;have HR:=Lib.hid (iproved_any root ((x 0).n - f) (t - f+1) s P pa pc w hp hl hc ⟨by omega,by omega⟩ ⟨by omega,by omega⟩ hs);have s1:IntKind.u64.wrap ((x 0).n - f)=(x 0).n - f:=by have:=hf.1;have:=ht.2;exact IntWalk.u64_in _ (by omega)
 have s2:IntKind.u64.wrap (t - f)=t - f:=by have:=hf.1;have:=ht.2;exact IntWalk.u64_in _ (by omega)
 have s3:IntKind.u64.wrap (t - f+1)=t - f+1:=IntWalk.u64_in _ (by omega);clear h hp hl hc hf ht hft hr hs
 go_enter Tryz.func114,Tryz.ntmps114
 go_wp2_with fail
 refine HR.out.mono ?_
 rintro e w1 ⟨rfl,hb⟩
 have HB:=Lib.hid hb
 obtain⟨K,hK⟩:∃K,decide (checkE root (t - f+1) [(x 0).n - f] [s] P=0)=K:=⟨_,rfl⟩
 have HKK:=Lib.hid hK
 rw[hK]
 clear hK hb HR
 go_wp2
 go_ret
 exact⟨by rw[HKK.out];rfl,HB.out⟩
abbrev setH(w:World)(g:Nat)(y:Rcd):World:=
 (((w.setCell ⟨g,0,none⟩ (.int .u64 (y 0).n)).setCell ⟨g,1,none⟩ (.string (y 1).s)).setCell ⟨g,2,none⟩ (.string (y 2).s)).setCell ⟨g,3,none⟩ (.string (y 3).s)
theorem setH_ext(w:World)(g:Nat)(y:Rcd):ExtB (some g) w (setH w g y):=
 ExtB_trans _ _ _ _ (ExtB_trans _ _ _ _ (ExtB_trans _ _ _ _ (setB w g 0 _) (setB _ g 1 _)) (setB _ g 2 _)) (setB _ g 3 _)
theorem IsB.put{root:ByteArray}{f t:Int}{s:ByteArray}{pa:Option Addr}{pl pc b0 b2 b3 bf bt bh:Nat}{x:Rcd}{w:World}(h:IsB root f t s pa pl pc b0 b2 b3 bf bt bh x w)
  (n:b0≠bh∧b2≠bh∧b3≠bh∧bf≠bh∧bt≠bh) (y:Rcd):IsB root f t s pa pl pc b0 b2 b3 bf bt bh y (setH w bh y):=by
 have k:∀{b:Nat} {o:Obj},b≠bh→w.heap[b]?=some o→(setH w bh y).heap[b]?=some o:=λ hb hc=>extB_block (setH_ext w bh y) (λ e=>hb (Option.some.inj e)) hc
 exact⟨k n.1 h.r_,k n.2.1 h.s_,k n.2.2.1 h.p_,k n.2.2.2.1 h.f_,k n.2.2.2.2 h.t_,block_setCell (block_setCell (block_setCell (block_setCell h.h_ _) _) _) _⟩
def His2(B:Nat)(root:ByteArray)(f t:Int)(s:ByteArray)(pa:Option Addr)(pl pc b0 b2 b3 bf bt bh:Nat)(w:World)(e:Ending)(w':World):Prop:=
 e=.returned (.bool (isOkR (readR s (headerGs s) header0)))∧IsB root f t s pa pl pc b0 b2 b3 bf bt bh (recV (readR s (headerGs s) header0) header0) w'∧ExtB (some bh) w w'
set_option maxRecDepth 100000 in
set_option maxHeartbeats 2000000 in
theorem his2_any(B:Nat)(root:ByteArray)(f t:Int)(s:ByteArray)(pa:Option Addr)(pl pc b0 b2 b3 bf bt bh:Nat)(x:Rcd)(w:World)(hT:TE7 B w)(h:IsB root f t s pa pl pc b0 b2 b3 bf bt bh x w)(hs:s.size≤1000000)
  (n0:b0≠bh) (n2:b2≠bh) (n3:b3≠bh) (nf:bf≠bh) (nt:bt≠bh):
  Calls Tryz.prog 111 #[.pointer (some ⟨b2,0,none⟩),.pointer (some ⟨bh,0,none⟩)] w (His2 B root f t s pa pl pc b0 b2 b3 bf bt bh w):=by
 have c0:w.cell? ⟨b2,0,none⟩=some (.string s):=block_cell h.s_ 0;have HR:=Lib.hid (rqHeader_any B s w hT (Nat.le_trans hs (by decide)));have H:=Lib.hid h;have HNE:=Lib.hid (And.intro n0 (And.intro n2 (And.intro n3 (And.intro nf nt))));clear h hT hs n0 n2 n3 nf nt
 unfold His2
 obtain⟨r,hr⟩:∃r,readR s (headerGs s) header0=r:=⟨_,rfl⟩
 rw[hr]at HR ⊢
 clear hr
 go_enter Tryz.func111,Tryz.ntmps111
 go_wp2_with fail
 refine HR.out.mono ?_
 rintro e w1 ⟨ev,rfl,hev,hb⟩
 have HB:=Lib.hid hb;have H1:=Lib.hid (H.out.below hb);clear hb HR c0;have d:∀o,w1.cell? ⟨bh,o,none⟩=_:=block_cell H1.out.h_;have fz:∀o,w1.frozen? ⟨bh,o,none⟩=false:=block_free H1.out.h_;have hlt:bh<w1.heap.size:=lt_of_block H1.out.h_
 cases r with
 | ok y=>
  obtain rfl:ev=.nilIface:=hev
  rw[show cellsHeader (recV (.ok y) header0)=#[.int .u64 (y 0).n,.string (y 1).s,.string (y 2).s,.string (y 3).s]from rfl]
  have d0:w1.cell? ⟨bh,0,none⟩=some (.int .u64 (x 0).n):=d 0;have d1:w1.cell? ⟨bh,1,none⟩=some (.string (x 1).s):=d 1;have d2:w1.cell? ⟨bh,2,none⟩=some (.string (x 2).s):=d 2;have d3:w1.cell? ⟨bh,3,none⟩=some (.string (x 3).s):=d 3;clear d
  go_upto_region 3 with fail
  obtain⟨V,hV⟩:∃V,setH w1 bh y=V:=⟨_,rfl⟩
  have HV1:Hid (IsB root f t s pa pl pc b0 b2 b3 bf bt bh y V):=Lib.hid (by rw[←hV];exact H1.out.put HNE.out _);have HV2:Hid (ExtB (some bh) w V):=Lib.hid (by rw[←hV];exact ExtB_trans _ _ _ _ (below_extB HB.out bh) (setH_ext _ _ _))
  change Code.wp _ _ _ _ (setH w1 bh y)
  rw[hV]
  clear hV d0 d1 d2 d3 fz hlt
  go_wp2
  go_ret
  exact⟨rfl,HV1.out,HV2.out⟩
 | error k=>
  obtain⟨fb,rfl⟩:=hev
  rw[show cellsHeader (recV (.error k) header0)=#[.int .u64 0,.string ⟨#[]⟩,.string ⟨#[]⟩,.string ⟨#[]⟩]from rfl]
  have d0:w1.cell? ⟨bh,0,none⟩=some (.int .u64 (x 0).n):=d 0;have d1:w1.cell? ⟨bh,1,none⟩=some (.string (x 1).s):=d 1;have d2:w1.cell? ⟨bh,2,none⟩=some (.string (x 2).s):=d 2;have d3:w1.cell? ⟨bh,3,none⟩=some (.string (x 3).s):=d 3;clear d
  go_upto_region 3 with fail
  obtain⟨V,hV⟩:∃V,setH w1 bh header0=V:=⟨_,rfl⟩
  have HV1:Hid (IsB root f t s pa pl pc b0 b2 b3 bf bt bh header0 V):=Lib.hid (by rw[←hV];exact H1.out.put HNE.out _);have HV2:Hid (ExtB (some bh) w V):=Lib.hid (by rw[←hV];exact ExtB_trans _ _ _ _ (below_extB HB.out bh) (setH_ext _ _ _))
  change Code.wp _ _ _ _ (setH w1 bh header0)
  rw[hV]
  clear hV d0 d1 d2 d3 fz hlt
  go_wp2
  go_ret
  exact⟨rfl,HV1.out,HV2.out⟩
end Go.Proofs.YtpobhbdomldecaaGreatDoor
namespace Go.Proofs.YtpobhbdomldecaaGreatDoor
open Go.RowKit
set_option linter.unusedSimpArgs false
set_option linter.unusedVariables false
theorem isE_arg{root:ByteArray}{f t:Int}{s:ByteArray}{p:List ByteArray}(h:isA root f t=false):isE root f t s p=2:=by unfold isE;rw[h];rfl
theorem isE_form{root:ByteArray}{f t:Int}{s:ByteArray}{p:List ByteArray}(h:isA root f t=true){k:Flt}(hr:readR s (headerGs s) header0=.error k):isE root f t s p=5:=by unfold isE;rw[h,hr];rfl
theorem isE_none{root:ByteArray}{f t:Int}{s:ByteArray}{p:List ByteArray}(h:isA root f t=true){y:Rcd}(hr:readR s (headerGs s) header0=.ok y)(hn:¬(f≤(y 0).n∧(y 0).n≤t)):isE root f t s p=19:=by
 unfold isE;rw[h,hr,if_pos rfl];exact if_neg hn
theorem isE_proof{root:ByteArray}{f t:Int}{s:ByteArray}{p:List ByteArray}(h:isA root f t=true){y:Rcd}(hr:readR s (headerGs s) header0=.ok y)(hn:f≤(y 0).n∧(y 0).n≤t)(hc:¬checkE root (t - f+1) [(y 0).n - f] [s] p=0):isE root f t s p=20:=by
 unfold isE;rw[h,hr,if_pos rfl];exact(if_pos hn).trans (if_neg hc)
theorem isE_ok{root:ByteArray}{f t:Int}{s:ByteArray}{p:List ByteArray}(h:isA root f t=true){y:Rcd}(hr:readR s (headerGs s) header0=.ok y)(hn:f≤(y 0).n∧(y 0).n≤t)(hc:checkE root (t - f+1) [(y 0).n - f] [s] p=0):isE root f t s p=0:=by
 unfold isE;rw[h,hr,if_pos rfl];exact(if_pos hn).trans (if_pos hc)
theorem isA_at{root:ByteArray}{f t:Int}(h:isA root f t=true):root.size=32∧f≤t∧t - f<64:=by
 unfold isA at h
 simp only[Bool.and_eq_true,decide_eq_true_eq]at h
 exact⟨h.1.1,h.1.2,h.2⟩
theorem txts_ext{w w1:World}{bh:Nat}{pa:Option Addr}{P:List ByteArray}(h:Txts w pa P)(hE:ExtB (some bh) w w1)(hn:∀b o,pa=some ⟨b,o,none⟩→0<len P→b≠bh):Txts w1 pa P:=λ i hi=>by
 obtain⟨b,o,e,hc⟩:=h i hi
 refine⟨b,o,e,?_⟩
 rw[World.cell?_of_block (w:=w) (hE.block b (lt_of_cell hc) (λ e9=>hn b o e (by omega) (Option.some.inj e9)))]
 exact hc
def hisF(k:Nat):FuncId:=match k with | 0=>110 | 1=>111 | 2=>113 | _=>114
def hisC(b0 b2 b3 bf bt bh k:Nat):Array Value:=match k with
 | 0=>#[.pointer (some ⟨b0,0,none⟩),.pointer (some ⟨bt,0,none⟩),.pointer (some ⟨bf,0,none⟩)]
 | 1=>#[.pointer (some ⟨b2,0,none⟩),.pointer (some ⟨bh,0,none⟩)]
 | 2=>#[.pointer (some ⟨bh,0,none⟩),.pointer (some ⟨bf,0,none⟩),.pointer (some ⟨bt,0,none⟩)]
 | _=>#[.pointer (some ⟨b0,0,none⟩),.pointer (some ⟨bh,0,none⟩),.pointer (some ⟨bf,0,none⟩),.pointer (some ⟨bt,0,none⟩),.pointer (some ⟨b2,0,none⟩),.pointer (some ⟨b3,0,none⟩)]
def hisN(k:Nat):Int:=match k with | 0=>2 | 1=>5 | 2=>19 | _=>20
def hisX(r:Except Flt Rcd)(k:Nat):Rcd:=match k with | 0=>header0 | 1=>header0 | _=>recV r header0
structure HisI(root:ByteArray)(f t:Int)(s:ByteArray)(P:List ByteArray)(pa:Option Addr)(pc b0 b2 b3 bf bt bh:Nat)(w:World)(k:Nat)(w1:World):Prop where
 e:ExtB (some bh) w w1
 b:IsB root f t s pa (len P) pc b0 b2 b3 bf bt bh (hisX (readR s (headerGs s) header0) k) w1
 l:k≤1→Below w.heap.size w w1
 a:1≤k→isA root f t=true
 r:2≤k→∃y,readR s (headerGs s) header0=.ok y
 n:3≤k→f≤(recV (readR s (headerGs s) header0) header0 0).n∧(recV (readR s (headerGs s) header0) header0 0).n≤t
 c:4≤k→checkE root (t - f+1) [(recV (readR s (headerGs s) header0) header0 0).n - f] [s] P=0
def HisQ(root:ByteArray)(f t:Int)(s:ByteArray)(P:List ByteArray)(bh:Nat)(w:World)(x:Int)(w1:World):Prop:=
 x=isE root f t s P∧ExtB (some bh) w w1∧∃y:Rcd,(x=0→y=recV (readR s (headerGs s) header0) header0)∧w1.heap[bh]?=some (.cells #[.int .u64 (y 0).n,.string (y 1).s,.string (y 2).s,.string (y 3).s] 33 (0,0))
set_option maxRecDepth 100000 in
set_option maxHeartbeats 1000000 in
theorem his_rules(B:Nat)(root:ByteArray)(f t:Int)(s:ByteArray)(P:List ByteArray)(pa:Option Addr)(pc b0 b2 b3 bf bt bh rb:Nat)(w:World)(hT:TE7 B w)(h:IsB root f t s pa (len P) pc b0 b2 b3 bf bt bh header0 w)(hp:Txts w pa P)(hl:len P≤1000000)(hc:len P≤pc)(hf:U64 f)(ht:U64 t)(hs:s.size≤1000000)
  (hn:b0≠bh∧b2≠bh∧b3≠bh∧bf≠bh∧bt≠bh) (hnp:∀b o,pa=some ⟨b,o,none⟩→0<len P→b≠bh) (hnr:rb≠bh)
  (hr:w.heap[rb]?=some (.cells #[.func (.func 110) #[] (hisC b0 b2 b3 bf bt bh 0),.int .i64 2,.func (.func 111) #[] (hisC b0 b2 b3 bf bt bh 1),.int .i64 5,.func (.func 113) #[] (hisC b0 b2 b3 bf bt bh 2),.int .i64 19,.func (.func 114) #[] (hisC b0 b2 b3 bf bt bh 3),.int .i64 20] 140 (0,0))):
  Calls Tryz.prog 109 #[.slice (some ⟨rb,0,none⟩) 4 4] w λ e w'=>∃x,e=.returned (.int .i64 x)∧HisQ root f t s P bh w x w':=by
 refine ifirst_any 4 rb hisF (hisC b0 b2 b3 bf bt bh) hisN (HisI root f t s P pa pc b0 b2 b3 bf bt bh w) (HisQ root f t s P bh w) w (by decide) (λ k args w=>?_) (λ k w1 w2 h hb=>⟨ExtB_trans _ _ _ _ h.e (below_extB hb bh),h.b.below hb,λ hk=>bnext (h.l hk) hb,h.a,h.r,h.n,h.c⟩) (λ k hk w1 hI=>?_) ⟨ExtB_refl _ _,h,λ _=>Below.refl _ _,λ h=>absurd h (by decide),λ h=>absurd h (by decide),λ h=>absurd h (by decide),λ h=>absurd h (by decide)⟩ (λ k hk w1 hw hI=>?_) (λ w1 hI=>?_)
 ·unfold hisF;split <;> simp[go_sem]
 ·have hr1:=extB_block hI.e (λ e=>hnr (Option.some.inj e)) hr
  match k,hk with
  | 0,_=>exact⟨block_cell hr1 0,block_cell hr1 1⟩
  | 1,_=>exact⟨block_cell hr1 2,block_cell hr1 3⟩
  | 2,_=>exact⟨block_cell hr1 4,block_cell hr1 5⟩
  | 3,_=>exact⟨block_cell hr1 6,block_cell hr1 7⟩
 ·match k,hk,hI with
  | 0,_,hI=>
   refine(his1_any root f t s pa (len P) pc b0 b2 b3 bf bt bh header0 w1 hI.b hf ht).mono ?_
   rintro e w2 ⟨rfl,hb⟩
   refine⟨_,rfl,λ h1=>⟨ExtB_trans _ _ _ _ hI.e (below_extB hb bh),hI.b.below hb,λ _=>bnext (hI.l (by decide)) hb,λ _=>h1,λ h=>absurd h (by decide),λ h=>absurd h (by decide),λ h=>absurd h (by decide)⟩,λ h1=>⟨(isE_arg h1).symm,ExtB_trans _ _ _ _ hI.e (below_extB hb bh),header0,λ h=>absurd h (by decide),(hI.b.below hb).h_⟩,Keeps.of hb⟩
  | 1,_,hI=>
   refine(his2_any B root f t s pa (len P) pc b0 b2 b3 bf bt bh header0 w1 (hT.below (hI.l (by decide))) hI.b hs hn.1 hn.2.1 hn.2.2.1 hn.2.2.2.1 hn.2.2.2.2).mono ?_
   rintro e w2 ⟨rfl,hb,hE⟩
   refine⟨_,rfl,λ h1=>⟨ExtB_trans _ _ _ _ hI.e hE,hb,λ h=>absurd h (by decide),λ _=>hI.a (by decide),λ _=>?_,λ h=>absurd h (by decide),λ h=>absurd h (by decide)⟩,λ h1=>⟨?_,ExtB_trans _ _ _ _ hI.e hE,_,λ h=>absurd h (by decide),hb.h_⟩,⟨hE.size,λ i h1 h2=>hE.block i h2 (λ e=>absurd (Option.some.inj e) (by have:=lt_of_block h.h_;omega))⟩⟩
   ·cases hrr:readR s (headerGs s) header0 with
    | ok y=>exact⟨y,rfl⟩
    | error k=>rw[hrr]at h1;cases h1
   ·cases hrr:readR s (headerGs s) header0 with
    | ok y=>rw[hrr]at h1;cases h1
    | error k=>exact(isE_form (hI.a (by decide)) hrr).symm
  | 2,_,hI=>
   obtain⟨y,hy⟩:=hI.r (by decide)
   refine(his3_any root f t s pa (len P) pc b0 b2 b3 bf bt bh _ w1 hI.b).mono ?_
   rintro e w2 ⟨rfl,hb⟩
   refine⟨_,rfl,λ h1=>⟨ExtB_trans _ _ _ _ hI.e (below_extB hb bh),hI.b.below hb,λ h=>absurd h (by decide),λ _=>hI.a (by decide),λ _=>⟨y,hy⟩,λ _=>?_,λ h=>absurd h (by decide)⟩,λ h1=>⟨?_,ExtB_trans _ _ _ _ hI.e (below_extB hb bh),_,λ h=>absurd h (by decide),(hI.b.below hb).h_⟩,Keeps.of hb⟩
   ·simp only[Bool.and_eq_true,decide_eq_true_eq]at h1
    exact h1
   ·refine(isE_none (hI.a (by decide)) hy (λ h9=>?_)).symm
    have h9':f≤(hisX (readR s (headerGs s) header0) 2 0).n∧(hisX (readR s (headerGs s) header0) 2 0).n≤t:=by rw[hy];exact h9
    rw[decide_eq_true h9'.1,decide_eq_true h9'.2]at h1
    cases h1
  | 3,_,hI=>
   obtain⟨y,hy⟩:=hI.r (by decide)
   have hA:=isA_at (hI.a (by decide))
   refine(his4_any root f t s P pa pc b0 b2 b3 bf bt bh _ w1 hI.b (txts_ext hp hI.e hnp) hl hc hf ht hA.2 (hI.n (by decide)) hs).mono ?_
   rintro e w2 ⟨rfl,hb⟩
   refine⟨_,rfl,λ h1=>⟨ExtB_trans _ _ _ _ hI.e (below_extB hb bh),hI.b.below hb,λ h=>absurd h (by decide),λ _=>hI.a (by decide),λ _=>⟨y,hy⟩,λ _=>hI.n (by decide),λ _=>of_decide_eq_true h1⟩,λ h1=>⟨?_,ExtB_trans _ _ _ _ hI.e (below_extB hb bh),_,λ h=>absurd h (by decide),(hI.b.below hb).h_⟩,Keeps.of hb⟩
   have hn1:=hI.n (by decide);have h2:=of_decide_eq_false h1;have h2':¬checkE root (t - f+1) [(recV (readR s (headerGs s) header0) header0 0).n - f] [s] P=0:=h2
   rw[hy]at hn1 h2'
   exact(isE_proof (hI.a (by decide)) hy hn1 h2').symm
 ·obtain⟨y,hy⟩:=hI.r (by decide)
  have hn1:=hI.n (by decide);have h2:=hI.c (by decide)
  refine⟨?_,hI.e,_,λ _=>rfl,hI.b.h_⟩
  rw[hy]at hn1 h2
  exact(isE_ok (hI.a (by decide)) hy hn1 h2).symm
end Go.Proofs.YtpobhbdomldecaaGreatDoor
namespace Go.Proofs.YtpobhbdomldecaaGreatDoor
open Go.RowKit
set_option linter.unusedSimpArgs false
set_option linter.unusedVariables false
set_option maxRecDepth 100000 in
set_option maxHeartbeats 4000000 in
theorem ihis_any(B:Nat)(root:ByteArray)(f t:Int)(s:ByteArray)(P:List ByteArray)(pa:Option Addr)(pc:Nat)(w:World)(hT:TE7 B w)(hp:Txts w pa P)(hl:len P≤1000000)(hc:len P≤pc)(hf:U64 f)(ht:U64 t)(hs:s.size≤1000000):
  Calls Tryz.prog 57 #[.string root,.agg #[.int .u64 f,.int .u64 t],.string s,.slice pa (len P) pc] w (IsIs root f t s P w):=by
 have HT:=Lib.hid hT;have HP:=Lib.hid hp;have HPN:Hid (∀b o,pa=some ⟨b,o,none⟩→0<len P→b<w.heap.size):=Lib.hid (λ b o e h0=>by
  obtain⟨b9,o9,e9,h9⟩:=hp 0 h0
  rw[e]at e9
  cases e9
  exact lt_of_cell h9)
 have HL:=Lib.hid hl;have HC:=Lib.hid hc;have HF:=Lib.hid hf;have HTT:=Lib.hid ht;have HS:=Lib.hid hs;clear hT hp hl hc hf ht hs
 go_enter Tryz.func57,Tryz.ntmps57
 go_upto_region 1 with fail
 obtain⟨V,hV⟩:∃V,((((w.alloc (.cells #[.string root] 9)).alloc (.cells #[.int .u64 f,.int .u64 t] 76)).alloc (.cells #[.string s] 9)).alloc (.cells #[.slice pa (len P) pc] 36)).alloc (.cells #[.int .u64 0,.string ⟨#[]⟩,.string ⟨#[]⟩,.string ⟨#[]⟩] 33)=V:=⟨_,rfl⟩
 have HBV:Hid (Below w.heap.size w V):=Lib.hid (by rw[←hV];(repeat (first | exact Below.refl _ _ | assumption | (refine bdrew ?_) | (refine bdrewN ?_ _) | (refine balloc ?_ _) | (refine bset ?_ (by first | omega | (simp;done) | (simp;omega)) _) | (refine bnext ?_ (by assumption)))))
 have V0:Hid (V.heap[w.heap.size]?=some (.cells #[.string root] 9 (0,0))):=Lib.hid (by rw[←hV];(repeat (first | exact alloc_new_at _ (by repeat (first | rfl | refine alloc_size _ ?_)) | refine block_alloc ?_ _)))
 have V1:Hid (V.heap[w.heap.size+1]?=some (.cells #[.int .u64 f,.int .u64 t] 76 (0,0))):=Lib.hid (by rw[←hV];(repeat (first | exact alloc_new_at _ (by repeat (first | rfl | refine alloc_size _ ?_)) | refine block_alloc ?_ _)))
 have V2:Hid (V.heap[w.heap.size+1+1]?=some (.cells #[.string s] 9 (0,0))):=Lib.hid (by rw[←hV];(repeat (first | exact alloc_new_at _ (by repeat (first | rfl | refine alloc_size _ ?_)) | refine block_alloc ?_ _)))
 have V3:Hid (V.heap[w.heap.size+1+1+1]?=some (.cells #[.slice pa (len P) pc] 36 (0,0))):=Lib.hid (by rw[←hV];(repeat (first | exact alloc_new_at _ (by repeat (first | rfl | refine alloc_size _ ?_)) | refine block_alloc ?_ _)))
 have V4:Hid (V.heap[w.heap.size+1+1+1+1]?=some (.cells #[.int .u64 0,.string ⟨#[]⟩,.string ⟨#[]⟩,.string ⟨#[]⟩] 33 (0,0))):=Lib.hid (by rw[←hV];(repeat (first | exact alloc_new_at _ (by repeat (first | rfl | refine alloc_size _ ?_)) | refine block_alloc ?_ _)))
 have HSZ:Hid (V.heap.size=w.heap.size+5):=Lib.hid (by rw[←hV];simp)
 rw[hV]
 obtain⟨b,hb⟩:∃b,w.heap.size=b:=⟨_,rfl⟩
 rw[hb]at V0 V1 V2 V3 V4 HSZ ⊢
 have HWB:Hid (w.heap.size≤b):=Lib.hid (Nat.le_of_eq hb);clear hV hb
 obtain⟨b1,hb1⟩:∃b1,b+1=b1:=⟨_,rfl⟩
 have z0:b1<V.heap.size:=by have:=HSZ.out;omega
 have z1:b1≠V.heap.size:=by have:=HSZ.out;omega
 have z2:b1≠V.heap.size+1:=by have:=HSZ.out;omega
 have HB1:Hid (b+1=b1):=Lib.hid hb1
 rw[hb1]at V1 V2 V3 V4 ⊢
 clear hb1;have y0:V.cell? ⟨b1,0,none⟩=some (.int .u64 f):=block_cell V1.out 0;have y1:V.cell? ⟨b1,1,none⟩=some (.int .u64 t):=block_cell V1.out 1
 go_cut [10,11] (λ s9 s10 wx=>∃bf bt:Nat,s9=.pointer (some ⟨bf,0,none⟩)∧s10=.pointer (some ⟨bt,0,none⟩)∧Hid (wx.heap[bf]?=some (.cells #[.int .u64 f] 23 (0,0)))∧Hid (wx.heap[bt]?=some (.cells #[.int .u64 t] 23 (0,0)))∧Hid (Below V.heap.size V wx))
 case first=>
  go_region
  all_goals
   go_wp2_with fail
   go_meet
   first
    | exact⟨_,_,rfl,rfl,Lib.hid (block_alloc (heap_alloc_new _ _) _),Lib.hid (alloc_new_at _ (by simp)),Lib.hid (bdrew (balloc (balloc (Below.refl _ _) _) _))⟩
    | exact⟨_,_,rfl,rfl,Lib.hid (alloc_new_at _ (by simp)),Lib.hid (block_alloc (heap_alloc_new _ _) _),Lib.hid (bdrew (balloc (balloc (Below.refl _ _) _) _))⟩
 case rest=>
  obtain⟨bf,bt,rfl,rfl,HX,HY,HCB⟩:=hcut
  have K0:=Lib.hid ((HCB.out.block _ (lt_of_block V0.out)).trans V0.out);have K2:=Lib.hid ((HCB.out.block _ (lt_of_block V2.out)).trans V2.out);have K3:=Lib.hid ((HCB.out.block _ (lt_of_block V3.out)).trans V3.out);have K4:=Lib.hid ((HCB.out.block _ (lt_of_block V4.out)).trans V4.out);have HWC:Hid (Below w.heap.size w wc):=Lib.hid (bnext HBV.out HCB.out);clear y0 y1 z0 z1 z2
  go_upto_region 3 with fail
  obtain⟨U,hU⟩:∃U,wc.alloc (.cells #[.int .u64 0,.string ⟨#[]⟩,.string ⟨#[]⟩,.string ⟨#[]⟩] 33)=U:=⟨_,rfl⟩
  obtain⟨bh,hbh⟩:∃bh,wc.heap.size=bh:=⟨_,rfl⟩
  have HUB:Hid (Below wc.heap.size wc U):=Lib.hid (by rw[←hU];exact balloc (Below.refl _ _) _);have HIB:Hid (IsB root f t s pa (len P) pc b (b1+1) (b1+1+1) bf bt bh header0 U):=Lib.hid ⟨(HUB.out.block _ (lt_of_block K0.out)).trans K0.out,(HUB.out.block _ (lt_of_block K2.out)).trans K2.out,(HUB.out.block _ (lt_of_block K3.out)).trans K3.out,(HUB.out.block _ (lt_of_block HX.out)).trans HX.out,(HUB.out.block _ (lt_of_block HY.out)).trans HY.out,by rw[←hU,←hbh];exact heap_alloc_new _ _⟩;have K5:=Lib.hid ((HUB.out.block _ (lt_of_block K4.out)).trans K4.out);have HNE:Hid (b≠bh∧b1+1≠bh∧b1+1+1≠bh∧bf≠bh∧bt≠bh):=Lib.hid (by
   have q0:=lt_of_block K0.out;have q2:=lt_of_block K2.out;have q3:=lt_of_block K3.out;have q4:=lt_of_block HX.out;have q5:=lt_of_block HY.out
   omega)
  have HN8:Hid (b1+1+1+1≠bh∧w.heap.size≤bh∧bh<U.heap.size):=Lib.hid (by
   have q0:=lt_of_block K4.out;have q1:=HWC.out.size;have q2:=lt_of_block HIB.out.h_
   omega)
  have HWU:Hid (Below w.heap.size w U):=Lib.hid (bnext HWC.out HUB.out)
  rw[hU,hbh]
  clear hU hbh
  go_wp2_with fail
  refine(his_rules B root f t s P pa pc b (b1+1) (b1+1+1) bf bt bh _ _ ((HT.out.below HWU.out).below (balloc (Below.refl _ _) _)) (HIB.out.below (balloc (Below.refl _ _) _)) ((HP.out.below HWU.out).below (balloc (Below.refl _ _) _)) HL.out HC.out HF.out HTT.out HS.out HNE.out (λ b9 o9 e9 h9=>by have:=HPN.out b9 o9 e9 h9;have:=HN8.out;omega) (by have:=HN8.out;omega) (heap_alloc_new _ _)).mono ?_
  rintro e w2 ⟨x,rfl,hx,hE,y,hy,hh⟩
  have HEX:=Lib.hid hx;have HE:=Lib.hid hE;have HYY:=Lib.hid hy;have HH:=Lib.hid hh;have K6:Hid (w2.heap[b1+1+1+1]?=some (.cells #[.int .u64 0,.string ⟨#[]⟩,.string ⟨#[]⟩,.string ⟨#[]⟩] 33 (0,0))):=Lib.hid (extB_block hE (λ e=>HN8.out.1 (Option.some.inj e)) (block_alloc K5.out _));have HB2:Hid (Below w.heap.size w w2):=Lib.hid (by
   have q:=bnext HWU.out (balloc (Below.refl _ _) (.cells #[] 9));have q1:=HWU.out
   refine⟨hE.os.trans q1.os,hE.tape.trans q1.tape,hE.output.trans q1.output,Nat.le_trans (Nat.le_trans q1.size (by simp)) hE.size,λ i hi=>?_⟩
   rw[hE.block i (by simp;have:=q1.size;omega) (λ e9=>by have:=HN8.out;have:=Option.some.inj e9;omega)]
   exact((balloc (Below.refl U.heap.size U) _).block i (Nat.lt_of_lt_of_le hi q1.size)).trans (q1.block i hi))
  clear hx hE hy hh;have k0:w2.cell? ⟨b1+1+1+1,0,none⟩=some (.int .u64 0):=block_cell K6.out 0;have k1:w2.cell? ⟨b1+1+1+1,1,none⟩=some (.string ⟨#[]⟩):=block_cell K6.out 1;have k2:w2.cell? ⟨b1+1+1+1,2,none⟩=some (.string ⟨#[]⟩):=block_cell K6.out 2;have k3:w2.cell? ⟨b1+1+1+1,3,none⟩=some (.string ⟨#[]⟩):=block_cell K6.out 3;have kf:∀o,w2.frozen? ⟨b1+1+1+1,o,none⟩=false:=block_free K6.out;have h0:w2.cell? ⟨bh,0,none⟩=some (.int .u64 (y 0).n):=block_cell HH.out 0;have h1:w2.cell? ⟨bh,1,none⟩=some (.string (y 1).s):=block_cell HH.out 1;have h2:w2.cell? ⟨bh,2,none⟩=some (.string (y 2).s):=block_cell HH.out 2;have h3:w2.cell? ⟨bh,3,none⟩=some (.string (y 3).s):=block_cell HH.out 3;have H8:Hid (w.heap.size≤b1+1+1+1):=Lib.hid (by have:=HWB.out;have:=HB1.out;omega)
  by_cases hx0:x=0
  ·subst hx0
   go_wp2
   have hb:=block_setCell (block_setCell (block_setCell (block_setCell K6.out (o:=0) (.int .u64 (y 0).n)) (o:=1) (.string (y 1).s)) (o:=2) (.string (y 2).s)) (o:=3) (.string (y 3).s);have d:∀o,_=_:=block_cell hb
   refine bodyPost_ret (v:=.tuple #[.agg #[.int .u64 (y 0).n,.string (y 1).s,.string (y 2).s,.string (y 3).s],.int .i64 0]) ?_ rfl ⟨?_,(((HB2.out.setCell H8.out _).setCell H8.out _).setCell H8.out _).setCell H8.out _⟩
   ·simp[results,Tryz.results57,go_sem,d]
   ·rw[show isH root f t s P=y by unfold isH;rw[←HEX.out,if_pos rfl];exact(HYY.out (by first | trivial | rfl)).symm,←HEX.out]
  ·have hxb:(x == 0)=false:=by simp;exact hx0
   have HX0:=Lib.hid hx0
   go_wp2
   have hb:=block_setCell (block_setCell (block_setCell (block_setCell K6.out (o:=0) (.int .u64 0)) (o:=1) (.string ⟨#[]⟩)) (o:=2) (.string ⟨#[]⟩)) (o:=3) (.string ⟨#[]⟩);have d:∀o,_=_:=block_cell hb
   refine bodyPost_ret (v:=.tuple #[.agg #[.int .u64 0,.string ⟨#[]⟩,.string ⟨#[]⟩,.string ⟨#[]⟩],.int .i64 x]) ?_ rfl ⟨?_,(((HB2.out.setCell H8.out _).setCell H8.out _).setCell H8.out _).setCell H8.out _⟩
   ·simp[results,Tryz.results57,go_sem,d]
   ·rw[show isH root f t s P=header0 by unfold isH;rw[←HEX.out,if_neg HX0.out],←HEX.out];rfl
end Go.Proofs.YtpobhbdomldecaaGreatDoor
namespace Go.Proofs.YtpobhbdomldecaaGreatDoor
open Go.RowKit
set_option linter.unusedSimpArgs false
set_option linter.unusedVariables false
set_option maxRecDepth 100000 in
set_option maxHeartbeats 2000000 in
theorem itxn_any(l:List ByteArray)(a:Option Addr)(cap:Nat)(i:Int)(w:World)(hc:Txts w a l)(hn:len l≤65536)(hz:∀i,i<len l→(tth l i).size≤140737488355200):
  Calls Tryz.prog 60 #[.slice a (len l) cap,.int .i64 i] w (ItIs l i w):=by
 have HZ:=Lib.hid hz;have HN:=Lib.hid hn;have HEL:=Lib.hid (ielS_any l a cap w hc (by omega) (λ i hi=>Nat.le_trans (hz i hi) (by decide)));clear hc hn hz
 cases hb:bdOk l with
 | false=>
  have HE:=Lib.hid (it_no (i:=i) hb)
  go_enter Tryz.func60,Tryz.ntmps60
  go_wp2_with fail
  refine HEL.out.mono ?_
  rintro e w1 ⟨v,rfl,hv,hbl⟩
  rw[hb]
  have HB:=Lib.hid hbl;clear hv hbl hb HEL
  go_wp2
  go_ret2
  exact⟨_,by rw[HE.out.2];rfl,by rw[HE.out.1];exact TextsAre.nil _,HB.out⟩
 | true=>
  have HBD:=Lib.hid hb
  by_cases hi:0≤i∧i<(len l:Nat)
  ·obtain⟨k,rfl⟩:=Int.eq_ofNat_of_zero_le hi.1
   have hk:k<len l:=by omega
   have HE:=Lib.hid (it_some hb hk);have HK:=Lib.hid hk;have i1:¬((k:Nat):Int)<0:=by omega
   have i2:¬((len l:Nat):Int)≤((k:Nat):Int):=by omega
   have i3:¬len l≤k:=by omega
   clear hi hk
   go_enter Tryz.func60,Tryz.ntmps60
   go_wp2_with fail
   refine HEL.out.mono ?_
   rintro e w1 ⟨v,rfl,hv,hbl⟩
   obtain⟨a1,c1,rfl,ht,-,-⟩:=hv hb
   rw[hb]
   have HB:=Lib.hid hbl;have HT:=Lib.hid ht;clear hv hbl ht hb HEL
   go_wp2_with fail
   refine(iprove_any l a1 c1 k w1 HT.out HN.out HZ.out HK.out).mono ?_
   rintro e w2 ⟨v,rfl,hv,hb⟩
   have HB2:=Lib.hid (bnext HB.out hb);have HV:=Lib.hid hv;clear hv hb
   go_wp2
   go_ret2
   exact⟨v,by rw[HE.out.2];rfl,by rw[HE.out.1];exact HV.out,HB2.out⟩
  ·have HE:=Lib.hid (it_none hb hi)
   have HI:=Lib.hid hi
   by_cases h0:i<0
   ·clear hi
    go_enter Tryz.func60,Tryz.ntmps60
    go_wp2_with fail
    refine HEL.out.mono ?_
    rintro e w1 ⟨v,rfl,hv,hbl⟩
    obtain⟨a1,c1,rfl,ht,-,-⟩:=hv hb
    rw[hb]
    have HB:=Lib.hid hbl;clear hv hbl ht hb HEL
    go_wp2
    go_ret2
    exact⟨_,by rw[HE.out.2];rfl,by rw[HE.out.1];exact TextsAre.nil _,HB.out⟩
   ·have i2:((len l:Nat):Int)≤i:=by omega
    clear hi
    go_enter Tryz.func60,Tryz.ntmps60
    go_wp2_with fail
    refine HEL.out.mono ?_
    rintro e w1 ⟨v,rfl,hv,hbl⟩
    obtain⟨a1,c1,rfl,ht,-,-⟩:=hv hb
    rw[hb]
    have HB:=Lib.hid hbl;clear hv hbl ht hb HEL
    go_wp2
    go_ret2
    exact⟨_,by rw[HE.out.2];rfl,by rw[HE.out.1];exact TextsAre.nil _,HB.out⟩
end Go.Proofs.YtpobhbdomldecaaGreatDoor
namespace Go.Proofs.YtpobhbdomldecaaGreatDoor
open Go.RowKit
set_option linter.unusedSimpArgs false
set_option linter.unusedVariables false
set_option linter.constructorNameAsVariable false
set_option maxRecDepth 100000 in
theorem lroot27_any(els:List ByteArray)(a:Option Addr)(cap:Nat)(w:World)(ht:Txts w a els)(hn:len els≤65536)(hz:∀i,i<len els→(tth els i).size≤140737488355200):
  Calls Tryz.prog 64 #[.slice a (len els) cap] w λ e w'=>e=.returned (.string (treeR els))∧Below w.heap.size w w':=by
 have HB:=Lib.hid (build_any els a cap w ht hn hz);clear ht hn hz
 go_enter Tryz.func64,Tryz.ntmps64
 go_wp2_with fail
 refine HB.out.mono ?_
 rintro e w1 ⟨b,rfl,hs,ht,hb⟩
 have HT:=Lib.hid ht;have HB1:=Lib.hid hb;clear hs ht hb HB
 go_wp2_with fail
 refine(root_any els b w1 HT.out).mono ?_
 rintro e w2 ⟨rfl,rfl⟩
 rw[show plD els (depN els) (depN els) 0=treeR els from rfl]
 go_wp2
 go_ret
 exact⟨rfl,HB1.out⟩
end Go.Proofs.YtpobhbdomldecaaGreatDoor
namespace Go.Proofs.YtpobhbdomldecaaGreatDoor
open Go.RowKit
set_option linter.unusedSimpArgs false
set_option linter.unusedVariables false
set_option maxRecDepth 100000 in
set_option maxHeartbeats 4000000 in
theorem alike27_any(la lb:List ByteArray)(a b:Option Addr)(ca cb:Nat)(w:World)(ha:Txts w a la)(hb:Txts w b lb)(hn:len la≤1000000)(hn2:len lb≤1000000):Calls Tryz.prog 51 #[.slice a (len la) ca,.slice b (len lb) cb] w λ e w'=>e=.returned (.bool (decide (la=lb)))∧Below w.heap.size w w':=by
 have HA:=Lib.hid ha;have HB:=Lib.hid hb;have HN:=Lib.hid hn;have HN2:=Lib.hid hn2;clear ha hb
 by_cases hl:len la=len lb
 ·have l1:((len la:Nat):Int)=(len lb:Nat):=by omega
  have HL:=Lib.hid hl;clear hn hn2 hl
  go_enter Tryz.func51,Tryz.ntmps51
  go_wp2
  go_loopg [5] (len la) (λ g i wr=>∃m:Nat,g+m=len la∧i=.int .i64 m∧Hid (∀j,j<m→tth la j=tth lb j)∧Hid (Below w.heap.size w wr))
  case atStart=>exact⟨0,rfl,rfl,Lib.hid (λ j hj=>by omega),Lib.hid (Below.refl _ _)⟩
  case round=>
   obtain⟨m,hm,rfl,HE,HW⟩:=hrel
   have HNN:=HN.out
   by_cases hlt:m<len la
   ·have b0:(m:Int)<len la:=by omega
    have b1:(m:Int)<len lb:=by have:=HL.out;omega
    obtain⟨ba,oa,rfl,e1⟩:=(HA.out.below HW.out) m hlt
    obtain⟨bb,ob,rfl,e2⟩:=(HB.out.below HW.out) m (by have:=HL.out;omega)
    obtain⟨x,hx⟩:∃x,tth la m=x:=⟨_,rfl⟩
    obtain⟨y,hy⟩:∃y,tth lb m=y:=⟨_,rfl⟩
    rw[hx]at e1
    rw[hy]at e2
    have HX:=Lib.hid hx;have HY:=Lib.hid hy;have l3:=lt_of_cell e1;have l4:=lt_of_cell e2;clear hx hy
    cases hq:(x.toList == y.toList)with
    | true=>
     have HQ:=Lib.hid hq
     go_wp2
     go_quiet (fail)
     go_wp2
     go_roundg (len la - (m+1))
     case rel=>exact⟨m+1,by omega,by go_num,Lib.hid (λ j hj=>by
      by_cases e:j=m
      ·subst e
       rw[HX.out,HY.out]
       have:=HQ.out
       rw[str_beq]at this
       exact of_decide_eq_true this
      ·exact HE.out j (by omega)),by(repeat (first | exact Below.refl _ _ | assumption | (refine bdrew ?_) | (refine bdrewN ?_ _) | (refine balloc ?_ _) | (refine bset ?_ (by first | omega | (simp;done) | (simp;omega)) _) | (refine bnext ?_ (by assumption))))⟩
     case measure=>omega
    | false=>
     have HQ:=Lib.hid hq
     go_wp2
     go_quiet (fail)
     go_wp2
     go_ret
     refine⟨?_,bnext HW.out (by(repeat (first | exact Below.refl _ _ | assumption | (refine bdrew ?_) | (refine bdrewN ?_ _) | (refine balloc ?_ _) | (refine bset ?_ (by first | omega | (simp;done) | (simp;omega)) _) | (refine bnext ?_ (by assumption)))))⟩
     have:¬la=lb:=λ h9=>by
      have:=HQ.out
      rw[str_beq,←HX.out,←HY.out,h9]at this
      simp at this
     rw[decide_eq_false this];rfl
   ·obtain rfl:m=len la:=by omega
    have b0:¬((len la:Nat):Int)<len la:=by omega
    go_wp2
    go_ret
    exact⟨by rw[decide_eq_true (tth_ext HL.out HE.out)];rfl,HW.out⟩
 ·have l1:¬((len la:Nat):Int)=(len lb:Nat):=by omega
  have HL:Hid (decide (la=lb)=false):=Lib.hid (decide_eq_false (λ h9=>hl (by rw[h9])));clear hn hn2 hl
  go_enter Tryz.func51,Tryz.ntmps51
  go_wp2
  go_ret
  exact⟨by rw[HL.out];rfl,Below.refl _ _⟩
end Go.Proofs.YtpobhbdomldecaaGreatDoor
namespace Go.Proofs.YtpobhbdomldecaaGreatDoor
open Go.RowKit
set_option linter.unusedSimpArgs false
set_option linter.unusedVariables false
set_option linter.constructorNameAsVariable false
theorem lv21:leavesL [1] ((1:Nat):Int)=[1]:=by decide
theorem depZ21:depthZ 2=((1:Nat):Int):=by decide
theorem rows2b:rowsP 2 [1]=[[0]]:=by
 unfold rowsP
 rw[depZ21,needs_rows (d:=1) (by decide) (by decide),lv21]
 have e1:rowsOf [1] 1=[rowK (insAll [1])]:=by simp[rowsOf,List.range_succ_eq_map]
 rw[e1,row_litE (l:=[0]) (m:=[0]) (by decide) (by decide) (λ k=>Iff.rfl)]
theorem plc2b:plcL 2 [1]=[(0,0)]:=by
 show flatLv (rowsP 2 [1])=_
 rw[rows2b]
 rfl
theorem one2b(a b:ByteArray):oneD [a,b] 1=[hashP leafT [a]]:=by
 unfold oneD
 show dgsL [a,b] (plcL 2 [1])=_
 rw[plc2b]
 show [plD [a,b] (depN [a,b]) 0 0]=_
 have hd:depN [a,b]=1:=by
  have h:=depthZ_len (els:=[a,b]) (by show 2≤65536;decide)
  rw[show((len [a,b]:Nat):Int)=2 from rfl,depZ21]at h
  omega
 rw[hd]
 unfold plD
 rw[show revOf 0 1=0 by decide,if_pos (show 0<len [a,b]from(by decide:0<2))]
 rfl
theorem one1(a:ByteArray):oneD [a] 0=[]:=by
 have h:len (oneD [a] 0)=0:=oneD_len (els:=[a]) (by show 1≤65536;decide)
 exact List.eq_nil_of_length_eq_zero h
theorem rowAt_may(f c i:Nat):hOk (rowAt f c i)=true:=by
 rw[hOk_eq]
 unfold rowAt
 simp[textS_size]
theorem el_one{r:Hdr}(h:hOk r=true):elOk [r]=true:=
 elOk_of (by decide:0<1) (by decide:1≤64) (followH_yes (λ i hi h0=>by have hi:i<1:=hi;omega)) (laysH_yes (λ i hi=>by
  have hi:i<1:=hi
  obtain rfl:i=0:=by omega
  exact h))
theorem is_yes{f t:Int}{els:List ByteArray}{k:Nat}{h:Hdr}(ho:h.Ok)(hm:hOk h=true)(hk:k<len els)(hn:len els≤64)(he:tth els k=hbs h)(hf:h.rnd=f+k)(ht:t=f+len els - 1):
  isE (treeR els) f t (hbs h) (oneD els k)=0∧cellsHeader (isH (treeR els) f t (hbs h) (oneD els k))=#[.int .u64 h.rnd,.string h.prev,.string h.txns,.string h.seed]:=by
 obtain⟨y,hy,e0,e1,e2,e3⟩:=header_forth (rnd:=h.rnd) (prev:=h.prev) (txns:=h.txns) (seed:=h.seed) ho.r0 hm (s:=hbs h) rfl
 have hA:isA (treeR els) f t=true:=by
  unfold isA
  rw[decide_eq_true (treeR_size els),decide_eq_true (by omega),decide_eq_true (by omega)];rfl
 have hE:isE (treeR els) f t (hbs h) (oneD els k)=0:=by
  refine isE_ok hA hy (by rw[e0];omega) ?_
  rw[e0,show t - f+1=(len els:Nat)by omega,show h.rnd - f=((k:Nat):Int)by omega,←he]
  exact one_check (by omega) hk
 refine⟨hE,?_⟩
 unfold isH
 rw[if_pos hE,hy]
 show cellsHeader y=_
 unfold cellsHeader
 rw[e0,e1,e2,e3]
theorem ti_yes{els:List ByteArray}{k:Nat}(hk:k<len els)(hn:len els≤64)(hs:0<(tth els k).size∧(tth els k).size≤64):tiE (treeR els) (k:Nat) (len els:Nat) (tth els k) (oneD els k)=0:=by
 unfold tiE tiA
 rw[decide_eq_true (treeR_size els),decide_eq_true (by omega),decide_eq_true (by omega),decide_eq_true (by omega),decide_eq_true hs.1,decide_eq_true hs.2]
 exact(if_pos (by rfl)).trans (if_pos (one_check (by omega) hk))
theorem te_pt{B:Nat}{w:World}(h:TE7 B w):PT B w:=⟨h.p,h.s⟩
theorem row_one:rowL 5 [97] 0 0=[rowAt 5 97 0]:=by rfl
theorem bd_ab:bdOk abT=true:=by decide
theorem it_ab:itP abT 1=[hashP leafT [⟨#[97]⟩]]∧itE abT 1=0:=by
 have h:=it_some (l:=abT) (k:=1) bd_ab (by decide:1<2);have e:oneD abT 1=[hashP leafT [⟨#[97]⟩]]:=one2b _ _
 rw[e]at h
 exact h
theorem ti_ab:tiE (treeR abT) 1 2 ⟨#[98]⟩ [hashP leafT [⟨#[97]⟩]]=0:=by
 have h:=ti_yes (els:=abT) (k:=1) (by decide:1<2) (by decide:2≤64) (by decide);have e:oneD abT 1=[hashP leafT [⟨#[97]⟩]]:=one2b _ _
 rw[e]at h
 exact h
set_option maxRecDepth 100000 in
set_option maxHeartbeats 4000000 in
theorem works27_any(B:Nat)(w:World)(ht:TE7 B w):Calls Tryz.prog 52 #[] w λ e w'=>e=.returned (.bool true)∧Below w.heap.size w w':=by
 have HT:=Lib.hid ht;clear ht
 go_enter Tryz.func52,Tryz.ntmps52
 go_wp2_with fail
 refine(row27_any 5 [97] (some ⟨w.heap.size,0,none⟩) 1 0 0 _ (by decide) (λ i hi=>⟨_,0,rfl,by
  have hi:i<1:=hi
  obtain rfl:i=0:=by omega
  rw[block_cell (heap_alloc_new _ _)];rfl⟩) (λ i=>by
  match i with
  | 0=>decide
  | i+1=>show 0≤(0:Int)∧(0:Int)≤255;decide) (by decide) (by decide) (by decide)).mono ?_
 rintro e w1 ⟨v,rfl,hown,hb⟩
 rw[row_one]at hown
 obtain⟨r,hr⟩:∃r,rowAt 5 97 0=r:=⟨_,rfl⟩
 have HRO:Hid r.Ok:=Lib.hid (by rw[←hr];exact rowAt_ok _ _ _);have HRM:Hid (hOk r=true):=Lib.hid (by rw[←hr];exact rowAt_may _ _ _);have HRN:Hid (r.rnd=5):=Lib.hid (by rw[←hr];rfl)
 rw[hr]at hown
 clear hr;have B1:Hid (Below w.heap.size w w1):=Lib.hid (bnext (balloc (Below.refl _ _) _) hb)
 rcases ownH_of hown with⟨-,hnil⟩ | ⟨g,c,rfl,ho⟩
 ·cases hnil
 have HO:=Lib.hid ho;clear hown hb ho;have HOKS:Hid (∀i,(hnth [r] i).Ok):=Lib.hid (oks1 HRO.out)
 go_wp2_with fail
 refine(iheader_any B [r] (some ⟨g,0,none⟩) c 5 w1 ((te_pt HT.out).below B1.out) HO.out.hdrs HOKS.out (by decide:1≤65536)).mono ?_
 rintro e w2 ⟨v,rfl,hv,hb⟩
 have hih:=ih_some (r:=5) (el_one HRM.out) (findR_hit (i:=0) (by decide:0<1) (λ j hj=>by omega) HRN.out)
 rw[show hnth [r] 0=r from rfl,show elL [r]=[hbs r]from rfl,one1]at hih
 rw[hih.2.1]at hv
 rw[hih.1,hih.2.2]
 obtain⟨p3,c3,rfl,ht3,hc3,hn3⟩:=hv
 have B2:Hid (Below w.heap.size w w2):=Lib.hid (bnext B1.out hb);have HO2:=Lib.hid (HO.out.below hb)
 obtain⟨s,hs⟩:∃s,hbs r=s:=⟨_,rfl⟩
 have HS:=Lib.hid hs;have HSZ:Hid (s.size≤1000):=Lib.hid (by rw[←hs];exact hbs_size HRM.out);have HHW:=Lib.hid (λ w9 h9=>hw_yes B r w9 h9 HRO.out HRM.out)
 rw[hs]at HHW
 rw[hs]
 clear hs hb hih ht3 hc3 hn3
 rw[show len ([]:List ByteArray)=0 from rfl]
 have hc:=HO2.out.at (i:=0) (by decide:0<1)
 rw[show hnth [r] 0=r from rfl]at hc
 obtain⟨g0,g1,g2,g3,-⟩:=hc
 have hl1:len [r]=1:=rfl
 go_wp2_with fail
 refine(HHW.out _ ((te_pt HT.out).below B2.out)).mono ?_
 rintro e w3 ⟨rfl,hb⟩
 have B3:Hid (Below w.heap.size w w3):=Lib.hid (bnext B2.out hb);have HO3:=Lib.hid (HO2.out.below hb);clear hb g0 g1 g2 g3
 go_wp2_with fail
 refine(hash_any leafT [s] (some ⟨w3.heap.size,0,none⟩) 1 _ (by decide) (by decide) (one_txts1 (heap_alloc_new _ _)) (by rw[show partsL [s]=partL s by simp[partsL],partL_len];have:=HSZ.out;omega)).mono ?_
 rintro e w4 ⟨rfl,hb⟩
 have B4:Hid (Below w3.heap.size w3 w4):=Lib.hid (bnext (balloc (Below.refl _ _) _) hb);clear hb;have hiy:=is_yes (f:=5) (t:=5) (els:=[s]) (k:=0) HRO.out HRM.out (by decide:0<1) (by decide:1≤64) HS.out.symm (by rw[HRN.out];rfl) (by rfl)
 rw[one1,HS.out]at hiy
 have HIY:=Lib.hid hiy
 obtain⟨rt,hrt⟩:∃rt,treeR [s]=rt:=⟨_,rfl⟩
 rw[show hashP leafT [s]=rt from hrt]
 rw[hrt]at HIY
 clear hrt hiy
 go_wp2_with fail
 refine(ihis_any B rt 5 5 s [] p3 c3 w4 ((HT.out.below B3.out).below B4.out) (Txts.nil _ _) (by decide) (Nat.zero_le _) ⟨by decide,by decide⟩ ⟨by decide,by decide⟩ (by have:=HSZ.out;omega)).mono ?_
 rintro e w5 ⟨rfl,hb⟩
 rw[HIY.out.1,HIY.out.2]
 have B5:Hid (Below w3.heap.size w3 w5):=Lib.hid (bnext B4.out hb);clear hb
 go_upto_region 5 with fail
 obtain⟨V,hV⟩:∃V,w5.alloc (.cells #[.int .u64 r.rnd,.string r.prev,.string r.txns,.string r.seed] 33)=V:=⟨_,rfl⟩
 obtain⟨xb,hxb⟩:∃xb,w5.heap.size=xb:=⟨_,rfl⟩
 have HVX:Hid (V.heap[xb]?=some (.cells #[.int .u64 r.rnd,.string r.prev,.string r.txns,.string r.seed] 33 (0,0))):=Lib.hid (by rw[←hV,←hxb];exact heap_alloc_new _ _);have BV:Hid (Below w3.heap.size w3 V):=Lib.hid (by rw[←hV];exact balloc B5.out _)
 rw[hV,hxb]
 clear hV hxb
 go_wp2_with fail
 refine(itxn_any abT (some ⟨V.heap.size,0,none⟩) 2 1 _ (abT_txts (heap_alloc_new _ _)) (by decide) (λ i hi=>Nat.le_trans (abT_size i hi) (by decide))).mono ?_
 rintro e w6 ⟨vq,rfl,hv,hb⟩
 rw[it_ab.1]at hv
 rw[it_ab.2]
 have hti:=ti_ab
 obtain⟨ta,hta⟩:∃ta,hashP leafT [⟨#[97]⟩]=ta:=⟨_,rfl⟩
 rw[hta]at hv hti
 have HTA:Hid (∀(wv:World) (bq:Nat),wv.heap[bq]?=some (.cells #[.string ⟨#[97]⟩] 9 (0,0))→Calls Tryz.prog 45 #[.string ⟨#[108,101,97,102]⟩,.slice (some ⟨bq,0,none⟩) 1 1] wv λ e w'=>e=.returned (.string ta)∧Below wv.heap.size wv w'):=Lib.hid (λ wv bq h=>by
  rw[←hta]
  exact hash_any leafT [⟨#[97]⟩] (some ⟨bq,0,none⟩) 1 wv (by decide) (by decide) (one_txts1 h) (by decide))
 obtain⟨rab,hrab⟩:∃rab,treeR abT=rab:=⟨_,rfl⟩
 rw[hrab]at hti
 have HRB:Hid (∀(wv:World) (bq:Nat),wv.heap[bq]?=some (.cells #[.string ⟨#[97]⟩,.string ⟨#[98]⟩] 9 (0,0))→Calls Tryz.prog 64 #[.slice (some ⟨bq,0,none⟩) 2 2] wv λ e w'=>e=.returned (.string rab)∧Below wv.heap.size wv w'):=Lib.hid (λ wv bq h=>by
  rw[←hrab]
  exact lroot27_any abT (some ⟨bq,0,none⟩) 2 wv (abT_txts h) (by decide) (λ i hi=>Nat.le_trans (abT_size i hi) (by decide)))
 obtain⟨aq,cq,rfl,htq,hcq,-⟩:=hv
 have BV6:Hid (Below V.heap.size V w6):=Lib.hid (bnext (balloc (Below.refl _ _) _) hb);have HTQ:=Lib.hid (And.intro htq hcq);have HAL:Hid (∀(wv:World) (bq:Nat),Below w6.heap.size w6 wv→wv.heap[bq]?=some (.cells #[.string ta] 9 (0,0))→Calls Tryz.prog 51 #[.slice aq 1 cq,.slice (some ⟨bq,0,none⟩) 1 1] wv λ e w'=>e=.returned (.bool true)∧Below wv.heap.size wv w'):=Lib.hid (λ wv bq hb h=>by
  have h2:=alike27_any [ta] [ta] aq (some ⟨bq,0,none⟩) cq 1 wv (HTQ.out.1.below hb) (one_txts1 h) (by show 1≤1000000;decide) (by show 1≤1000000;decide)
  rw[decide_eq_true rfl]at h2
  exact h2)
 have HTI:Hid (∀(wv:World),Below w6.heap.size w6 wv→Calls Tryz.prog 62 #[.string rab,.agg #[.int .u64 1,.int .u64 2],.string ⟨#[98]⟩,.slice aq 1 cq] wv λ e w'=>e=.returned (.int .i64 0)∧Below wv.heap.size wv w'):=Lib.hid (λ wv hb=>by
  have h2:=itis_any rab 1 2 ⟨#[98]⟩ [ta] aq cq wv (HTQ.out.1.below hb) (by show 1≤1000000;decide) HTQ.out.2 ⟨by decide,by decide⟩ ⟨by decide,by decide⟩ (by decide)
  rw[hti]at h2
  exact h2)
 rw[show len [ta]=1 from rfl]
 have HVX6:=Lib.hid ((BV6.out.block _ (lt_of_block HVX.out)).trans HVX.out);have B6:Hid (Below w.heap.size w w6):=Lib.hid (bnext (bnext B3.out BV.out) BV6.out);have hc:=((HO3.out.below BV.out).below BV6.out).at (i:=0) (by decide:0<1)
 rw[show hnth [r] 0=r from rfl]at hc
 obtain⟨g0,g1,g2,g3,-⟩:=hc
 rw[Nat.zero_mul]at g0 g1 g2 g3
 have x0:w6.cell? ⟨xb,0,none⟩=some (.int .u64 r.rnd):=block_cell HVX6.out 0;have x1:w6.cell? ⟨xb,1,none⟩=some (.string r.prev):=block_cell HVX6.out 1;have x2:w6.cell? ⟨xb,2,none⟩=some (.string r.txns):=block_cell HVX6.out 2;have x3:w6.cell? ⟨xb,3,none⟩=some (.string r.seed):=block_cell HVX6.out 3;have sa:(s.toList == s.toList)=true:=by rw[str_beq,decide_eq_true rfl]
 have r1:(r.prev.toList == r.prev.toList)=true:=by rw[str_beq,decide_eq_true rfl]
 have r2:(r.txns.toList == r.txns.toList)=true:=by rw[str_beq,decide_eq_true rfl]
 have r3:(r.seed.toList == r.seed.toList)=true:=by rw[str_beq,decide_eq_true rfl]
 clear hb hta hrab hti htq hcq HIY
 go_upto_region 6 with fail
 refine wp_region_all 1000 (none) (phis [λ u _=>u=(.int .i64 0),λ u _=>u=(.bool true),λ u _=>u=(.bool true),λ u _=>u=(.int .i64 0),λ u _=>u=(.bool true),λ u _=>u=(.bool true),λ u _=>u=(.bool true),λ u _=>u=(.string s),λ u _=>u=(.string s),λ u _=>u=(.bool true),λ u _=>u=(.bool true),λ u _=>u=(.bool true),λ u _=>u=(.slice p3 0 c3),λ u _=>u=(.int .i64 0),λ u _=>u=(.bool true),λ u _=>u=(.bool true),λ u _=>u=(.bool true),λ u _=>u=(.int .i64 0),λ u _=>u=(.bool true),λ u _=>u=(.bool true),λ u _=>u=(.bool true),λ u _=>u=(.agg #[.int .u64 r.rnd,.string r.prev,.string r.txns,.string r.seed]),λ u _=>u=(.slice (some ⟨g,0,none⟩) 1 c),λ u _=>u=(.pointer (some ⟨g,0,none⟩)),λ u _=>u=(.agg #[.int .u64 r.rnd,.string r.prev,.string r.txns,.string r.seed]),λ u _=>u=(.bool true),λ u _=>u=(.bool true),λ u _=>u=(.bool true),λ u _=>u=(.int .i64 0),λ u _=>u=(.bool true),λ u _=>u=(.bool true),λ u _=>u=(.bool true),λ u _=>u=(.slice aq 1 cq),λ u w'=>∃b,u=.slice (some ⟨b,0,none⟩) 1 1∧w'.heap[b]?=some (.cells #[.string ⟨#[97]⟩] 9 (0,0)),λ u _=>u=(.string ta),λ u w'=>∃b,u=.slice (some ⟨b,0,none⟩) 1 1∧w'.heap[b]?=some (.cells #[.string ta] 9 (0,0)),λ u _=>u=(.bool true),λ u _=>u=(.bool true),λ u _=>u=(.bool true),λ u w'=>∃b,u=.slice (some ⟨b,0,none⟩) 2 2∧w'.heap[b]?=some (.cells #[.string ⟨#[97]⟩,.string ⟨#[98]⟩] 9 (0,0)),λ u _=>u=(.string rab),λ u _=>u=(.agg #[.int .u64 1,.int .u64 2]),λ u _=>u=(.slice aq 1 cq),λ u _=>u=(.int .i64 0),λ u _=>u=(.bool true),λ u _=>u=(.bool true),λ u _=>u=(.bool true)]) rfl (by kernel_rfl) (mono_of ⟨mono_eq,mono_eq,mono_eq,mono_eq,mono_eq,mono_eq,mono_eq,mono_eq,mono_eq,mono_eq,mono_eq,mono_eq,mono_eq,mono_eq,mono_eq,mono_eq,mono_eq,mono_eq,mono_eq,mono_eq,mono_eq,mono_eq,mono_eq,mono_eq,mono_eq,mono_eq,mono_eq,mono_eq,mono_eq,mono_eq,mono_eq,mono_eq,mono_eq,?m33,mono_eq,?m35,mono_eq,mono_eq,mono_eq,?m39,mono_eq,mono_eq,mono_eq,mono_eq,mono_eq,mono_eq,mono_eq,trivial⟩) (steps_of 47 ⟨?s0,?s1,?s2,?s3,?s4,?s5,?s6,?s7,?s8,?s9,?s10,?s11,?s12,?s13,?s14,?s15,?s16,?s17,?s18,?s19,?s20,?s21,?s22,?s23,?s24,?s25,?s26,?s27,?s28,?s29,?s30,?s31,?s32,?s33,?s34,?s35,?s36,?s37,?s38,?s39,?s40,?s41,?s42,?s43,?s44,?s45,?s46,trivial⟩) ?_
 case m33=>
  exact⟨λ u w1 w' h ⟨b,h1,hb⟩=>⟨b,h1,ext_block h hb⟩,λ _ u w1 w' h ⟨b,h1,hb⟩=>⟨b,h1,extB_block h (by simp) hb⟩⟩
 case m35=>
  exact⟨λ u w1 w' h ⟨b,h1,hb⟩=>⟨b,h1,ext_block h hb⟩,λ _ u w1 w' h ⟨b,h1,hb⟩=>⟨b,h1,extB_block h (by simp) hb⟩⟩
 case m39=>
  exact⟨λ u w1 w' h ⟨b,h1,hb⟩=>⟨b,h1,ext_block h hb⟩,λ _ u w1 w' h ⟨b,h1,hb⟩=>⟨b,h1,extB_block h (by simp) hb⟩⟩
 case s0=>
  refine qV (λ _=>rfl) rfl λ av wv hE hO hD=>?_
  simp[go_sem,qF av 4 (.int .i64 0) (hO.2.2 4 rfl),sa,r1,r2,r3]
 case s1=>
  refine qV (λ _=>rfl) rfl λ av wv hE hO hD=>?_
  simp[go_sem,qE (hD.1 rfl _ rfl),sa,r1,r2,r3]
 case s2=>
  refine qV (λ _=>rfl) rfl λ av wv hE hO hD=>?_
  simp[go_sem,qE (hD.1 rfl _ rfl),sa,r1,r2,r3]
 case s3=>
  refine step_val (λ av wv hE hS hO hD=>⟨(wY rfl rfl rfl (hD.1 rfl _ rfl)),?_⟩) (λ _=>rfl)
  simp[go_sem,qF av 6 (.int .i64 0) (hO.2.2 6 rfl),qE (hD.1 rfl _ rfl),sa,r1,r2,r3]
 case s4=>
  refine step_val (λ av wv hE hS hO hD=>⟨(wY rfl rfl rfl (hD.2.1 rfl _ rfl)),?_⟩) (λ _=>rfl)
  simp[go_sem,qE (hD.1 rfl _ rfl),qE (hD.2.1 rfl _ rfl),sa,r1,r2,r3]
 case s5=>
  refine qV (λ _=>rfl) rfl λ av wv hE hO hD=>?_
  simp[go_sem,qE (hD.1 rfl _ rfl),qE (hD.2.1 rfl _ rfl),sa,r1,r2,r3]
 case s6=>
  refine qV (λ _=>rfl) rfl λ av wv hE hO hD=>?_
  simp[go_sem,qE (hD.1 rfl _ rfl),sa,r1,r2,r3]
 case s7=>
  refine step_val (λ av wv hE hS hO hD=>⟨(wY rfl rfl rfl (hD.1 rfl _ rfl)),?_⟩) (λ _=>rfl)
  simp[go_sem,qF av 2 (.string s) (hO.2.2 2 rfl),qE (hD.1 rfl _ rfl),sa,r1,r2,r3]
 case s8=>
  refine step_val (λ av wv hE hS hO hD=>⟨(wY rfl rfl rfl (hD.1 rfl _ rfl)),?_⟩) (λ _=>rfl)
  simp[go_sem,qF av 5 (.string s) (hO.2.2 5 rfl),qE (hD.1 rfl _ rfl),sa,r1,r2,r3]
 case s9=>
  refine step_val (λ av wv hE hS hO hD=>⟨(wY rfl rfl rfl (hD.2.2.1 rfl _ rfl)),?_⟩) (λ _=>rfl)
  simp[go_sem,qE (hD.1 rfl _ rfl),qE (hD.2.1 rfl _ rfl),qE (hD.2.2.1 rfl _ rfl),sa,r1,r2,r3]
 case s10=>
  refine qV (λ _=>rfl) rfl λ av wv hE hO hD=>?_
  simp[go_sem,qE (hD.1 rfl _ rfl),qE (hD.2.1 rfl _ rfl),sa,r1,r2,r3]
 case s11=>
  refine qV (λ _=>rfl) rfl λ av wv hE hO hD=>?_
  simp[go_sem,qE (hD.1 rfl _ rfl),sa,r1,r2,r3]
 case s12=>
  refine step_val (λ av wv hE hS hO hD=>⟨(wY rfl rfl rfl (hD.1 rfl _ rfl)),?_⟩) (λ _=>rfl)
  simp[go_sem,qF av 3 (.slice p3 0 c3) (hO.2.2 3 rfl),qE (hD.1 rfl _ rfl),sa,r1,r2,r3]
 case s13=>
  refine step_val (λ av wv hE hS hO hD=>⟨(wY rfl rfl rfl (hD.2.1 rfl _ rfl)),?_⟩) (λ _=>rfl)
  simp[go_sem,qE (hD.1 rfl _ rfl),qE (hD.2.1 rfl _ rfl),sa,r1,r2,r3]
 case s14=>
  refine step_val (λ av wv hE hS hO hD=>⟨(wY rfl rfl rfl (hD.2.1 rfl _ rfl)),?_⟩) (λ _=>rfl)
  simp[go_sem,qE (hD.1 rfl _ rfl),qE (hD.2.1 rfl _ rfl),sa,r1,r2,r3]
 case s15=>
  refine qV (λ _=>rfl) rfl λ av wv hE hO hD=>?_
  simp[go_sem,qE (hD.1 rfl _ rfl),qE (hD.2.1 rfl _ rfl),sa,r1,r2,r3]
 case s16=>
  refine qV (λ _=>rfl) rfl λ av wv hE hO hD=>?_
  simp[go_sem,qE (hD.1 rfl _ rfl),sa,r1,r2,r3]
 case s17=>
  refine step_val (λ av wv hE hS hO hD=>⟨(wY rfl rfl rfl (hD.1 rfl _ rfl)),?_⟩) (λ _=>rfl)
  simp[go_sem,qF av 8 (.int .i64 0) (hO.2.2 8 rfl),qE (hD.1 rfl _ rfl),sa,r1,r2,r3]
 case s18=>
  refine step_val (λ av wv hE hS hO hD=>⟨(wY rfl rfl rfl (hD.2.1 rfl _ rfl)),?_⟩) (λ _=>rfl)
  simp[go_sem,qE (hD.1 rfl _ rfl),qE (hD.2.1 rfl _ rfl),sa,r1,r2,r3]
 case s19=>
  refine qV (λ _=>rfl) rfl λ av wv hE hO hD=>?_
  simp[go_sem,qE (hD.1 rfl _ rfl),qE (hD.2.1 rfl _ rfl),sa,r1,r2,r3]
 case s20=>
  refine qV (λ _=>rfl) rfl λ av wv hE hO hD=>?_
  simp[go_sem,qE (hD.1 rfl _ rfl),sa,r1,r2,r3]
 case s21=>
  refine step_val (λ av wv hE hS hO hD=>⟨(wY rfl rfl rfl (hD.1 rfl _ rfl)),?_⟩) (λ _=>rfl)
  simp[go_sem,qF av 7 (.pointer (some ⟨xb,0,none⟩)) (hO.2.2 7 rfl),qE (hD.1 rfl _ rfl),extB_cell hE (by simp) x0,extB_cell hE (by simp) x1,extB_cell hE (by simp) x2,extB_cell hE (by simp) x3,extB_cell hE (by simp) g0,extB_cell hE (by simp) g1,extB_cell hE (by simp) g2,extB_cell hE (by simp) g3,sa,r1,r2,r3]
 case s22=>
  refine step_val (λ av wv hE hS hO hD=>⟨(wY rfl rfl rfl (hD.1 rfl _ rfl)),?_⟩) (λ _=>rfl)
  simp[go_sem,qF av 1 (.slice (some ⟨g,0,none⟩) 1 c) (hO.2.2 1 rfl),qE (hD.1 rfl _ rfl),sa,r1,r2,r3]
 case s23=>
  refine step_val (λ av wv hE hS hO hD=>⟨(wY rfl rfl rfl (hD.2.1 rfl _ rfl)),?_⟩) (λ _=>rfl)
  simp[go_sem,qE (hD.1 rfl _ rfl),qE (hD.2.1 rfl _ rfl),sa,r1,r2,r3]
 case s24=>
  refine step_val (λ av wv hE hS hO hD=>⟨(wY rfl rfl rfl (hD.2.1 rfl _ rfl)),?_⟩) (λ _=>rfl)
  simp[go_sem,qE (hD.1 rfl _ rfl),qE (hD.2.1 rfl _ rfl),extB_cell hE (by simp) x0,extB_cell hE (by simp) x1,extB_cell hE (by simp) x2,extB_cell hE (by simp) x3,extB_cell hE (by simp) g0,extB_cell hE (by simp) g1,extB_cell hE (by simp) g2,extB_cell hE (by simp) g3,sa,r1,r2,r3]
 case s25=>
  refine step_val (λ av wv hE hS hO hD=>⟨(wY rfl rfl rfl (hD.2.2.1 rfl _ rfl)),?_⟩) (λ _=>rfl)
  simp[go_sem,qE (hD.1 rfl _ rfl),qE (hD.2.1 rfl _ rfl),qE (hD.2.2.1 rfl _ rfl),sa,r1,r2,r3]
 case s26=>
  refine qV (λ _=>rfl) rfl λ av wv hE hO hD=>?_
  simp[go_sem,qE (hD.1 rfl _ rfl),qE (hD.2.1 rfl _ rfl),sa,r1,r2,r3]
 case s27=>
  refine qV (λ _=>rfl) rfl λ av wv hE hO hD=>?_
  simp[go_sem,qE (hD.1 rfl _ rfl),sa,r1,r2,r3]
 case s28=>
  refine step_val (λ av wv hE hS hO hD=>⟨(wY rfl rfl rfl (hD.1 rfl _ rfl)),?_⟩) (λ _=>rfl)
  simp[go_sem,qF av 10 (.int .i64 0) (hO.2.2 10 rfl),qE (hD.1 rfl _ rfl),sa,r1,r2,r3]
 case s29=>
  refine step_val (λ av wv hE hS hO hD=>⟨(wY rfl rfl rfl (hD.2.1 rfl _ rfl)),?_⟩) (λ _=>rfl)
  simp[go_sem,qE (hD.1 rfl _ rfl),qE (hD.2.1 rfl _ rfl),sa,r1,r2,r3]
 case s30=>
  refine qV (λ _=>rfl) rfl λ av wv hE hO hD=>?_
  simp[go_sem,qE (hD.1 rfl _ rfl),qE (hD.2.1 rfl _ rfl),sa,r1,r2,r3]
 case s31=>
  refine qV (λ _=>rfl) rfl λ av wv hE hO hD=>?_
  simp[go_sem,qE (hD.1 rfl _ rfl),sa,r1,r2,r3]
 case s32=>
  refine step_val (λ av wv hE hS hO hD=>⟨(wY rfl rfl rfl (hD.1 rfl _ rfl)),?_⟩) (λ _=>rfl)
  simp[go_sem,qF av 9 (.slice aq 1 cq) (hO.2.2 9 rfl),qE (hD.1 rfl _ rfl),sa,r1,r2,r3]
 case s33=>
  refine step_wp (λ av wv hE hS hO hD=>⟨(wY rfl rfl rfl (hD.1 rfl _ rfl)),?_⟩)
  exact wp_of_run (v:=.slice (some ⟨wv.heap.size,0,none⟩) 1 1) (w':=wv.alloc (.cells #[.string ⟨#[97]⟩] 9)) (by simp[go_sem]) ⟨_,rfl,es_of_ext (balloc (Ext_refl _) _),wv.heap.size,rfl,heap_alloc_new _ _⟩
 case s34=>
  refine step_wp (λ av wv hE hS hO hD=>⟨(wY rfl rfl rfl (hD.2.1 rfl _ rfl)),?_⟩)
  have d75:(λ u w'=>∃b,u=.slice (some ⟨b,0,none⟩) 1 1∧w'.heap[b]?=some (.cells #[.string ⟨#[97]⟩] 9 (0,0))) (av.eval (.tmp 75)) wv:=hD.1 rfl _ rfl
  obtain⟨bq,hq,hcq⟩:=d75
  have fq:=(ev_form av 75).symm.trans hq
  refine wp_of_call (v:=.string ta) (by simp[go_sem,fq]) (HTA.out wv bq hcq) (λ w2 hb=>⟨_,rfl,es_of_ext hb,rfl⟩)
 case s35=>
  refine step_wp (λ av wv hE hS hO hD=>⟨(wY rfl rfl rfl (hD.2.1 rfl _ rfl)),?_⟩)
  have f76:=qE (hD.1 rfl _ rfl)
  exact wp_of_run (v:=.slice (some ⟨wv.heap.size,0,none⟩) 1 1) (w':=wv.alloc (.cells #[.string ta] 9)) (by simp[go_sem,f76]) ⟨_,rfl,es_of_ext (balloc (Ext_refl _) _),wv.heap.size,rfl,heap_alloc_new _ _⟩
 case s36=>
  refine step_wp (λ av wv hE hS hO hD=>⟨(wY rfl rfl rfl (hD.2.2.2.1 rfl _ rfl)),?_⟩)
  have f74:=qE (hD.1 rfl _ rfl);have d77:(λ u w'=>∃b,u=.slice (some ⟨b,0,none⟩) 1 1∧w'.heap[b]?=some (.cells #[.string ta] 9 (0,0))) (av.eval (.tmp 77)) wv:=hD.2.1 rfl _ rfl
  obtain⟨bq,hq,hcq⟩:=d77
  have fq:=(ev_form av 77).symm.trans hq
  refine wp_of_call (v:=.bool true) (by simp[go_sem,fq,f74]) (HAL.out wv bq (of_drew hE) hcq) (λ w2 hb=>⟨_,rfl,es_of_ext hb,rfl⟩)
 case s37=>
  refine qV (λ _=>rfl) rfl λ av wv hE hO hD=>?_
  simp[go_sem,qE (hD.1 rfl _ rfl),qE (hD.2.1 rfl _ rfl),sa,r1,r2,r3]
 case s38=>
  refine qV (λ _=>rfl) rfl λ av wv hE hO hD=>?_
  simp[go_sem,qE (hD.1 rfl _ rfl),sa,r1,r2,r3]
 case s39=>
  refine step_wp (λ av wv hE hS hO hD=>⟨(wY rfl rfl rfl (hD.1 rfl _ rfl)),?_⟩)
  exact wp_of_run (v:=.slice (some ⟨wv.heap.size,0,none⟩) 2 2) (w':=wv.alloc (.cells #[.string ⟨#[97]⟩,.string ⟨#[98]⟩] 9)) (by simp[go_sem]) ⟨_,rfl,es_of_ext (balloc (Ext_refl _) _),wv.heap.size,rfl,heap_alloc_new _ _⟩
 case s40=>
  refine step_wp (λ av wv hE hS hO hD=>⟨(wY rfl rfl rfl (hD.2.1 rfl _ rfl)),?_⟩)
  have d81:(λ u w'=>∃b,u=.slice (some ⟨b,0,none⟩) 2 2∧w'.heap[b]?=some (.cells #[.string ⟨#[97]⟩,.string ⟨#[98]⟩] 9 (0,0))) (av.eval (.tmp 81)) wv:=hD.1 rfl _ rfl
  obtain⟨bq,hq,hcq⟩:=d81
  have fq:=(ev_form av 81).symm.trans hq
  refine wp_of_call (v:=.string rab) (by simp[go_sem,fq]) (HRB.out wv bq hcq) (λ w2 hb=>⟨_,rfl,es_of_ext hb,rfl⟩)
 case s41=>
  refine step_val (λ av wv hE hS hO hD=>⟨(wY rfl rfl rfl (hD.1 rfl _ rfl)),?_⟩) (λ _=>rfl)
  simp[go_sem,qE (hD.1 rfl _ rfl),sa,r1,r2,r3]
 case s42=>
  refine step_val (λ av wv hE hS hO hD=>⟨(wY rfl rfl rfl (hD.1 rfl _ rfl)),?_⟩) (λ _=>rfl)
  simp[go_sem,qF av 9 (.slice aq 1 cq) (hO.2.2 9 rfl),qE (hD.1 rfl _ rfl),sa,r1,r2,r3]
 case s43=>
  refine step_wp (λ av wv hE hS hO hD=>⟨(wY rfl rfl rfl (hD.2.2.2.2.1 rfl _ rfl)),?_⟩)
  have f82:=qE (hD.1 rfl _ rfl);have f83:=qE (hD.2.1 rfl _ rfl);have f84:=qE (hD.2.2.1 rfl _ rfl)
  refine wp_of_call (v:=.int .i64 0) (by simp[go_sem,f82,f83,f84]) (HTI.out wv (of_drew hE)) (λ w2 hb=>⟨_,rfl,es_of_ext hb,rfl⟩)
 case s44=>
  refine step_val (λ av wv hE hS hO hD=>⟨(wY rfl rfl rfl (hD.2.1 rfl _ rfl)),?_⟩) (λ _=>rfl)
  simp[go_sem,qE (hD.1 rfl _ rfl),qE (hD.2.1 rfl _ rfl),sa,r1,r2,r3]
 case s45=>
  refine qV (λ _=>rfl) rfl λ av wv hE hO hD=>?_
  simp[go_sem,qE (hD.1 rfl _ rfl),qE (hD.2.1 rfl _ rfl),sa,r1,r2,r3]
 case s46=>
  refine qV (λ _=>rfl) rfl λ av wv hE hO hD=>?_
  simp[go_sem,qE (hD.1 rfl _ rfl),sa,r1,r2,r3]
 intro a' w' hE hO hall
 have hA:=act_of_outer (ds:=[42,43,44,45,46,47,48,49,50,51,52,53,54,55,56,57,58,59,60,61,62,63,64,65,66,67,68,69,70,71,72,73,74,75,76,77,78,79,80,81,82,83,84,85,86,87,0]) rfl hO (by kernel_rfl)
 obtain⟨j0,j1,j2,j3,j4,j5,j6,j7,j8,j9,j10,j11,j12,j13,j14,j15,j16,j17,j18,j19,j20,j21,j22,j23,j24,j25,j26,j27,j28,j29,j30,j31,j32,j33,j34,j35,j36,j37,j38,j39,j40,j41,j42,j43,j44,j45,j46,-⟩:=hall
 have e75:(λ u w'=>∃b,u=.slice (some ⟨b,0,none⟩) 1 1∧w'.heap[b]?=some (.cells #[.string ⟨#[97]⟩] 9 (0,0))) (a'.eval (.tmp 75)) w':=j33 _ rfl;have e77:(λ u w'=>∃b,u=.slice (some ⟨b,0,none⟩) 1 1∧w'.heap[b]?=some (.cells #[.string ta] 9 (0,0))) (a'.eval (.tmp 77)) w':=j35 _ rfl;have e81:(λ u w'=>∃b,u=.slice (some ⟨b,0,none⟩) 2 2∧w'.heap[b]?=some (.cells #[.string ⟨#[97]⟩,.string ⟨#[98]⟩] 9 (0,0))) (a'.eval (.tmp 81)) w':=j39 _ rfl
 obtain⟨v75,hv75⟩:∃v,a'.eval (.tmp 75)=v:=⟨_,rfl⟩
 rw[hv75]at e75
 obtain⟨v77,hv77⟩:∃v,a'.eval (.tmp 77)=v:=⟨_,rfl⟩
 rw[hv77]at e77
 obtain⟨v81,hv81⟩:∃v,a'.eval (.tmp 81)=v:=⟨_,rfl⟩
 rw[hv81]at e81
 simp only[List.foldl_cons,List.foldl_nil,Act.put,List.setIfInBounds_toArray,List.set_cons_succ,List.set_cons_zero,qJ 42 (j0 _ rfl),qJ 43 (j1 _ rfl),qJ 44 (j2 _ rfl),qJ 45 (j3 _ rfl),qJ 46 (j4 _ rfl),qJ 47 (j5 _ rfl),qJ 48 (j6 _ rfl),qJ 49 (j7 _ rfl),qJ 50 (j8 _ rfl),qJ 51 (j9 _ rfl),qJ 52 (j10 _ rfl),qJ 53 (j11 _ rfl),qJ 54 (j12 _ rfl),qJ 55 (j13 _ rfl),qJ 56 (j14 _ rfl),qJ 57 (j15 _ rfl),qJ 58 (j16 _ rfl),qJ 59 (j17 _ rfl),qJ 60 (j18 _ rfl),qJ 61 (j19 _ rfl),qJ 62 (j20 _ rfl),qJ 63 (j21 _ rfl),qJ 64 (j22 _ rfl),qJ 65 (j23 _ rfl),qJ 66 (j24 _ rfl),qJ 67 (j25 _ rfl),qJ 68 (j26 _ rfl),qJ 69 (j27 _ rfl),qJ 70 (j28 _ rfl),qJ 71 (j29 _ rfl),qJ 72 (j30 _ rfl),qJ 73 (j31 _ rfl),qJ 74 (j32 _ rfl),hv75,qJ 76 (j34 _ rfl),hv77,qJ 78 (j36 _ rfl),qJ 79 (j37 _ rfl),qJ 80 (j38 _ rfl),hv81,qJ 82 (j40 _ rfl),qJ 83 (j41 _ rfl),qJ 84 (j42 _ rfl),qJ 85 (j43 _ rfl),qJ 86 (j44 _ rfl),qJ 87 (j45 _ rfl),qJ 0 (j46 _ rfl)]at hA
 clear hO j33 j35 j39 j0 j1 j2 j3 j4 j5 j6 j7 j8 j9 j10 j11 j12 j13 j14 j15 j16 j17 j18 j19 j20 j21 j22 j23 j24 j25 j26 j27 j28 j29 j30 j31 j32 hv75 j34 hv77 j36 j37 j38 hv81 j40 j41 j42 j43 j44 j45 j46
 subst hA
 have HBE:=Lib.hid (of_drew hE);clear hE
 go_wp2
 go_ret
 exact⟨rfl,bnext B6.out HBE.out⟩
end Go.Proofs.YtpobhbdomldecaaGreatDoor
namespace Go.Proofs.YtpobhbdomldecaaGreatDoor
set_option linter.unusedSimpArgs false
open Go.RowKit
set_option linter.unusedVariables false
structure GrownP(S:Nat→Prop)(w w':World):Prop where
 os:w'.os=w.os
 tape:w'.tape=w.tape
 output:w'.output=w.output
 size:w.heap.size≤w'.heap.size
 block:∀k,k<w.heap.size→¬S k→w'.heap[k]?=w.heap[k]?
def EsW(VO:Nat→Nat→Prop)(X:Nat→World→World→Prop)(j:Nat)(w w':World):Prop:=GrownP (VO j) w w'∧X j w w'
theorem esW_refl{VO:Nat→Nat→Prop}{X:Nat→World→World→Prop}{j:Nat}(hX:∀j w,X j w w)(w:World):EsW VO X j w w:=⟨⟨rfl,rfl,rfl,Nat.le_refl _,λ _ _ _=>rfl⟩,hX j w⟩
theorem esW_of_ext{VO:Nat→Nat→Prop}{X:Nat→World→World→Prop}{j:Nat}{w w':World}(h:Ext w w')(hx:X j w w'):EsW VO X j w w':=⟨⟨h.os,h.tape,h.output,h.size,λ i hi _=>h.block i hi⟩,hx⟩
structure ExtW(VO:Nat→Nat→Prop)(w w':World):Prop where
 os:w'.os=w.os
 tape:w'.tape=w.tape
 output:w'.output=w.output
 size:w.heap.size≤w'.heap.size
 block:∀k,k<w.heap.size→(∀j,¬VO j k)→w'.heap[k]?=w.heap[k]?
theorem ExtW.refl(VO:Nat→Nat→Prop)(w:World):ExtW VO w w:=⟨rfl,rfl,rfl,Nat.le_refl _,λ _ _ _=>rfl⟩
theorem ExtW.step{VO:Nat→Nat→Prop}{X:Nat→World→World→Prop}{j:Nat}{a b c:World}(h:ExtW VO a b)(k':EsW VO X j b c):ExtW VO a c:=
 have k:=k'.1
 ⟨k.os.trans h.os,k.tape.trans h.tape,k.output.trans h.output,Nat.le_trans h.size k.size,λ i hi hn=>(k.block i (Nat.lt_of_lt_of_le hi h.size) (λ e=>hn j e)).trans (h.block i hi hn)⟩
structure HereW(VO:Nat→Nat→Prop)(I:World→Prop)(ops:List Oper)(w0 w:World)(D:Nat→Prop)(i:Nat):Prop where
 ext:ExtW VO w0 w
 inv:I w
 late:∀j,¬D j→∀b,VO j b→b<w0.heap.size→w.heap[b]?=w0.heap[b]?
 notyet:∀(j:Nat) oj,ops[j]?=some oj→∀e ∈ oj.after,Region.binds .any e=true→¬D e.on→¬D j
 me:¬D i
section
variable (P : Program) (ops : List Oper) (a0 : Act) (w0 : World) (VO : Nat → Nat → Prop) (X : Nat → World → World → Prop) (I : World → Prop) (PR : Nat → Nat → Value → Value → World → Prop) (Φ : Nat → Value → World → Prop) (Q : Exit → Act → World → Prop)
def PairW(D:Nat→Prop)(a:Act)(i:Nat)(v:Value)(w':World):Prop:=∀j oj,ops[j]?=some oj→D j→j≠i→PR i j v (slotOf oj a) w'∧PR j i (slotOf oj a) v w'
def StepAtW(hd:Nat)(i:Nat)(o:Oper):Prop:=∀(D:Nat→Prop) a w,(∀j oj,ops[j]?=some oj→D j→Φ j (slotOf oj a) w)→HereW VO I ops w0 w D i→Outer ops a0 hd a→Deps ops Φ a w o.after.toList→
 if Region.wanted o (yielded ops.toArray a.tmps)then o.wp P a w (λ a' w'=>∃v,a'=a.put o.dst v∧EsW VO X i w w'∧Φ i (valOf o v) w'∧PairW ops PR D a i (valOf o v) w') Q else Φ i undef w∧∀j vi vj w,PR i j vi vj w∧PR j i vi vj w
structure RInvW(n:Nat)(listed:Array Bool)(a:Act)(w:World):Prop where
 head:HeadInv .any ops.toArray n listed
 ext:ExtW VO w0 w
 inv:I w
 ext0:∀i,listed.getD i true=false→∀b,VO i b→b<w0.heap.size→w.heap[b]?=w0.heap[b]?
 outer:Outer ops a0 n a
 done:∀(i:Nat) o,ops[i]?=some o→listed.getD i true=true→Φ i (slotOf o a) w
 pair:∀i j oi oj,ops[i]?=some oi→ops[j]?=some oj→listed.getD i true=true→listed.getD j true=true→i≠j→PR i j (slotOf oi a) (slotOf oj a) w
variable {P ops a0 w0 VO X I PR Φ Q}
theorem slotw_same{o:Oper}{i:Nat}{a:Act}{v:Value}(hB:regOk ops a0.tmps.size=true)(hs:a.tmps.size=a0.tmps.size)(ho:ops[i]?=some o):slotOf o (a.put o.dst v)=valOf o v:=by
 unfold slotOf valOf
 cases hd:o.dst with
 | none=>rfl
 | some d=>
  have hdl:∀d ∈ dstsOf ops,d<a0.tmps.size:=by
   unfold regOk at hB;simp only[Bool.and_eq_true]at hB
   intro d hd;simpa using List.all_eq_true.1 hB.2 d hd
  have hmem:d ∈ dstsOf ops:=List.mem_filterMap.2 ⟨o,List.mem_of_getElem? ho,hd⟩
  exact eval_put_same (by rw[hs];exact hdl d hmem)
theorem slotw_other{o oj:Oper}{i j:Nat}{a:Act}{v:Value}(hB:regOk ops a0.tmps.size=true)(hij:i≠j)(ho:ops[i]?=some o)(hoj:ops[j]?=some oj):slotOf oj (a.put o.dst v)=slotOf oj a:=by
 have hnd:(dstsOf ops).Nodup:=by unfold regOk at hB;simp only[Bool.and_eq_true,decide_eq_true_eq]at hB;exact hB.1.2
 unfold slotOf
 cases hdj:oj.dst with
 | none=>rfl
 | some d=>
  cases hdo:o.dst with
  | none=>rfl
  | some d'=>
   have hne:d≠d':=by
    rintro rfl
    exact dst_two hnd hij ho hoj hdo hdj
   exact eval_put_ne hne
theorem RInvW.next{n:Nat}(hB:regOk ops a0.tmps.size=true)(hVO:∀i j b,VO i b→VO j b→i=j)
  (hmono:∀i j v w w',i≠j→EsW VO X j w w'→Φ i v w→Φ i v w') (hI:∀j w w',EsW VO X j w w'→I w→I w') (hmonoP:∀i j k vi vj w w',k≠i→k≠j→EsW VO X k w w'→PR i j vi vj w→PR i j vi vj w') {listed:Array Bool} {a:Act} {w:World} (inv:RInvW ops a0 w0 VO I PR Φ n listed a w)
  {i:Nat} {o:Oper} (hi:i ∈ Region.ready .any ops.toArray listed) (hin:i<n) (ho':ops[i]?=some o) {v:Value} {w':World} (he:EsW VO X i w w') (hv:Φ i (valOf o v) w') (hpr:PairW ops PR (λ j=>listed.getD j true=true) a i (valOf o v) w'):
  RInvW ops a0 w0 VO I PR Φ n (listed.setIfInBounds i true) (a.put o.dst v) w':=by
 have hnd:(dstsOf ops).Nodup:=by unfold regOk at hB;simp only[Bool.and_eq_true,decide_eq_true_eq]at hB;exact hB.1.2
 have hdl:∀d ∈ dstsOf ops,d<a0.tmps.size:=by
  unfold regOk at hB;simp only[Bool.and_eq_true]at hB
  intro d hd;simpa using List.all_eq_true.1 hB.2 d hd
 refine⟨inv.head.set hi hin,inv.ext.step he,hI _ _ _ he inv.inv,λ k hl b hb hlt=>?_,?_,?_,λ i1 j1 oi oj hoi hoj l1 l2 hne=>?_⟩
 ·by_cases his:k=i
  ·exfalso
   subst his
   obtain⟨hun,o',ho,_⟩:=mem_ready.1 hi
   have hil:k<listed.size:=by rw[inv.head.size];exact(Array.getElem?_eq_some_iff.1 ho).1
   simp[hil]at hl
  ·rw[getD_set_ne true (Ne.symm his)]at hl
   have h1:=inv.ext0 k hl b hb hlt
   rw[←h1]
   exact he.1.block b (Nat.lt_of_lt_of_le hlt inv.ext.size) (λ e=>his (hVO k i b hb e))
 ·obtain⟨h1,h2,h3⟩:=inv.outer
  cases hd:o.dst with
  | none=>exact⟨h1,h2,h3⟩
  | some d=>
   refine⟨h1,by simp[Act.put,h2],λ t ht=>?_⟩
   have hmem:d ∈ dstsOf (ops.take n):=List.mem_filterMap.2 ⟨o,List.mem_of_getElem? (i:=i) (by rw[List.getElem?_take,if_pos hin];exact ho'),hd⟩
   rw[eval_put_ne (by rintro rfl;simp at ht;exact ht hmem)];exact h3 t ht
 ·intro j oj hoj hl
  by_cases hij:j=i
  ·subst hij
   have:oj=o:=Option.some.inj (hoj.symm.trans ho')
   subst this
   unfold slotOf
   unfold valOf at hv
   cases hd:oj.dst with
   | none=>simpa [hd] using hv
   | some d=>
    simp only[hd]at hv
    have hmem:d ∈ dstsOf ops:=List.mem_filterMap.2 ⟨oj,List.mem_of_getElem? ho',hd⟩
    simp only
    rw[eval_put_same (by rw[inv.outer.2.1];exact hdl d hmem)];exact hv
  ·rw[getD_set_ne true (Ne.symm hij)]at hl
   have h1:=hmono j i _ w w' hij he (inv.done j oj hoj hl)
   unfold slotOf at h1 ⊢
   cases hdj:oj.dst with
   | none=>first | exact h1 | simpa [hdj] using h1
   | some d=>
    try simp only[hdj]at h1 ⊢
    cases hdo:o.dst with
    | none=>exact h1
    | some d'=>
     have hne:d≠d':=by
      rintro rfl
      exact dst_two hnd (Ne.symm hij) ho' hoj hdo hdj
     rw[eval_put_ne hne];exact h1
 ·by_cases h1:i1=i
  ·subst h1
   have e:oi=o:=Option.some.inj (hoi.symm.trans ho')
   subst e
   rw[slotw_same hB inv.outer.2.1 ho',slotw_other hB hne ho' hoj]
   exact(hpr j1 oj hoj (by rwa [getD_set_ne true hne]at l2) (Ne.symm hne)).1
  ·by_cases h2:j1=i
   ·subst h2
    have e:oj=o:=Option.some.inj (hoj.symm.trans ho')
    subst e
    rw[slotw_same hB inv.outer.2.1 ho',slotw_other hB (Ne.symm hne) ho' hoi]
    exact(hpr i1 oi hoi (by rwa [getD_set_ne true (Ne.symm hne)]at l1) hne).2
   ·rw[slotw_other hB (Ne.symm h1) ho' hoi,slotw_other hB (Ne.symm h2) ho' hoj]
    exact hmonoP i1 j1 i _ _ w w' (Ne.symm h1) (Ne.symm h2) he (inv.pair i1 j1 oi oj hoi hoj (by rwa [getD_set_ne true (Ne.symm h1)]at l1) (by rwa [getD_set_ne true (Ne.symm h2)]at l2) hne)
theorem wpAnyW_head{n g:Nat}(hB:regOk ops a0.tmps.size=true)(hVO:∀i j b,VO i b→VO j b→i=j)
  (hmono:∀i j v w w',i≠j→EsW VO X j w w'→Φ i v w→Φ i v w') (hI:∀j w w',EsW VO X j w w'→I w→I w') (hmonoP:∀i j k vi vj w w',k≠i→k≠j→EsW VO X k w w'→PR i j vi vj w→PR i j vi vj w') (hX:∀j w,X j w w) (hnN:n≤ops.length)
  (hstep:∀(i:Nat) o,i<n→ops[i]?=some o→StepAtW P ops a0 w0 VO X I PR Φ Q n i o)
  (hlate:∀listed,HeadInv .any ops.toArray n listed→(∃i,i<n∧listed.getD i true=false)→Region.ready .any ops.toArray listed≠[]∧∀t ∈ Region.ready .any ops.toArray listed,t<n)
  (hend:∀listed a w,RInvW ops a0 w0 VO I PR Φ n listed a w→(∀i,i<n→listed.getD i true=true)→wpAny P .any ops.toArray Q g listed a w):
  ∀(fuel:Nat) (listed:Array Bool) (a:Act) (w:World),((List.range n).filter (λ i=>!listed.getD i true)).length=fuel→RInvW ops a0 w0 VO I PR Φ n listed a w→
   wpAny P .any ops.toArray Q (fuel+g) listed a w:=by
 intro fuel
 induction fuel with
 | zero=>
  intro listed a w hf inv
  rw[Nat.zero_add]
  refine hend listed a w inv λ i hi=>?_
  cases h:listed.getD i true with
  | true=>rfl
  | false=>
   have:i ∈ (List.range n).filter (λ i=>!listed.getD i true):=List.mem_filter.2 ⟨List.mem_range.2 hi,by rw[h];rfl⟩
   rw[List.eq_nil_of_length_eq_zero hf]at this;cases this
 | succ fuel ih=>
  intro listed a w hf inv
  rw[show fuel+1+g=(fuel+g)+1 by omega]
  have hex:∃i,i<n∧listed.getD i true=false:=by
   cases hl:(List.range n).filter (λ i=>!listed.getD i true)with
   | nil=>rw[hl]at hf;cases hf
   | cons x L=>
    have:x ∈ (List.range n).filter (λ i=>!listed.getD i true):=by rw[hl];exact List.mem_cons_self ..
    obtain⟨h1,h2⟩:=List.mem_filter.1 this
    exact⟨x,List.mem_range.1 h1,by simpa using h2⟩
  obtain⟨hne,hlt⟩:=hlate listed inv.head hex
  refine⟨λ hr=>absurd hr hne,λ i hi=>?_⟩
  have hin:=hlt i hi
  obtain⟨hun,o,ho,hall⟩:=mem_ready.1 hi
  have ho':ops[i]?=some o:=by simpa using ho
  have hls:listed.size=ops.length:=by rw[inv.head.size];simp
  have hdep:Deps ops Φ a w o.after.toList:=deps_of λ e he hb oj hoj=>by
   have h1:=hall e (by simpa using he) hb
   refine inv.done e.on oj hoj ?_
   have h2:e.on<listed.size:=by
    rcases Nat.lt_or_ge e.on listed.size with h | h
    ·exact h
    ·simp[Array.getElem?_eq_none h]at h1
   simp[h2]at h1 ⊢;exact h1
  have hst:=hstep i o hin ho' (λ j=>listed.getD j true=true) a w (λ j oj hoj hl=>inv.done j oj hoj hl)
   ⟨inv.ext,inv.inv,λ j hj=>inv.ext0 j (by simpa using hj),λ j oj hoj e he hb hne hD=>(by
    have hjl:j<listed.size:=by rw[hls];exact(List.getElem?_eq_some_iff.1 hoj).1
    have h1:=inv.head.closed j oj (by simpa using hoj) (by simp[hjl]at hD ⊢;exact hD) e he hb
    rcases Nat.lt_or_ge e.on listed.size with h | h
    ·simp[h]at h1 hne;rw[h1]at hne;cases hne
    ·simp[Array.getElem?_eq_none h]at h1),(by rw[hun];exact Bool.false_ne_true)⟩ inv.outer hdep
  have next:∀v w',EsW VO X i w w'→Φ i (valOf o v) w'→PairW ops PR (λ j=>listed.getD j true=true) a i (valOf o v) w'→wpAny P .any ops.toArray Q (fuel+g) (listed.setIfInBounds i true) (a.put o.dst v) w':=by
   intro v w' he hv hpr
   refine ih _ _ _ ?_ (inv.next hB hVO hmono hI hmonoP hi hin ho' he hv hpr)
   have:=head_count (listed:=listed) (i:=i) (by omega) hun _ List.nodup_range (List.mem_range.2 hin)
   omega
  unfold wpOp
  rw[ho]
  dsimp only
  by_cases hw:Region.wanted o (yielded ops.toArray a.tmps)=true
  ·rw[if_pos hw]at hst ⊢
   left
   refine Oper.wp_mono (λ a' w' h=>?_) hst
   obtain⟨v,rfl,he,hv,hpr⟩:=h
   exact next v w' he hv hpr
  ·rw[if_neg hw]at hst ⊢
   have e:valOf o undef=undef:=by unfold valOf;cases o.dst <;> rfl
   exact next undef w (esW_refl hX w) (by rw[e];exact hst.1) (λ j oj _ _ _=>⟨(hst.2 j _ _ w).1,(hst.2 j _ _ w).2⟩)
end
section
variable {P : Program} {Q : Exit → Act → World → Prop} {a : Act} {w : World} {l : List Oper} {VO : Nat → Nat → Prop} {X : Nat → World → World → Prop} {I : World → Prop} {PR : Nat → Nat → Value → Value → World → Prop} {Φ : Nat → Value → World → Prop}
theorem rinvW_start{n:Nat}(hI0:I w.drew)(hn:n≤l.length):RInvW l a w.drew VO I PR Φ n (Array.replicate l.length false) a w.drew:=
 ⟨⟨by simp,λ j oj _ hl=>(by rw[getD_replicate_false]at hl;cases hl),λ t _ ht=>getD_in (by simpa using ht) (getD_replicate_false _ _)⟩,ExtW.refl _ _,hI0,λ _ _ _ _ _=>rfl,⟨rfl,rfl,λ _ _=>rfl⟩,
  λ i o ho hl=>(by
   have hi:=(List.getElem?_eq_some_iff.1 ho).1
   rw[getD_in (by simpa using hi) (getD_replicate_false _ _)]at hl;cases hl),λ i1 _ oi _ hoi _ l1 _ _=>(by
   have hi:=(List.getElem?_eq_some_iff.1 hoi).1
   rw[getD_in (by simpa using hi) (getD_replicate_false _ _)]at l1;cases l1)⟩
theorem wp_region_tailW{id:Nat}(n:Nat)(VO:Nat→Nat→Prop)(hVO:∀i j b,VO i b→VO j b→i=j)(X:Nat→World→World→Prop)(I:World→Prop)(PR:Nat→Nat→Value→Value→World→Prop)(hX:∀j w,X j w w)(hI0:I w.drew)(Φ:Nat→Value→World→Prop)(hm:P.follows .mixedOrders=true)(hB:regOk l a.tmps.size=true)(hT:regTail l n=true)
  (hmono:∀i j v w1 w',i≠j→EsW VO X j w1 w'→Φ i v w1→Φ i v w') (hI:∀j w w',EsW VO X j w w'→I w→I w') (hmonoP:∀i j k vi vj w w',k≠i→k≠j→EsW VO X k w w'→PR i j vi vj w→PR i j vi vj w')
  (hstep:∀(i:Nat) o,i<n→l[i]?=some o→StepAtW P l a w.drew VO X I PR Φ Q n i o)
  (hend:∀a' w',ExtW VO w.drew w'→I w'→Outer l a n a'→AllDone l Φ a' w' 0 n→(∀i j oi oj,l[i]?=some oi→l[j]?=some oj→i<n→j<n→i≠j→PR i j (slotOf oi a') (slotOf oj a') w')→wpList P l.toArray Q (l.drop n) a' w'):(Code.region id l.toArray true).wp P Q a w:=by
 unfold regTail at hT
 simp only[Bool.and_eq_true,decide_eq_true_eq]at hT
 obtain⟨⟨⟨hn,hs⟩,hc⟩,hseq⟩:=hT
 refine wp_region_any hm ?_
 have H:=wpAnyW_head (P:=P) (ops:=l) (a0:=a) (w0:=w.drew) (VO:=VO) (X:=X) (I:=I) (PR:=PR) (Φ:=Φ) (Q:=Q) (n:=n) (g:=l.length - n) hB hVO hmono hI hmonoP hX (by omega) hstep
  (λ listed inv ⟨i,hi,hun⟩=>⟨λ hr=>(by
    have:=all_of_ready_nil (a0:=a) hB (by rw[inv.size];simp) hr i (by omega)
    rw[hun]at this;cases this),λ t ht=>(by
    rcases Nat.lt_or_ge t n with h | h
    ·exact h
    ·exact absurd ht (tail_waits hs hc (by simpa using hn) inv (n - i) i rfl hi hun t h))⟩)
  (λ listed a' w' inv hall=>(by
    have e:=headDone_of (n:=n) (N:=l.length) (by rw[inv.head.size];simp) hall (λ i h1 h2=>inv.head.tail i h1 (by simpa using h2)) (by omega);have h:=wpAny_of_seq (P:=P) (md:=.any) (Q':=Q) (ops:=l.toArray) (l.drop n) n listed a' w' (λ j=>by simp[List.getElem?_drop]) (by rw[List.length_drop,e];exact hseq)
     (hend a' w' inv.ext inv.inv inv.outer (allDone_of _ _ λ j _ h2 o ho=>inv.done j o ho (hall j (by omega))) (λ i j oi oj hoi hoj h1 h2 hne=>inv.pair i j oi oj hoi hoj (hall i h1) (hall j h2) hne))
    rwa [List.length_drop]at h))
  n (Array.replicate l.length false) a w.drew (start_count _ _ (by omega)) (rinvW_start hI0 (by omega))
 rw[show n+(l.length - n)=l.length by omega]at H
 simpa using H
end
def MonoAllW(VO:Nat→Nat→Prop)(X:Nat→World→World→Prop):Nat→List (Value→World→Prop)→Prop
 | _,[]=>True
 | i,φ :: r=>(∀j,j≠i→∀v w1 w',EsW VO X j w1 w'→φ v w1→φ v w')∧MonoAllW VO X (i+1) r
theorem monoW_at{VO:Nat→Nat→Prop}{X:Nat→World→World→Prop}:∀{L:List (Value→World→Prop)} {k:Nat},MonoAllW VO X k L→∀i j v w1 w',j≠k+i→EsW VO X j w1 w'→L.getD i (λ _ _=>True) v w1→L.getD i (λ _ _=>True) v w'
 | [],_,_,_,_,_,_,_,_,_,_=>by simp
 | φ :: r,k,h,0,j,v,w1,w',hj,he,hp=>h.1 j hj v w1 w' he hp
 | φ :: r,k,h,i+1,j,v,w1,w',hj,he,hp=>monoW_at (L:=r) h.2 i j v w1 w' (by omega) he hp
theorem monoW_of{VO:Nat→Nat→Prop}{X:Nat→World→World→Prop}{L:List (Value→World→Prop)}(h:MonoAllW VO X 0 L):∀i j v w1 w',i≠j→EsW VO X j w1 w'→phis L i v w1→phis L i v w':=λ i j v w1 w' hij he hp=>
 monoW_at h i j v w1 w' (by omega) he hp
theorem monoW_eq{VO:Nat→Nat→Prop}{X:Nat→World→World→Prop}{i:Nat}{f:Value→Prop}:∀j,j≠i→∀v w1 w',EsW VO X j w1 w'→(λ v (_:World)=>f v) v w1→(λ v (_:World)=>f v) v w':=λ _ _ _ _ _ _ h=>h
def StepsFromW(P:Program)(ops:List Oper)(a0:Act)(w0:World)(VO:Nat→Nat→Prop)(X:Nat→World→World→Prop)(I:World→Prop)(PR:Nat→Nat→Value→Value→World→Prop)(Φ:Nat→Value→World→Prop)(Q:Exit→Act→World→Prop)(hd:Nat):Nat→Nat→List Oper→Prop
 | _,0,_=>True
 | _,_+1,[]=>True
 | i,n+1,o :: r=>StepAtW P ops a0 w0 VO X I PR Φ Q hd i o∧StepsFromW P ops a0 w0 VO X I PR Φ Q hd (i+1) n r
theorem stepsW_from{P:Program}{ops:List Oper}{a0:Act}{w0:World}{VO:Nat→Nat→Prop}{X:Nat→World→World→Prop}{I:World→Prop}{PR:Nat→Nat→Value→Value→World→Prop}{Φ:Nat→Value→World→Prop}{Q:Exit→Act→World→Prop}{hd:Nat}:
  ∀(n k:Nat) (r:List Oper),StepsFromW P ops a0 w0 VO X I PR Φ Q hd k n r→∀(i:Nat) o,i<n→r[i]?=some o→StepAtW P ops a0 w0 VO X I PR Φ Q hd (k+i) o
 | 0,_,_,_,_,_,h,_=>by omega
 | _+1,_,[],_,_,_,_,h=>by simp at h
 | n+1,k,x :: r,h,0,o,_,ho=>by simp at ho;subst ho;exact h.1
 | n+1,k,x :: r,h,i+1,o,hi,ho=>by
  have:=stepsW_from n (k+1) r h.2 i o (by omega) (by simpa using ho)
  rwa [Nat.add_assoc,Nat.add_comm 1 i]at this
theorem stepsW_of{P:Program}{ops:List Oper}{a0:Act}{w0:World}{VO:Nat→Nat→Prop}{X:Nat→World→World→Prop}{I:World→Prop}{PR:Nat→Nat→Value→Value→World→Prop}{Φ:Nat→Value→World→Prop}{Q:Exit→Act→World→Prop}{hd:Nat}(n:Nat)
  (h:StepsFromW P ops a0 w0 VO X I PR Φ Q hd 0 n ops):∀(i:Nat) o,i<n→ops[i]?=some o→StepAtW P ops a0 w0 VO X I PR Φ Q hd i o:=λ i o hi ho=>by
 have:=stepsW_from n 0 ops h i o hi ho
 rwa [Nat.zero_add]at this
section
variable {P : Program} {ops : List Oper} {a0 : Act} {w0 : World} {VO : Nat → Nat → Prop} {X : Nat → World → World → Prop} {I : World → Prop} {PR : Nat → Nat → Value → Value → World → Prop} {Φ : Nat → Value → World → Prop} {Q : Exit → Act → World → Prop} {hd : Nat} {i : Nat} {o : Oper}
theorem stepW_wp(h:∀(D:Nat→Prop) a w1,(∀j oj,ops[j]?=some oj→D j→Φ j (slotOf oj a) w1)→HereW VO I ops w0 w1 D i→Outer ops a0 hd a→Deps ops Φ a w1 o.after.toList→
  Region.wanted o (yielded ops.toArray a.tmps)=true∧o.wp P a w1 (λ a' w'=>∃v,a'=a.put o.dst v∧EsW VO X i w1 w'∧Φ i (valOf o v) w'∧PairW ops PR D a i (valOf o v) w') Q):StepAtW P ops a0 w0 VO X I PR Φ Q hd i o:=λ D a w1 hP hE hO hD=>by
 obtain⟨h1,h2⟩:=h D a w1 hP hE hO hD
 rw[if_pos h1];exact h2
theorem stepW_val{v:Value}(hX:∀j w,X j w w)(hp:∀j vi vj w,PR i j vi vj w∧PR j i vi vj w)(h:∀(D:Nat→Prop) a w1,HereW VO I ops w0 w1 D i→Outer ops a0 hd a→Deps ops Φ a w1 o.after.toList→
  Region.wanted o (yielded ops.toArray a.tmps)=true∧(execOp a.eval o).run P w1=.ok (.value v) w1) (hφ:∀w1,Φ i (valOf o v) w1):StepAtW P ops a0 w0 VO X I PR Φ Q hd i o:=λ D a w1 hP hE hO hD=>by
 obtain⟨h1,h2⟩:=h D a w1 hE hO hD
 rw[if_pos h1]
 unfold Oper.wp
 rw[h2]
 exact⟨v,rfl,esW_refl hX w1,hφ w1,λ j oj _ _ _=>⟨(hp j _ _ w1).1,(hp j _ _ w1).2⟩⟩
end
end Go.Proofs.YtpobhbdomldecaaGreatDoor
namespace Go.Proofs.YtpobhbdomldecaaGreatDoor
open Go.RowKit
set_option linter.unusedSimpArgs false
set_option linter.unusedVariables false
def FVO(S n:Nat):Nat→Nat→Prop:=λ j b=>j=S∧n≤b
theorem fvo_inj{S n:Nat}:∀i j b,FVO S n i b→FVO S n j b→i=j:=λ _ _ _ h k=>h.1.trans k.1.symm
def Shape(w w':World):Prop:=∀(c:Nat) (cs:Array Value) (t:TypeId) (fr:Nat × Nat),w.heap[c]?=some (.cells cs t fr)→∃cs':Array Value,w'.heap[c]?=some (.cells cs' t fr)∧cs'.size=cs.size
theorem shape_refl(w:World):Shape w w:=λ _ cs _ _ h=>⟨cs,h,rfl⟩
theorem shape_ext{w w':World}(h:Ext w w'):Shape w w':=λ c cs _ _ hc=>⟨cs,(h.block c (lt_of_block hc)).trans hc,rfl⟩
def FPR(A S:Nat)(R:Array Value)(t:TypeId):Nat→Nat→Value→Value→World→Prop:=λ i j vi _ w=>i=A∧j=S→∀c:Nat,vi=.pointer (some ⟨c,0,none⟩)→w.heap[c]?=some (.cells R t (0,0))
theorem fpr_mono{A S n:Nat}{R:Array Value}{t:TypeId}:∀(i j k:Nat) (vi vj:Value) (w w':World),k≠i→k≠j→EsW (FVO S n) (λ _=>Shape) k w w'→FPR A S R t i j vi vj w→FPR A S R t i j vi vj w':=λ i j k vi vj w w' _ hk h hp hij c hc=>by
 have h9:=hp hij c hc
 exact(h.1.block c (lt_of_block h9) (λ h8=>hk (by rw[hij.2];exact h8.1))).trans h9
theorem of_drewF{S:Nat}{w w1:World}(h:ExtW (FVO S w.heap.size) w.drew w1):Below w.heap.size w w1:=
 bnext (bdrew (Below.refl _ _)) ⟨h.os,h.tape,h.output,h.size,λ i hi=>h.block i hi (λ j hj=>by have h2:=hj.2;have h3:i<w.heap.size:=hi;omega)⟩
theorem extF_cell{S:Nat}{w w1:World}(h:ExtW (FVO S w.heap.size) w.drew w1){b o:Nat}{v:Value}(hc:w.cell? ⟨b,o,none⟩=some v):w1.cell? ⟨b,o,none⟩=some v:=by
 rw[(of_drewF h).cell (p:=⟨b,o,none⟩) (lt_of_cell hc)];exact hc
theorem esF_ext{S n j:Nat}{w w':World}(h:Ext w w'):EsW (FVO S n) (λ _=>Shape) j w w':=esW_of_ext h (shape_ext h)
theorem esF_put{S n c:Nat}{w w':World}(hc:n≤c)(h:ExtB (some c) w w')(hs:∀cs t fr,w.heap[c]?=some (.cells cs t fr)→∃cs':Array Value,w'.heap[c]?=some (.cells cs' t fr)∧cs'.size=cs.size):EsW (FVO S n) (λ _=>Shape) S w w':=
 ⟨⟨h.os,h.tape,h.output,h.size,λ k hk hn=>h.block k hk (λ e=>hn ⟨rfl,by rw[Option.some.inj e];exact hc⟩)⟩,λ k cs t fr hk=>by
  by_cases e:k=c
  ·subst e;exact hs cs t fr hk
  ·exact⟨cs,(h.block k (lt_of_block hk) (λ e9=>e (Option.some.inj e9))).trans hk,rfl⟩⟩
end Go.Proofs.YtpobhbdomldecaaGreatDoor
